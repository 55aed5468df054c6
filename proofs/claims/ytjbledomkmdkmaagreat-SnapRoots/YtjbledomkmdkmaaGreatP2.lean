/- The operations that read memory, and those that write it: what they do to the relation.; Slicing, the length of a map; new blocks.; All that reads; ne -/
import Derived.Test.YtjbledomkmdkmaaGreatP1
set_option linter.unusedVariables false
set_option linter.unusedSimpArgs false
set_option linter.unusedSectionVars false
namespace Go.AX
open Go
noncomputable section
section
variable {ρ:Type} {P:Program} [AA]
theorem cell_of {Z:Mu} {J:Aa} {w:World} (hR:R P Z J w) {b o:Nat} {v:Value} {k:Ww} (hl:D5 J b o=some v) (hk:Z b=some k):
  ∃ v',w.cell? ⟨k.b,k.o+o,none⟩=some v'/\RV Z v v'/\v.oneCell'=true:=by
 unfold D5 at hl;split at hl
 ·rename_i vs T rw hb;obtain ⟨c,T',fz,hx,h1,h2,h3,h4,h5,h6,h7⟩:=hR.obj _ _ _ hb hk;obtain ⟨v',hv',hr⟩:=h7.get _ _ hl;have ho:o<k.n:=by
   have:=(yu.1 hl).1; omega
  rw[zt,yk ho,zs] at hv';refine ⟨v', ?_,hr,h6 v (Aa4 hl)⟩;simp only[World.cell?,hx];simpa using hv'
 ·cases hl
theorem dS {Z:Mu} {J:Aa} {w:World} (hR:R P Z J w) {b:Nat} {k:Ww} (hk:Z b=some k):∀ (vs:List Value) (o:Nat),(∀ (j:Nat) (x:Value),vs[j]?=some x->D5 J b (o+j)=some x) ->
  ∃ vs',It Z vs vs'/\(∀ (j:Nat) (x:Value),vs'[j]?=some x->w.cell? ⟨k.b,k.o+o+j,none⟩=some x)/\(∀ v ∈ vs,v.oneCell'=true)
 | [],o,h=>⟨[],.nil,by simp,by simp⟩
 | v::vs,o,h=>by
   obtain ⟨v',hc,hr,h1⟩:=cell_of hR (h 0 v (by simp)) hk;obtain ⟨vs',hrs,hcs,hls⟩:=dS hR hk vs (o+1) (fun j x hx=>by have:=h (j+1) x (by simpa using hx); rwa [show o+(j+1)=o+1+j by omega] at this);refine ⟨v'::vs',.cons hr hrs, ?_, ?_⟩
   ·intro j x hx;cases j with
    | zero=>simp at hx; subst hx; simpa using hc
    | succ j=>simp at hx; have:=hcs j x hx; rwa [show k.o+(o+1)+j=k.o+o+(j+1) by omega] at this
   ·intro x hx;rcases yL.1 hx with rfl | hx
    ·exact h1
    ·exact hls x hx
theorem Lt {J:Aa} {b o n:Nat} {vs:List Value} (h:M9 J b o n=some vs):vs.length=n /\ ∀ (j:Nat) (x:Value),vs[j]?=some x->D5 J b (o+j)=some x:=by
 unfold M9 at h;split at h
 ·rename_i us T rw hb;split at h
  ·rename_i hle;cases h;refine ⟨by simp; omega,fun j x hx=>?_⟩;rw[zt] at hx;split at hx
   ·rw[zs] at hx;simp only[D5,hb]; exact hx
   ·cases hx
  ·cases h
 ·cases h
theorem JB {Z:Mu} {J:Aa} {w:World} (hR:R P Z J w) {b o n:Nat} {k:Ww} (hk:Z b=some k) {vs:List Value} (hn:vs.length=n) (h:∀ (j:Nat) (x:Value),vs[j]?=some x->D5 J b (o+j)=some x):
  ∃ vs',It Z vs vs'/\(loadCells ⟨k.b,k.o+o,none⟩ n).run P w = .ok vs'.toArray w/\(∀ v ∈ vs,v.oneCell'=true):=by
 obtain ⟨vs',hr,hc,hl⟩:=dS hR hk vs o h;refine ⟨vs',hr, ?_,hl⟩;have:=run_loadCells_list (P:=P) w ⟨k.b,k.o+o,none⟩ vs' (fun j v hv=>by rw[JV]; exact hc j v hv)
 rwa [<- hr.length,hn] at this
theorem Z0 {Z:Mu} {a:Addr} {v':Value} (h:RV Z (.pointer (some a)) v'):∃ k,Z a.block=some k/\v' = .pointer (some ⟨k.b,k.o+a.off,none⟩):=by
 cases h; exact ⟨_,‹_›,rfl⟩
theorem U5 {Z:Mu} {k:IntKind} {n:Int} {v':Value} (h:RV Z (.int k n) v'):v' = .int k n:=by cases h; rfl
theorem Wp {Z:Mu} {r:Nat} {v':Value} (h:RV Z (.map (some r)) v'):∃ k,Z r=some k/\v' = .map (some k.b):=by cases h; exact ⟨_,‹_›,rfl⟩
theorem Pu {Z:Mu} {v':Value} (h:RV Z (.map none) v'):v' = .map none:=by cases h; rfl
theorem We {Z:Mu} {J:Aa} {w:World} (hR:R P Z J w) {r:Nat} {es:List (Int × Value)} {k:Ww} (hl:RS J r=some es) (hk:Z r=some k):
  ∃ entries clock,w.heap[k.b]?=some (.map entries clock)/\Tx Z es entries.toList:=by
 unfold RS at hl;split at hl
 ·rename_i es' hb;cases hl;exact hR.obj _ _ _ hb hk
 ·cases hl
theorem J3 {w:World} {b:Nat} {entries:Array MapEntry} {clock:Nat} (h:w.heap[b]?=some (.map entries clock)):(getObj b).run P w = .ok (.map entries clock) w:=by
 simp only[getObj,Sem.run,h]
theorem PK {T:TypeId} {k:IntKind} {a:Int} {t:IntKind} (hT:P.underlying T=some (.int t)) (b:Bool) (n:Nat) (w:World):(Instr.checkKey b (n+1) T (.int k a)).run P w = .ok () w:=by
 simp[Instr.checkKey,yx hT]
theorem SD {T:TypeId} (h:mF P T=true):P.underlying T=some (.int .i64):=by
 unfold mF at h;split at h
 ·assumption
 ·cases h
theorem findNow_spec {Z:Mu} {k:Int}:∀ (es:List (Int × Value)) (es':List MapEntry) (i:Nat),Tx Z es es' ->
  match MA es k with
  | some v=>∃ j e,Instr.findNow (.int .i64) (.int .i64 k) es' i=some (some (i+j,e.val))/\es'[j]?=some e/\e.key = .int .i64 k/\RV Z v e.val/\(∀ v2,MB k v2 es=es.set j (k,v2))/\Lu k es=es.eraseIdx j/\j<es.length
  | none=>Instr.findNow (.int .i64) (.int .i64 k) es' i=some none/\(∀ v2,MB k v2 es=es++[(k,v2)])/\Lu k es=es
 | [],[],i,.nil=>by simp[MA,Instr.findNow,MB,Lu]
 | (k',v)::es,e::es',i,.cons hk hv ht=>by
   by_cases hkk:k=k'
   ·subst hkk;simp only[MA,Aa7,Adj,Aa8];refine ⟨0,e, ?_,by simp,hk,hv,fun v2=>by simp[MB],by simp[Lu],by simp⟩;simp[Instr.findNow,hk,Instr.sameNow]
   ·have hb:(k == k')=false:=by simpa using hkk
    have ih:=findNow_spec (k:=k) es es' (i+1) ht;have hg:MA ((k',v)::es) k=MA es k:=by simp[MA,Aa7,hb]
    have hf:Instr.findNow (.int .i64) (.int .i64 k) (e::es') i=Instr.findNow (.int .i64) (.int .i64 k) es' (i+1):=by
     simp[Instr.findNow,hk,Instr.sameNow,hb]
    rw[hg,hf];cases hm:MA es k with
    | none=>
      rw[hm] at ih;exact ⟨ih.1,fun v2=>by simp[MB,hb,ih.2.1 v2],by simp[Lu,hb,ih.2.2]⟩
    | some u=>
      rw[hm] at ih;obtain ⟨j,e',h1,h2,h3,h4,h5,h6,h7⟩:=ih;exact ⟨j+1,e',by rw[h1]; congr 3; omega,by simpa using h2,h3,h4,fun v2=>by simp[MB,hb,h5 v2],by simp[Lu,hb,h6],by simp; omega⟩
def UI (P:Program) (o:Oper) (e:Operand->Option Value) (J:Aa) (v:Value):Prop:=
 ∀ (Z:Mu) (w:World) (f:Operand->Value),R P Z J w->(∀ x u,e x=some u->RV Z u (f x)) -> ∃ v',(execOp f o).run P w = .ok (.value v') w/\RV Z v v'
theorem fF {T:TypeId} {x:Operand} {call:Gc} {q:Bool} {ty:TypeId} {e:Operand->Option Value} {J:Aa} {K:Value->Aa->Option ρ} {r:ρ} {o:Oper} (ho:o.op = .load T x)
  (h:Ii P call q (.load T x) ty e J K=some r):∃ v,K v J=some r/\UI P o e J v:=by
 simp only[Ii,IS] at h;obtain ⟨v,hv,h⟩:=h;split at h;rotate_left
 ·cases h
 simp only[IS] at h;obtain ⟨a,ha,h⟩:=h;subst ha;cases hb:JQ P T with
 | true=>
   rw[hb] at h;simp only[IT] at h;split at h;rotate_left
   ·cases h
   rename_i hsz;obtain ⟨vs,hl,hvs,h⟩:=aR h;refine ⟨_,h,fun Z w f hR hf=>?_⟩;obtain ⟨k,hk,hfx⟩:=Z0 (hf x _ hv);obtain ⟨vs',hr,hrun,hleaf⟩:=JB hR hk hl hvs;obtain ⟨d,hd⟩:∃ d,P.underlying T=some d:=by
    unfold JQ at hb; cases hq:P.underlying T with
    | none=>simp[hq] at hb
    | some d=>exact ⟨d,rfl⟩
   refine ⟨.agg vs'.toArray,AO (by simp only[execOp,ho] <;> rfl) ?_,.agg (by simpa using hr) (by simpa using hleaf)⟩;simp only[hfx,Instr.loadAt,Instr.sureAddr,za,zf,y9,loadVar,KP hd,hb,ye,run_sizeOf hsz,hrun]
 | false=>
   rw[hb] at h;simp only[By,IS] at h;obtain ⟨d,hd,h⟩:=h;obtain ⟨u,hu,h⟩:=fh h;refine ⟨u,h,fun Z w f hR hf=>?_⟩;obtain ⟨k,hk,hfx⟩:=Z0 (hf x _ hv);obtain ⟨v',hc,hr,_⟩:=cell_of hR hu hk;refine ⟨v',AO (by simp only[execOp,ho] <;> rfl) ?_,hr⟩;simp only[hfx,Instr.loadAt,Instr.sureAddr,za,zf,y9,loadVar,KP hd,hb,y8,yq,run_load,hc]
theorem iX {T:TypeId} {m i:Operand} {ok:Bool} {call:Gc} {q:Bool} {ty:TypeId} {e:Operand->Option Value} {J:Aa} {K:Value->Aa->Option ρ} {r:ρ} {o:Oper} (ho:o.op = .lookup T m i ok)
  (h:Ii P call q (.lookup T m i ok) ty e J K=some r):∃ v,K v J=some r/\UI P o e J v:=by
 simp only[Ii,IS] at h;obtain ⟨mv,hm,iv,hi,h⟩:=h;split at h;rotate_left
 ·cases h
 rename_i kt E rr k hT;split at h;rotate_left
 ·cases h
 rename_i hkt;simp only[IS] at h;obtain ⟨es,hes,z,hz,h⟩:=h;have h:=Rm h;refine ⟨_,h,fun Z w f hR hf=>?_⟩;have hki:=SD hkt;obtain ⟨hz1,hz2⟩:=J4 hz w;have hfi:=U5 (hf i _ hi);have key:∃ entries:Array MapEntry,(f m = .map none/\entries = #[] \/ ∃ kb clock,f m = .map (some kb)/\w.heap[kb]?=some (.map entries clock))/\Tx Z es entries.toList:=by
  cases rr with
  | none=>
    cases hes;exact ⟨#[],.inl ⟨Pu (hf m _ hm),rfl⟩,.nil⟩
  | some r'=>
    obtain ⟨kb,hkb,hfm⟩:=Wp (hf m _ hm);obtain ⟨entries,clock,hh,hre⟩:=We hR hes hkb;exact ⟨entries,.inr ⟨kb.b,clock,hfm,hh⟩,hre⟩
 obtain ⟨entries,hrun,hre⟩:=key;have hfind:=findNow_spec (k:=k) es entries.toList 0 hre;have hck:=PK (P:=P) (k:=.i64) (a:=k) hki entries.isEmpty 9999 w;cases hg:MA es k with
 | none=>
   rw[hg] at hfind;refine ⟨if ok then .tuple #[z,.bool false] else z,AO (by simp only[execOp,ho] <;> rfl) ?_, ?_⟩
   ·unfold Instr.lookup;rw[hfi];rcases hrun with ⟨hfm,rfl⟩ | ⟨kb,clock,hfm,hh⟩ <;> rw[hfm]
    ·simp only[za,yx hT,y9,hck,Instr.findKey,yx hki,hfind.1,zf,hz1]
    ·simp only[za,yx hT,y9,J3 hh,hck,Instr.findKey,yx hki,hfind.1,zf,hz1]
   ·cases ok
    ·exact .HE hz2
    ·exact .tuple (.cons (.HE hz2) (.cons (.bool _) .nil))
 | some u=>
   rw[hg] at hfind;obtain ⟨j,e',h1,h2,h3,h4,h5⟩:=hfind;refine ⟨if ok then .tuple #[e'.val,.bool true] else e'.val,AO (by simp only[execOp,ho] <;> rfl) ?_, ?_⟩
   ·unfold Instr.lookup;rw[hfi];rcases hrun with ⟨hfm,rfl⟩ | ⟨kb,clock,hfm,hh⟩ <;> rw[hfm]
    ·simp only[za,yx hT,y9,hck,Instr.findKey,yx hki,h1,zf]
    ·simp only[za,yx hT,y9,J3 hh,hck,Instr.findKey,yx hki,h1,zf]
   ·cases ok
    ·exact h4
    ·exact .tuple (.cons h4 (.cons (.bool _) .nil))
theorem TU {x:Option Value} {d top:Nat} {K:Nat->Option ρ} {r:ρ} (h:bound x d top K=some r):
  ∃ n,K n=some r/\((x=none/\n=d) \/ ∃ k i,x=some (.int k i)/\0<=i/\i<=top/\n=i.toNat):=by
 unfold bound at h;split at h
 ·exact ⟨d,h,.inl ⟨rfl,rfl⟩⟩
 ·split at h
  ·rename_i k i hh; exact ⟨_,h,.inr ⟨k,i,rfl,hh.1,hh.2,rfl⟩⟩
  ·cases h
 ·cases h
theorem YB {e:Operand->Option Value} {x:Option Operand} {K:Option Value->Option ρ} {r:ρ} (h:nQ e x K=some r):
  ∃ v,K v=some r/\((x=none/\v=none) \/ ∃ y u,x=some y/\e y=some u/\v=some u):=by
 unfold nQ at h;split at h
 ·exact ⟨none,h,.inl ⟨rfl,rfl⟩⟩
 ·simp only[IS] at h;obtain ⟨u,hu,h⟩:=h;exact ⟨_,h,.inr ⟨_,u,rfl,hu,rfl⟩⟩
end
section
variable {ρ:Type} {P:Program} [AA]
theorem Qc {Z:Mu} {J:Aa} {w:World} (hR:R P Z J w) {b:Nat} {E:TypeId} {k:Ww} (h:elemAt J b=some E) (hk:Z b=some k):k.s=P.cellsOf E:=by
 unfold elemAt at h;split at h
 ·rename_i vs T rw hb;cases h;obtain ⟨c,T',fz,hx,h1,h2,h3,h4,_⟩:=hR.obj _ _ _ hb hk;exact h4
 ·cases h
theorem Jt {E:TypeId} {s:Nat} (h:GY P E=some s):P.cellsOf E=s:=by
 unfold GY at h;unfold Program.cellsOf;rw[h]; rfl
theorem Sl {Z:Mu} {e:Operand->Option Value} {f:Operand->Value} (hf:∀ x u,e x=some u->RV Z u (f x)) {x:Option Operand} {v:Option Value} {d n top top':Nat} (hv:(x=none/\v=none) \/ ∃ y u,x=some y/\e y=some u/\v=some u)
  (hn:(v=none/\n=d) \/ ∃ k i,v=some (.int k i)/\0<=i/\i<=(top:Int)/\n=i.toNat) (ht:top<=top'):
  (x.map f=none/\n=d) \/ ∃ k i,x.map f=some (.int k i)/\0<=i/\i<=(top':Int)/\n=i.toNat:=by
 rcases hv with ⟨rfl,rfl⟩ | ⟨y,u,rfl,hy,rfl⟩
 ·rcases hn with ⟨_,rfl⟩ | ⟨k,i,hh,_⟩
  ·exact .inl ⟨rfl,rfl⟩
  ·cases hh
 ·rcases hn with ⟨hh,_⟩ | ⟨k,i,hh,h0,h1,rfl⟩
  ·cases hh
  ·cases hh;have:=U5 (hf y _ hy);exact .inr ⟨k,i,by simp[this],h0,by omega,rfl⟩
theorem X1 {len cap m h l:Nat} {lo hi mx:Option Value} (h1:(mx=none/\m=cap) \/ ∃ k i,mx=some (.int k i)/\0<=i/\i<=(cap:Int)/\m=i.toNat)
  (h2:(hi=none/\h=len) \/ ∃ k i,hi=some (.int k i)/\0<=i/\i<=(m:Int)/\h=i.toNat) (h3:(lo=none/\l=0) \/ ∃ k i,lo=some (.int k i)/\0<=i/\i<=(h:Int)/\l=i.toNat)
  (hmx:mx.isSome=true->hi.isSome=true) (w:World):(Instr.sliceBounds true len cap lo hi mx).run P w = .ok (l,h,m) w:=by
 unfold Instr.sliceBounds;rcases h1 with ⟨rfl,rfl⟩ | ⟨k1,i1,rfl,a1,b1,rfl⟩
 ·rcases h2 with ⟨rfl,rfl⟩ | ⟨k2,i2,rfl,a2,b2,rfl⟩
  ·rcases h3 with ⟨rfl,rfl⟩ | ⟨k3,i3,rfl,a3,b3,rfl⟩
   ·simp
   ·simp[Aa5 w k3 i3 h _ a3 b3]
  ·rcases h3 with ⟨rfl,rfl⟩ | ⟨k3,i3,rfl,a3,b3,rfl⟩
   ·simp[Aa5 w k2 i2 m _ a2 b2]
   ·simp[Aa5 w k2 i2 m _ a2 b2,Aa5 w k3 i3 _ _ a3 b3]
 ·rcases h2 with ⟨rfl,rfl⟩ | ⟨k2,i2,rfl,a2,b2,rfl⟩
  ·simp at hmx
  ·rcases h3 with ⟨rfl,rfl⟩ | ⟨k3,i3,rfl,a3,b3,rfl⟩
   ·simp[Aa5 w k1 i1 cap _ a1 b1,Aa5 w k2 i2 _ _ a2 b2]
   ·simp[Aa5 w k1 i1 cap _ a1 b1,Aa5 w k2 i2 _ _ a2 b2,Aa5 w k3 i3 _ _ a3 b3]
theorem mP {T:TypeId} {x:Operand} {lo hi mx:Option Operand} {call:Gc} {q:Bool} {ty:TypeId} {e:Operand->Option Value} {J:Aa} {K:Value->Aa->Option ρ} {r:ρ} {o:Oper} (ho:o.op = .slice T x lo hi mx)
  (h:Ii P call q (.slice T x lo hi mx) ty e J K=some r):∃ v,K v J=some r/\UI P o e J v:=by
 simp only[Ii,IS] at h;obtain ⟨E,hE,s,hs,v,hv,h0⟩:=h;obtain ⟨lo',h1,hlo⟩:=YB h0;clear h0;obtain ⟨hi',h2,hhi⟩:=YB h1;clear h1;obtain ⟨mx',h,hmx⟩:=YB h2;clear h2;have hT:=I0 hE;cases v with
 | slice a len cap=>
   simp only[IS] at h;obtain ⟨r0,h,hK⟩:=h;unfold F8 at h;simp only at h;cases hms:(!mx'.isSome || hi'.isSome) with
   | false=>rw[hms] at h; cases h
   | true=>
     rw[hms] at h;simp only[IT] at h;obtain ⟨m,h1,hm⟩:=TU h;clear h;obtain ⟨hh,h2,hhb⟩:=TU h1;clear h1;obtain ⟨l,h,hlb⟩:=TU h2;clear h2;have hmsx:∀ f:Operand->Value,(mx.map f).isSome=true->(hi.map f).isSome=true:=by
      intro f hq;rcases hmx with ⟨rfl,rfl⟩ | ⟨y,u,rfl,_,rfl⟩
      ·simp at hq
      ·rcases hhi with ⟨rfl,rfl⟩ | ⟨y',u',rfl,_,rfl⟩
       ·simp at hms
       ·rfl
     have hlh:l<=hh:=by rcases hlb with ⟨_,rfl⟩ | ⟨_,_,_,_,_,rfl⟩ <;> omega
     have hmcap:m<=cap:=by rcases hm with ⟨_,rfl⟩ | ⟨_,_,_,_,_,rfl⟩ <;> omega
     have hhm:len<=cap->hh<=m:=by
      intro hlc;rcases hhb with ⟨rfl,rfl⟩ | ⟨_,_,_,_,_,rfl⟩
      ·rcases hm with ⟨_,rfl⟩ | ⟨_,_,rfl,_,_,_⟩
       ·exact hlc
       ·simp at hms
      ·omega
     have main:∀ (Z:Mu) (w:World) (f:Operand->Value),(∀ x u,e x=some u->RV Z u (f x)) -> ∀ (a':Option Addr) (c' m':Nat),f x = .slice a' len c' ->
       ((mx.map f=none/\m'=c') \/ ∃ k i,mx.map f=some (.int k i)/\0<=i/\i<=(c':Int)/\m'=i.toNat)->m<=m' ->
       (execOp f o).run P w = .ok (.value (.slice (if m'=l then a' else a'.map (·.add (l*s))) (hh-l) (m'-l))) w:=by
      intro Z w f hf a' c' m' hfx hmm hmle;refine AO (by simp only[execOp,ho] <;> rfl) ?_;have hb:=X1 (P:=P) (len:=len) hmm (Sl hf hhi hhb hmle) (Sl hf hlo hlb (yj _)) (hmsx f) w;simp only[hfx,Instr.sliceAt,Instr.slice,za,yx hT,y9,hb,run_sizeOf hs,zf]
     by_cases hml:m=l
     ·rw[yk hml] at h;cases a with
      | none=>
        simp only[zQ] at h;subst h;refine ⟨_,hK,fun Z w f hR hf=>?_⟩;have hr:=hf x _ hv;generalize hfx:f x=fx at hr;cases hr with
        | sliceNil=>
          have h2:=hhm (yj _);have hmm:(mx.map f=none/\(0:Nat)=0) \/ ∃ k i,mx.map f=some (.int k i)/\0<=i/\i<=((0:Nat):Int)/\0=i.toNat:=by
           refine Sl hf hmx ?_ (yj 0);rcases hm with ⟨g1,g2⟩ | ⟨k,i,g1,g2,g3,g4⟩
           ·exact .inl ⟨g1,rfl⟩
           ·exact .inr ⟨k,i,g1,g2,g3,by omega⟩
          refine ⟨_,main Z w f hf none 0 0 hfx hmm (by omega), ?_⟩;rw[show hh-l=0 by omega,show 0-l=0 by omega];split <;> exact .sliceNil
      | some a'=>
      simp only at h;cases hmi:mx'.isSome with
      | true=>
        rw[hmi] at h;simp only[IT,zQ] at h;subst h;refine ⟨_,hK,fun Z w f hR hf=>?_⟩;have hr:=hf x _ hv;have hex:∃ k i,mx'=some (.int k i)/\0<=i/\i<=(cap:Int)/\m=i.toNat:=by
         rcases hm with ⟨rfl,_⟩ | hm
         ·simp at hmi
         ·exact hm
        generalize hfx:f x=fx at hr;have hmm:∀ c',cap<=c'->(mx.map f=none/\m=c') \/ ∃ k i,mx.map f=some (.int k i)/\0<=i/\i<=(c':Int)/\m=i.toNat:=by
         intro c' hc';exact Sl (d:=c') hf hmx (.inr hex) hc'
        cases hr with
        | sliceZ y hz=>
          refine ⟨_,main Z w f hf _ 0 m hfx (hmm _ (yj _)) (yj _), ?_⟩;have:=hhm (yj _);rw[yk hml,hml,show hh-l=0 by omega,Aaf]; exact .sliceZ _ rfl
        | slice hk hsp hl hc hm'=>
          refine ⟨_,main Z w f hf _ _ m hfx (hmm _ hc) (yj _), ?_⟩;have:=hhm hl;rw[yk hml,hml,show hh-l=0 by omega,Aaf]; exact .sliceZ _ rfl
        | sliceEnd hk hsp hm'=>
          refine ⟨_,main Z w f hf _ _ m hfx (hmm _ (zh _)) (yj _), ?_⟩;have:=hhm (yj _);rw[yk hml,hml,show hh-l=0 by omega,Aaf]; exact .sliceZ _ rfl
      | false=>
        rw[hmi] at h;simp only[By] at h;have hmxn:mx'=none:=by simpa using hmi
        subst hmxn;have hmc:m=cap:=by
         rcases hm with ⟨_,rfl⟩ | ⟨_,_,hx,_⟩
         ·rfl
         ·cases hx
        have hmxf:∀ f:Operand->Value,mx.map f=none:=by
         intro f;rcases hmx with ⟨rfl,_⟩ | ⟨_,_,_,_,hx⟩
         ·rfl
         ·cases hx
        split at h
        ·rename_i hel;simp only[zQ] at h;subst h;refine ⟨_,hK,fun Z w f hR hf=>?_⟩;have hr:=hf x _ hv;generalize hfx:f x=fx at hr;cases hr with
         | @sliceZ _ z y hz=>
           refine ⟨_,main Z w f hf _ 0 0 hfx (.inl ⟨hmxf f,rfl⟩) (by omega), ?_⟩;have:=hhm (yj _);rw[show hh-l=0 by omega,show 0-l=0 by omega,yk (by omega)]; exact .sliceZ _ hz
         | @slice _ k' _ _ c' hk hsp hl hc hm'=>
           have hsz:=Qc hR hel hk;rw[Jt hs] at hsz;refine ⟨_,main Z w f hf _ c' c' hfx (.inl ⟨hmxf f,rfl⟩) (by omega), ?_⟩;have:=hhm hl;rw[show hh-l=0 by omega];split
           ·rename_i hcl;rw[show c'-l=0 by omega];exact .slice hk hsp (yj _) (yj _) (by have:0*k'.s<=c'*k'.s:=zR _ (zh _); omega)
           ·simp only[Aa8,JV,zu];refine .sliceEnd hk hsp ?_;rw[hsz,Nat.sub_mul];rw[hsz] at hm';have:l*s<=c'*s:=zR _ (by omega);omega
         | @sliceEnd _ k' o' c' hk hsp hm'=>
           refine ⟨_,main Z w f hf _ c' c' hfx (.inl ⟨hmxf f,rfl⟩) (by omega), ?_⟩;have:=hhm (yj _);have hl0:l=0:=by omega
           subst hl0;rw[show hh-0=0 by omega,Acz];split
           ·rename_i hcl;exact .sliceEnd hk hsp hm'
           ·simp only[Aa8,JV,zw,yl];exact .sliceEnd hk hsp hm'
        ·cases h
     ·rw[ym hml] at h;simp only[IS] at h;obtain ⟨a',ha,h⟩:=h;subst ha;split at h
      ·rename_i hel;simp only[zQ] at h;subst h;refine ⟨_,hK,fun Z w f hR hf=>?_⟩;have hr:=hf x _ hv;generalize hfx:f x=fx at hr;cases hr with
       | sliceZ y hz=>
         have h1:=hhm (yj _);exact absurd (show m=l from Nat.le_antisymm (zj hmcap (zh _)) (zj hlh h1)) hml
       | @slice _ k' _ _ c' hk hsp hl hc hm'=>
         have hsz:=Qc hR hel hk;rw[Jt hs] at hsz;have hlm:=hhm hl;obtain ⟨m',hm1,hm2,hm3⟩:∃ m',((mx.map f=none/\m'=c') \/ ∃ k i,mx.map f=some (.int k i)/\0<=i/\i<=(c':Int)/\m'=i.toNat)/\m<=m'/\m'<=c':=by
          rcases hm with ⟨rfl,rfl⟩ | ⟨k,i,rfl,h0,h1,rfl⟩
          ·refine ⟨c',.inl ⟨?_,rfl⟩,hc,yj _⟩;rcases hmx with ⟨rfl,_⟩ | ⟨_,_,_,_,hx⟩
           ·rfl
           ·cases hx
          ·exact ⟨i.toNat,Sl hf hmx (.inr ⟨k,i,rfl,h0,h1,rfl⟩) hc,yj _,by omega⟩
         refine ⟨_,main Z w f hf _ c' m' hfx hm1 hm2, ?_⟩;rw[ym (by omega)];simp only[Aa8,JV,zu];refine RV.slice (a:=⟨a'.block,a'.off+l*s,none⟩) hk rfl (by omega) (by omega) ?_;rw[hsz,Nat.sub_mul];rw[hsz] at hm';have:l*s<=m'*s:=zR _ (by omega);have:m'*s<=c'*s:=zR _ (by omega);simp only;omega
       | @sliceEnd _ k' o' c' hk hsp hm'=>
         have h1:=hhm (yj _);exact absurd (show m=l from Nat.le_antisymm (zj hmcap (zh _)) (zj hlh h1)) hml
      ·cases h
 | _=>cases h
end
section
variable {ρ:Type} {P:Program} [AA]
theorem iW {c:Call} {call:Gc} {q:Bool} {ty:TypeId} {e:Operand->Option Value} {J:Aa} {K:Value->Aa->Option ρ} {r:ρ} {o:Oper} (ho:o.op = .call c) (hb:c.callee = .builtin .len)
  (h:Ii P call q (.call c) ty e J K=some r):∃ v,K v J=some r/\UI P o e J v:=by
 simp only[Ii,hb] at h;obtain ⟨vs,h1,hvs⟩:=Lq h;clear h;simp only[Nl,uA] at h1;split at h1;rotate_left
 ·cases h1
 rename_i t v hts;split at h1
 ·rename_i n _ hd;refine ⟨_,h1,fun Z w f hR hf=>?_⟩;obtain ⟨cs,hex⟩:=Db (f:=f) ho hb;have hr:=hvs Z f hf;generalize c.args.toList.map f=l at hr hex;cases hr with
  | cons h1 h2=>
    cases h2;refine ⟨_, ?_,.int _ _⟩;rw[hex,toList_eq hts];cases h1 <;> simp[builtin,Builtin.len_,yx hd,goInt]
 ·rename_i s hd;refine ⟨_,h1,fun Z w f hR hf=>?_⟩;obtain ⟨cs,hex⟩:=Db (f:=f) ho hb;have hr:=hvs Z f hf;generalize c.args.toList.map f=l at hr hex;cases hr with
  | cons h1 h2=>
    cases h2;refine ⟨_, ?_,.int _ _⟩;rw[hex,toList_eq hts];cases h1 <;> simp[builtin,Builtin.len_,yx hd,goInt]
 ·rename_i rr hd;simp only[IS] at h1;obtain ⟨es,hes,h1⟩:=h1;refine ⟨_,h1,fun Z w f hR hf=>?_⟩;obtain ⟨cs,hex⟩:=Db (f:=f) ho hb;have hr:=hvs Z f hf;generalize c.args.toList.map f=l at hr hex;clear h1;cases hr with
  | cons h1 h2=>
    cases h2;refine ⟨_, ?_,.int _ _⟩;rw[hex,toList_eq hts];cases rr with
    | none=>
      cases hes;rw[Pu h1];simp[builtin,Builtin.len_,yx hd,goInt]
    | some r'=>
      obtain ⟨kb,hkb,hfm⟩:=Wp h1;obtain ⟨entries,clock,hh,hre⟩:=We hR hes hkb;have hlen:es.length=entries.size:=by
       have:∀ (a:List (Int × Value)) (b:List MapEntry),Tx Z a b->a.length=b.length:=by
        intro a b hab
        induction hab with
        | nil=>rfl
        | cons _ _ _ ih=>simp[ih]
       simpa using this _ _ hre
      rw[hfm];simp[builtin,Builtin.len_,yx hd,goInt,J3 hh,hlen]
 ·cases h1
theorem cw {o:Oper} {call:Gc} {q:Bool} {e:Operand->Option Value} {J:Aa} {K:Value->Aa->Option ρ} {r:ρ} (hc:F6 P o = .ld)
  (h:Ii P call q o.op o.type e J K=some r):∃ v,K v J=some r/\UI P o e J v:=by
 cases ho:o.op
 case load=>rw[ho] at h; exact fF ho h
 case lookup=>rw[ho] at h; exact iX ho h
 case slice=>rw[ho] at h; exact mP ho h
 case call c=>
  rw[ho] at h;simp only[F6,ho] at hc;split at hc
  ·rename_i b hb;cases b <;> simp only[ZO] at hc <;> first
    | (cases hc; done)
    | skip
   exact iW ho hb h
  ·cases hc
 all_goals (simp[F6,ho] at hc)
def jE (P:Program) (Z:Mu) (J:Aa) (w:World) (v:Value) (J':Aa) (res:Result Next):Prop:=
 ∃ Z' v' w',(res = .ok (.value v') w'\/(res = .ok .skip w'/\v'=undef))/\RV Z' v v'/\R P Z' J' w'/\Step Z J w Z' J' w'
theorem lP {Z:Mu} {vs:List Value} {c:Array Value} {T:TypeId} {s b:Nat} (hs:s=P.cellsOf T) (hr:It Z vs c.toList) (hl:∀ v ∈ vs,v.oneCell'=true):
  ZK P Z (.cells vs T true) ⟨b,0,s,vs.length,vs.length⟩ (some (.cells c T)):=by
 have hlen:=hr.length;refine ⟨c,T,(0,0),rfl,rfl,yj _,by simp at hlen ⊢; omega,hs,fun _=>rfl,hl, ?_⟩;simp only[yV];rw[zp (by omega)];exact hr
theorem Pj {Z:Mu} {J:Aa} {w:World} (hR:R P Z J w) (hf:GL Z J.length (J.length+1)) {vs:List Value} {c:Array Value} {T:TypeId} (hr:It Z vs c.toList) (hl:∀ v ∈ vs,v.oneCell'=true)
  {v v':Value} (hv:∀ Z':Mu,Z' J.length=some ⟨w.heap.size,0,P.cellsOf T,vs.length,vs.length⟩->RV Z' v v'):
  jE P Z J w v (J++[Au.cells vs T true]) (.ok (.value v') (w.alloc (.cells c T))):=by
 refine ⟨Z.put J.length ⟨w.heap.size,0,P.cellsOf T,vs.length,vs.length⟩,v',_,.inl rfl,hv _ (Mu.Fl _ _ _), ?_,Step.alloc rfl⟩;exact hR.alloc (hf _ (yj _) (Nat.lt_succ_self _)) rfl (lP rfl hr hl)
def tK (P:Program) (o:Oper) (e:Operand->Option Value) (J:Aa) (v:Value) (J':Aa):Prop:=
 ∀ (Z:Mu) (w:World) (f:Operand->Value),R P Z J w->GL Z J.length J'.length->(∀ x u,e x=some u->RV Z u (f x))->jE P Z J w v J' ((execOp f o).run P w)
theorem OM (z:Array Value) (n:Nat) (hz:0<z.size):((Array.range (n*z.size)).map (fun x=>z[x % z.size]!)).toList=rep n z.toList:=by
 apply zy;intro i;simp only[Array.toList_map,Array.toList_range,zG,Aaw]
 induction n generalizing i with
 | zero=>simp[AX.rep]
 | succ n ih=>
   have e:AX.rep (n+1) z.toList=z.toList++AX.rep n z.toList:=by simp[AX.rep,zU]
   rw[e];by_cases hi:i<z.size
   ·rw[AT (by simpa using hi)];have:i<(n+1)*z.size:=by rw[Nat.succ_mul]; omega
    simp[Aaw,this,Nat.mod_eq_of_lt hi,hi]
   ·rw[yD (by simpa using Adf hi)];simp only[zN];rw[<- ih (i-z.size)];have hm:i % z.size=(i-z.size) % z.size:=by
     rw[Nat.mod_eq_sub_mod (Adf hi)]
    by_cases hlt:i<(n+1)*z.size
    ·have:i-z.size<n*z.size:=by rw[Nat.succ_mul] at hlt; omega
     simp[Aaw,hlt,this,hm]
    ·have:¬ i-z.size<n*z.size:=by rw[Nat.succ_mul] at hlt; omega
     simp[Aaw,hlt,this]
theorem iU {o:Oper} {call:Gc} {q:Bool} {e:Operand->Option Value} {J:Aa} {K:Value->Aa->Option ρ} {r:ρ} (hc:F6 P o = .al) (hnc:∀ c,o.op ≠ .call c)
  (h:Ii P call q o.op o.type e J K=some r):∃ v x,K v (J++[x])=some r/\tK P o e J v (J++[x]):=by
 cases ho:o.op
 case call c=>exact absurd ho (hnc c)
 case box T x=>
  rw[ho] at h;simp only[Ii,IS] at h;obtain ⟨v,hv,h⟩:=h;cases ht:Gi v with
  | true=>rw[ht] at h; cases h
  | false=>
    rw[ht] at h;simp only[By] at h;refine ⟨_,_,h,fun Z w f hR hfr hf=>?_⟩;obtain ⟨h1,h2,h3⟩:=IU (hf x v hv) ht;have hrun:(execOp f o).run P w = .ok (.value (.pointer (some ⟨w.heap.size,0,none⟩))) (w.alloc (.cells (f x).cells T)):=by
     refine AO (by simp only[execOp,ho] <;> rfl) ?_;simp[Instr.box,newVar,newRow]
    rw[hrun];exact Pj hR (by simpa using hfr) h1 h2 fun Z' hμ=>RV.ptr (a:=⟨J.length,0,none⟩) hμ rfl
 case alloc T=>
  rw[ho] at h;simp only[Ii,IS] at h;obtain ⟨z,hz,h⟩:=h;split at h
  ·rename_i htz;refine ⟨_,_,h,fun Z w f hR hfr hf=>?_⟩;obtain ⟨hz1,hz2⟩:=J4 hz w;obtain ⟨h1,h2,h3⟩:=IU (RV.HE (Z:=Z) hz2) htz;have hrun:(execOp f o).run P w = .ok (.value (.pointer (some ⟨w.heap.size,0,none⟩))) (w.alloc (.cells z.cells T)):=by
    refine AO (by simp only[execOp,ho] <;> rfl) ?_;simp[Instr.alloc,newVar,newRow,hz1]
   rw[hrun];exact Pj hR (by simpa using hfr) h1 h2 fun Z' hμ=>RV.ptr (a:=⟨J.length,0,none⟩) hμ rfl
  ·cases h
 case buildSlice T n parts=>
  rw[ho] at h;simp only[Ii,IS] at h;obtain ⟨E,hE,h⟩:=h;cases hn0:(n == 0) with
  | true=>
    have hn:n=0:=by simpa using hn0
    subst hn;rw[hn0] at h;simp only[IT] at h;cases hpe:parts.toList.isEmpty with
    | false=>rw[hpe] at h; cases h
    | true=>
    rw[hpe] at h;simp only[IT,IS] at h;obtain ⟨s,hsz,h⟩:=h;have hp0:parts = #[]:=by
     apply Aci.1; simpa using hpe
    subst hp0;refine ⟨_,_,h,fun Z w f hR hfr hf=>?_⟩;have hT:=I0 hE;have hrun:(execOp f o).run P w = .ok (.value (.slice (some ⟨w.heap.size,0,none⟩) 0 0)) (w.alloc (.cells #[] E)):=by
     refine AO (by simp only[execOp,ho] <;> rfl) ?_;simp[Instr.buildSlice,yx hT,run_sizeOf hsz,Instr.fill,newRow,Acj];have e:Array.map (fun _=>(default:Value)) (Array.range 0) = #[]:=by
      apply Array.eq_empty_of_size_eq_zero; simp
     rw[e]
    rw[hrun];refine Pj hR (by simpa using hfr) .nil (by simp) fun Z' hμ=>?_;exact RV.sliceZ (a:=⟨J.length,0,some 0⟩) (z:=0) _ rfl
  | false=>
  rw[hn0] at h;simp only[By,IS] at h;obtain ⟨z,hz,h⟩:=h;obtain ⟨ps,h1,hps⟩:=YC h;clear h;split at h1
  ·rename_i hh;obtain ⟨hsz,hn,hz0,hle,htz⟩:=hh;simp only[IS] at h1;obtain ⟨cs,hcs,h⟩:=h1;refine ⟨_,_,h,fun Z w f hR hfr hf=>?_⟩;obtain ⟨hz1,hz2⟩:=J4 hz w;obtain ⟨g1,g2,g3⟩:=IU (RV.HE (Z:=Z) hz2) htz;have hT:=I0 hE;have hrep:=OM z.cells n hz0;obtain ⟨out',k1,k2,k3,k4⟩:=RJ ps _ _ ((Array.range (n*z.cells.size)).map (fun x=>z.cells[x % z.cells.size]!)) cs (hps Z f hf) (by rw[hrep]; exact g1.rep n)
    (by intro v hv; simp only[AX.rep,zm,Abf] at hv; obtain ⟨l,⟨_,rfl⟩,hvl⟩:=hv; exact g2 v hvl) hcs;have hm:(parts.map fun x=>(x.1,f x.2)).toList=parts.toList.map fun p=>(p.1,f p.2):=by simp
   have hrun:(execOp f o).run P w = .ok (.value (.slice (some ⟨w.heap.size,0,none⟩) n n)) (w.alloc (.cells out' E)):=by
    refine AO (by simp only[execOp,ho] <;> rfl) ?_;have hne:¬ n*z.cells.size=0:=by
     have:=Nat.mul_pos hn hz0; omega
    simp only[Instr.buildSlice,za,yx hT,y9,run_sizeOf hsz,Sem.run_ite,ym (Ack.2 hle),ym hne,hz1,zf,hm,k1,newRow,Acj]
   rw[hrun];have hcl:cs.length=n*z.cells.size:=by
    rw[k4,<- hrep]; simp
   refine Pj hR (by simpa using hfr) k2 k3 fun Z' hμ=>?_;refine RV.slice (a:=⟨J.length,0,none⟩) hμ rfl (yj _) (yj _) ?_;simp only[Jt hsz,hcl]; omega
  ·cases h1
 case makeMap T rs=>
  rw[ho] at h;cases rs with
  | some x=>simp only[Ii] at h; cases h
  | none=>
    simp only[Ii] at h;refine ⟨_,_,h,fun Z w f hR hfr hf=>?_⟩;have hrun:(execOp f o).run P w = .ok (.value (.map (some w.heap.size))) (w.alloc (.map #[] 0)):=by
     refine AO (by simp only[execOp,ho] <;> rfl) ?_;simp[Instr.makeMap]
    rw[hrun];refine ⟨Z.put J.length ⟨w.heap.size,0,0,0,0⟩,_,_,.inl rfl,RV.map (k:=⟨w.heap.size,0,0,0,0⟩) (Mu.Fl _ _ _), ?_,Step.alloc rfl⟩;exact hR.alloc (hfr _ (yj _) (by simp)) rfl ⟨#[],0,rfl,.nil⟩
 case makeSlice T l c=>
  rw[ho] at h;simp only[Ii,IS] at h;obtain ⟨E,hE,lv,hl,cv,hcv,h⟩:=h;split at h
  ·rename_i l' c';simp only[IS] at h;obtain ⟨by_,hby,h⟩:=h;split at h
   ·rename_i hh;obtain ⟨h0,hlc,hcb,hc40⟩:=hh;simp only[IS] at h;obtain ⟨z,hz,h⟩:=h;split at h
    ·rename_i hh;obtain ⟨hsz,hz0,htz⟩:=hh;refine ⟨_,_,h,fun Z w f hR hfr hf=>?_⟩;obtain ⟨hz1,hz2⟩:=J4 hz w;obtain ⟨g1,g2,g3⟩:=IU (RV.HE (Z:=Z) hz2) htz;have hT:=I0 hE;have hfl:=U5 (hf l _ hl);have hfc:=U5 (hf c _ hcv);have hby':∃ i,P.info? E=some i/\i.bytes=by_:=by unfold bytesOf at hby; simpa using hby
     obtain ⟨i,hi,hib⟩:=hby';have wl:IntKind.i64.wrap l'=l':=IntWalk.i64_in _ (by omega);have wc:IntKind.i64.wrap c'=c':=IntWalk.i64_in _ (by omega);have hrun:(execOp f o).run P w = .ok (.value (.slice (some ⟨w.heap.size,0,none⟩) l'.toNat c'.toNat)) (w.alloc (.cells ((Array.range (c'.toNat*z.cells.size)).map (fun x=>z.cells[x % z.cells.size]!)) E)):=by
      refine AO (by simp only[execOp,ho] <;> rfl) ?_;have hty:(typeInfo E).run P w = .ok i w:=by simp[typeInfo,hi]
      have hbc:¬ ((by_:Int)*c'>2 ^ 48):=by
       rw[Int.mul_comm]; omega
      simp only[Instr.makeSlice,za,yx hT,y9,hfl,hfc,asInt,asIntOf,zf,hty,wl,wc,hib];have hcond:((decide (c'<0) || decide ((by_:Int)*c'>2 ^ 48)) || decide (l'<0) || decide (l'>c'))=false:=by
       simp only[Bool.or_eq_false_iff,decide_eq_false_iff_not]; omega
      rw[ym (by rw[hcond]; simp)];simp only[za,run_askRoom,y9,run_sizeOf hsz];by_cases hc0:c'.toNat*z.cells.size=0
      ·simp only[hc0,ye,zf,y9,newRow,za,Acj,show Array.range 0=(#[]:Array Nat) from rfl,Array.map_empty]
      ·simp only[hc0,yq,za,hz1,zf,y9,newRow,Acj]
     rw[hrun];have hrep:=OM z.cells c'.toNat hz0;have hlen:(AX.rep c'.toNat z.cells.toList).length=c'.toNat*z.cells.size:=by rw[<- hrep]; simp
     refine Pj hR (by simpa using hfr) (by rw[hrep]; exact g1.rep _) ?_ fun Z' hμ=>?_
     ·intro v hv; simp only[AX.rep,zm,Abf] at hv; obtain ⟨l,⟨_,rfl⟩,hvl⟩:=hv; exact g2 v hvl
     ·refine RV.slice (a:=⟨J.length,0,none⟩) hμ rfl (by omega) (yj _) ?_;simp only[Jt hsz,hlen]; omega
    ·cases h
   ·cases h
  ·cases h
 all_goals (simp[F6,ho] at hc)
end
section
variable {ρ:Type} {P:Program} [AA]
theorem R.sZ {Z:Mu} {J:Aa} {w w':World} (hR:R P Z J w) {h:Nat} {k:Ww} (hk:Z h=some k) (ha:alive J h) (hwr:Az J h) {o':Au} (hsz:w'.heap.size=w.heap.size)
  (hother:∀ b,b≠k.b->w'.heap[b]?=w.heap[b]?) (ho:ZK P Z o' k w'.heap[k.b]?):R P Z (J.set h o') w':=by
 have hal:∀ x,alive (J.set h o') x->alive J x:=by
  intro x ⟨o,ho,hd⟩;by_cases hx:x=h
  ·subst hx; exact ha
  ·rw[yc (yW hx)] at ho; exact ⟨o,ho,hd⟩
 refine ⟨?_, ?_, ?_⟩
 ·intro x o kx hx hkx;by_cases hxh:x=h
  ·subst hxh;rw[hk] at hkx; cases hkx;obtain ⟨o0,ho0,_⟩:=ha;have hlt:x<J.length:=(yu.1 ho0).1;rw[yo hlt] at hx;cases hx;exact ho
  ·rw[yc (yW hxh)] at hx;by_cases hd:o = .dead
   ·subst hd; trivial
   ·have hne:kx.b≠k.b:=fun he=>hxh (hR.inj x h kx k hkx hk ⟨o,hx,hd⟩ ha (.inr hwr) he);rw[hother _ hne];exact hR.obj x o kx hx hkx
 ·intro x kx hkx; rw[hsz]; exact hR.lt x kx hkx
 ·have hwal:∀ x,Az (J.set h o') x->Az J x:=by
   intro x hwx;by_cases hx:x=h
   ·subst hx; exact hwr
   ·unfold Az at hwx ⊢
    rwa [yc (yW hx)] at hwx
  intro a b ka kb h1 h2 h3 h4 h6 h5;exact hR.inj a b ka kb h1 h2 (hal a h3) (hal b h4) (h6.imp (hwal a) (hwal b)) h5
theorem Step.sZ {Z:Mu} {J:Aa} {w w':World} {h:Nat} {k:Ww} (hk:Z h=some k) (hl:h<J.length) (hw:Az J h) {o':Au} (hsz:w'.heap.size=w.heap.size) (ht:w'.tape=w.tape) (hos:w'.os=w.os) (hout:w'.output=w.output)
  (hother:∀ b,b≠k.b->w'.heap[b]?=w.heap[b]?):Step Z J w Z (J.set h o') w':=by
 refine ⟨by simp,fun _ _=>rfl, ?_, ?_,by omega,ht,hos,hout, ?_⟩
 ·intro x hx hwx;by_cases hxh:x=h
  ·subst hxh; exact hw
  ·unfold Az at hwx ⊢
   rwa [yc (yW hxh)] at hwx
 ·intro x kx h1 h2; simp at h2; omega
 ·intro b hb hn;exact hother b fun he=>hn h k hl hk he.symm hw
theorem MW {cs vs:List Value} {o:Nat} (h:o+vs.length<=cs.length) (i:Nat):
  (AP cs o vs)[i]?=if i<o then cs[i]? else if i<o+vs.length then vs[i-o]? else cs[i]?:=by
 unfold AP;have hl:(cs.take o).length=o:=by simp; omega
 by_cases h1:i<o
 ·rw[yk h1,ya,AT (by omega),zt,yk h1]
 ·rw[ym h1];by_cases h2:i<o+vs.length
  ·rw[yk h2,AT (by rw[yi]; omega),yD (by omega),hl]
  ·rw[ym h2,yD (by rw[yi]; omega),zs];congr 1;rw[yi]; omega
theorem cS {cs:List Value} {o:Nat} {v:Value} (h:o<cs.length):cs.set o v=AP cs o [v]:=by
 apply zy;intro i;rw[MW (by simp; omega),z8];by_cases h1:o=i
 ·subst h1; simp[h]
 ·simp only[h1,yq,zd];by_cases h2:i<o
  ·simp[h2]
  ·have:¬ i<o+1:=by omega
   simp[h2,this]
theorem Kv {Z:Mu} {J:Aa} {w:World} (hR:R P Z J w) {b o:Nat} {k:Ww} (hk:Z b=some k) {cs vs vs':List Value} {T:TypeId} (hb:J[b]?=some (.cells cs T true)) (hv:It Z vs vs')
  (hl:∀ v ∈ vs,v.oneCell'=true) (ho:o+vs.length<=cs.length):
  ∃ w',(storeCells ⟨k.b,k.o+o,none⟩ vs').run P w = .ok () w'/\R P Z (J.set b (.cells (AP cs o vs) T true)) w'/\Step Z J w Z (J.set b (.cells (AP cs o vs) T true)) w':=by
 obtain ⟨c,T',fz,hx,h1,h2,h3,h4,h5,h6,h7⟩:=hR.obj _ _ _ hb hk;have hfz:=h5 rfl;subst hfz;have hvl:=hv.length;have hrun:=run_storeCells_at P k.b (k.o+o) T' vs' 0 c w hx (by omega) (hv.leaf hl);have hbl:b<J.length:=(yu.1 hb).1;have hal:alive J b:=⟨_,hb,by simp⟩;have hwr:Az J b:=by unfold Az; rw[hb]; trivial
 have e:(c.toList.take (k.o+o+0)++vs'++c.toList.drop (k.o+o+0+vs'.length)).toArray.toList=AP c.toList (k.o+o) vs':=by simp[AP]
 refine ⟨_,hrun, ?_, ?_⟩
 ·refine hR.sZ hk hal hwr (size_setRow _ _ _) (fun b' hb'=>setRow_other w k.b b' _ hb') ?_;have hc:(w.setRow k.b (c.toList.take (k.o+o+0)++vs'++c.toList.drop (k.o+o+0+vs'.length)).toArray).heap[k.b]?=some (.cells _ T' (0,0)):=setRow_heap w k.b c _ T' _ hx;rw[hc];have hlen:(AP c.toList (k.o+o) vs').length=c.size:=by rw[Hk (by simp; omega)]; simp
  refine ⟨_,T',(0,0),rfl,by rw[Hk ho]; exact h1,h2, ?_,h4,fun _=>rfl,OB h6 hl, ?_⟩
  ·rw[<- zN,e,hlen]; exact h3
  ·rw[e];refine It.iR ?_ ?_
   ·rw[Hk ho,zx,zz,hlen]; omega
   ·intro i x x' hx1 hx2;have hi:i<k.n:=by
     have:=(yu.1 hx1).1;rw[Hk ho] at this; omega
    rw[zt,yk hi,zs,MW (by simp; omega)] at hx2;rw[MW ho] at hx1;by_cases c1:i<o
    ·rw[yk c1] at hx1;rw[yk (by omega)] at hx2;obtain ⟨y,hy,hr⟩:=h7.get i x hx1;rw[zt,yk hi,zs] at hy;rw[hy] at hx2; cases hx2; exact hr
    ·rw[ym c1] at hx1;rw[ym (by omega)] at hx2;by_cases c2:i<o+vs.length
     ·rw[yk c2] at hx1;rw[yk (by omega)] at hx2;obtain ⟨y,hy,hr⟩:=hv.get _ x hx1;rw[show k.o+i-(k.o+o)=i-o by omega,hy] at hx2;cases hx2; exact hr
     ·rw[ym c2] at hx1;rw[ym (by omega)] at hx2;obtain ⟨y,hy,hr⟩:=h7.get i x hx1;rw[zt,yk hi,zs] at hy;rw[hy] at hx2; cases hx2; exact hr
 ·exact Step.sZ hk hbl hwr (size_setRow _ _ _) rfl rfl rfl (fun b' hb'=>setRow_other w k.b b' _ hb')
theorem NF {w:World} {b:Nat} {entries:Array MapEntry} {clock:Nat} (h:w.heap[b]?=some (.map entries clock)) (x:Obj):(setObj b x).run P w = .ok () { w with heap:=w.heap.setIfInBounds b x }:=by
 simp only[setObj,Sem.run,h]
theorem Mz {Z:Mu} {J:Aa} {w:World} (hR:R P Z J w) {h:Nat} {k:Ww} (hk:Z h=some k) {es es2:List (Int × Value)} (hb:J[h]?=some (.map es)) {entries2:Array MapEntry} (clock:Nat) (hre:Tx Z es2 entries2.toList):
  R P Z (J.set h (.map es2)) { w with heap:=w.heap.setIfInBounds k.b (.map entries2 clock) }/\Step Z J w Z (J.set h (.map es2)) { w with heap:=w.heap.setIfInBounds k.b (.map entries2 clock) }:=by
 have hbl:h<J.length:=(yu.1 hb).1;have hal:alive J h:=⟨_,hb,by simp⟩;have hwr:Az J h:=by unfold Az; rw[hb]; trivial
 have hother:∀ b,b≠k.b->(w.heap.setIfInBounds k.b (.map entries2 clock))[b]?=w.heap[b]?:=fun b hb=>by
  rw[Aan,ym (yW hb)]
 refine ⟨hR.sZ hk hal hwr (by simp) hother ?_,Step.sZ hk hbl hwr (by simp) rfl rfl rfl hother⟩;have:(w.heap.setIfInBounds k.b (.map entries2 clock))[k.b]?=some (.map entries2 clock):=by
  rw[Aan,yk rfl,yk (hR.lt _ _ hk)]
 show ZK P Z _ k (w.heap.setIfInBounds k.b (.map entries2 clock))[k.b]?;rw[this];exact ⟨entries2,clock,rfl,hre⟩
theorem Tx.push {Z:Mu} {k:Int} {v v':Value} (hv:RV Z v v') (born:Nat):∀ {es:List (Int × Value)} {es':List MapEntry},Tx Z es es'->Tx Z (es++[(k,v)]) (es'++[{ key:=.int .i64 k,val:=v',born:=born }])
 | _,_,.nil=>.cons rfl hv .nil
 | _,_,.cons hk h t=>.cons hk h (Tx.push hv born t)
theorem Tx.set {Z:Mu} {k:Int} {v v':Value} (hv:RV Z v v'):∀ {es:List (Int × Value)} {es':List MapEntry} (j:Nat),Tx Z es es'->Tx Z (es.set j (k,v)) (es'.modify j fun e=>{ e with key:=.int .i64 k,val:=v' })
 | _,_,_,.nil=>by simpa using Tx.nil
 | _,_,0,.cons hk h t=>.cons rfl hv t
 | _,_,j+1,.cons hk h t=>.cons hk h (Tx.set hv j t)
theorem Tx.erase {Z:Mu}:∀ {es:List (Int × Value)} {es':List MapEntry} (j:Nat),Tx Z es es'->Tx Z (es.eraseIdx j) (es'.eraseIdx j)
 | _,_,_,.nil=>by simpa using Tx.nil
 | _,_,0,.cons hk h t=>t
 | _,_,j+1,.cons hk h t=>.cons hk h (Tx.erase j t)
theorem Tx.length {Z:Mu}:∀ {es:List (Int × Value)} {es':List MapEntry},Tx Z es es'->es.length=es'.length
 | _,_,.nil=>rfl
 | _,_,.cons _ _ t=>by simp[Tx.length t]
def kX (P:Program) (o:Oper) (e:Operand->Option Value) (J:Aa) (v:Value) (J':Aa):Prop:=
 ∀ (Z:Mu) (w:World) (f:Operand->Value),R P Z J w->GL Z J.length J'.length->(∀ x u,e x=some u->RV Z u (f x))->jE P Z J w v J' ((execOp f o).run P w)
theorem MD {o:Oper} {f:Operand->Value} {w w':World} {s:Sem Unit} (h:execOp f o=(do s; pure .skip:Sem Next)) (hs:s.run P w = .ok () w'):
  (execOp f o).run P w = .ok .skip w':=by
 rw[h]; simp[hs]
theorem Pv {Z:Mu}:RV Z undef undef:=.tuple .nil
theorem qN {J J':Aa} {b o:Nat} {v:Value} (h:CT J b o v=some J'):∃ cs T,J[b]?=some (.cells cs T true)/\o+[v].length<=cs.length/\J'=J.set b (.cells (AP cs o [v]) T true):=by
 unfold CT at h;split at h
 ·rename_i cs T hb;split at h
  ·rename_i ho;cases h;exact ⟨cs,T,hb,by simp; omega,by rw[cS ho]⟩
  ·cases h
 ·cases h
theorem PA {J J':Aa} {b o:Nat} {vs:List Value} (h:H2 J b o vs=some J'):∃ cs T,J[b]?=some (.cells cs T true)/\o+vs.length<=cs.length/\J'=J.set b (.cells (AP cs o vs) T true):=by
 unfold H2 at h;split at h
 ·rename_i cs T hb;split at h
  ·rename_i ho;cases h;exact ⟨cs,T,hb,ho,rfl⟩
  ·cases h
 ·cases h
theorem nE {J:Aa} {b o:Nat} {cs vs:List Value} {T:TypeId} (hb:J[b]?=some (.cells cs T true)) (h:o+vs.length<=cs.length):H2 J b o vs=some (J.set b (.cells (AP cs o vs) T true)):=by
 simp only[H2,hb];rw[yk h]
theorem mQ {T:TypeId} {x y:Operand} {call:Gc} {q:Bool} {ty:TypeId} {e:Operand->Option Value} {J:Aa} {K:Value->Aa->Option ρ} {r:ρ} {o:Oper} (ho:o.op = .store T x y)
  (h:Ii P call q (.store T x y) ty e J K=some r):∃ v J',K v J'=some r/\J.length<=J'.length/\kX P o e J v J' /\ ∃ a,e x=some (.pointer (some a)) /\ ∀ b,b≠a.block->J'[b]?=J[b]?:=by
 simp only[Ii,IS] at h;obtain ⟨v,hv,u,hu,h⟩:=h;cases v with
 | pointer a0=>
   simp only[IS] at h;obtain ⟨a,ha,h⟩:=h;subst ha;have main:∀ (vs:List Value) (J':Aa),GY P T=some u.cells.size->u.cells.toList=vs->Gi u=false->H2 J a.block a.off vs=some J'->kX P o e J undef J':=by
    intro vs J' hsz hvs ht hst Z w f hR hfr hf;obtain ⟨cs,T',hb,hlen,rfl⟩:=PA hst;obtain ⟨k,hk,hfx⟩:=Z0 (hf x _ hv);obtain ⟨h1,h2,h3⟩:=IU (hf y u hu) ht;rw[hvs] at h1 h2;obtain ⟨w',hrun,hR',hS⟩:=Kv hR hk hb h1 h2 hlen;refine ⟨Z,undef,w',.inr ⟨?_,rfl⟩,Pv,hR',hS⟩;refine MD (by simp only[execOp,ho] <;> rfl) ?_;have hsz':¬ (f y).cells.size≠u.cells.size:=by
     have:=h1.length;rw[<- hvs] at this;simp at this ⊢; omega
    simp only[hfx,Instr.storeAt,Instr.sureAddr,za,zf,y9,storeVar,run_sizeOf hsz];rw[ym hsz'];exact hrun
   cases u with
   | agg vs=>
     simp only at h;split at h
     ·rename_i hsz;simp only[IS] at h;obtain ⟨J',hst,h⟩:=h;refine ⟨_,J',h, ?_,main vs.toList J' hsz rfl rfl hst,a,hv, ?_⟩
      ·obtain ⟨cs,T',hb,hlen,rfl⟩:=PA hst;simp
      ·obtain ⟨cs,T',hb,hlen,rfl⟩:=PA hst;exact fun b hb=>yc (yW hb)
     ·cases h
   | tuple vs=>simp at h
   | _=>
     simp only at h;split at h
     ·rename_i hsz;simp only[IS] at h;obtain ⟨J',hst,h⟩:=h;obtain ⟨cs,T',hb,hlen,rfl⟩:=qN hst;exact ⟨_,_,h,by simp,main _ _ hsz rfl rfl (nE hb hlen),a,hv,fun b hb=>yc (yW hb)⟩
     ·cases h
 | _=>cases h
theorem ZY {T:TypeId} {m i y:Operand} {call:Gc} {q:Bool} {ty:TypeId} {e:Operand->Option Value} {J:Aa} {K:Value->Aa->Option ρ} {r:ρ} {o:Oper} (ho:o.op = .mapUpdate T m i y)
  (h:Ii P call q (.mapUpdate T m i y) ty e J K=some r):∃ v J',K v J'=some r/\J.length<=J'.length/\kX P o e J v J':=by
 simp only[Ii,IS] at h;obtain ⟨mv,hm,kv,hk,u,hu,h⟩:=h;split at h;rotate_left
 ·cases h
 rename_i kt E rr k hT;split at h;rotate_left
 ·cases h
 rename_i hkt;simp only[IS] at h;obtain ⟨r',hr',es,hes,h⟩:=h;subst hr';refine ⟨_,_,h,by simp,fun Z w f hR hfr hf=>?_⟩;have hki:=SD hkt;obtain ⟨kb,hkb,hfm⟩:=Wp (hf m _ hm);have hfi:=U5 (hf i _ hk);have hru:=hf y u hu;obtain ⟨entries,clock,hh,hre⟩:=We hR hes hkb;have hb:J[r']?=some (.map es):=by
  unfold RS at hes;split at hes
  ·cases hes; assumption
  ·cases hes
 have hfind:=findNow_spec (k:=k) es entries.toList 0 hre;have hck:=PK (P:=P) (k:=.i64) (a:=k) hki false 9999 w;cases hg:MA es k with
 | none=>
   rw[hg] at hfind;obtain ⟨h1,h2,h3⟩:=hfind;have hre2:Tx Z (es++[(k,u)]) (entries.push { key:=.int .i64 k,val:=f y,born:=clock }).toList:=by
    rw[Array.toList_push]; exact hre.push hru clock
   obtain ⟨hR',hS⟩:=Mz hR hkb hb (clock+1) hre2;rw[h2];refine ⟨Z,undef,_,.inr ⟨?_,rfl⟩,Pv,hR',hS⟩;refine MD (by simp only[execOp,ho] <;> rfl) ?_;simp only[hfm,hfi,Instr.mapUpdate,za,yx hT,y9,J3 hh,hck,Instr.findKey,yx hki,h1,zf,NF hh]
 | some u0=>
   rw[hg] at hfind;obtain ⟨j,e',h1,h2,h3,h4,h5,h6,h7⟩:=hfind;rw[IN] at h1;have hre2:Tx Z (es.set j (k,u)) (entries.modify j fun e=>{ e with key:=.int .i64 k,val:=f y }).toList:=by
    rw[Array.toList_modify]; exact hre.set hru j
   obtain ⟨hR',hS⟩:=Mz hR hkb hb clock hre2;rw[h5];refine ⟨Z,undef,_,.inr ⟨?_,rfl⟩,Pv,hR',hS⟩;refine MD (by simp only[execOp,ho] <;> rfl) ?_;have he:entries[j]?=some e':=by simpa using h2
   have hks:(Instr.keyThatStays (.int .i64 k) (.int .i64 k)).run P w = .ok (.int .i64 k) w:=by
    simp[Instr.keyThatStays,Instr.sameBits]
   simp only[hfm,hfi,Instr.mapUpdate,za,yx hT,y9,J3 hh,hck,Instr.findKey,yx hki,h1,zf,he,Aa8,Aaz,h3,hks,NF hh]
end
end
end Go.AX
