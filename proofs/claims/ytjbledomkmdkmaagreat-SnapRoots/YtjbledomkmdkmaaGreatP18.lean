/- What the functions of side tables come to, on a table that was made.; Valid and Words, by what they come to.; A heap in memory, and what its looks com -/
import Derived.Test.YtjbledomkmdkmaaGreatP17
import Derived.Test.YtjbledomkmdkmaaGreatP11
set_option linter.unusedVariables false
set_option linter.unusedSimpArgs false
set_option linter.unusedSectionVars false
namespace Go.Proofs.YtjbledomkmdkmaaGreat
open Go Go.AX
noncomputable section
section
local instance xS:AA:=Ap
def rowOf (ws:List (BitVec 64)):List Value:=ws.map fun x=>.int .u64 (x.toNat:Int)
structure Dv (J:Aa) (tb wb e w:Nat) (ws:List (BitVec 64)):Prop where
 tab:J[tb]?=some (.cells [.int .i64 (e:Int),.int .i64 (w:Int),.slice (some ⟨wb,0,none⟩) ws.length ws.length] Mf true)
 row:J[wb]?=some (.cells (rowOf ws) Bq true)
 len:ws.length=(e*w+63)/64
 pos:0<e
 top:e<=4096
 okw:okW w
variable {J:Aa} {tb wb e w:Nat} {ws:List (BitVec 64)}
theorem Dv.uY (h:Dv J tb wb e w ws):Ak .i64 J tb 0=some (e:Int):=by
 simp[Ak,D5,h.tab,Bn]
theorem Dv.pD (h:Dv J tb wb e w ws):Ak .i64 J tb 1=some (w:Int):=by
 simp[Ak,D5,h.tab,Bn]
theorem Dv.xp (h:Dv J tb wb e w ws):AR J tb 2=some (some ⟨wb,0,none⟩,ws.length,ws.length):=by
 simp[AR,D5,h.tab,ED]
theorem Dv.xq (h:Dv J tb wb e w ws) {j:Nat} (hj:j<ws.length):Ak .u64 J wb j=some ((ws.getD j 0).toNat:Int):=by
 simp[Ak,D5,h.row,rowOf,Bn,yg hj]
theorem Dv.same {J':Aa} (h:Dv J tb wb e w ws) (h1:J'[tb]?=J[tb]?) (h2:J'[wb]?=J[wb]?):Dv J' tb wb e w ws:=
 ⟨by rw[h1]; exact h.tab,by rw[h2]; exact h.row,h.len,h.pos,h.top,h.okw⟩
theorem Af {α:Type} {l:List α} {i:Nat} {x:α} (h:l[i]?=some x):i<l.length:=by
 rcases zL i l.length with h' | h'
 ·exact h'
 ·rw[zg h'] at h; cases h
theorem Dv.lt (h:Dv J tb wb e w ws):tb<J.length/\wb<J.length:=by
 exact ⟨Af h.tab,Af h.row⟩
theorem Dv.app (τ:Aa) (h:Dv J tb wb e w ws):Dv (J++τ) tb wb e w ws:=
 h.same (AT h.lt.1) (AT h.lt.2)
theorem Vc (k:Nat) (h:Dv J tb wb e w ws):BB (k+1) (some ⟨tb,0,none⟩) J=some (.bool true,J):=by
 have hp:=h.pos;rw[RC];simp only[Y9,AI,h.uY,yl,IN,Option.isNone_some,yY,IT];simp only[show decide ((e:Int)>0)=true from by simp; omega]
theorem gC (k:Nat) (h:Dv J tb wb e w ws) (i:Int):EC (k+2) (some ⟨tb,0,none⟩) i J=some (.bool (decide (0<=i/\i<(e:Int))),J):=by
 rw[QX,Vc _ h];simp only[AI,Ao,IT,h.uY,yl];by_cases h0:0<=i
 ·simp[h0]
 ·simp[h0]
theorem cp (k:Nat) (h:Dv J tb wb e w ws):D0 (k+1) (some ⟨tb,0,none⟩) J=some (.int .i64 ((2 ^ w-1:Nat):Int),J):=by
 rw[RD];simp only[AI,h.pD,IN];rcases h.okw with rfl | rfl | rfl | rfl <;> rfl
theorem Dv.fit (h:Dv J tb wb e w ws) {j:Nat} (hj:j<e):j*w/64<ws.length/\j*w<32768:=by
 have hl:=h.len; have ht:=h.top;rcases h.okw with rfl | rfl | rfl | rfl <;> omega
theorem iA (k:Nat) (h:Dv J tb wb e w ws) {j:Nat} (hj:j<e):DU (k+2) (some ⟨tb,0,none⟩) (j:Int) J=some (.int .i64 (CR w ws j:Int),J):=by
 obtain ⟨h1,h2⟩:=h.fit hj;have e1:Ar ((j:Int)*(w:Int))=((j*w:Nat):Int):=by rw[<- Adp]; exact Vw (by omega)
 have e2:((j*w:Nat):Int).tdiv 64=((j*w/64:Nat):Int):=rfl;have e3:((j*w:Nat):Int).tmod 64=((j*w % 64:Nat):Int):=rfl;have e4:Ar ((j*w/64:Nat):Int)=((j*w/64:Nat):Int):=Vw (by omega);rw[Ti];simp only[AI,IN,h.pD,h.xp,e1,e2,e3,e4,xQ,yH];rw[ym (by decide),yk (by omega)];simp only[h.xq h1,AI];rw[ym (by decide),ym (by omega)];simp only[AI,cp _ h,Ag,pb _ _ _ (Aaq _ (by decide:0<64)) h.okw];rfl
theorem gN (k:Nat) (h:Dv J tb wb e w ws) (i:Int):Dp (k+3) (some ⟨tb,0,none⟩) i J=some (.int .i64 (if 0<=i/\i<(e:Int) then (CR w ws i.toNat:Int) else -1),J):=by
 rw[Tg,gC _ h];simp only[AI,Ao];by_cases hi:0<=i/\i<(e:Int)
 ·obtain ⟨j,rfl⟩:∃ j:Nat,i=(j:Int):=⟨i.toNat,by omega⟩;simp only[hi,Acp,Abg,yp,By,ye,iA _ h (show j<e by omega),AI,Ag,xQ]
 ·simp only[hi,Adm,yY,IT,yq]
theorem pV (k:Nat) (h:Dv J tb wb e w ws) {j v:Nat} (hj:j<e):FO (k+2) (some ⟨tb,0,none⟩) (j:Int) (v:Int) J=some (.tuple #[],J.set wb (.cells (rowOf (Fm w ws j v)) Bq true)):=by
 obtain ⟨h1,h2⟩:=h.fit hj;have hrow:=h.row;have e1:Ar ((j:Int)*(w:Int))=((j*w:Nat):Int):=by rw[<- Adp]; exact Vw (by omega)
 have e2:((j*w:Nat):Int).tdiv 64=((j*w/64:Nat):Int):=rfl;have e3:((j*w:Nat):Int).tmod 64=((j*w % 64:Nat):Int):=rfl;have e4:Ar ((j*w/64:Nat):Int)=((j*w/64:Nat):Int):=Vw (by omega);rw[Tj];simp only[AI,IN,h.pD,h.xp,e1,e2,e3,e4,xQ,yH];rw[ym (by decide),yk (by omega)];simp only[h.xq h1,AI,cp _ h,Ag];rw[ym (by decide),ym (by omega),ym (by decide),ym (by omega),pW _ _ _ _ (Aaq _ (by decide:0<64))];simp only[CT,hrow];rw[yk (by simpa [rowOf] using h1)];simp only[AI,rowOf,Fm,List.map_set]
theorem Dv.put (h:Dv J tb wb e w ws) (hne:tb≠wb) (j v:Nat):Dv (J.set wb (.cells (rowOf (Fm w ws j v)) Bq true)) tb wb e w (Fm w ws j v) where
 tab:=by
  rw[yc (yW hne),h.tab,EW]
 row:=by rw[yo h.lt.2]
 len:=by rw[EW]; exact h.len
 pos:=h.pos
 top:=h.top
 okw:=h.okw
theorem XT (k:Nat) (h:Dv J tb wb e w ws) (v:Nat):∀ (n j:Nat),e<n+j->0<n->ES (k+2) n (some ⟨tb,0,none⟩) (v:Int) (j:Int) J =
  some (match Pk (CR w ws) e v j with | some i=>(.ret,[.int .i64 (i:Int),.int .i64 0],J) | none=>(.exit 0,[],J))
 | 0,j,hn,h0=>by omega
 | n+1,j,hn,h0=>by
   rw[OZ,Pk];simp only[AI,h.uY,IN,yl];by_cases hj:j<e
   ·have ht:=h.top;simp only[show decide ((j:Int)<(e:Int))=true from by simpa using hj,IT,iA _ h hj,AI,Ag,hj,dif_pos];by_cases hv:CR w ws j=v
    ·simp[hv]
    ·have hv':((CR w ws j:Int) == (v:Int))=false:=by simp; omega
     have e1:Ar ((j:Int)+1)=((j+1:Nat):Int):=Ah (by unfold AK; omega);simp only[hv',By,hv,yq,e1];exact XT k h v n (j+1) (by omega) (by omega)
   ·simp only[show decide ((j:Int)<(e:Int))=false from by simpa using hj,By,hj,dif_neg,not_false_iff]
theorem jF (k:Nat) (hk:5000<=k) (h:Dv J tb wb e w ws) (i:Int) (v:Nat) (hi:i<4294967296):Dz (k+3) (some ⟨tb,0,none⟩) i (v:Int) J =
  some (match Pk (CR w ws) e v i.toNat with | some j=>.tuple #[.int .i64 (j:Int),.int .i64 0] | none=>.tuple #[.int .i64 0,.int .i64 4],J):=by
 have ht:=h.top;have e0:(if (0:Int)>i then (0:Int) else i)=(i.toNat:Int):=by split <;> omega
 rw[RB,Vc _ h];simp only[AI,Ao,yp,By,e0];rw[XT k h v (k+2) i.toNat (by omega) (by omega)];cases Pk (CR w ws) e v i.toNat with
 | none=>simp
 | some j=>simp[Vv]
theorem XR (k:Nat) (h:Dv J tb wb e w ws) (v:Nat):∀ (n j:Nat),j<=e->j<n->ER (k+2) n (some ⟨tb,0,none⟩) (v:Int) ((j:Int)-1) J =
  some (match Ph (CR w ws) v j with | some i=>(.ret,[.int .i64 (i:Int),.int .i64 0],J) | none=>(.exit 0,[],J))
 | 0,j,hj,hn=>by omega
 | n+1,0,hj,hn=>by
   rw[KL,Ph];rfl
 | n+1,j+1,hj,hn=>by
   have ht:=h.top;rw[KL,Ph];have e1:((j+1:Nat):Int)-1=(j:Int):=by omega
   simp only[e1,show decide ((j:Int)>=0)=true from by simp,IT,iA _ h (show j<e by omega),AI,Ag];by_cases hv:CR w ws j=v
   ·simp[hv]
   ·have hv':((CR w ws j:Int) == (v:Int))=false:=by simp; omega
    have e2:Ar ((j:Int)-1)=(j:Int)-1:=Ah (by unfold AK; omega);simp only[hv',By,hv,yq,e2];exact XR k h v n j (by omega) (by omega)
theorem rF (k:Nat) (hk:5000<=k) (h:Dv J tb wb e w ws) (i:Int) (v:Nat):Hx (k+3) (some ⟨tb,0,none⟩) i (v:Int) J =
  some (match Ph (CR w ws) v (min i.toNat e) with | some j=>.tuple #[.int .i64 (j:Int),.int .i64 0] | none=>.tuple #[.int .i64 0,.int .i64 4],J):=by
 have ht:=h.top;have e0:Ar ((if (e:Int)<(if (0:Int)>i then (0:Int) else i) then (e:Int) else (if (0:Int)>i then (0:Int) else i))-1)=((min i.toNat e:Nat):Int)-1:=by
  rw[Ah (by unfold AK; split <;> split <;> omega)];split <;> split <;> omega
 rw[RA,Vc _ h];simp only[AI,Ao,yp,By,IN,h.uY,yl,e0];rw[XR k h v (k+2) (min i.toNat e) (Nat.min_le_right _ _) (by omega)];cases Ph (CR w ws) v (min i.toNat e) with
 | none=>simp
 | some j=>simp[Vv]
theorem qV (k:Nat) (h:Dv J tb wb e w ws) (v:Int):GQ (k+2) (some ⟨tb,0,none⟩) v J=some (.bool (decide (0<=v/\v<=((2 ^ w-1:Nat):Int))),J):=by
 rw[QY];by_cases h0:0<=v
 ·simp only[show decide (v>=0)=true from by simpa using h0,IT,cp _ h,AI,Ag];simp[h0]
 ·simp only[show decide (v>=0)=false from by simpa using h0,By,AI];simp[h0]
theorem dT (k:Nat) (h:Dv J tb wb e w ws) (v:Int) (c:Nat) (hc:BR J c 0=some (some ⟨tb,0,none⟩)):FB (k+3) v (some ⟨c,0,none⟩) J=some (.bool (!decide (0<=v/\v<=((2 ^ w-1:Nat):Int))),J):=by
 rw[O7];simp only[AI,hc,qV _ h,Ao]
theorem dU (k:Nat) (h:Dv J tb wb e w ws) (i v:Int) (vb:Nat) (hv:Ak .i64 J vb 0=some v) (hvb:vb<J.length):∃ τ,EB (k+8) (some ⟨tb,0,none⟩) i (some ⟨vb,0,none⟩,1,1) J =
  some (.int .i64 (if (0<=i/\i<(e:Int))/\(0<=v/\v<=((2 ^ w-1:Nat):Int)) then 0 else 1),J++τ):=by
 rw[QW];simp only[Ae];refine ⟨[.cells [.pointer (some ⟨tb,0,none⟩)] Kn true], ?_⟩
 ·have e1:∀ T,BR (J++[.cells [.pointer (some ⟨tb,0,none⟩)] T true]) J.length 0=some (some ⟨tb,0,none⟩):=by intro T; simp[BR,D5,HD]
  have h1:=fun o=>h.app [o];have e2:∀ o,Ak .i64 (J++[o]) vb 0=some v:=by intro o; rw[Jm _ _ _ hvb,hv]
  simp only[e1,AI,Vc _ (h1 _),gC _ (h1 _),Ao,yp,By];by_cases hi:0<=i/\i<(e:Int)
  ·simp only[hi,Acp,Abg,true_and,yp,By];rw[II,JL,Ez];simp only[show decide ((0:Int)<((1:Nat):Int))=true from rfl,IT,show ((0:Int)<=0/\(0:Int)<((1:Nat):Int))=True from by simp,ye,AI,Aau,zw,yl,e2];simp only[Mh,ye,dT _ (h1 _) v J.length (e1 _),AI,Ao];by_cases hv2:0<=v/\v<=((2 ^ w-1:Nat):Int)
   ·simp only[hv2,Acp,Abg,yp,By,ye];rw[Ez];rfl
   ·simp only[hv2,Adm,yY,IT,yq];rfl
  ·simp only[hi,Adm,yY,IT,false_and,yq,AI]
theorem Yi (k:Nat) (h:Dv J tb wb e w ws) {j v:Nat} (hj:j<e) (hv:v<2 ^ w):∃ τ,Bv (k+9) (some ⟨tb,0,none⟩) (j:Int) (v:Int) J =
  some (.int .i64 0,(J++τ).set wb (.cells (rowOf (Fm w ws j v)) Bq true)):=by
 have h1:=h.app [.cells [.int .i64 (v:Int)] Aj true];obtain ⟨τ,hc⟩:=dU k h1 (j:Int) (v:Int) J.length (by simp[Ak,D5,Bn]) (by simp);refine ⟨[.cells [.int .i64 (v:Int)] Aj true]++τ, ?_⟩;rw[Th];simp only[Ae];rw[hc,yk (by have:=Acs w; omega)];simp only[AI,Ag];rw[pV (k+6) (h1.app τ) hj];simp only[yr,By,AI,Gs,ya]
end
section
local instance yC:AA:=Ap
def valid (a b c:Int):Bool:=decide (0<=a/\a<=15/\0<=b/\b<=200/\0<=c/\c<=3/\(c=1->1<=a)/\(c=2->2<=a))
def words (a b c:Int):Int:=bif valid a b c then (2+a+b+1)/2*2 else 0
theorem Ma (k:Nat) (a b c:Int) (J:Aa):Xi (Ex (k+1) a b c J) J (.bool (valid a b c)):=by
 simp only[Xi,Xl,Ae,Bh,IN,yy,yB,AI,Ag,fK];refine ⟨_,zC some (Ac5 ?_ rfl)⟩;refine zC Value.bool ?_;unfold valid;rw[Acu];simp[Adh];omega
theorem OA (k:Nat) (a b c:Int) (J:Aa):Xi (G1 (k+2) a b c J) J (.int .i64 (words a b c)):=by
 unfold Xi;rw[Xm];simp only[Ae,Bh,IN,yy,yB,AI,Ag];rw[(Ma _ _ _ _ _).eq];simp only[AI,Ao,FU,yy,yB,Ag];unfold words;rcases Bool.eq_false_or_eq_true (valid a b c) with hv | hv
 rotate_left
 ·simp only[hv,yY,IT,By,ya];exact ⟨_,rfl⟩
 ·simp only[hv,yp,IT,By,ya];simp[valid] at hv;simp only[show ((2:Int)=0)=False from by simp,yq];refine ⟨_,zC some (Ac5 (zC (Value.int .i64) ?_) rfl)⟩;have hi:=hv;simp only[Ar];have e1:IntKind.i64.wrap (2+a)=2+a:=by rw[Aar]; omega
  have e2:IntKind.i64.wrap (2+a+b)=2+a+b:=by rw[Aar]; omega
  have e3:IntKind.i64.wrap (2+a+b+1)=2+a+b+1:=by rw[Aar]; omega
  rw[e1,e2,e3,Aav (by omega),Aar,Aar];omega
end
section
local instance xO:AA:=Ap
structure Cd where
 hb:Nat
 bl:Nat
 wd:Nat
 st:Nat
 sw:Nat
 pn:Nat
 pw:Nat
 pl:Nat
 fw:Nat
def Cd.l (i:Cd):List Nat:=[i.hb,i.bl,i.wd,i.st,i.sw,i.pn,i.pw,i.pl,i.fw]
structure HM where
 bls:List (Int × Int)
 wds:List Int
 stw:List (BitVec 64)
 pnw:List (BitVec 64)
 pl:List (Int × Int)
 fw:List (Int × Int)
 births:Int
def CB:List (Int × Int)->List Value
 | []=>[]
 | b::l=>.int .i64 b.1 :: .int .i64 b.2::CB l
def AZ (l:List Int):List Value:=l.map fun n=>.int .i64 n
def Q0 (l:List (Int × Int)):List (Int × Value):=l.map fun p=>(p.1,.int .i64 p.2)
structure Ai (J:Aa) (i:Cd) (m:HM):Prop where
 hp:J[i.hb]?=some (.cells [.slice (some ⟨i.bl,0,none⟩) m.bls.length m.bls.length,.slice (some ⟨i.wd,0,none⟩) m.wds.length m.wds.length,.pointer (some ⟨i.st,0,none⟩),.pointer (some ⟨i.pn,0,none⟩),.map (some i.pl),.map (some i.fw),.int .i64 m.births] Fo true)
 bl:J[i.bl]?=some (.cells (CB m.bls) Fz true)
 wd:J[i.wd]?=some (.cells (AZ m.wds) Da true)
 st:Dv J i.st i.sw (32*m.bls.length) 1 m.stw
 pn:Dv J i.pn i.pw (32*m.bls.length) 1 m.pnw
 pl:J[i.pl]?=some (.map (Q0 m.pl))
 fw:J[i.fw]?=some (.map (Q0 m.fw))
 nb:2<=m.bls.length
 nt:m.bls.length<=64
 wl:m.wds.length=64*m.bls.length
 nd:i.l.Nodup
 wi:∀ a,AK (m.wds.getD a 0)
structure Be (i:Cd) (J J':Aa):Prop where
 len:J.length<=J'.length
 same:∀ j,j<J.length->j ∉ i.l->J'[j]?=J[j]?
theorem Be.refl (i:Cd) (J:Aa):Be i J J:=⟨yj _,fun _ _ _=>rfl⟩
theorem Be.trans {i:Cd} {a b c:Aa} (h:Be i a b) (g:Be i b c):Be i a c:=
 ⟨zj h.len g.len,fun j h1 h2=>(g.same j (yG h1 h.len) h2).trans (h.same j h1 h2)⟩
theorem Be.app (i:Cd) (J τ:Aa):Be i J (J++τ):=⟨by simp,fun j h _=>AT h⟩
theorem Be.set {i:Cd} {b:Nat} (J:Aa) (o:Au) (h:b ∈ i.l):Be i J (J.set b o):=
 ⟨by simp,fun j _ h2=>yc (fun e=>h2 (by rw[<- e]; exact h))⟩
variable {J:Aa} {i:Cd} {m:HM}
theorem Ai.lt (h:Ai J i m):∀ j ∈ i.l,j<J.length:=by
 intro j hj;simp only[Cd.l,yL,zE,Abo] at hj;rcases hj with rfl | rfl | rfl | rfl | rfl | rfl | rfl | rfl | rfl
 ·exact Af h.hp
 ·exact Af h.bl
 ·exact Af h.wd
 ·exact h.st.lt.1
 ·exact h.st.lt.2
 ·exact h.pn.lt.1
 ·exact h.pn.lt.2
 ·exact Af h.pl
 ·exact Af h.fw
theorem Ai.Aw {J':Aa} (h:Ai J i m) (hs:∀ j ∈ i.l,J'[j]?=J[j]?):Ai J' i m where
 hp:=by rw[hs _ (by simp[Cd.l])]; exact h.hp
 bl:=by rw[hs _ (by simp[Cd.l])]; exact h.bl
 wd:=by rw[hs _ (by simp[Cd.l])]; exact h.wd
 st:=h.st.same (hs _ (by simp[Cd.l])) (hs _ (by simp[Cd.l]))
 pn:=h.pn.same (hs _ (by simp[Cd.l])) (hs _ (by simp[Cd.l]))
 pl:=by rw[hs _ (by simp[Cd.l])]; exact h.pl
 fw:=by rw[hs _ (by simp[Cd.l])]; exact h.fw
 nb:=h.nb
 nt:=h.nt
 wl:=h.wl
 nd:=h.nd
 wi:=h.wi
theorem Ai.app (τ:Aa) (h:Ai J i m):Ai (J++τ) i m:=h.Aw fun j hj=>AT (h.lt j hj)
theorem Ai.GK (h:Ai J i m):AR J i.hb 0=some (some ⟨i.bl,0,none⟩,m.bls.length,m.bls.length):=by simp[AR,D5,h.hp,ED]
theorem Ai.E6 (h:Ai J i m):AR J i.hb 1=some (some ⟨i.wd,0,none⟩,m.wds.length,m.wds.length):=by simp[AR,D5,h.hp,ED]
theorem Ai.SE (h:Ai J i m):BR J i.hb 2=some (some ⟨i.st,0,none⟩):=by simp[BR,D5,h.hp,HD]
theorem Ai.ZJ (h:Ai J i m):BR J i.hb 3=some (some ⟨i.pn,0,none⟩):=by simp[BR,D5,h.hp,HD]
theorem Ai.ZV (h:Ai J i m):sx J i.hb 4=some (some i.pl):=by simp[sx,D5,h.hp,db]
theorem Ai.wv (h:Ai J i m):sx J i.hb 5=some (some i.fw):=by simp[sx,D5,h.hp,db]
theorem Ai.pz (h:Ai J i m):Ak .i64 J i.hb 6=some m.births:=by simp[Ak,D5,h.hp,Bn]
theorem Ai.pD (h:Ai J i m) {a:Nat} (ha:a<m.wds.length):Ak .i64 J i.wd a=some (m.wds.getD a 0):=by
 simp[Ak,D5,h.wd,AZ,Bn,yg ha]
theorem Iu:∀ l:List (Int × Int),(CB l).length=2*l.length
 | []=>rfl
 | b::l=>by simp[CB,Iu l]; omega
theorem Sw:∀ (l:List (Int × Int)) (b:Nat),b<l.length->(CB l)[2*b]?=some (.int .i64 (l.getD b (0,0)).1)/\(CB l)[2*b+1]?=some (.int .i64 (l.getD b (0,0)).2)
 | [],b,h=>by simp at h
 | x::l,0,h=>by simp[CB]
 | x::l,b+1,h=>by
   have:=Sw l b (by simpa using h);have e1:2*(b+1)=2*b+1+1:=by omega
   simp only[CB,e1,yB,List.getD_cons_succ];exact this
theorem Ai.Tq (h:Ai J i m) {b:Nat} (hb:b<m.bls.length):Ak .i64 J i.bl (b*2)=some (m.bls.getD b (0,0)).1/\Ak .i64 J i.bl (b*2+1)=some (m.bls.getD b (0,0)).2:=by
 obtain ⟨h1,h2⟩:=Sw m.bls b hb;rw[Abp] at h1 h2;simp[Ak,D5,h.bl,Bn,h1,h2]
abbrev AM (i:Cd):Option Addr:=some ⟨i.hb,0,none⟩
theorem IM (k:Nat) (h:Ai J i m):AJ (k+1) (AM i) J=some (.bool true,J):=by
 have:=h.nb;rw[SS];simp only[Y9,AI,yY,IT,IN,yl,h.GK];simp only[show decide (((m.bls.length:Nat):Int)>0)=true from by simp; omega]
theorem aj (k:Nat) (h:Ai J i m):CY (k+2) (AM i) J=some (.int .i64 m.births,J):=by
 rw[Q9,IM _ h];simp only[AI,Ao,yp,By,IN,h.pz]
def Start (m:HM) (j:Nat):Prop:=j<32*m.bls.length/\CR 1 m.stw j=1
instance (m:HM) (j:Nat):Decidable (Start m j):=inferInstanceAs (Decidable (_/\_))
def AU (m:HM) (a:Int):Bool:=decide (0<=a/\a.toNat % 2=0/\Start m (a.toNat/2))
theorem Rb (k:Nat) (h:Ai J i m) (a:Int) (ha:AK a):AQ (k+4) (AM i) a J=some (.bool (AU m a),J):=by
 rw[TZ,IM _ h];simp only[AI,Ao,IT];unfold AU;by_cases h0:0<=a
 ·obtain ⟨n,rfl⟩:∃ n:Nat,a=(n:Int):=⟨a.toNat,by omega⟩;simp only[show decide ((n:Int)>=0)=true from by simp,IT];rw[ym (by decide)];simp only[AI];have t1:(n:Int).tmod 2=((n % 2:Nat):Int):=rfl;have t2:(n:Int).tdiv 2=((n/2:Nat):Int):=rfl;rw[t1,t2];by_cases h1:n % 2=0
  ·have e1:(((n % 2:Nat):Int) == 0)=true:=by simp; omega
   simp only[e1,IT,IN,h.SE,AI];have e2:Ar ((n/2:Nat):Int)=((n/2:Nat):Int):=Ah (by unfold AK at *; omega);rw[ym (by decide)];simp only[e2,gN _ h.st,AI,Ag];congr 3;by_cases h2:n/2<32*m.bls.length
   ·rw[yk (by omega)];simp[Start,h1,h2];rw[Acu]; simp;rw[show ((n:Int)/2).toNat=n/2 from by omega]; omega
   ·rw[ym (by omega)];simp[Start,h2]
  ·have e1:(((n % 2:Nat):Int) == 0)=false:=by simp; omega
   simp only[e1,By,AI];simp[h1]
 ·simp[show decide (a>=0)=false from by simpa using h0,h0]
theorem Bd {a:Int} (h:AU m a=true):∃ j,a=((2*j:Nat):Int)/\Start m j:=by
 unfold AU at h;rw[zA] at h;exact ⟨a.toNat/2,by omega,h.2.2⟩
theorem Qg {j:Nat} (h:Start m j):AU m ((2*j:Nat):Int)=true:=by
 unfold AU;rw[zA];refine ⟨by omega,by omega, ?_⟩;rw[show (((2*j:Nat):Int)).toNat/2=j from by omega]; exact h
theorem MZ (k:Nat) (h:Ai J i m) (a:Int) (ha:AK a):Bu (k+5) (AM i) a J=some (.int .i64 (if AU m a then 0 else 4),J):=by
 rw[QD,IM _ h];simp only[AI,Ao,yp,By,Rb _ h a ha];cases AU m a <;> rfl
def NH (n:Int):Nat:=(words (n.tmod 16) ((n.tmod 4096).tdiv 16) (n.tdiv 4096)).toNat
def sz (m:HM) (j:Nat):Nat:=NH (m.wds.getD (2*j+1) 0)
theorem MX (a b c:Int):0<=words a b c/\words a b c<=218:=by
 unfold words;cases hv:valid a b c with
 | false=>simp
 | true=>
   simp[valid] at hv;simp only[IT];omega
theorem Wv (n:Int):NH n<=218:=by
 have:=MX (n.tmod 16) ((n.tmod 4096).tdiv 16) (n.tdiv 4096);unfold NH; omega
theorem da (n:Int):(NH n:Int)=words (n.tmod 16) ((n.tmod 4096).tdiv 16) (n.tdiv 4096):=by
 have:=MX (n.tmod 16) ((n.tmod 4096).tdiv 16) (n.tdiv 4096);unfold NH; omega
theorem Z7 (k:Nat) (n:Int) (hn:AK n) (J:Aa):∃ τ,G2 (k+1) n J=some (.agg #[.int .i64 (n.tmod 16),.int .i64 ((n.tmod 4096).tdiv 16),.int .i64 (n.tdiv 4096)],J++τ):=by
 rw[Xn];simp only[Ae];have e1:Ar ((n.tmod 4096).tdiv 16)=(n.tmod 4096).tdiv 16:=Ah (by unfold AK at *; have:=Aa0 n (show (0:Int)<4096 by decide); have h2:=Int.lt_tmod_of_pos n (show (0:Int)<4096 by decide); rw[show (n.tmod 4096).tdiv 16=(n.tmod 4096).tdiv 16 from rfl]; have:=Int.natAbs_tdiv_le_natAbs (n.tmod 4096) 16; omega);have e2:Ar (n.tdiv 4096)=n.tdiv 4096:=Ah (by unfold AK at *; have h3:(n.tdiv 4096).natAbs=n.natAbs/4096:=Int.natAbs_tdiv n 4096; omega);rw[ym (by decide),ym (by decide),ym (by decide),ym (by decide),e1,e2];simp[H2,M9,AP,KR]
theorem cW (k:Nat) (h:Ai J i m) {j:Nat} (hj:j<32*m.bls.length):∃ τ,Dn (k+3) (AM i) ((2*j:Nat):Int) J=some (.int .i64 (sz m j:Int),J++τ):=by
 have hw:=h.wl;have ht:=h.nt;have hn:=h.wi (2*j+1);obtain ⟨τ,hs⟩:=Z7 (k+1) (m.wds.getD (2*j+1) 0) hn J;obtain ⟨τ',hq⟩:=OA k ((m.wds.getD (2*j+1) 0).tmod 16) (((m.wds.getD (2*j+1) 0).tmod 4096).tdiv 16) ((m.wds.getD (2*j+1) 0).tdiv 4096) (J++τ);refine ⟨τ++τ', ?_⟩;have e1:Ar (((2*j:Nat):Int)+1)=((2*j+1:Nat):Int):=Ah (by unfold AK; omega);rw[SU];simp only[AI,IN,h.E6,e1,xQ,yH];rw[yk (by omega)];simp only[AI,h.pD (show 2*j+1<m.wds.length by omega),hs,HG,hq,Ag,ya];unfold sz;rw[da]
def YG (m:HM) (n:Nat):Option Nat:=
 match Ph (CR 1 m.stw) 1 (min (n/2+1) (32*m.bls.length)) with
 | none=>none
 | some j=>if 2*j+sz m j<=n then none else some j
def Pf (m:HM) (a:Int):Option Nat:=if 0<=a/\a<(m.wds.length:Int) then YG m a.toNat else none
theorem rk (k:Nat) (hk:5000<=k) (h:Ai J i m) (a:Int):∃ τ,HK (k+10) (AM i) a J =
  some (match Pf m a with | some j=>.tuple #[.int .i64 ((2*j:Nat):Int),.int .i64 0] | none=>.tuple #[.int .i64 0,.int .i64 4],J++τ):=by
 have hw:=h.wl;have ht:=h.nt;rw[SO];simp only[IM _ h,AI,Ao,yp,By];by_cases h0:0<=a;rotate_left
 ·refine ⟨[], ?_⟩;have:¬ (0<=a/\a<(m.wds.length:Int)):=by omega
  simp only[show decide (a<0)=true from by simp; omega,IT,AI,Pf,this,yq,yw]
 simp only[show decide (a<0)=false from by simp; omega,By,IN,h.E6,AI];by_cases h1:a<(m.wds.length:Int);rotate_left
 ·refine ⟨[], ?_⟩;have:¬ (0<=a/\a<(m.wds.length:Int)):=by omega
  simp only[show decide (a>=((m.wds.length:Nat):Int))=true from by simp; omega,IT,Pf,this,yq,yw]
 obtain ⟨n,rfl⟩:∃ n:Nat,a=(n:Int):=⟨a.toNat,by omega⟩;have t2:(n:Int).tdiv 2=((n/2:Nat):Int):=rfl;have e1:Ar ((n/2:Nat):Int)=((n/2:Nat):Int):=Ah (by unfold AK; omega);have e2:Ar (((n/2:Nat):Int)+1)=((n/2+1:Nat):Int):=Ah (by unfold AK; omega);simp only[show decide ((n:Int)>=((m.wds.length:Nat):Int))=false from by simp; omega,By,h.SE,AI,t2,e1,e2];rw[ym (by decide)];have hl:=rF (k+6) (by omega) h.st ((n/2+1:Nat):Int) 1;rw[show ((1:Nat):Int)=1 from rfl,xQ] at hl;rw[hl];simp only[Pf,YG,show (0<=(n:Int)/\(n:Int)<(m.wds.length:Int)) from ⟨h0,h1⟩,Abg,ye,xQ,AI];cases hq:Ph (CR 1 m.stw) 1 (min (n/2+1) (32*m.bls.length)) with
 | none=>
   refine ⟨[], ?_⟩;simp[Cp]
 | some j=>
   obtain ⟨q1,q2,_⟩:=Qh hq;obtain ⟨τ,hs⟩:=cW (k+6) h (show j<32*m.bls.length by omega);refine ⟨τ, ?_⟩;have e3:Ar (2*(j:Int))=((2*j:Nat):Int):=Ah (by unfold AK; omega);have hz:=Wv (m.wds.getD (2*j+1) 0);have e4:Ar (((2*j:Nat):Int)+(sz m j:Int))=((2*j+sz m j:Nat):Int):=Ah (by unfold AK; unfold sz; omega);simp only[Cp,yr,By,e3,hs,AI,Ag,e4];by_cases hc:2*j+sz m j<=n
   ·simp only[show decide ((n:Int)>=((2*j+sz m j:Nat):Int))=true from by simp; omega,IT,hc,ye]
   ·simp only[show decide ((n:Int)>=((2*j+sz m j:Nat):Int))=false from by simp; omega,By,hc,yq]
def getM (l:List (Int × Int)) (k:Int):Option Int:=(l.find? fun e=>k == e.1).map (·.2)
theorem du (k:Nat) (h:Ai J i m) (a:Int) (ha:AK a):CS (k+6) (AM i) a J=some (if AU m a then .tuple #[.int .i64 (m.wds.getD a.toNat 0),.int .i64 0] else .tuple #[.int .i64 0,.int .i64 4],J):=by
 have hw:=h.wl;rw[Ro];simp only[MZ _ h a ha,AI,Ag];cases hh:AU m a with
 | false=>rfl
 | true=>
   obtain ⟨j,rfl,hj,_⟩:=Bd hh;have hl:((2*j:Nat):Int).toNat<m.wds.length:=by omega
   simp only[ye,yr,By,IN,h.E6,AI];rw[yk (by omega)];simp only[AI,yH,IN,h.pD hl]
def IQ (m:HM) (b:Nat):Nat->Nat->Nat
 | 0,n=>n
 | f+1,n=>if (m.bls.getD b (0,0)).1=2/\b+n<m.bls.length/\(m.bls.getD (b+n) (0,0)).1=3 then IQ m b f (n+1) else n
theorem jr (k:Nat) (h:Ai J i m) {b:Nat} (hb:b<m.bls.length):∀ (f n:Nat),m.bls.length<=b+n+f->n<=m.bls.length->Ft k (f+1) (AM i) (b:Int) (n:Int) J=some (.exit 0,[.int .i64 (IQ m b f n:Int)],J):=by
 intro f;have ht:=h.nt
 induction f with
 | zero=>
   intro n hn hn2;rw[Lh];simp only[AI,IN,yl,h.GK,xQ];rw[yk (by omega)];have e1:Ar ((b:Int)+(n:Int))=((b+n:Nat):Int):=Ah (by unfold AK; omega);simp only[AI,(h.Tq hb).1,e1,IQ];by_cases h2:(m.bls.getD b (0,0)).1=2
   ·have q2:((m.bls.getD b (0,0)).1 == 2)=true:=by simpa using h2
    have q3:decide (((b+n:Nat):Int)<((m.bls.length:Nat):Int))=false:=by simp; omega
    simp only[q2,IT,q3,By,AI]
   ·have:((m.bls.getD b (0,0)).1 == 2)=false:=by simpa using h2
    simp only[this,By,AI]
 | succ f ih=>
   intro n hn hn2;rw[Lh];simp only[AI,IN,yl,h.GK,xQ];rw[yk (by omega)];have e1:Ar ((b:Int)+(n:Int))=((b+n:Nat):Int):=Ah (by unfold AK; omega);have e2:Ar ((n:Int)+1)=((n+1:Nat):Int):=Ah (by unfold AK; omega);simp only[AI,(h.Tq hb).1,e1,e2,xQ];by_cases h2:(m.bls.getD b (0,0)).1=2
   ·have q2:((m.bls.getD b (0,0)).1 == 2)=true:=by simpa using h2
    simp only[q2,IT,AI];by_cases h3:b+n<m.bls.length
    ·simp only[show decide (((b+n:Nat):Int)<((m.bls.length:Nat):Int))=true from by simp; omega,IT,AI,h.GK];rw[yk (by omega)];simp only[AI,IN,yl,(h.Tq h3).1];by_cases h4:(m.bls.getD (b+n) (0,0)).1=3
     ·have q4:((m.bls.getD (b+n) (0,0)).1 == 3)=true:=by simpa using h4
      simp only[q4,IT,AI];rw[IQ,yk ⟨h2,h3,h4⟩];exact ih (n+1) (by omega) (by omega)
     ·have q4:((m.bls.getD (b+n) (0,0)).1 == 3)=false:=by simpa using h4
      simp only[q4,By,AI];rw[IQ,ym (by rintro ⟨_,_,h⟩; exact h4 h)]
    ·simp only[show decide (((b+n:Nat):Int)<((m.bls.length:Nat):Int))=false from by simp; omega,By,AI];rw[IQ,ym (by rintro ⟨_,h,_⟩; exact h3 h)]
   ·have q2:((m.bls.getD b (0,0)).1 == 2)=false:=by simpa using h2
    simp only[q2,By,AI];rw[IQ,ym (by rintro ⟨h,_⟩; exact h2 h)]
theorem UA (m:HM) (b:Nat):∀ (f g n:Nat),m.bls.length<=b+n+f->m.bls.length<=b+n+g->IQ m b f n=IQ m b g n
 | 0,0,n,_,_=>rfl
 | 0,g+1,n,h1,h2=>by
   rw[IQ,IQ,ym (by rintro ⟨_,h,_⟩; omega)]
 | f+1,0,n,h1,h2=>by
   rw[IQ,IQ,ym (by rintro ⟨_,h,_⟩; omega)]
 | f+1,g+1,n,h1,h2=>by
   rw[IQ,IQ];split
   ·exact UA m b f g (n+1) (by omega) (by omega)
   ·rfl
def Kr (m:HM) (b:Nat):Nat:=IQ m b m.bls.length 1
theorem kJ (k:Nat) (hk:100<=k) (h:Ai J i m) {b:Nat} (hb:b<m.bls.length):FF (k+1) (AM i) (b:Int) J=some (.int .i64 (Kr m b:Int),J):=by
 have ht:=h.nt;have hn:=h.nb;rw[SV];have:=jr k h hb (k-1) 1 (by omega) (by omega);rw[show k-1+1=k from by omega] at this;rw[show (1:Int)=((1:Nat):Int) from rfl,this];simp only[AI,ye,D7];unfold Kr;rw[UA m b (k-1) m.bls.length 1 (by omega) (by omega)]
def KX (m:HM) (hi:Nat) (but:Int):Nat->Nat->Bool
 | 0,_=>true
 | f+1,x=>if x<hi then (match Pf m (x:Int) with
   | some o=>if ((2*o:Nat):Int)=but then KX m hi but f (x+2) else false
   | none=>KX m hi but f (x+2)) else true
theorem iu (k:Nat) (hk:5000<=k) (h:Ai J i m) (a wo:Nat) (but:Int) (ha:a<4096) (hwo:wo<=218):∀ (f x:Nat) (τ:Aa),a+wo<=x+2*f->x<=5000 ->
  ∃ τ',Ea (k+10) (f+1) (AM i) (a:Int) (wo:Int) but (x:Int) (J++τ)=some (if KX m (a+wo) but f x then (.exit 0,[],J++τ') else (.ret,[.int .i64 8],J++τ')):=by
 intro f;have e1:Ar ((a:Int)+(wo:Int))=((a+wo:Nat):Int):=Ah (by unfold AK; omega)
 induction f with
 | zero=>
   intro x τ h1 h2;refine ⟨τ, ?_⟩;rw[Lg];have q:decide ((x:Int)<((a+wo:Nat):Int))=false:=by simp; omega
   simp only[e1,q,By,KX,ye]
 | succ f ih=>
   intro x τ h1 h2;rw[Lg];by_cases hx:x<a+wo
   ·have q:decide ((x:Int)<((a+wo:Nat):Int))=true:=by simp; omega
    have e2:Ar ((x:Int)+2)=((x+2:Nat):Int):=Ah (by unfold AK; omega);obtain ⟨τ1,hF⟩:=rk k hk (h.app τ) (x:Int);obtain ⟨τ2,hih⟩:=ih (x+2) (τ++τ1) (by omega) (by omega);rw[<- ya] at hih;simp only[e1,e2,q,IT,hF,AI,KX,hx,ye];cases hq:Pf m (x:Int) with
    | none=>
      refine ⟨τ2, ?_⟩;simp only[Cp,show ((4:Int) == 0)=false from rfl,By,AI];exact hih
    | some o=>
      simp only[Cp,Adj,IT,AI];by_cases hb:((2*o:Nat):Int)=but
      ·refine ⟨τ2, ?_⟩;subst hb;simp only[yr,By,ye];exact hih
      ·refine ⟨τ++τ1, ?_⟩;have:(((2*o:Nat):Int) != but)=true:=by simpa using hb
       simp only[this,IT,hb,yq,ya,y8]
   ·refine ⟨τ, ?_⟩;have q:decide ((x:Int)<((a+wo:Nat):Int))=false:=by simp; omega
    simp only[e1,q,By,KX,hx,yq,ye]
theorem aG (m:HM) (hi:Nat) (but:Int):∀ (f g x:Nat),hi<=x+2*f->hi<=x+2*g->KX m hi but f x=KX m hi but g x
 | 0,0,_,_,_=>rfl
 | 0,g+1,x,h1,h2=>by rw[KX,KX,ym (by omega)]
 | f+1,0,x,h1,h2=>by rw[KX,KX,ym (by omega)]
 | f+1,g+1,x,h1,h2=>by
   rw[KX,KX];have:=aG m hi but f g (x+2) (by omega) (by omega);rw[this]
def KO (m:HM) (a:Int) (wo:Nat) (but:Int):Int:=
 if ¬ (0<=a/\a<(m.wds.length:Int)/\a.toNat % 2=0) then 1 else
 let b:=a.toNat/64
 if wo<=32 then (if (m.bls.getD b (0,0)).1≠1\/(a.toNat+wo-1)/64≠b then 5 else if KX m (a.toNat+wo) but 200 a.toNat then 0 else 8)
 else if (m.bls.getD b (0,0)).1≠2\/a.toNat % 64≠0\/Kr m b≠(wo+63)/64 then 5 else if KX m (a.toNat+wo) but 200 a.toNat then 0 else 8
theorem sj (k:Nat) (hk:5000<=k) (h:Ai J i m) (a:Int) (wo:Nat) (but:Int) (h0:2<=wo) (hwo:wo<=218):∃ τ,HL (k+11) (AM i) a (wo:Int) but J=some (.int .i64 (KO m a wo but),J++τ):=by
 have hw:=h.wl;have ht:=h.nt;rw[SQ];simp only[AI,IN,h.GK,h.E6];by_cases g0:0<=a;rotate_left
 ·refine ⟨[], ?_⟩;simp only[show decide (a<0)=true from by simp; omega,IT,AI,KO,show ¬ (0<=a/\a<(m.wds.length:Int)/\a.toNat % 2=0) from by omega,zP,ye,yw]
 by_cases g1:a<(m.wds.length:Int);rotate_left
 ·refine ⟨[], ?_⟩;simp only[show decide (a<0)=false from by simp; omega,By,show decide (a>=((m.wds.length:Nat):Int))=true from by simp; omega,IT,AI,KO,show ¬ (0<=a/\a<(m.wds.length:Int)/\a.toNat % 2=0) from by omega,zP,ye,yw]
 obtain ⟨n,rfl⟩:∃ n:Nat,a=(n:Int):=⟨a.toNat,by omega⟩;have t1:(n:Int).tmod 2=((n % 2:Nat):Int):=rfl;have t2:(n:Int).tdiv 64=((n/64:Nat):Int):=rfl;have t3:(n:Int).tmod 64=((n % 64:Nat):Int):=rfl;have e1:Ar ((n/64:Nat):Int)=((n/64:Nat):Int):=Ah (by unfold AK; omega);have e2:Ar ((n:Int)+(wo:Int))=((n+wo:Nat):Int):=Ah (by unfold AK; omega);have e3:Ar (((n+wo:Nat):Int)-1)=((n+wo-1:Nat):Int):=by rw[Ah (by unfold AK; omega)]; omega
 have t4:(((n+wo-1:Nat):Int)).tdiv 64=(((n+wo-1)/64:Nat):Int):=rfl;have e4:Ar (((n+wo-1)/64:Nat):Int)=(((n+wo-1)/64:Nat):Int):=Ah (by unfold AK; omega);have e5:Ar ((wo:Int)+64)=((wo+64:Nat):Int):=Ah (by unfold AK; omega);have e6:Ar (((wo+64:Nat):Int)-1)=((wo+63:Nat):Int):=by rw[Ah (by unfold AK; omega)]; omega
 have t5:((wo+63:Nat):Int).tdiv 64=(((wo+63)/64:Nat):Int):=rfl;have e7:Ar (((wo+63)/64:Nat):Int)=(((wo+63)/64:Nat):Int):=Ah (by unfold AK; omega);simp only[show decide ((n:Int)<0)=false from by simp,By,show decide ((n:Int)>=((m.wds.length:Nat):Int))=false from by simp; omega,AI,t1,t2,t3,e1,e2,e3,t4,e4,e5,e6,t5,e7];rw[ym (by decide)];simp only[AI];by_cases g2:n % 2=0;rotate_left
 ·refine ⟨[], ?_⟩;have q:(((n % 2:Nat):Int) != 0)=true:=by simp; omega
  simp only[q,IT,KO,show ¬ (0<=(n:Int)/\(n:Int)<(m.wds.length:Int)/\(n:Int).toNat % 2=0) from by omega,zP,ye,yw]
 have q:(((n % 2:Nat):Int) != 0)=false:=by simp; omega
 have hb:n/64<m.bls.length:=by omega
 obtain ⟨τ,hl⟩:=iu k hk h n wo but (by omega) hwo (k+9) n [] (by omega) (by omega);have hm:KX m (n+wo) but (k+9) n=KX m (n+wo) but 200 n:=aG m _ but _ _ n (by omega) (by omega);rw[yw,hm] at hl;have hgood:(¬ (0<=(n:Int)/\(n:Int)<(m.wds.length:Int)/\(n:Int).toNat % 2=0))=False:=Ad0 (by omega);simp only[q,By,KO,hgood,yq];simp only[xQ];have tail:∀ (c:Bool),∃ τ',(if (Cc.normal:Cc) = .normal then (Ea (k+10) (k+10) (AM i) (n:Int) (wo:Int) but (n:Int) J).bind fun r23=>if r23.1 = .exit 0 then some (Value.int .i64 (0:Int),r23.2.2) else if r23.1 = .ret then Xf r23.2.1 fun n24=>some (.int .i64 n24,r23.2.2) else none else none)=some (.int .i64 (if KX m (n+wo) but 200 n=true then 0 else 8),J++τ'):=by
  intro c;refine ⟨τ, ?_⟩;rw[hl];cases KX m (n+wo) but 200 n <;> simp[D7]
 obtain ⟨τt,ht'⟩:=tail true;simp only[ye] at ht';have c64:((64:Int)=0)=False:=by simp
 have c1:(0<=((n/64:Nat):Int)/\((n/64:Nat):Int)<((m.bls.length:Nat):Int))=True:=zl (by omega);by_cases g3:wo<=32
 ·have q3:decide ((wo:Int)<=32)=true:=by simp; omega
  simp only[c64,yq,q3,IT,g3,ye,c1,AI,IN,yl,xQ,(h.Tq hb).1,h.GK];by_cases g4:(m.bls.getD (n/64) (0,0)).1=1
  ·simp only[g4,yr,By,ne_eq,Aah,Adg,AI];by_cases g5:(n+wo-1)/64=n/64
   ·simp only[g5,yr,By,AI,ye,Aah,yq];exact ⟨τt,ht'⟩
   ·have q5:((((n+wo-1)/64:Nat):Int) != ((n/64:Nat):Int))=true:=by simp; omega
    simp only[q5,IT,g5,zP,ye,AI];exact ⟨[],by simp[D7]⟩
  ·have q4:((m.bls.getD (n/64) (0,0)).1 != 1)=true:=zr.2 g4;simp only[q4,IT,ne_eq,g4,zP,true_or,ye,AI];exact ⟨[],by simp[D7]⟩
 ·have q3:decide ((wo:Int)<=32)=false:=by simp; omega
  simp only[c64,yq,q3,By,g3,ye,c1,AI,IN,yl,xQ,(h.Tq hb).1,h.GK];by_cases g4:(m.bls.getD (n/64) (0,0)).1=2
  ·simp only[g4,yr,By,ne_eq,Aah,Adg,AI];by_cases g5:n % 64=0
   ·have q5:(((n % 64:Nat):Int) != 0)=false:=by simp; omega
    simp only[q5,By,kJ (k+9) (by omega) h hb,AI,Ag];simp only[g5,Aah,Adg];by_cases g6:Kr m (n/64)=(wo+63)/64
    ·simp only[g6,yr,By,AI,ye,Aah,yq];exact ⟨τt,ht'⟩
    ·have q6:((Kr m (n/64):Int) != (((wo+63)/64:Nat):Int))=true:=by simp; omega
     simp only[q6,IT,g6,zP,ye,AI];exact ⟨[],by simp[D7]⟩
   ·have q5:(((n % 64:Nat):Int) != 0)=true:=by simp; omega
    simp only[q5,IT,g5,zP,true_or,ye,AI];exact ⟨[],by simp[D7]⟩
  ·have q4:((m.bls.getD (n/64) (0,0)).1 != 2)=true:=zr.2 g4;simp only[q4,IT,ne_eq,g4,zP,true_or,ye,AI];exact ⟨[],by simp[D7]⟩
end
section
local instance xK:AA:=Ap
theorem rh:GY P Aj=some 1:=by kernel_rfl
theorem qX:bytesOf P Aj=some 8:=by kernel_rfl
theorem nS:Fq P Aj=some (.int .i64 0):=by kernel_rfl
def Dt (lo:Nat) (J:Aa) (s:Bp) (l:List Int):Prop:=
 (l=[]/\s=(none,0,0)) \/ ∃ b,lo<=b/\s=(some ⟨b,0,none⟩,l.length,l.length)/\l≠[]/\J[b]?=some (.cells (AZ l) Aj true)
theorem C8 (l:List Int):(AZ l).length=l.length:=by simp[AZ]
theorem Lr (l l':List Int):AZ (l++l')=AZ l++AZ l':=by simp[AZ]
theorem Dt.app {lo:Nat} {J:Aa} {s:Bp} {l:List Int} (τ:Aa) (h:Dt lo J s l):Dt lo (J++τ) s l:=by
 rcases h with h | ⟨b,h1,h2,h3,h4⟩
 ·exact .inl h
 ·exact .inr ⟨b,h1,h2,h3,by rw[AT (Af h4),h4]⟩
theorem Dt.ld {lo:Nat} {J:Aa} {b c c':Nat} {l:List Int} (h:Dt lo J (some ⟨b,0,none⟩,c,c') l) {j:Nat} (hj:j<l.length):Ak .i64 J b j=some (l.getD j 0):=by
 rcases h with ⟨_,h⟩ | ⟨b',_,h2,_,h4⟩
 ·cases h
 ·cases h2;simp[Ak,D5,h4,AZ,Bn,yg hj]
theorem Dt.len {lo:Nat} {J:Aa} {s:Bp} {l:List Int} (h:Dt lo J s l):s.2.1=l.length:=by
 rcases h with ⟨rfl,rfl⟩ | ⟨b',_,rfl,_,_⟩ <;> rfl
theorem lI (J τ:Aa) (s:Bp) (l:List Int) (x:Int) (h:Nat) (hl:l.length<=10000) (hs:Dt J.length (J++τ) s l) (hx:∃ T rw,(J++τ)[h]?=some (.cells [.int .i64 x] T rw)):
  ∃ s' τ',AF P Aj s (some ⟨h,0,none⟩,1,1) (J++τ)=some (s',J++τ')/\Dt J.length (J++τ') s' (l++[x]):=by
 obtain ⟨T,rw',hx⟩:=hx;have hf:CQ (J++τ) 1 (some ⟨h,0,none⟩) 1=some [.int .i64 x]:=by simp[CQ,M9,hx]
 unfold AF La;simp only[rh,qX,nS,AI,hf];have hz:(¬ (Gi (.int .i64 0)=false/\some 1=some (Value.cells (.int .i64 0)).size/\0<(Value.cells (.int .i64 0)).size))=False:=by simp[Gi,Value.cells]
 simp only[hz,yq];rcases hs with ⟨rfl,rfl⟩ | ⟨b,hb,rfl,hne,hcell⟩
 ·have r:LR (0+1) 8/\0<8:=by unfold LR; decide
  simp only[show ¬ (0+1<=0) from by decide,yq,r,Abg,ye,Ie,IT,nR];refine ⟨_,τ++[.cells [.int .i64 x] Aj true],by rw[<- ya]; rfl,.inr ⟨(J++τ).length,by simp,rfl,by simp, ?_⟩⟩;rw[<- ya]; simp[AZ]
 ·have r:LR (l.length+1) 8/\0<8:=by
   unfold LR;refine ⟨⟨?_, ?_⟩,by decide⟩ <;> omega
  have hb2:=Af hcell;have e1:elemAt (J++τ) b=some 3:=by simp[elemAt,hcell]
  have e2:M9 (J++τ) b 0 (l.length*1)=some (AZ l):=by
   simp only[M9,hcell,C8,yH,IN,yj,ye,yV];rw[zp (by rw[C8]; exact yj _)]
  have e3:Il (J++τ) b=true:=by simp[Il,hcell]
  simp only[show ¬ (l.length+1<=l.length) from by omega,yq,r,Abg,ye,Ie,Aab,By,AI,e1,e2,e3,IT,nR];have hset:(J++τ).set b .dead=J++τ.set (b-J.length) .dead:=by
   rw[zS _ _ hb]
  refine ⟨_,τ.set (b-J.length) .dead++[.cells (AZ l++[.int .i64 x]) Aj true],by rw[hset,<- ya],.inr ⟨(J++τ).length,by simp,by simp,by simp, ?_⟩⟩;rw[<- ya,Lr];have:(J++τ).length=(J++τ.set (b-J.length) .dead).length:=by simp
  rw[this]; simp[AZ]
variable {J:Aa} {i:Cd} {m:HM}
def Oh (m:HM) (hi:Nat):Nat->Nat->List Int
 | 0,_=>[]
 | f+1,j=>match Pk (CR 1 m.stw) (32*m.bls.length) 1 j with
   | none=>[]
   | some j'=>if 2*j'<hi then ((2*j':Nat):Int)::Oh m hi f (j'+1) else []
theorem T0 (k:Nat) (hk:5000<=k) (h:Ai J i m) (hi:Nat):∀ (f:Nat) (n5:Option Nat) (τ:Aa) (s:Bp) (l:List Int),(match n5 with | none=>True | some j=>l.length<=j)->Dt J.length (J++τ) s l->(∀ j,n5=some j->j<32*m.bls.length) ->
  (match n5 with | none=>0 | some j=>32*m.bls.length-j)<f+1 ->
  ∃ τ' s',C6 (k+4) (f+1) (AM i) (hi:Int) s (match n5 with | none=>0 | some j=>(j:Int)) (match n5 with | none=>4 | some j=>0) (J++τ)=some (.exit 0,[.slice s'.1 s'.2.1 s'.2.2],J++τ') /\
   Dt J.length (J++τ') s' (l++(match n5 with | none=>[] | some j=>if 2*j<hi then ((2*j:Nat):Int)::Oh m hi f (j+1) else [])):=by
 have ht:=h.nt;intro f
 induction f with
 | zero=>
   intro n5 τ s l hl hs hj hf;cases n5 with
   | none=>
     refine ⟨τ,s, ?_,by simpa using hs⟩;rw[GX];rfl
   | some j=>
     have:=hj j rfl;simp only at hf;omega
 | succ f ih=>
   intro n5 τ s l hl hs hj hf;cases n5 with
   | none=>
     refine ⟨τ,s, ?_,by simpa using hs⟩;rw[GX];rfl
   | some j=>
     have hjl:=hj j rfl;obtain ⟨sa,sl,sc⟩:=s;have e1:Ar (2*(j:Int))=((2*j:Nat):Int):=Ah (by unfold AK; omega);have e2:Ar ((j:Int)+1)=((j+1:Nat):Int):=Ah (by unfold AK; omega);rw[GX];simp only[Adj,IT,e1,e2,AI];by_cases hlt:2*j<hi
     ·have q:decide (((2*j:Nat):Int)<(hi:Int))=true:=by simp; omega
      obtain ⟨s1,τ1,ha,hs1⟩:=lI J (τ++[.cells [.int .i64 ((2*j:Nat):Int)] Aj true]) (sa,sl,sc) l ((2*j:Nat):Int) (J++τ).length (by simp only at hl; omega) (by rw[<- ya]; exact hs.app _) ⟨3,true,by rw[<- ya]; simp⟩;rw[<- ya] at ha;have hn:=jF (k+1) (by omega) (h.app τ1).st ((j+1:Nat):Int) 1 (by omega);rw[xQ] at hn;have hn':Dz (k+4) (some ⟨i.st,0,none⟩) ((j+1:Nat):Int) 1 (J++τ1)=_:=hn;simp only[q,IT,Ae,ha,AI,IN,(h.app τ1).SE,hn',hlt,ye];cases hq:Pk (CR 1 m.stw) (32*m.bls.length) 1 (j+1) with
      | none=>
        obtain ⟨τ',s',g1,g2⟩:=ih none τ1 s1 (l++[((2*j:Nat):Int)]) trivial hs1 (fun _ h=>by cases h) (by simp);refine ⟨τ',s', ?_, ?_⟩
        ·simp only[Cp]; exact g1
        ·rw[Oh,hq]; simpa using g2
      | some j'=>
        obtain ⟨p1,p2,_,_⟩:=Qk hq;obtain ⟨τ',s',g1,g2⟩:=ih (some j') τ1 s1 (l++[((2*j:Nat):Int)]) (by simp only[yi,ze,zo] at hl ⊢; omega) hs1 (fun _ h=>by cases h; exact p2) (by simp only at hf ⊢; omega);refine ⟨τ',s', ?_, ?_⟩
        ·simp only[Cp]; exact g1
        ·rw[Oh,hq]; simpa using g2
     ·have q:decide (((2*j:Nat):Int)<(hi:Int))=false:=by simp; omega
      refine ⟨τ,(sa,sl,sc), ?_,by simpa [hlt] using hs⟩;simp only[q,By]
def D6 (m:HM) (lo n:Nat):List Nat:=(List.range' lo n).filter fun j=>decide (CR 1 m.stw j=1)
def CK (l:List Nat):List Int:=l.map fun j=>((2*j:Nat):Int)
theorem Zb (m:HM) (H:Nat) (hH:H<=32*m.bls.length):∀ (n f j:Nat),j+n=H->32*m.bls.length-j<=f->Oh m (2*H) f j=CK (D6 m j n)
 | 0,0,j,h1,h2=>rfl
 | 0,f+1,j,h1,h2=>by
   rw[Oh];cases hq:Pk (CR 1 m.stw) (32*m.bls.length) 1 j with
   | none=>rfl
   | some j'=>
     obtain ⟨p1,_⟩:=Qk hq;simp only[show ¬ 2*j'<2*H from by omega,yq];rfl
 | n+1,0,j,h1,h2=>by omega
 | n+1,f+1,j,h1,h2=>by
   have hj:j<32*m.bls.length:=by omega
   unfold D6;rw[Abe,zZ];by_cases hg:CR 1 m.stw j=1
   ·rw[Oh,Pk,dif_pos hj,yk hg];simp only[show 2*j<2*H from by omega,ye,hg,Acp];rw[Zb m H hH n f (j+1) (by omega) (by omega)];rfl
   ·have e1:Oh m (2*H) (f+1) j=Oh m (2*H) (f+1) (j+1):=by
     rw[Oh,Oh,Pk,dif_pos hj,ym hg]
    rw[e1,Zb m H hH n (f+1) (j+1) (by omega) (by omega)];simp only[hg,Adm,y8,yq];rfl
theorem Yt (k:Nat) (hk:5000<=k) (h:Ai J i m) (lo n:Nat) (hn:lo+n<=32*m.bls.length):∃ τ s,DZ (k+5) (AM i) ((2*lo:Nat):Int) ((2*(lo+n):Nat):Int) J=some (.slice s.1 s.2.1 s.2.2,J++τ)/\Dt J.length (J++τ) s (CK (D6 m lo n)):=by
 have ht:=h.nt;have t1:((2*lo:Nat):Int).tdiv 2=(lo:Int):=by
  rw[show ((2*lo:Nat):Int).tdiv 2=(((2*lo)/2:Nat):Int) from rfl]; omega
 have e1:Ar (lo:Int)=(lo:Int):=Ah (by unfold AK; omega);have hN:=jF (k+1) (by omega) h.st (lo:Int) 1 (by omega);rw[xQ] at hN;have hN':Dz (k+4) (some ⟨i.st,0,none⟩) (lo:Int) 1 J=_:=hN;rw[PN];simp only[AI,IN,h.SE,t1,e1,show ((2:Int)=0)=False from by simp,yq,hN'];have hlist:Oh m (2*(lo+n)) (k+4) lo=CK (D6 m lo n):=Zb m (lo+n) hn n (k+4) lo rfl (by omega);cases hq:Pk (CR 1 m.stw) (32*m.bls.length) 1 lo with
 | none=>
   obtain ⟨τ',s',g1,g2⟩:=T0 k hk h (2*(lo+n)) (k+3) none [] (none,0,0) [] trivial (.inl ⟨rfl,rfl⟩) (fun _ h=>by cases h) (by simp);rw[yw] at g1;refine ⟨τ',s', ?_, ?_⟩
   ·simp only[Cp];rw[show C6 (k+4) (k+4) (AM i) ((2*(lo+n):Nat):Int) (none,0,0) 0 4 J=_ from g1];simp only[AI,ye,GZ]
   ·rw[<- hlist,Oh,hq]; simpa using g2
 | some j=>
   obtain ⟨p1,p2,_,_⟩:=Qk hq;obtain ⟨τ',s',g1,g2⟩:=T0 k hk h (2*(lo+n)) (k+3) (some j) [] (none,0,0) [] (by simp) (.inl ⟨rfl,rfl⟩) (fun _ h=>by cases h; exact p2) (by simp only; omega);rw[yw] at g1;refine ⟨τ',s', ?_, ?_⟩
   ·simp only[Cp];rw[show C6 (k+4) (k+4) (AM i) ((2*(lo+n):Nat):Int) (none,0,0) (j:Int) 0 J=_ from g1];simp only[AI,ye,GZ]
   ·rw[<- hlist,Oh,hq]; simpa using g2
theorem TS (k:Nat) (hk:5000<=k) (h:Ai J i m) {b:Nat} (hb:b<m.bls.length):∃ τ s,BQ (k+6) (AM i) (b:Int) J=some (.slice s.1 s.2.1 s.2.2,J++τ)/\Dt J.length (J++τ) s (CK (D6 m (32*b) 32)):=by
 have ht:=h.nt;obtain ⟨τ,s,g1,g2⟩:=Yt k hk h (32*b) 32 (by omega);refine ⟨τ,s, ?_,g2⟩;have e1:Ar ((b:Int)*64)=((2*(32*b):Nat):Int):=by rw[Ah (by unfold AK; omega)]; omega
 have e2:Ar ((b:Int)+1)=((b+1:Nat):Int):=Ah (by unfold AK; omega);have e3:Ar (((b+1:Nat):Int)*64)=((2*(32*b+32):Nat):Int):=by rw[Ah (by unfold AK; omega)]; omega
 rw[Lf];have q1:decide ((b:Int)<0)=false:=by simp
 have q2:decide ((b:Int)>=((m.bls.length:Nat):Int))=false:=by simp; omega
 simp only[IM _ h,AI,Ao,yp,By,q1,IN,h.GK,q2,e1,e2,e3,g1,ED]
theorem bM (k:Nat) (hk:5000<=k) (h:Ai J i m):∃ τ s,BJ (k+6) (AM i) J=some (.slice s.1 s.2.1 s.2.2,J++τ)/\Dt J.length (J++τ) s (CK (D6 m 0 (32*m.bls.length))):=by
 have ht:=h.nt;have hw:=h.wl;obtain ⟨τ,s,g1,g2⟩:=Yt k hk h 0 (32*m.bls.length) (by omega);refine ⟨τ,s, ?_,g2⟩;rw[TY];have e1:((m.wds.length:Nat):Int)=((2*(0+32*m.bls.length):Nat):Int):=by omega
 simp only[IM _ h,AI,Ao,yp,By,IN,h.E6,e1];rw[show (0:Int)=((2*0:Nat):Int) from rfl,show (32*m.bls.length)=0+32*m.bls.length from by omega,g1];simp only[AI,ED]
end
section
def num (r d k:Int):Int:=r+16*d+4096*k
theorem Je {r d k:Int} (h:valid r d k=true):(num r d k).tmod 16=r/\((num r d k).tmod 4096).tdiv 16=d/\(num r d k).tdiv 4096=k/\AK (num r d k):=by
 simp[valid] at h;unfold num AK;have h0:0<=r+16*d+4096*k:=by omega
 rw[Ab2 h0,Ab2 h0,Aav h0,Aav (by omega)];omega
theorem Jp {r d k:Int} (h:valid r d k=true):NH (num r d k)=((2+r+d+1)/2*2).toNat:=by
 obtain ⟨h1,h2,h3,_⟩:=Je h;unfold NH words;rw[h1,h2,h3,h]; rfl
def Av (m:HM) (j:Nat):Int:=(m.wds.getD (2*j+1) 0).tmod 16
def Bf (m:HM) (j:Nat):Int:=((m.wds.getD (2*j+1) 0).tmod 4096).tdiv 16
def NR (k v:Int):List (Int × Int)->List (Int × Int)
 | []=>[(k,v)]
 | e::es=>if k == e.1 then (k,v)::es else e::NR k v es
def VT (k:Int):List (Int × Int)->List (Int × Int)
 | []=>[]
 | e::es=>if k == e.1 then es else e::VT k es
theorem aU (k v:Int):∀ l,MB k (.int .i64 v) (Q0 l)=Q0 (NR k v l)
 | []=>rfl
 | e::es=>by
   have:=aU k v es;simp only[Q0,zD,MB,NR] at this ⊢;split
   ·rfl
   ·rw[this]; rfl
theorem aT (k:Int):∀ l,Lu k (Q0 l)=Q0 (VT k l)
 | []=>rfl
 | e::es=>by
   have:=aT k es;simp only[Q0,zD,Lu,VT] at this ⊢;split
   ·rfl
   ·rw[this]; rfl
theorem N2 (k v k':Int):∀ l,getM (NR k v l) k'=if k'=k then some v else getM l k'
 | []=>by simp[getM,NR]
 | e::es=>by
   have ih:=N2 k v k' es;unfold NR;by_cases h:k=e.1
   ·have hb:(k == e.1)=true:=by simpa using h
    simp only[hb,ye,getM,Aa7];by_cases hk:k'=k
    ·simp[hk]
    ·have h1:(k' == k)=false:=by simpa using hk
     have h2:(k' == e.1)=false:=by rw[<- h]; exact h1
     simp[h1,h2,hk]
   ·have hb:(k == e.1)=false:=by simpa using h
    simp only[hb,y8,yq,getM,Aa7] at ih ⊢;by_cases hk:k'=e.1
    ·have h1:(k' == e.1)=true:=by simpa using hk
     have h2:¬ k'=k:=by rw[hk]; exact fun e=>h e.symm
     simp[h1,h2]
    ·have h1:(k' == e.1)=false:=by simpa using hk
     simp only[h1];exact ih
def Q7:List (Int × Int)->Prop
 | []=>True
 | e::es=>getM es e.1=none/\Q7 es
theorem RZ (k v:Int):∀ l,Q7 l->Q7 (NR k v l)
 | [],_=>⟨rfl,trivial⟩
 | e::es,h=>by
   unfold NR;by_cases hk:k=e.1
   ·have hb:(k == e.1)=true:=by simpa using hk
    simp only[hb,ye];exact ⟨by simp only; rw[hk]; exact h.1,h.2⟩
   ·have hb:(k == e.1)=false:=by simpa using hk
    simp only[hb,y8,yq];refine ⟨?_,RZ k v es h.2⟩;rw[N2,ym (fun e=>hk e.symm)];exact h.1
theorem RN (k k':Int):∀ l,Q7 l->getM (VT k l) k'=if k'=k then none else getM l k'
 | [],_=>by simp[getM,VT]
 | e::es,h=>by
   have ih:=RN k k' es h.2;unfold VT;by_cases hk:k=e.1
   ·have hb:(k == e.1)=true:=by simpa using hk
    simp only[hb,ye];by_cases hq:k'=k
    ·rw[yk hq,hq,hk]; exact h.1
    ·have h2:(k' == e.1)=false:=by rw[<- hk]; simpa using hq
     rw[ym hq];simp only[getM,Aa7,h2]
   ·have hb:(k == e.1)=false:=by simpa using hk
    simp only[hb,y8,yq,getM,Aa7] at ih ⊢;by_cases hq:k'=e.1
    ·have h1:(k' == e.1)=true:=by simpa using hq
     have h2:¬ k'=k:=by rw[hq]; exact fun e=>hk e.symm
     simp[h1,h2]
    ·have h1:(k' == e.1)=false:=by simpa using hq
     simp only[h1];exact ih
theorem fD (k:Int):∀ l,Q7 l->Q7 (VT k l)
 | [],_=>trivial
 | e::es,h=>by
   unfold VT;by_cases hk:k=e.1
   ·have hb:(k == e.1)=true:=by simpa using hk
    simp only[hb,ye];exact h.2
   ·have hb:(k == e.1)=false:=by simpa using hk
    simp only[hb,y8,yq];refine ⟨?_,fD k es h.2⟩;rw[RN k _ es h.2,ym (fun e=>hk e.symm)];exact h.1
structure Inv (m:HM):Prop where
 good:∀ j,Start m j -> ∃ r d k,valid r d k=true/\m.wds.getD (2*j+1) 0=num r d k
 fit:∀ j,Start m j->2*j+sz m j<=m.wds.length
 apart:∀ j j',Start m j->Start m j'->j<j'->2*j+sz m j<=2*j'
 idn:∀ j,Start m j->1<=m.wds.getD (2*j) 0/\m.wds.getD (2*j) 0<=m.births/\getM m.pl (m.wds.getD (2*j) 0)=some ((2*j:Nat):Int)
 plc:∀ id a,getM m.pl id=some a -> ∃ j,a=((2*j:Nat):Int)/\Start m j/\m.wds.getD (2*j) 0=id
 brt:0<=m.births
 onc:Q7 m.pl
variable {m:HM}
theorem Inv.size (h:Inv m) {j:Nat} (hs:Start m j):2<=sz m j/\sz m j<=218/\sz m j % 2=0/\0<=Av m j/\0<=Bf m j/\2+Av m j+Bf m j<=(sz m j:Int):=by
 obtain ⟨r,d,k,hv,hn⟩:=h.good j hs;have h1:=Jp hv;obtain ⟨p1,p2,_,_⟩:=Je hv;unfold Av Bf sz;rw[hn,h1,p1,p2];simp[valid] at hv;omega
theorem Inv.SA (h:Inv m) {n j:Nat} (hs:Start m j) (h1:2*j<=n) (h2:n<2*j+sz m j):YG m n=some j:=by
 unfold YG;have hj:=hs.1;cases hq:Ph (CR 1 m.stw) 1 (min (n/2+1) (32*m.bls.length)) with
 | none=>exact absurd hs.2 (YZ hq j (by omega))
 | some j'=>
   obtain ⟨p1,p2,p3⟩:=Qh hq;have hs':Start m j':=⟨by omega,p2⟩;have:j'=j:=by
    rcases Aaa j' j with hlt | rfl | hlt
    ·exact absurd hs.2 (p3 j hlt (by omega))
    ·rfl
    ·have:=h.apart j j' hs hs' hlt;omega
   subst this;simp only[show ¬ 2*j'+sz m j'<=n from by omega,yq]
theorem iq {n j:Nat} (h:YG m n=some j):Start m j/\2*j<=n+1/\n<2*j+sz m j/\2*j<=n:=by
 unfold YG at h;split at h
 ·cases h
 ·rename_i j' hq;split at h
  ·cases h
  ·cases h;obtain ⟨p1,p2,p3⟩:=Qh hq;exact ⟨⟨by omega,p2⟩,by omega,by omega,by omega⟩
theorem SB {hi:Nat} {but:Int}:∀ {f x:Nat},KX m hi but f x=true->hi<=x+2*f -> ∀ t,x+2*t<hi -> ∀ o,Pf m ((x+2*t:Nat):Int)=some o->((2*o:Nat):Int)=but
 | 0,x,_,hf,t,ht=>by omega
 | f+1,x,h,hf,t,ht=>by
   intro o ho;rw[KX,yk (by omega)] at h;cases t with
   | zero=>
     rw[show x+2*0=x from by omega] at ho;rw[ho] at h;simp only at h;split at h
     ·assumption
     ·cases h
   | succ t=>
     have h':KX m hi but f (x+2)=true:=by
      split at h
      ·split at h
       ·exact h
       ·cases h
      ·exact h
     exact SB h' (by omega) t (by omega) o (by rw[show x+2+2*t=x+2*(t+1) from by omega]; exact ho)
theorem Z9 (m:HM) (b:Nat):∀ (f n:Nat),b+n<=m.bls.length->b+IQ m b f n<=m.bls.length
 | 0,n,h=>h
 | f+1,n,h=>by
   rw[IQ];split
   ·rename_i hc;exact Z9 m b f (n+1) (by omega)
   ·exact h
theorem Inv.fits (h:Inv m) (hw:m.wds.length=64*m.bls.length) {a:Int} {wo:Nat} {but:Int} (hwo:wo<=218) (h2:2<=wo) (hf:KO m a wo but=0):
  ∃ j,a=((2*j:Nat):Int)/\j<32*m.bls.length/\2*j+wo<=m.wds.length /\ ∀ o,Start m o->((2*o:Nat):Int)≠but->2*o+sz m o<=2*j\/2*j+wo<=2*o:=by
 unfold KO at hf;split at hf
 ·cases hf
 rename_i h0;have h0':0<=a/\a<(m.wds.length:Int)/\a.toNat % 2=0:=Aca.1 h0;obtain ⟨n,rfl⟩:∃ n:Nat,a=(n:Int):=⟨a.toNat,by omega⟩;rw[xQ] at hf h0';have hcore:KX m (n+wo) but 200 n=true/\n+wo<=m.wds.length:=by
  simp only at hf;split at hf
  ·split at hf
   ·cases hf
   ·rename_i hc;split at hf
    ·rename_i hl;refine ⟨hl, ?_⟩;have:(n+wo-1)/64=n/64:=by
      apply zk;intro hq; exact hc (.inr hq)
     omega
    ·cases hf
  ·split at hf
   ·cases hf
   ·rename_i hc;split at hf
    ·rename_i hl;refine ⟨hl, ?_⟩;have h1:n % 64=0:=by
      apply zk;intro hq; exact hc (.inr (.inl hq))
     have h2:Kr m (n/64)=(wo+63)/64:=by
      apply zk;intro hq; exact hc (.inr (.inr hq))
     have h3:=Z9 m (n/64) m.bls.length 1 (by omega);rw[show IQ m (n/64) m.bls.length 1=Kr m (n/64) from rfl,h2] at h3;omega
    ·cases hf
 obtain ⟨hl,hlen⟩:=hcore;refine ⟨n/2,by omega,by omega,by omega,fun o ho hne=>?_⟩;apply zk;intro hq;have hspec:=SB hl (by omega);have ho1:=ho.1;by_cases hle:2*o<=n
 ·refine hne (hspec 0 (by omega) o ?_);unfold Pf;rw[yk (by omega),xQ];exact h.SA ho (by omega) (by omega)
 ·refine hne (hspec (o-n/2) (by omega) o ?_);have e:n+2*(o-n/2)=2*o:=by omega
  have hz:=h.size ho;unfold Pf;rw[yk (by omega),e,xQ];exact h.SA ho (by omega) (by omega)
end
end
end Go.Proofs.YtjbledomkmdkmaaGreat
