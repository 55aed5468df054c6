/- append, copy, clear, delete.; append.; All operations that may write, but calls. -/
import Derived.Test.YtjbledomkmdkmaaGreatP2
set_option linter.unusedVariables false
set_option linter.unusedSimpArgs false
set_option linter.unusedSectionVars false
namespace Go.AX
open Go
noncomputable section
section
variable {ρ:Type} {P:Program} [AA]
theorem np {need L5 bytes:Nat} (h:L5<need) (hr:LR need bytes):¬ Builtin.nextslicecap need L5*bytes>2 ^ 48:=by
 have h1:=nextslicecap_le h;have h2:Builtin.nextslicecap need L5*bytes<=2*need*bytes:=zR _ h1;have h3:2*need*bytes=2*(need*bytes):=Nat.mul_assoc _ _ _;have:=hr.1;omega
section
variable {t t' ty E E':TypeId} {s by_ n l c:Nat} {base:Option Addr} {x:Value} {new L5:Array Value} {w w':World}
theorem J2 (ht:P.underlying t=some (.slice E)) (ht':P.underlying t'=some (.slice E')) (hs:GY P E=some s) (hlen:(Builtin.lenOf x).run P w = .ok n w)
  (hfit:l+n<=c) (hnew:(Builtin.firstCells s n x).run P w = .ok new w) (hst:(match base with | some a=>storeCells (a.add (l*s)) new.toList | none=>pure ()).run P w = .ok () w'):
  (Builtin.append_ #[t,t'] ty #[.slice base l c,x]).run P w = .ok (.slice base (l+n) c) w':=by
 cases base with
 | none=>
   simp only[zf] at hst;cases hst;simp[Builtin.append_,yx ht,yx ht',run_sizeOf hs,hlen,hfit,hnew]
 | some a=>
   simp only at hst;simp[Builtin.append_,yx ht,yx ht',run_sizeOf hs,hlen,hfit,hnew,hst]
theorem run_append_grow (ht:P.underlying t=some (.slice E)) (ht':P.underlying t'=some (.slice E')) (hs:GY P E=some s) (hby:bytesOf P E=some by_) (hlen:(Builtin.lenOf x).run P w = .ok n w)
  (hfit:¬ l+n<=c) (hroom:LR (l+n) by_) (hb0:0<by_) (z:Value) (hz:Fq P E=some z)
  (hold:(Builtin.firstCells s l (.slice base l c)).run P w.drew = .ok L5 w.drew) (hnew:(Builtin.firstCells s n x).run P w.drew = .ok new w.drew):
  ∃ cap rest,l+n<=cap/\rest=Builtin.zeroCells z.cells (cap-(l+n)) /\
   (Builtin.append_ #[t,t'] ty #[.slice base l c,x]).run P w = .ok (.slice (some ⟨w.heap.size,0,none⟩) (l+n) cap) (w.drew.alloc (.cells (L5++new++rest) E)):=by
 obtain ⟨hz1,hz2⟩:=J4 hz w.drew;have hcut:l+n<=grownCap w (l+n) c E:=by unfold grownCap; simp only[Question.cut]; omega
 refine ⟨_,_,hcut,rfl, ?_⟩;unfold bytesOf at hby;simp only[Option.map_eq_some_iff] at hby;obtain ⟨i,hi,hib⟩:=hby;have hrm:=np (L5:=c) (by omega) hroom;rw[<- hib] at hrm hb0;have hb0':i.bytes≠0:=by omega
 have h48':¬ (281474976710656<Builtin.nextslicecap (l+n) c*i.bytes):=by omega
 have hty:∀ w,(typeInfo E).run P w = .ok i w:=fun w=>by simp[typeInfo,hi]
 simp[Builtin.append_,yx ht,yx ht',run_sizeOf hs,hlen,hfit,hty,hb0',h48',Question.forced,hold,hnew,hz1,newRow,grownCap]
end
theorem H8 {Z:Mu} {J:Aa} {w:World} (hR:R P Z J w) {x:Option Addr} {l c m:Nat} {v':Value} (hv:RV Z (.slice x l c) v') {s:Nat} {new:List Value} (hm:m<=l) (h:CQ J s x m=some new):
  ∃ new',It Z new new'/\(Builtin.firstCells s m v').run P w = .ok new'.toArray w/\(Builtin.lenOf v').run P w = .ok l w/\(∀ v ∈ new,v.oneCell'=true)/\(x≠none->new.length=m*s):=by
 unfold CQ at h;cases hv with
 | sliceNil=>
   have hm0:m=0:=by omega
   subst hm0;simp at h;subst h;exact ⟨[],.nil,rfl,rfl,by simp,by simp⟩
 | @sliceZ a z y hz=>
   have hm0:m=0:=by omega
   subst hm0;simp only[zw] at h;obtain ⟨hlen,hld⟩:=Lt h;have:new=[]:=Acn hlen;subst this;refine ⟨[],.nil, ?_,rfl,by simp,by simp⟩;simp only[Builtin.firstCells,zw]; rfl
 | @slice a k _ _ c' hk hsp hl hc hm'=>
   simp only at h;obtain ⟨hlen,hld⟩:=Lt h;obtain ⟨vs',hr,hrun,hleaf⟩:=JB hR hk hlen hld;refine ⟨vs',hr, ?_,rfl,hleaf,fun _=>hlen⟩;simp only[Builtin.firstCells];exact hrun
 | @sliceEnd a k o' c' hk hsp hm'=>
   have hm0:m=0:=by omega
   subst hm0;simp only[zw] at h;obtain ⟨hlen,hld⟩:=Lt h;have:new=[]:=Acn hlen;subst this;refine ⟨[],.nil, ?_,rfl,by simp,by simp⟩;simp only[Builtin.firstCells,zw]; rfl
theorem Qp (cs:List Value) (o:Nat) (h:o<=cs.length):AP cs o []=cs:=by simp[AP]
theorem Sp {J:Aa} {b:Nat} {o:Au} (h:J[b]?=some o):J.set b o=J:=by
 apply zy;intro i;rw[z8];split
 ·rename_i he; subst he;obtain ⟨h1,h2⟩:=yu.1 h;simp[h1,h2]
 ·rfl
theorem gJ {J:Aa} {b:Nat} (h:Il J b=true):Az J b:=by
 unfold Il at h;unfold Az;split at h
 ·rename_i hb; subst h; rw[hb]; trivial
 ·rename_i hb; rw[hb]; trivial
 ·cases h
theorem Rj {J:Aa} {b:Nat} (h:Az J b):alive J b:=by
 unfold Az at h;split at h
 ·rename_i hb; exact ⟨_,hb,by simp⟩
 ·rename_i hb; exact ⟨_,hb,by simp⟩
 ·rename_i hb; exact ⟨_,hb,by simp⟩
 ·cases h
theorem R.qj {Z:Mu} {J:Aa} {w:World} (hR:R P Z J w) (hf:Z J.length=none) {b:Nat} {k:Ww} (hk:Z b=some k) {E:TypeId} {cs:List Value} (hb:J[b]?=some (.cells cs E true)) {off l n c' s:Nat} (hs:k.s=s)
  {L5 new new':List Value} (hold:M9 J b off (l*s)=some L5\/(L5=[]/\l=0)) (hnew:It Z new new') (hl:∀ v ∈ new,v.oneCell'=true) (hnl:new.length=n*s) (hfit:l+n<=c') (hm:off+c'*s<=k.m):
  ∃ w' Z',(storeCells ⟨k.b,k.o+off+l*s,none⟩ new').run P w = .ok () w'/\R P Z' (J.set b .dead++[.cells (L5++new) E true]) w'/\Step Z J w Z' (J.set b .dead++[.cells (L5++new) E true]) w' /\
   Z' J.length=some ⟨k.b,k.o+off,s,(l+n)*s,c'*s⟩:=by
 obtain ⟨c,T',fz,hx,h1,h2,h3,h4,h5,h6,h7⟩:=hR.obj _ _ _ hb hk;have hfz:=h5 rfl;subst hfz;have hvl:=hnew.length;have hmul:(l+n)*s<=c'*s:=zR _ hfit;have hadd:(l+n)*s=l*s+n*s:=Abd _ _ _;have hrun:=run_storeCells_at P k.b (k.o+off+l*s) T' new' 0 c w hx (by omega) (hnew.leaf hl);have hbl:b<J.length:=(yu.1 hb).1;have hal:alive J b:=⟨_,hb,by simp⟩;have hwr:Az J b:=by unfold Az; rw[hb]; trivial
 have e:(c.toList.take (k.o+off+l*s+0)++new'++c.toList.drop (k.o+off+l*s+0+new'.length)).toArray.toList=AP c.toList (k.o+off+l*s) new':=by simp[AP]
 have hlen:(AP c.toList (k.o+off+l*s) new').length=c.size:=by rw[Hk (by simp; omega)]; simp
 have hc:(w.setRow k.b (c.toList.take (k.o+off+l*s+0)++new'++c.toList.drop (k.o+off+l*s+0+new'.length)).toArray).heap[k.b]?=some (.cells _ T' (0,0)):=setRow_heap w k.b c _ T' _ hx;have hother:∀ b',b'≠k.b->(w.setRow k.b (c.toList.take (k.o+off+l*s+0)++new'++c.toList.drop (k.o+off+l*s+0+new'.length)).toArray).heap[b']?=w.heap[b']?:=fun b' hb'=>setRow_other w k.b b' _ hb';generalize hw':w.setRow k.b (c.toList.take (k.o+off+l*s+0)++new'++c.toList.drop (k.o+off+l*s+0+new'.length)).toArray=w' at *;have hsz:w'.heap.size=w.heap.size:=by rw[<- hw']; exact size_setRow _ _ _
 have ht:w'.tape=w.tape:=by rw[<- hw']; rfl
 have hos:w'.os=w.os:=by rw[<- hw']; rfl
 have hout:w'.output=w.output:=by rw[<- hw']; rfl
 have hle:Z.le (Z.put J.length ⟨k.b,k.o+off,s,(l+n)*s,c'*s⟩):=Mu.pE hf;have hsl:(J.set b .dead).length=J.length:=by simp
 refine ⟨w',Z.put J.length ⟨k.b,k.o+off,s,(l+n)*s,c'*s⟩,hrun,⟨?_, ?_, ?_⟩, ?_,Mu.Fl _ _ _⟩
 ·intro x o kx hx' hkx;by_cases hxl:x=J.length
  ·subst hxl;rw[Mu.Fl] at hkx; cases hkx;rw[yD (by omega),hsl,Aaf] at hx';simp only[yy,zQ] at hx';subst hx';rw[hc];have hol:L5.length=l*s:=by
    rcases hold with h | ⟨rfl,rfl⟩
    ·exact (Lt h).1
    ·simp
   refine ⟨_,T',(0,0),rfl,by rw[yi,hol,hnl,hadd],hmul, ?_,by rw[<- hs]; exact h4,fun _=>rfl, ?_, ?_⟩
   ·rw[<- zN,e,hlen]; simp only; omega
   ·intro v hv;rcases yf.1 hv with hv | hv
    ·rcases hold with h | ⟨rfl,rfl⟩
     ·obtain ⟨j,hj,hjv⟩:=Acv hv;have:=(Lt h).2 j v (by rw[yg hj,hjv]);obtain ⟨_,_,_,g⟩:=cell_of hR this hk;exact g
     ·simp at hv
    ·exact hl v hv
   ·rw[e];refine It.iR ?_ ?_
    ·rw[yi,hol,hnl,zx,zz,hlen]; simp only; omega
    ·intro i x x' hx1 hx2;simp only at hx2;have hi:i<(l+n)*s:=by
      have:=(yu.1 hx1).1;rw[yi,hol,hnl] at this; omega
     rw[zt,yk hi,zs,MW (by simp; omega)] at hx2;by_cases hil:i<l*s
     ·rw[AT (by omega)] at hx1;rw[yk (by omega)] at hx2;rcases hold with h | ⟨rfl,rfl⟩
      ·obtain ⟨y,hy,hr,_⟩:=cell_of hR ((Lt h).2 i x hx1) hk;simp only[World.cell?,hx] at hy;have hy':c.toList[k.o+(off+i)]?=some y:=by simpa using hy
       rw[show k.o+off+i=k.o+(off+i) by omega,hy'] at hx2;cases hx2;exact hr.mono hle
      ·simp at hx1
     ·rw[yD (by omega),hol] at hx1;rw[ym (by omega),yk (by omega),show k.o+off+i-(k.o+off+l*s)=i-l*s by omega] at hx2;obtain ⟨y,hy,hr⟩:=hnew.get _ x hx1;rw[hy] at hx2; cases hx2;exact hr.mono hle
  ·rw[Mu.F4 Z _ hxl] at hkx;have hxlt:x<J.length:=by
    have:=(yu.1 hx').1;simp at this; omega
   rw[AT (by omega)] at hx';by_cases hxb:x=b
   ·subst hxb;rw[yo hbl] at hx';cases hx'; trivial
   ·rw[yc (yW hxb)] at hx';by_cases hd:o = .dead
    ·subst hd; trivial
    ·have hne:kx.b≠k.b:=fun he=>hxb (hR.inj x b kx k hkx hk ⟨o,hx',hd⟩ hal (.inr hwr) he);rw[hother _ hne];exact (hR.obj x o kx hx' hkx).mono hle
 ·intro x kx hkx;by_cases hxl:x=J.length
  ·subst hxl; rw[Mu.Fl] at hkx; cases hkx; rw[hsz]; exact hR.lt b k hk
  ·rw[Mu.F4 Z _ hxl] at hkx; rw[hsz]; exact hR.lt x kx hkx
 ·have hal':∀ x,x≠J.length->alive (J.set b .dead++[.cells (L5++new) E true]) x->alive J x/\x≠b:=by
   intro x hxl ⟨o,ho,hd⟩;have hxlt:x<J.length:=by
    have:=(yu.1 ho).1;simp at this; omega
   rw[AT (by omega)] at ho;by_cases hxb:x=b
   ·subst hxb; rw[yo hbl] at ho; cases ho; exact absurd rfl hd
   ·rw[yc (yW hxb)] at ho; exact ⟨⟨o,ho,hd⟩,hxb⟩
  have hwal:∀ x,x≠J.length->x≠b->Az (J.set b .dead++[.cells (L5++new) E true]) x->Az J x:=by
   intro x hxl hxb hwx;have hwx:=LY (by simpa using hxl) hwx;unfold Az at hwx ⊢
   rwa [yc (yW hxb)] at hwx
  intro x y kx ky hx' hy' hax hay hww hxy;by_cases hxl:x=J.length <;> by_cases hyl:y=J.length
  ·omega
  ·subst hxl; rw[Mu.Fl] at hx'; cases hx';rw[Mu.F4 Z _ hyl] at hy';obtain ⟨g1,g2⟩:=hal' y hyl hay;exact absurd (hR.inj y b ky k hy' hk g1 hal (.inr hwr) hxy.symm) g2
  ·subst hyl; rw[Mu.Fl] at hy'; cases hy';rw[Mu.F4 Z _ hxl] at hx';obtain ⟨g1,g2⟩:=hal' x hxl hax;exact absurd (hR.inj x b kx k hx' hk g1 hal (.inr hwr) hxy) g2
  ·rw[Mu.F4 Z _ hxl] at hx';rw[Mu.F4 Z _ hyl] at hy';exact hR.inj x y kx ky hx' hy' (hal' x hxl hax).1 (hal' y hyl hay).1 (hww.imp (hwal x hxl (hal' x hxl hax).2) (hwal y hyl (hal' y hyl hay).2)) hxy
 ·refine ⟨by simp, ?_, ?_, ?_,by omega,ht,hos,hout, ?_⟩
  ·intro x hx'; exact Mu.F4 Z _ (by simp at hx'; omega)
  ·intro x hx' hwx;by_cases hxb:x=b
   ·subst hxb; exact hwr
   ·unfold Az at hwx ⊢
    rwa [AT (by omega),yc (yW hxb)] at hwx
  ·intro x kx hx1 hx2 hkx;have:x=J.length:=by simp at hx2; omega
   subst this;rw[Mu.Fl] at hkx; cases hkx;exact .inr ⟨b,k,hbl,hk,rfl,hwr⟩
  ·intro b' hb' hn;exact hother b' fun he=>hn b k hbl hk he.symm hwr
end
section
variable {ρ:Type} {P:Program} [AA]
theorem di (z:Array Value) (n:Nat) (hz:0<z.size):(Builtin.zeroCells z n).toList=rep n z.toList:=OM z n hz
theorem eJ {Z:Mu} {a:Option Addr} {l c:Nat} {d:Value} (hf:Ie a=true) (h:RV Z (.slice a l c) d):l=0/\c=0 /\ ∃ y,d = .slice y 0 0:=by
 cases h with
 | sliceNil=>exact ⟨rfl,rfl,_,rfl⟩
 | sliceZ y hz=>exact ⟨rfl,rfl,_,rfl⟩
 | slice hk hs _ _ _=>simp[Ie,hs] at hf
 | sliceEnd hk hs _=>simp[Ie,hs] at hf
theorem fu {a:Option Addr} (h:Ie a=false):∃ a0,a=some a0/\a0.spot=none:=by
 cases a with
 | none=>cases h
 | some a=>cases hs:a.spot with
   | none=>exact ⟨a,rfl,hs⟩
   | some z=>simp[Ie,hs] at h
theorem gW {E:TypeId} {t t' E' ty:TypeId} {a a':Option Addr} {l c l' c':Nat} {J:Aa} {K:Value->Aa->Option ρ} {r:ρ} (ht:P.underlying t=some (.slice E)) (ht':P.underlying t'=some (.slice E'))
  (h:La P E (a,l,c) (a',l',c') J K=some r):∃ v J',K v J'=some r/\J.length<=J'.length /\
   ∀ (Z:Mu) (w:World) (d x:Value),R P Z J w->GL Z J.length J'.length->RV Z (.slice a l c) d->RV Z (.slice a' l' c') x ->
    ∃ Z' v' w',(Builtin.append_ #[t,t'] ty #[d,x]).run P w = .ok v' w'/\RV Z' v v'/\R P Z' J' w'/\Step Z J w Z' J' w':=by
 unfold La at h;simp only[IS] at h;obtain ⟨s,hs,by_,hby,new,hnew,z,hz,h⟩:=h;split at h
 ·cases h
 rename_i hzz;have hzz:Gi z=false/\GY P E=some z.cells.size/\0<z.cells.size:=Aca.1 hzz;obtain ⟨hzt,hzs,hz0⟩:=hzz;rw[hs] at hzs;cases hzs;split at h
 ·rename_i hfit;cases hfx:Ie a with
  | true=>
    rw[hfx] at h;simp only[IT] at h;split at h
    ·rename_i hn0;refine ⟨_,J,h,yj _,fun Z w d x hR hfr hd hx=>?_⟩;obtain ⟨new',h1,h2,h3,h4,h5⟩:=H8 hR hx (yj _) hnew;have hl'0:l'=0:=by omega
     have hl0:l=0:=by omega
     subst hl'0; subst hl0;have hnil:new'=[]:=by
      cases a' with
      | none=>simp[CQ] at hnew; subst hnew; cases h1; rfl
      | some a'=>
        have:=h5 (by simp);simp at this; subst this; cases h1; rfl
     subst hnil;obtain ⟨_,rfl,y,rfl⟩:=eJ hfx hd;refine ⟨Z,.slice y (0+0) 0,w,J2 ht ht' hs h3 (by omega) h2 ?_,hd,hR,Step.refl _ _ _⟩;cases y <;> simp[storeCells]
    ·cases h
  | false=>
    rw[hfx] at h;obtain ⟨a0,rfl,hsp0⟩:=fu hfx;simp only[By,IS,zQ,exists_eq_left'] at h;obtain ⟨J',hst,h⟩:=h;obtain ⟨cs,T,hb,hlen,rfl⟩:=PA hst;refine ⟨_,_,h,by simp,fun Z w d x hR hfr hd hx=>?_⟩;obtain ⟨new',h1,h2,h3,h4,h5⟩:=H8 hR hx (yj _) hnew;cases hd with
    | @slice _ k _ _ c2 hk hsp hl hc hm=>
      obtain ⟨w',hrun,hR',hS⟩:=Kv hR hk hb h1 h4 hlen;refine ⟨Z,_,w',J2 ht ht' hs h3 (zj hfit hc) h2 ?_,.slice hk hsp hfit hc hm,hR',hS⟩;simp only[JV,<- zu] at hrun ⊢;exact hrun
    | @sliceEnd _ k o' c2 hk hsp hm=>
      have hl'0:l'=0:=by omega
      subst hl'0;have hnew0:new=[]/\new'=[]:=by
       cases a' with
       | none=>simp[CQ] at hnew; subst hnew; cases h1; exact ⟨rfl,rfl⟩
       | some a'=>
         have:=h5 (by simp);simp at this; subst this; cases h1; exact ⟨rfl,rfl⟩
      obtain ⟨rfl,rfl⟩:=hnew0;rw[Qp _ _ (by simpa using hlen),Sp hb];refine ⟨Z,_,w,J2 ht ht' hs h3 (by omega) h2 ?_,.sliceEnd hk hsp hm,hR,Step.refl _ _ _⟩;simp[storeCells]
    | sliceZ y hz=>rw[hsp0] at hz; cases hz
 ·rename_i hfit;split at h;rotate_left
  ·cases h
  rename_i hroom;obtain ⟨hroom,hb0⟩:=hroom;cases hfx:Ie a with
  | true=>
    rw[hfx] at h;simp only[IT] at h;split at h
    ·rename_i hl0;refine ⟨_,_,h,by simp,fun Z w d x hR hfr hd hx=>?_⟩;subst hl0;obtain ⟨new',h1,h2,h3,h4,h5⟩:=H8 (w:=w.drew) hR.drew hx (yj _) hnew;have h3':(Builtin.lenOf x).run P w = .ok l' w:=by
      cases hx <;> rfl
     have hl':new.length=l'*z.cells.size:=by
      cases a' with
      | none=>
        unfold CQ at hnew;simp only at hnew;split at hnew
        ·cases hnew; simp[*]
        ·cases hnew
      | some a'=>exact h5 (by simp)
     obtain ⟨_,rfl,y,rfl⟩:=eJ hfx hd;have hold:(Builtin.firstCells z.cells.size 0 (.slice y 0 0)).run P w.drew = .ok #[] w.drew:=by
      cases y with
      | none=>rfl
      | some a=>simp only[Builtin.firstCells,zw]; rfl
     obtain ⟨cap,rest,hcap,hrest,hrun⟩:=run_append_grow (ty:=ty) ht ht' hs hby h3' hfit hroom hb0 z hz hold h2;have hrl:rest.toList.length=(cap-l')*z.cells.size:=by rw[hrest]; simp[Builtin.zeroCells]
     have hnl':=h1.length;have hsum:l'*z.cells.size+(cap-l')*z.cells.size=cap*z.cells.size:=by
      rw[<- Abd]; congr 1; omega
     refine ⟨Z.put J.length ⟨w.heap.size,0,z.cells.size,l'*z.cells.size,cap*z.cells.size⟩,_,_,hrun, ?_, ?_,(Step.drew Z J w).trans (Step.alloc rfl)⟩
     ·rw[IN];refine RV.slice (a:=⟨J.length,0,none⟩) (Mu.Fl _ _ _) rfl (yj _) (by omega) (by simp)
     ·refine hR.drew.alloc (hfr _ (yj _) (by simp)) rfl ?_;refine ⟨_,E,(0,0),rfl,hl',by simp only; rw[<- hsum]; omega, ?_,(Jt hs).symm,fun _=>rfl,h4, ?_⟩
      ·simp only[Array.size_append,Array.size_empty,List.size_toArray,IN];have:rest.size=(cap-l')*z.cells.size:=by simpa using hrl
       omega
      ·simp only[Array.toList_append,yV,Array.toList_empty,Aac];rw[Aco (by omega),zp (by omega)];exact h1
    ·cases h
  | false=>
    rw[hfx] at h;obtain ⟨a0,rfl,hsp0⟩:=fu hfx;simp only[By,IS,zQ,exists_eq_left'] at h;split at h;rotate_left
    ·cases h
    rename_i hel;simp only[IS] at h;obtain ⟨L5,hold,h⟩:=h;cases hwb:Il J a0.block with
    | false=>rw[hwb] at h; cases h
    | true=>
      rw[hwb] at h;simp only[IT] at h;refine ⟨_,_,h,by simp,fun Z w d x hR hfr hd hx=>?_⟩;have hb:∃ cs,J[a0.block]?=some (.cells cs E true):=by
       unfold elemAt at hel;unfold Il at hwb;split at hel
       ·rename_i hq; cases hel; rw[hq] at hwb; simp only at hwb; subst hwb; exact ⟨_,hq⟩
       ·cases hel
      obtain ⟨cs,hb⟩:=hb;have hbl:a0.block<J.length:=(yu.1 hb).1;obtain ⟨new',h1,h2,h3,h4,h5⟩:=H8 hR hx (yj _) hnew;obtain ⟨new'',g1,g2,g3,g4,g5⟩:=H8 (w:=w.drew) hR.drew hx (yj _) hnew;have hl':new.length=l'*z.cells.size:=by
       cases a' with
       | none=>
         unfold CQ at hnew;simp only at hnew;split at hnew
         ·cases hnew; simp[*]
         ·cases hnew
       | some a'=>exact h5 (by simp)
      have hfresh:Z J.length=none:=hfr _ (yj _) (by simp);have hadd:(l+l')*z.cells.size=l*z.cells.size+l'*z.cells.size:=Abd _ _ _;have grow:∀ (d:Value) (y:Option Addr) (c2:Nat),d = .slice y l c2->¬ l+l'<=c2 -> ∀ (old':List Value),It Z L5 old'->(Builtin.firstCells z.cells.size l d).run P w.drew = .ok old'.toArray w.drew->(∀ v ∈ L5,v.oneCell'=true) ->
        ∃ Z' v' w',(Builtin.append_ #[t,t'] ty #[d,x]).run P w = .ok v' w'/\RV Z' (.slice (some ⟨J.length,0,none⟩) (l+l') (l+l')) v' /\
         R P Z' (J.set a0.block .dead++[Au.cells (L5++new) E true]) w'/\Step Z J w Z' (J.set a0.block .dead++[Au.cells (L5++new) E true]) w':=by
       intro d y c2 hdd hnf old' ho1 ho2 ho3;subst hdd;obtain ⟨cap,rest,hcap,hrest,hrun⟩:=run_append_grow (ty:=ty) ht ht' hs hby h3 hnf hroom hb0 z hz ho2 g2;have hrl:rest.size=(cap-(l+l'))*z.cells.size:=by rw[hrest]; simp[Builtin.zeroCells]
       have hol:=(Lt hold).1;have hol':=ho1.length;have hnl':=g1.length;have hsum:(l+l')*z.cells.size+(cap-(l+l'))*z.cells.size=cap*z.cells.size:=by
        rw[<- Abd]; congr 1; omega
       obtain ⟨k,hk⟩:∃ k,Z a0.block=some k:=by
        cases hd with
        | sliceZ y hz=>rw[hsp0] at hz; cases hz
        | slice hkk _ _ _ _=>exact ⟨_,hkk⟩
        | sliceEnd hkk _ _=>exact ⟨_,hkk⟩
       have hwr:Az J a0.block:=gJ hwb;have hR1:R P Z (J.set a0.block .dead) w.drew:=hR.drew.sZ hk (Rj hwr) hwr rfl (fun _ _=>rfl) trivial;have hS1:Step Z J w Z (J.set a0.block .dead) w.drew:=Step.sZ hk hbl hwr rfl rfl rfl rfl (fun _ _=>rfl);have hsl:(J.set a0.block .dead).length=J.length:=by simp
       refine ⟨Z.put J.length ⟨w.heap.size,0,z.cells.size,(l+l')*z.cells.size,cap*z.cells.size⟩,_,_,hrun, ?_, ?_,hS1.trans ?_⟩
       ·exact RV.slice (a:=⟨J.length,0,none⟩) (Mu.Fl _ _ _) rfl (yj _) (by omega) (by simp)
       ·rw[<- hsl];refine hR1.alloc (by rw[hsl]; exact hfresh) rfl ?_;refine ⟨_,E,(0,0),rfl,by rw[yi,hol,hl',hadd],by simp only; omega, ?_,(Jt hs).symm,fun _=>rfl, ?_, ?_⟩
        ·simp only[Array.size_append,List.size_toArray];omega
        ·intro v hv;rcases yf.1 hv with hv | hv
         ·exact ho3 v hv
         ·exact h4 v hv
        ·simp only[Array.toList_append,yV];rw[Aco (by rw[yi]; omega),zp (by rw[yi]; omega)];exact ho1.append g1
       ·rw[<- hsl]; exact Step.alloc rfl
      cases hd with
      | @slice _ k _ _ c2 hk hsp hl hc hm=>
        have hsz:=Qc hR hel hk;rw[Jt hs] at hsz;obtain ⟨hol,hold1⟩:=Lt hold;obtain ⟨old',ho1,ho2,ho3⟩:=JB hR.drew hk hol hold1;by_cases hfit2:l+l'<=c2
        ·obtain ⟨w',Z',hrun,hR',hS,hμ⟩:=hR.qj hfresh hk hb hsz (.inl hold) h1 h4 hl' hfit2 (by rw[hsz] at hm; exact hm);refine ⟨Z',_,w',J2 ht ht' hs h3 hfit2 h2 ?_, ?_,hR',hS⟩
         ·simp only[JV]; exact hrun
         ·exact RV.slice (a:=⟨J.length,0,none⟩) hμ rfl (yj _) hfit2 (by simp)
        ·exact grow _ _ _ rfl hfit2 old' ho1 (by simpa [Builtin.firstCells] using ho2) ho3
      | @sliceEnd _ k o' c2 hk hsp hm=>
        have hsz:=Qc hR hel hk;rw[Jt hs] at hsz;have holdn:L5=[]:=by
         have:=(Lt hold).1;simpa using this
        subst holdn;by_cases hfit2:0+l'<=c2
        ·obtain ⟨w',Z',hrun,hR',hS,hμ⟩:=hR.qj (off:=o') (l:=0) (L5:=[]) hfresh hk hb hsz (.inr ⟨rfl,rfl⟩) h1 h4 hl' hfit2 (by rw[hsz] at hm; exact hm);refine ⟨Z',_,w',J2 ht ht' hs h3 hfit2 h2 ?_, ?_,hR',hS⟩
         ·simp only[JV]; exact hrun
         ·exact RV.slice (a:=⟨J.length,0,none⟩) hμ rfl (yj _) hfit2 (by simp)
        ·exact grow _ _ _ rfl hfit2 [] .nil (by simp only[Builtin.firstCells,zw]; rfl) (by simp)
      | sliceZ y hz=>rw[hsp0] at hz; cases hz
theorem gX {E:TypeId} {t t' E' ty:TypeId} {a a':Option Addr} {l c l' c':Nat} {J:Aa} {r:Bp × Aa} (ht:P.underlying t=some (.slice E)) (ht':P.underlying t'=some (.slice E'))
  (h:AF P E (a,l,c) (a',l',c') J=some r):J.length<=r.2.length /\
   ∀ (Z:Mu) (w:World) (d x:Value),R P Z J w->GL Z J.length r.2.length->RV Z (.slice a l c) d->RV Z (.slice a' l' c') x ->
    ∃ Z' v' w',(Builtin.append_ #[t,t'] ty #[d,x]).run P w = .ok v' w'/\RV Z' (.slice r.1.1 r.1.2.1 r.1.2.2) v'/\R P Z' r.2 w'/\Step Z J w Z' r.2 w':=by
 obtain ⟨v,J',hK,hlen,hmain⟩:=gW (ty:=ty) ht ht' h;unfold nR at hK;split at hK
 ·cases hK; exact ⟨hlen,hmain⟩
 ·cases hK
end
section
variable {ρ:Type} {P:Program} [AA]
theorem RW {J:Aa} {s:Nat} {x:Option Addr} {new:List Value} (h:CQ J s x 0=some new):new=[]:=by
 unfold CQ at h;split at h
 ·have:=(Lt h).1; simpa using this
 ·simpa [eq_comm] using h
theorem iV {c:Call} {call:Gc} {q:Bool} {ty:TypeId} {e:Operand->Option Value} {J:Aa} {K:Value->Aa->Option ρ} {r:ρ} {o:Oper} (ho:o.op = .call c) (hb:c.callee = .builtin .append)
  (h:Ii P call q (.call c) ty e J K=some r):∃ v J',K v J'=some r/\J.length<=J'.length/\kX P o e J v J'/\(q=true->J <+: J'):=by
 simp only[Ii,hb] at h;obtain ⟨vs,h1,hvs⟩:=Lq h;clear h;simp only[Nl] at h1;unfold jL at h1;split at h1;rotate_left
 ·cases h1
 rename_i t t' a l c2 a' l' c' hts;split at h1;rotate_left
 ·cases h1
 rename_i E' ht';simp only[IS] at h1;obtain ⟨E,hE,rr,happ,hK⟩:=h1;obtain ⟨hlen,hmain⟩:=gX (ty:=o.type) (I0 hE) ht' happ;have hK':K (.slice rr.1.1 rr.1.2.1 rr.1.2.2) rr.2=some r/\(q=true->J <+: rr.2):=by
  cases q with
  | true=>
    simp only[Mt,IT] at hK;unfold G9 at hK;cases hq:AA.q J rr.2 with
    | true=>rw[hq] at hK; exact ⟨hK,fun _=>AA.ok hq⟩
    | false=>rw[hq] at hK; cases hK
  | false=>
    simp only[Mt,By] at hK;exact ⟨hK,fun h=>by cases h⟩
 refine ⟨_,_,hK'.1,hlen,fun Z w f hR hfr hf=>?_,hK'.2⟩;obtain ⟨cs,hex⟩:=Db (f:=f) ho hb;have hr:=hvs Z f hf;generalize c.args.toList.map f=lst at hr hex;cases hr with
 | cons hr1 hr2=>
   cases hr2 with
   | cons hr2 hr3=>
     cases hr3;obtain ⟨Z',v',w',hrun,g1,g2,g3⟩:=hmain Z w _ _ hR hfr hr1 hr2;refine ⟨Z',v',w',.inl ?_,g1,g2,g3⟩;rw[hex,toList_eq hts];simp only[builtin,za,hrun,y9,zf]
theorem ug {o:Oper} {c:Call} {b:Builtin} (ho:o.op = .call c) (hb:c.callee = .builtin b) (h:isApp o=true):b = .append:=by
 unfold isApp at h;rw[ho] at h;simp only[hb] at h;cases b <;> first | rfl | cases h
theorem Zi {c:Call} {b:Builtin} {call:Gc} {q:Bool} {ty:TypeId} {e:Operand->Option Value} {J:Aa} {K:Value->Aa->Option ρ} {r:ρ} {o:Oper} (ho:o.op = .call c) (hb:c.callee = .builtin b)
  (hna:b ≠ .append) (hc:ZO b (RQ P c.argTypes.toList) = .lo) (h:Ii P call q (.call c) ty e J K=some r):∃ v J',K v J'=some r/\J.length<=J'.length/\kX P o e J v J':=by
 simp only[Ii,hb] at h;obtain ⟨vs,h1,hvs⟩:=Lq h;clear h;cases b <;> simp only[ZO] at hc <;> first
  | (cases hc; done)
  | (simp only[Nl] at h1; first | (cases h1; done) | skip)
 case len=>cases hm:RQ P c.argTypes.toList <;> rw[hm] at hc <;> cases hc
 case append=>exact absurd rfl hna
 case copy=>
  unfold tr at h1;split at h1;rotate_left
  ·cases h1
  rename_i t t' a l c2 a' l' c' hts;simp only[IS] at h1;obtain ⟨E,hE,s,hs,new,hnew,J1_,hst0,h1⟩:=h1;have hT:=I0 hE;have run:∀ (Z:Mu) (w w':World) (f:Operand->Value) (base:Option Addr) (cc:Nat) (x:Value) (new':List Value),c.args.toList.map f=[.slice base l cc,x]->(Builtin.lenOf x).run P w = .ok l' w ->
    (Builtin.firstCells s (Nat.min l' l) x).run P w = .ok new'.toArray w->(match base with | some a=>storeCells a new' | none=>pure ()).run P w = .ok () w' ->
    (execOp f o).run P w = .ok (.value (.int .i64 (Nat.min l' l:Nat))) w':=by
   intro Z w w' f base cc x new' hargs hlen hfirst hst;obtain ⟨cs,hex⟩:=Db (f:=f) ho hb;rw[hex,hargs,toList_eq hts];cases base with
   | none=>
     simp only[zf] at hst; cases hst;simp only[builtin,za,Builtin.copy_,Ach,yy,yB,yx hT,y9,hlen,run_sizeOf hs,hfirst,zf,goInt]
   | some a=>
     simp only at hst;simp only[builtin,za,Builtin.copy_,Ach,yy,yB,yx hT,y9,hlen,run_sizeOf hs,hfirst,zf,goInt,hst]
  cases a with
  | none=>
    simp only[wZ,zQ] at hst0;subst hst0;refine ⟨_,J,h1,yj _,fun Z w f hR hfr hf=>?_⟩;have hr:=hvs Z f hf;generalize hargs:c.args.toList.map f=lst at hr;cases hr with
    | cons hr1 hr2=>
      cases hr2 with
      | cons hr2 hr3=>
        cases hr3;cases hr1 with
        | sliceNil=>
          have hmin:Nat.min l' 0=0:=Nat.min_zero _;rw[hmin] at hnew;have hn:=RW hnew;subst hn;obtain ⟨new',g1,g2,g3,g4,g5⟩:=H8 hR hr2 (zh _) hnew;cases g1;refine ⟨Z,_,w,.inl (run Z w w f none 0 _ [] hargs g3 (by rw[hmin]; exact g2) rfl),.int _ _,hR,Step.refl _ _ _⟩
  | some a0=>
    simp only[wZ] at hst0;obtain ⟨cs,T,hbb,hlen,rfl⟩:=PA hst0;refine ⟨_,_,h1,by simp,fun Z w f hR hfr hf=>?_⟩;have hr:=hvs Z f hf;generalize hargs:c.args.toList.map f=lst at hr;cases hr with
    | cons hr1 hr2=>
      cases hr2 with
      | cons hr2 hr3=>
        cases hr3;obtain ⟨new',g1,g2,g3,g4,g5⟩:=H8 hR hr2 (Nat.min_le_left _ _) hnew;cases hr1 with
        | @slice _ k _ _ cc hk hsp hl hcc hm=>
          obtain ⟨w',hrun,hR',hS⟩:=Kv hR hk hbb g1 g4 hlen;exact ⟨Z,_,w',.inl (run Z w w' f _ cc _ new' hargs g3 g2 hrun),.int _ _,hR',hS⟩
        | @sliceEnd _ k o' cc hk hsp hm=>
          have hmin:Nat.min l' 0=0:=Nat.min_zero _;have hn:new=[]:=by rw[hmin] at hnew; exact RW hnew
          subst hn;cases g1;rw[Qp _ _ (by simpa using hlen),Sp hbb];exact ⟨Z,_,w,.inl (run Z w w f _ cc _ [] hargs g3 g2 rfl),.int _ _,hR,Step.refl _ _ _⟩
        | sliceZ y hz=>
          have hmin:Nat.min l' 0=0:=Nat.min_zero _;have hn:new=[]:=by rw[hmin] at hnew; exact RW hnew
          subst hn;cases g1;rw[Qp _ _ (by simpa using hlen),Sp hbb];exact ⟨Z,_,w,.inl (run Z w w f _ 0 _ [] hargs g3 g2 rfl),.int _ _,hR,Step.refl _ _ _⟩
 case clear=>
  unfold oT at h1;split at h1;rotate_left
  ·cases h1
  rename_i t v hts;split at h1
  ·rename_i kt E rr hT;simp only[IS] at h1;obtain ⟨es,hes,h1⟩:=h1;rcases rr with _ | r'
   ·refine ⟨_,J,h1,yj _,fun Z w f hR hfr hf=>?_⟩;obtain ⟨cs,hex⟩:=Db (f:=f) ho hb;have hr:=hvs Z f hf;generalize c.args.toList.map f=lst at hr hex;cases hr with
    | cons hr1 hr2=>
      cases hr2;rw[Pu hr1] at hex;refine ⟨Z,_,w,.inl ?_,.tuple .nil,hR,Step.refl _ _ _⟩;rw[hex,toList_eq hts];simp[builtin,Builtin.clear_,yx hT]
   ·simp only[fj] at hes;refine ⟨_,_,h1,by simp[jt],fun Z w f hR hfr hf=>?_⟩;obtain ⟨cs,hex⟩:=Db (f:=f) ho hb;have hr:=hvs Z f hf;generalize c.args.toList.map f=lst at hr hex;cases hr with
    | cons hr1 hr2=>
      cases hr2;obtain ⟨kb,hkb,hfm⟩:=Wp hr1;obtain ⟨entries,clock,hh,hre⟩:=We hR hes hkb;have hbb:J[r']?=some (.map es):=by
       unfold RS at hes;split at hes
       ·cases hes; assumption
       ·cases hes
      obtain ⟨hR',hS⟩:=Mz (entries2:=#[]) hR hkb hbb clock .nil;rw[hfm] at hex;refine ⟨Z,_,_,.inl ?_,.tuple .nil,hR',hS⟩;rw[hex,toList_eq hts];simp[builtin,Builtin.clear_,yx hT,J3 hh,NF hh]
  ·rename_i E a l c2 hT;simp only[IS] at h1;obtain ⟨z,hz,h1⟩:=h1;split at h1;rotate_left
   ·cases h1
   rename_i hzz;simp only[IS] at h1;obtain ⟨J',hst,h1⟩:=h1;split at hst
   ·rename_i hl0;subst hl0;cases hst;refine ⟨_,J,h1,yj _,fun Z w f hR hfr hf=>?_⟩;obtain ⟨cs,hex⟩:=Db (f:=f) ho hb;have hr:=hvs Z f hf;generalize c.args.toList.map f=lst at hr hex;cases hr with
    | cons hr1 hr2=>
      cases hr2;refine ⟨Z,_,w,.inl ?_,.tuple .nil,hR,Step.refl _ _ _⟩;rw[hex,toList_eq hts];cases hr1 with
      | sliceNil=>simp[builtin,Builtin.clear_,yx hT]
      | sliceZ=>simp[builtin,Builtin.clear_,yx hT]
      | slice=>simp[builtin,Builtin.clear_,yx hT]
      | sliceEnd=>simp[builtin,Builtin.clear_,yx hT]
   ·rename_i hl0;simp only[IS] at hst;obtain ⟨a0,ha0,hst⟩:=hst;subst ha0;obtain ⟨cs,T,hbb,hlen,rfl⟩:=PA hst;refine ⟨_,_,h1,by simp,fun Z w f hR hfr hf=>?_⟩;obtain ⟨cs',hex⟩:=Db (f:=f) ho hb;have hr:=hvs Z f hf;generalize c.args.toList.map f=lst at hr hex;cases hr with
    | cons hr1 hr2=>
      cases hr2;obtain ⟨hz1,hz2⟩:=J4 hz w;obtain ⟨g1,g2,g3⟩:=IU (RV.HE (Z:=Z) hz2) hzz.1;have hrep:=di z.cells l hzz.2;cases hr1 with
      | @slice _ k _ _ cc hk hsp hl hcc hm=>
        obtain ⟨w',hrun,hR',hS⟩:=Kv hR hk hbb (g1.rep l) (by
         intro v hv; simp only[AX.rep,zm,Abf] at hv; obtain ⟨l,⟨_,rfl⟩,hvl⟩:=hv; exact g2 v hvl) hlen;refine ⟨Z,_,w',.inl ?_,.tuple .nil,hR',hS⟩;rw[hex,toList_eq hts];have hne:l≠0:=hl0;rw[<- hrep] at hrun;cases l with
        | zero=>exact absurd rfl hl0
        | succ l=>simp[builtin,Builtin.clear_,yx hT,hz1,hrun]
      | sliceEnd=>exact absurd rfl hl0
      | sliceZ=>exact absurd rfl hl0
  ·cases h1
 case delete=>
  unfold jT at h1;split at h1;rotate_left
  ·cases h1
  rename_i t t' rr k hts;have hk64:∀ {kt},mF P kt=true -> ∀ (b:Bool) (w:World),(Instr.checkKey b 10000 kt (.int .i64 k)).run P w = .ok () w:=fun h b w=>PK (SD h) b 9999 w;split at h1
  ·rename_i rr _ _ kt E hT;split at h1;rotate_left
   ·cases h1
   rename_i hkt;simp only[IS] at h1;obtain ⟨es,hes,h1⟩:=h1;rcases rr with _ | r'
   ·refine ⟨_,J,h1,yj _,fun Z w f hR hfr hf=>?_⟩;obtain ⟨cs,hex⟩:=Db (f:=f) ho hb;have hr:=hvs Z f hf;generalize c.args.toList.map f=lst at hr hex;cases hr with
    | cons hr1 hr2=>
      cases hr2 with
      | cons hr2 hr3=>
        cases hr3;rw[Pu hr1,U5 hr2] at hex;refine ⟨Z,_,w,.inl ?_,.tuple .nil,hR,Step.refl _ _ _⟩;rw[hex,toList_eq hts];simp[builtin,Builtin.delete_,yx hT,hk64 hkt]
   ·simp only[fj] at hes;refine ⟨_,_,h1,by simp[jt],fun Z w f hR hfr hf=>?_⟩;obtain ⟨cs,hex⟩:=Db (f:=f) ho hb;have hr:=hvs Z f hf;generalize c.args.toList.map f=lst at hr hex;cases hr with
    | cons hr1 hr2=>
      cases hr2 with
      | cons hr2 hr3=>
        cases hr3;obtain ⟨kb,hkb,hfm⟩:=Wp hr1;obtain ⟨entries,clock,hh,hre⟩:=We hR hes hkb;have hbb:J[r']?=some (.map es):=by
         unfold RS at hes;split at hes
         ·cases hes; assumption
         ·cases hes
        rw[hfm,U5 hr2] at hex;have hki:=SD hkt;have hfind:=findNow_spec (k:=k) es entries.toList 0 hre;cases hg:MA es k with
        | none=>
          rw[hg] at hfind;obtain ⟨h1',h2,h3⟩:=hfind;obtain ⟨hR',hS⟩:=Mz (es2:=Lu k es) (entries2:=entries) hR hkb hbb clock (by rw[h3]; exact hre);refine ⟨Z,_,_,.inl ?_,.tuple .nil,hR',hS⟩;rw[hex,toList_eq hts];simp[builtin,Builtin.delete_,yx hT,J3 hh,hk64 hkt,Instr.findKey,yx hki,h1',NF hh]
        | some u=>
          rw[hg] at hfind;obtain ⟨j,e',h1',h2,h3,h4,h5,h6,h7⟩:=hfind;rw[IN] at h1';obtain ⟨hR',hS⟩:=Mz (es2:=Lu k es) (entries2:=entries.eraseIdxIfInBounds j) hR hkb hbb clock (by rw[h6,Array.toList_eraseIdxIfInBounds]; exact hre.erase j);refine ⟨Z,_,_,.inl ?_,.tuple .nil,hR',hS⟩;rw[hex,toList_eq hts];simp[builtin,Builtin.delete_,yx hT,J3 hh,hk64 hkt,Instr.findKey,yx hki,h1',NF hh]
  ·cases h1
end
end
end Go.AX
