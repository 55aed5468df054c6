/- The document's heap: what turns in memory; blocks are claimed, released, retagged.; The document's heap: blocks claimed, released, retagged.; The docu -/
import Derived.Test.YtjbledomkmdkmaaGreatP22
set_option linter.unusedVariables false
set_option linter.unusedSimpArgs false
set_option linter.unusedSectionVars false
namespace Go.Proofs.YtjbledomkmdkmaaGreat
open Go Go.AX
noncomputable section
local instance yX:AA:=Ap
section
variable {J:Aa} {m:HM} {t:RM} {i:RI}
def PB (om:List (Bp × Bp)):List Nat:=om.flatMap fun p=>hs p.1++hs p.2
theorem Mr (s:Bp):(hs s).Nodup:=by
 unfold hs;cases s.1 <;> simp
theorem RI.IP {j:Nat}:j ∈ i.l↔j=i.hb\/j ∈ hs i.bs\/j ∈ hs i.os\/j ∈ hs i.fs\/j ∈ PB i.om:=by
 unfold RI.l PB;simp only[yL,yf]
structure Sep (i:RI):Prop where
 hA:i.hb ∉ hs i.bs
 hB:i.hb ∉ hs i.os
 hC:i.hb ∉ hs i.fs
 hD:i.hb ∉ PB i.om
 AB:∀ a ∈ hs i.bs,a ∉ hs i.os
 AC:∀ a ∈ hs i.bs,a ∉ hs i.fs
 AD:∀ a ∈ hs i.bs,a ∉ PB i.om
 BC:∀ a ∈ hs i.os,a ∉ hs i.fs
 BD:∀ a ∈ hs i.os,a ∉ PB i.om
 CD:∀ a ∈ hs i.fs,a ∉ PB i.om
 D:(PB i.om).Nodup
theorem Sep.of (h:i.l.Nodup):Sep i:=by
 have h:(i.hb::(hs i.bs++(hs i.os++(hs i.fs++PB i.om)))).Nodup:=h;obtain ⟨h1,h2⟩:=Aa9.1 h;simp only[yf,Acr] at h1;obtain ⟨_,h3,h4⟩:=zv.1 h2;obtain ⟨_,h5,h6⟩:=zv.1 h3;obtain ⟨_,h7,h8⟩:=zv.1 h5;exact ⟨h1.1,h1.2.1,h1.2.2.1,h1.2.2.2,fun a ha hb=>h4 a ha a (yf.2 (.inl hb)) rfl,fun a ha hb=>h4 a ha a (yf.2 (.inr (yf.2 (.inl hb)))) rfl,fun a ha hb=>h4 a ha a (yf.2 (.inr (yf.2 (.inr hb)))) rfl,
  fun a ha hb=>h6 a ha a (yf.2 (.inl hb)) rfl,fun a ha hb=>h6 a ha a (yf.2 (.inr hb)) rfl,fun a ha hb=>h8 a ha a hb rfl,h7⟩
theorem Sep.nd (h:Sep i):i.l.Nodup:=by
 show (i.hb::(hs i.bs++(hs i.os++(hs i.fs++PB i.om)))).Nodup;refine Aa9.2 ⟨?_,zv.2 ⟨Mr _,zv.2 ⟨Mr _,zv.2 ⟨Mr _,h.D, ?_⟩, ?_⟩, ?_⟩⟩
 ·simp only[yf,Acr];exact ⟨h.hA,h.hB,h.hC,h.hD⟩
 ·intro a ha b hb e;subst e;exact h.CD a ha hb
 ·intro a ha b hb e;subst e;rcases yf.1 hb with hb | hb
  ·exact h.BC a ha hb
  ·exact h.BD a ha hb
 ·intro a ha b hb e;subst e;rcases yf.1 hb with hb | hb
  ·exact h.AB a ha hb
  ·rcases yf.1 hb with hb | hb
   ·exact h.AC a ha hb
   ·exact h.AD a ha hb
theorem Im.sep (h:Im J i t):Sep i:=Sep.of h.nd
theorem Ih {om:List (Bp × Bp)} {x b:Nat} (hx:x<om.length) (h:b ∈ hs om[x].1\/b ∈ hs om[x].2):b ∈ PB om:=
 Aa1.2 ⟨_,yU hx,yf.2 h⟩
theorem Mb {s:Bp} {q:Nat} (e:s.1=some ⟨q,0,none⟩):q ∈ hs s:=BN.2 ⟨_,e,rfl⟩
theorem IA {L:List Nat} {q b:Nat} {c:Au} (hq:q ∉ L) (hb:b ∈ L):(J.set q c)[b]?=J[b]?:=
 yc (fun e:q=b=>hq (by rw[e]; exact hb))
structure GM (i i':RI) (J J':Aa):Prop where
 len:J.length<=J'.length
 same:∀ j,j<J.length->j ∉ i.l->J'[j]?=J[j]?
 new:∀ j,j ∈ i'.l->j ∈ i.l\/J.length<=j
 hb:i'.hb=i.hb
theorem GM.refl (i:RI) (J:Aa):GM i i J J:=⟨yj _,fun _ _ _=>rfl,fun _ h=>.inl h,rfl⟩
theorem GM.app (i:RI) (J τ:Aa):GM i i J (J++τ):=⟨by simp,fun j hj _=>AT hj,fun _ h=>.inl h,rfl⟩
theorem GM.trans {a b c:Aa} {i i' i'':RI} (h:GM i i' a b) (g:GM i' i'' b c):GM i i'' a c:=by
 refine ⟨zj h.len g.len,fun j h1 h2=>?_,fun j hj=>?_,g.hb.trans h.hb⟩
 ·refine (g.same j (yG h1 h.len) fun hm=>?_).trans (h.same j h1 h2);rcases h.new j hm with h3 | h3
  ·exact h2 h3
  ·omega
 ·rcases g.new j hj with h1 | h1
  ·exact h.new j h1
  ·exact .inr (zj h.len h1)
theorem GM.set {q:Nat} (J:Aa) (c:Au) (h:q ∈ i.l):GM i i J (J.set q c):=
 ⟨by simp,fun j hj hn=>yc (fun e:q=j=>hn (by rw[<- e]; exact h)),fun _ h=>.inl h,rfl⟩
def EE (mm:Option (Value × Aa)) (J:Aa) (i:RI) (v:Value) (m':HM):Prop:=
 ∃ J' i' t',mm=some (v,J')/\Im J' i' t'/\PE m' t'/\Kw m'/\GM i i' J J'
theorem EE.same (h:RG J i m t) (hP:Kw m) (τ:Aa) {v:Value} {mm:Option (Value × Aa)} (he:mm=some (v,J++τ)):EE mm J i v m:=
 ⟨J++τ,i,t,he,h.at_.app τ,h.sim,hP,GM.app i J τ⟩
theorem EE.My (h:RG J i m t) (hP:Kw m) {v:Value} {mm:Option (Value × Aa)} (he:mm=some (v,J)):EE mm J i v m:=
 ⟨J,i,t,he,h.at_,h.sim,hP,GM.refl i J⟩
theorem Im.ft {Z:Aa} {i:RI} {t:RM} (bl:Cq An 2 Z i.bs t.bl.length (CB t.bl)) (ob:Cq Ab 8 Z i.os t.ob.length (D3 t.ob i.om)) (fw:XO Z i.fs t.fw) (ol:i.om.length=t.ob.length)
  (inn:∀ (x:Nat) (h:x<t.ob.length) (h':x<i.om.length),Eg Z i.om[x].1 t.ob[x].refs/\Eg Z i.om[x].2 t.ob[x].data) (sep:Sep i) (lt:∀ j ∈ i.l,j<Z.length):
  Im (Z.set i.hb (.cells [.slice i.bs.1 i.bs.2.1 i.bs.2.2,.slice i.os.1 i.os.2.1 i.os.2.2,.slice i.fs.1 i.fs.2.1 i.fs.2.2,.int .i64 t.born] CH true)) i t where
 hp:=yo (lt _ i.K1)
 bl:=bl.Aw fun a ha=>IA (sep.hA) (BN.2 ⟨a,ha,rfl⟩)
 ob:=ob.Aw fun a ha=>IA (sep.hB) (BN.2 ⟨a,ha,rfl⟩)
 fw:=fw.Aw fun a ha=>IA (sep.hC) (BN.2 ⟨a,ha,rfl⟩)
 ol:=ol
 inn:=fun x h h'=>⟨(inn x h h').1.Aw fun b hb=>IA (sep.hD) (Ih h' (.inl hb)),(inn x h h').2.Aw fun b hb=>IA (sep.hD) (Ih h' (.inr hb))⟩
 nd:=sep.nd
 lt:=fun j hj=>by rw[yZ]; exact lt j hj
theorem Im.kF (h:Im J i t) {q:Nat} (e:i.bs.1=some ⟨q,0,none⟩) (l':List (Int × Int)) (hl:l'.length=t.bl.length):Im (J.set q (.cells (CB l') An true)) i { t with bl:=l' }:=by
 have sep:=h.sep;have hq:=Mb e;have hlt:=h.lt q (RI.IP.2 (.inr (.inl hq)));refine { hp:=?_,bl:=?_,ob:=?_,fw:=?_,ol:=h.ol,inn:=?_,nd:=h.nd,lt:=fun j hj=>by rw[yZ]; exact h.lt j hj }
 ·rw[yc (fun e':q=i.hb=>sep.hA (by rw[<- e']; exact hq))]; exact h.hp
 ·have:=h.bl.form;rw[e] at this;exact .inr ⟨q,by rw[this,hl],zh _,by rw[Iu]; omega,yo hlt⟩
 ·exact h.ob.Aw fun a ha=>IA (sep.AB q hq) (BN.2 ⟨a,ha,rfl⟩)
 ·exact h.fw.Aw fun a ha=>IA (sep.AC q hq) (BN.2 ⟨a,ha,rfl⟩)
 ·intro x h1 h2;exact ⟨(h.inn x h1 h2).1.Aw fun b hb=>IA (sep.AD q hq) (Ih h2 (.inl hb)),(h.inn x h1 h2).2.Aw fun b hb=>IA (sep.AD q hq) (Ih h2 (.inr hb))⟩
theorem Im.va (h:Im J i t) {b:Nat} (hb:b<t.bl.length) (x y:Int):∃ q,i.bs.1=some ⟨q,0,none⟩/\H2 J q (b*2) [.int .i64 x,.int .i64 y]=some (J.set q (.cells (CB (t.bl.set b (x,y))) An true)) /\
  Im (J.set q (.cells (CB (t.bl.set b (x,y))) An true)) i { t with bl:=t.bl.set b (x,y) }/\GM i i J (J.set q (.cells (CB (t.bl.set b (x,y))) An true)):=by
 obtain ⟨q,e,l0,l1,hc⟩:=Qm h.bl hb;refine ⟨q,e, ?_,h.kF e _ (by simp),GM.set _ _ (RI.IP.2 (.inr (.inl (Mb e))))⟩;have:b*2+2<=(CB t.bl).length:=by rw[Iu]; omega
 simp only[H2,hc,ze,zo,IN,Nat.reduceAdd,this,ye,Sx _ _ _ _ hb]
theorem dO (l:List (Int × Int)) (b:Nat) (x:Int) (hb:b<l.length):(CB l).set (b*2) (.int .i64 x)=CB (l.set b (x,(l.getD b (0,0)).2)):=by
 rw[Sx _ _ _ _ hb];have h1:=(Sw l b hb).2;rw[Abp] at h1;have hlen:=Iu l;apply zy;intro p;unfold AP;by_cases hp:p=b*2
 ·subst hp;rw[yo (by omega),ya,yD (by simp; omega)];simp[zx,Abk (show b*2<=(CB l).length by omega)]
 ·rw[yc (yW hp),ya];by_cases h2:p<b*2
  ·rw[AT (by simp; omega),List.getElem?_take_of_lt h2]
  ·rw[yD (by simp; omega),zx,Abk (show b*2<=(CB l).length by omega)];by_cases h3:p=b*2+1
   ·subst h3;rw[h1,show b*2+1-b*2=1 from by omega];rfl
   ·rw[yD (by simp; omega),zs];congr 1;simp only[ze,zo];omega
theorem Im.wy (h:Im J i t) {b:Nat} (hb:b<t.bl.length) (x:Int):∃ q,i.bs.1=some ⟨q,0,none⟩/\AX.CT J q (b*2) (.int .i64 x)=some (J.set q (.cells (CB (t.bl.set b (x,(t.bl.getD b (0,0)).2))) An true)) /\
  Im (J.set q (.cells (CB (t.bl.set b (x,(t.bl.getD b (0,0)).2))) An true)) i { t with bl:=t.bl.set b (x,(t.bl.getD b (0,0)).2) }/\GM i i J (J.set q (.cells (CB (t.bl.set b (x,(t.bl.getD b (0,0)).2))) An true)):=by
 obtain ⟨q,e,l0,l1,hc⟩:=Qm h.bl hb;refine ⟨q,e, ?_,h.kF e _ (by simp),GM.set _ _ (RI.IP.2 (.inr (.inl (Mb e))))⟩;have:b*2<(CB t.bl).length:=by rw[Iu]; omega
 simp only[AX.CT,hc,this,ye,dO _ _ _ hb]
theorem WM (l:List (Int × Int)) (b c:Nat) (e:Int × Int):(l.set b e).getD c (0,0)=if c=b/\b<l.length then e else l.getD c (0,0):=by
 rw[yd,z8];by_cases h:b=c
 ·subst h;by_cases h2:b<l.length
  ·simp[h2]
  ·simp[h2]
 ·rw[ym h,ym (fun hh=>h hh.1.symm),yd]
theorem bX (b:Nat) (e:Int × Int):∀ (n x:Nat) (l:List (Int × Int)) (c:Nat),b+x+n<=l.length->(TW l b e n x).getD c (0,0)=if b+x<=c/\c<b+x+n then e else l.getD c (0,0)
 | 0,x,l,c,h=>by rw[TW,ym (by omega)]
 | n+1,x,l,c,h=>by
   rw[TW,bX b e n (x+1) _ c (by rw[yZ]; omega),WM];by_cases h1:b+(x+1)<=c/\c<b+(x+1)+n
   ·rw[yk h1,yk (show b+x<=c/\c<b+x+(n+1) by omega)]
   ·rw[ym h1];by_cases h2:c=b+x
    ·rw[yk ⟨h2,by omega⟩,yk (show b+x<=c/\c<b+x+(n+1) by omega)]
    ·rw[ym (show ¬ (c=b+x/\b+x<l.length) from fun hh=>h2 hh.1),ym (show ¬ (b+x<=c/\c<b+x+(n+1)) by omega)]
def FZ (m:HM):Prop:=∀ c,(m.bls.getD c (0,0)).1=0->(m.bls.getD c (0,0)).2=0
theorem SK {l:List (Int × Int)} {b:Nat} (hz:∀ c,(l.getD c (0,0)).1=0->(l.getD c (0,0)).2=0):∀ (n x:Nat),J5 l b n x=none ↔ ∀ c,x<=c->c<x+n->(l.getD (b+c) (0,0)).1=0
 | 0,x=>by simp[J5]; intro c h1 h2; omega
 | n+1,x=>by
   rw[J5];by_cases h:(l.getD (b+x) (0,0)).1=0
   ·rw[yk ⟨h,hz _ h⟩,SK hz n (x+1)];constructor
    ·intro g c h1 h2;by_cases e:c=x
     ·rw[e]; exact h
     ·exact g c (by omega) (by omega)
    ·intro g c h1 h2;exact g c (by omega) (by omega)
   ·rw[ym (fun hh=>h hh.1)];constructor
    ·intro g; cases g
    ·intro g; exact absurd (g x (yj _) (by omega)) h
end
section
variable {J:Aa} {m:HM} {t:RM} {i:RI}
theorem bw (k:Nat) (h:RG J i m t) (b:Int):EA (k+1) (Bx i) b J=some (.bool (decide (1<=b/\b<(m.bls.length:Int))),J):=by
 rw[QQ];by_cases h0:1<=b
 ·rw[xZ (show b>=1 from h0)];simp only[IT,AI,IN,yl,h.at_.GK,h.bn,h0,true_and]
 ·rw[xY (show ¬ b>=1 from h0),xY (fun hh=>h0 hh.1)];simp only[By,AI]
theorem bA (k:Nat) (y:Int) (J:Aa):H6 (k+1) y J=some (.bool (X0 y),J):=by
 rw[VO];unfold X0;by_cases h0:0<=y <;> simp[h0]
theorem mZ (k:Nat) (h:RG J i m t) (hP:Kw m) (hz:FZ m) (b s:Int):EE (FG (k+2) (Bx i) b s J) J i (.int .i64 (Bs m b 1 1 s 0 0).1) (Bs m b 1 1 s 0 0).2:=by
 have hnt:=h.nt;rw[QJ];simp only[MV k h,bw k h b,bA k s,AI,Ao,yp,By];unfold Bs;by_cases g0:1<=b/\b<(m.bls.length:Int);rotate_left
 ·rw[ym (fun hh=>g0 ⟨hh.1,hh.2.1⟩),xY g0];exact EE.My h hP (by simp only[yY,IT,AI])
 rw[xZ g0];simp only[yp,By,AI];cases hs:X0 s with
 | false=>
   rw[ym (fun hh=>by have:=hh.2.2.2.2; cases this)];exact EE.My h hP (by simp only[yY,IT])
 | true=>
   rw[yk ⟨g0.1,g0.2,by omega,by omega,rfl⟩];obtain ⟨n,rfl⟩:∃ n:Nat,b=(n:Int):=⟨b.toNat,by omega⟩;have hn:n<m.bls.length:=by omega
   obtain ⟨q,e,l0,l1,hc⟩:=Vl h hn;have qx:(0<=(n:Int)/\(n:Int)<((m.bls.length:Nat):Int))=True:=zl (by omega);simp only[yp,By,IN,yl,h.at_.GK,h.bn,AI,qx,ye,e,xQ,l0,show (1:Int).toNat=1 from rfl];have hu:J5 m.bls n 1 0=none↔(m.bls.getD n (0,0)).1=0:=by
    rw[SK hz];constructor
    ·intro g; exact g 0 (yj _) (by omega)
    ·intro g c h1 h2;rw[show c=0 from by omega]; exact g
   by_cases g1:(m.bls.getD n (0,0)).1=0
   ·rw[yk (hu.2 g1)];simp only[g1,yr,By];obtain ⟨q2,e2,e3,h3,k3⟩:=h.at_.va (b:=n) (by rw[h.bn]; exact hn) 1 s;have:q2=q:=by rw[e] at e2; cases e2; rfl
    subst this;refine ⟨_,i,_,by simp only[e3,AI],h3, ?_, ?_,k3⟩
    ·rw[h.sim.bl];have:(TW m.bls n (0,0) 1 0).set n (1,s)=m.bls.set n (1,s):=by
      show (m.bls.set (n+0) (0,0)).set n (1,s)=_;rw[yl,List.set_set]
     rw[this];exact h.sim.blocks _ (by simp)
    ·exact hP.blocks _ (by rw[yZ,Iw])
   ·rw[ym (fun hh=>g1 (hu.1 hh))];simp only[zr.2 g1,IT];exact EE.My h hP rfl
theorem TH (k:Nat) (h:RG J i m t) (hz:FZ m) {b c:Nat} (hbc:b+c<=m.bls.length):∀ (n x f:Nat),x+n=c->n<f->Ce k f (Bx i) (b:Int) (c:Int) ((b+x:Nat):Int) J=some (match J5 m.bls b n x with | none=>(.exit 0,[],J) | some _=>(.ret,[.int .i64 8],J))
 | 0,x,0,hx,hf=>by omega
 | 0,x,f+1,hx,hf=>by
   have hnt:=h.nt;rw[Ip];have w:Ar ((b:Int)+(c:Int))=((b+c:Nat):Int):=Ah (by unfold AK; omega);simp only[w,xY (show ¬ ((b+x:Nat):Int)<((b+c:Nat):Int) by omega),By,J5]
 | n+1,x,0,hx,hf=>by omega
 | n+1,x,f+1,hx,hf=>by
   have hnt:=h.nt;rw[Ip,J5];have w:Ar ((b:Int)+(c:Int))=((b+c:Nat):Int):=Ah (by unfold AK; omega);have w1:Ar (((b+x:Nat):Int)+1)=((b+(x+1):Nat):Int):=Ah (by unfold AK; omega);obtain ⟨q,e,l0,l1,hc⟩:=Vl h (b:=b+x) (by omega);have qx:(0<=((b+x:Nat):Int)/\((b+x:Nat):Int)<((m.bls.length:Nat):Int))=True:=zl (by omega);simp only[w,xZ (show ((b+x:Nat):Int)<((b+c:Nat):Int) by omega),IT,IN,yl,h.at_.GK,h.bn,AI,qx,ye,e,xQ,l0];by_cases g:(m.bls.getD (b+x) (0,0)).1=0
   ·rw[yk ⟨g,hz _ g⟩];simp only[g,yr,By,w1];exact TH k h hz hbc n (x+1) f (by omega) (by omega)
   ·rw[ym (fun hh=>g hh.1)];simp only[zr.2 g,IT]
theorem TI (k:Nat) {b c:Nat} (s:Int):∀ (n x f:Nat) (J:Aa) (t:RM),Im J i t->t.bl.length<=64->b+c<=t.bl.length->x+n=c->n<f ->
  ∃ J',Cf k f (Bx i) (b:Int) (c:Int) s ((b+x:Nat):Int) J=some (.exit 2,[],J')/\Im J' i { t with bl:=TW t.bl b (3,s) n x }/\GM i i J J'
 | 0,x,0,J,t,h,hl,hb,hx,hf=>by omega
 | 0,x,f+1,J,t,h,hl,hb,hx,hf=>by
   rw[Iq];have w:Ar ((b:Int)+(c:Int))=((b+c:Nat):Int):=Ah (by unfold AK; omega);exact ⟨J,by simp only[w,xY (show ¬ ((b+x:Nat):Int)<((b+c:Nat):Int) by omega),By],h,GM.refl _ _⟩
 | n+1,x,0,J,t,h,hl,hb,hx,hf=>by omega
 | n+1,x,f+1,J,t,h,hl,hb,hx,hf=>by
   have w:Ar ((b:Int)+(c:Int))=((b+c:Nat):Int):=Ah (by unfold AK; omega);have w1:Ar (((b+x:Nat):Int)+1)=((b+(x+1):Nat):Int):=Ah (by unfold AK; omega);obtain ⟨q,e,e3,h3,k3⟩:=h.va (b:=b+x) (by omega) 3 s;obtain ⟨J',e4,h4,k4⟩:=TI k s n (x+1) f _ _ h3 (by show (t.bl.set _ _).length<=64; rw[yZ]; exact hl) (by show _<=(t.bl.set _ _).length; rw[yZ]; exact hb) (by omega) (by omega);refine ⟨J', ?_,h4,k3.trans k4⟩;rw[Iq];have qx:(0<=((b+x:Nat):Int)/\((b+x:Nat):Int)<((t.bl.length:Nat):Int))=True:=zl (by omega);simp only[w,xZ (show ((b+x:Nat):Int)<((b+c:Nat):Int) by omega),IT,IN,yl,h.GK,AI,qx,ye,e,xQ,e3,w1];exact e4
theorem Zn (k:Nat) (hk:100<=k) (h:RG J i m t) (hP:Kw m) (hz:FZ m) (b c s:Int) (hb:AK b) (hc:AK c):EE (D9 (k+2) (Bx i) b c s J) J i (.int .i64 (Bs m b c 2 s 3 s).1) (Bs m b c 2 s 3 s).2:=by
 have hnt:=h.nt;have hbn:=h.bn;rw[Ny];simp only[MV k h,bw k h b,bA k s,AI,Ao,yp,By];unfold Bs;by_cases g0:1<=b/\b<(m.bls.length:Int);rotate_left
 ·rw[ym (fun hh=>g0 ⟨hh.1,hh.2.1⟩),xY g0];exact EE.My h hP (by simp only[yY,IT,AI])
 obtain ⟨n,rfl⟩:∃ n:Nat,b=(n:Int):=⟨b.toNat,by omega⟩;have hn:n<m.bls.length:=by omega
 have wd:Ar (((m.bls.length:Nat):Int)-(n:Int))=((m.bls.length-n:Nat):Int):=by rw[Ah (by unfold AK; omega)]; omega
 rw[xZ g0];simp only[yp,By,AI];by_cases g1:c<1
 ·rw[ym (fun hh=>by have:=hh.2.2.1; omega)];exact EE.My h hP (by simp only[xZ g1,IT,AI])
 simp only[xY g1,By,AI,IN,yl,h.at_.GK,h.bn,wd];by_cases g2:c>((m.bls.length-n:Nat):Int)
 ·rw[ym (fun hh=>by have:=hh.2.2.2.1; omega)];exact EE.My h hP (by simp only[xZ g2,IT,AI])
 simp only[xY g2,By,AI];cases hs:X0 s with
 | false=>
   rw[ym (fun hh=>by have:=hh.2.2.2.2; cases this)];exact EE.My h hP (by simp only[yY,IT])
 | true=>
   rw[yk ⟨g0.1,g0.2,by omega,by omega,rfl⟩];obtain ⟨w,rfl⟩:∃ w:Nat,c=(w:Int):=⟨c.toNat,by omega⟩;have hw:n+w<=m.bls.length:=by omega
   have e0:Ce (k+1) (k+1) (Bx i) (n:Int) (w:Int) (n:Int) J=_:=TH (k+1) h hz hw w 0 (k+1) (by omega) (by omega);simp only[yp,By,e0,AI,xQ];cases g3:J5 m.bls n w 0 with
   | none=>
     simp only[ye];obtain ⟨J1_,e1,h1,k1⟩:=TI (i:=i) (k+1) (b:=n) (c:=w) s w 0 (k+1) J t h.at_ (by rw[hbn]; exact hnt) (by rw[hbn]; exact hw) (by omega) (by omega);have e1':Cf (k+1) (k+1) (Bx i) (n:Int) (w:Int) s (n:Int) J=_:=e1;have hcl:(TW t.bl n (3,s) w 0).length=m.bls.length:=by rw[Iw,hbn]
     obtain ⟨q,e2,e3,h3,k3⟩:=h1.wy (b:=n) (by show n<(TW t.bl n (3,s) w 0).length; omega) 2;have hg:((TW t.bl n (3,s) w 0).getD n (0,0)).2=s:=by
      rw[bX n (3,s) w 0 t.bl n (by omega),yk (by omega)]
     have e3':AX.CT J1_ q (n*2) (.int .i64 2)=some (J1_.set q (.cells (CB ((TW t.bl n (3,s) w 0).set n (2,((TW t.bl n (3,s) w 0).getD n (0,0)).2))) An true)):=e3;have h3':Im (J1_.set q (.cells (CB ((TW t.bl n (3,s) w 0).set n (2,((TW t.bl n (3,s) w 0).getD n (0,0)).2))) An true)) i { t with bl:=(TW t.bl n (3,s) w 0).set n (2,((TW t.bl n (3,s) w 0).getD n (0,0)).2) }:=h3;have ld:AR J1_ i.hb 0=some (i.bs.1,(TW t.bl n (3,s) w 0).length,(TW t.bl n (3,s) w 0).length):=h1.GK;rw[hg] at e3' h3';have qx:(0<=(n:Int)/\(n:Int)<((m.bls.length:Nat):Int))=True:=zl (by omega);refine ⟨J1_.set q (.cells (CB ((TW t.bl n (3,s) w 0).set n (2,s))) An true),i,{ t with bl:=(TW m.bls n (3,s) w 0).set n (2,s) }, ?_, ?_, ?_, ?_⟩
     ·simp only[ye,e1',AI,ld,hcl,qx,ye,e2,xQ,IN,e3']
     ·rw[<- h.sim.bl]; exact h3'
     ·exact h.sim.blocks _ (by rw[yZ,Iw])
     ·exact ⟨hP.blocks _ (by rw[yZ,Iw]),k1.trans (GM.set _ _ (RI.IP.2 (.inr (.inl (Mb e2)))))⟩
   | some x0=>
     simp only[reduceCtorEq,yq,ye,D7];exact EE.My h hP rfl
end
section
variable {J:Aa} {m:HM} {t:RM} {i:RI}
theorem OR {ρ:Type} {x:Option Value} {d top v:Nat} (h:x=some (.int .i64 (v:Int))\/(x=none/\d=v)) (hv:v<=top) (K:Nat->Option ρ):bound x d top K=K v:=by
 rcases h with rfl | ⟨rfl,rfl⟩
 ·show (if 0<=(v:Int)/\(v:Int)<=(top:Int) then K (v:Int).toNat else none)=K v;rw[yk (by omega),xQ]
 ·rfl
theorem U7 {E:TypeId} {s:Nat} {sl0:Bp} {n0:Nat} {row0:List Value} (h0:Cq E s J sl0 n0 row0) (lo hi:Nat) (hlh:lo<=hi) (hh:hi<=n0) (L H:Option Value) (hL:L=some (.int .i64 (lo:Int))\/(L=none/\0=lo)) (hH:H=some (.int .i64 (hi:Int))\/(H=none/\n0=hi)):
  ∃ src c,F8 E s (sl0.1,n0,n0) L H none J=some (src,hi-lo,c)/\CQ J s src (hi-lo)=some ((row0.drop (lo*s)).take ((hi-lo)*s)):=by
 unfold F8;simp only[Aab,yY,Acf,IT];rw[OR (v:=n0) (.inr ⟨rfl,rfl⟩) (yj _),OR hH hh,OR hL hlh];rcases h0 with ⟨rfl,rfl,rfl⟩ | ⟨b,rfl,_,hl,hcell⟩
 ·have e1:hi=0:=by omega
  have e2:lo=0:=by omega
  subst e1; subst e2;exact ⟨none,0,by simp,by simp[CQ]⟩
 ·have e1:elemAt J b=some E:=by simp only[elemAt,hcell]
  have ld:∀ o n,o+n<=row0.length->M9 J b o n=some ((row0.drop o).take n):=fun o n h=>by simp only[M9,hcell]; rw[yk h]
  by_cases e:n0=lo
  ·have e2:hi-lo=0:=by omega
   refine ⟨some ⟨b,0,none⟩,0, ?_, ?_⟩
   ·rw[yk e,e2];simp only[By,e1,ye]
   ·rw[e2,zw];simp only[CQ,zw];rw[ld 0 0 (by omega)]; rfl
  ·refine ⟨some ⟨b,0+lo*s,none⟩,n0-lo, ?_, ?_⟩
   ·rw[ym e];simp only[AI,e1,ye]
   ·simp only[CQ,IN];refine ld _ _ ?_;rw[hl,<- Abd];exact zR _ (by omega)
theorem sT {b o:Nat} {cs:List Value} {T:TypeId} (h:J[b]?=some (.cells cs T true)) (ho:o<=cs.length):H2 J b o []=some J:=by
 simp only[H2,h,zo,yl,ho,ye,AP,yw,Aak];rw[Sp h]
theorem dL {E:TypeId} {s by_:Nat} {z:Value} (hs:GY P E=some s) (hb:bytesOf P E=some by_) (hz:Fq P E=some z) (hz1:Gi z=false) (hz2:z.cells.size=s) (hs0:0<s)
  (J:Aa) (sl:Bp) (n:Nat) (row:List Value) (src:Option Addr) (c:Nat) (hsl:Cq E s J sl n row) (hx:CQ J s src 0=some []):
  AF P E sl (src,0,c) J=some (sl,J):=by
 unfold AF La;simp only[hs,hb,hz,AI,hx];have h1:(¬ (Gi z=false/\some s=some z.cells.size/\0<z.cells.size))=False:=by
  rw[hz1,hz2]; simp[hs0]
 simp only[h1,yq];rcases hsl with ⟨rfl,rfl,rfl⟩ | ⟨b,rfl,hp,hl,hcell⟩
 ·simp only[yl,yj,ye,Ie,IT,nR]
 ·simp only[yl,yj,ye,Ie,Aab,By,AI,IN];rw[sT hcell (by omega)];simp only[AI,nR]
theorem NW {E:TypeId} {s by_:Nat} {z:Value} (hs:GY P E=some s) (hb:bytesOf P E=some by_) (hz:Fq P E=some z) (hz1:Gi z=false) (hz2:z.cells.size=s) (hs0:0<s) (hb0:0<by_) (hb1:by_<=1000)
  (J τ:Aa) (sl:Bp) (n:Nat) (row:List Value) (hsl:Cq E s (J++τ) sl n row) (hbh:∀ a,sl.1=some a->J.length<=a.block) {sl0:Bp} {n0:Nat} {row0:List Value} (h0:Cq E s (J++τ) sl0 n0 row0) (lo hi:Nat) (hlh:lo<=hi) (hh:hi<=n0) (hn:n+n0<=1000000)
  (L H:Option Value) (hL:L=some (.int .i64 (lo:Int))\/(L=none/\0=lo)) (hH:H=some (.int .i64 (hi:Int))\/(H=none/\n0=hi)):
  ∃ src,F8 E s (sl0.1,n0,n0) L H none (J++τ)=some src /\ ∃ s' τ',AF P E sl (src.1,src.2.1,src.2.2) (J++τ)=some (s',J++τ')/\Cq E s (J++τ') s' (n+(hi-lo)) (row++(row0.drop (lo*s)).take ((hi-lo)*s))/\(∀ a,s'.1=some a->J.length<=a.block):=by
 obtain ⟨src,c,e1,e2⟩:=U7 h0 lo hi hlh hh L H hL hH;refine ⟨_,e1, ?_⟩;have hlen:((row0.drop (lo*s)).take ((hi-lo)*s)).length=(hi-lo)*s:=by
  have hr:row0.length=n0*s:=by
   rcases h0 with ⟨rfl,rfl,rfl⟩ | ⟨b,rfl,_,hl,_⟩
   ·simp
   ·exact hl
  rw[zx,zz,hr,<- Nat.sub_mul];exact Abk (zR _ (by omega))
 by_cases hz0:hi-lo=0
 ·rw[hz0,zw,Ab3] at e2;refine ⟨sl,τ, ?_, ?_,hbh⟩
  ·simp only[hz0];exact dL hs hb hz hz1 hz2 hs0 _ sl n row src c hsl e2
  ·rw[hz0,zw,Ab3,yw]; exact hsl
 ·obtain ⟨s',J',e,g,h⟩:=TT hs hb hz hz1 hz2 hs0 hb0 hb1 (J++τ) sl n row src (hi-lo) c _ (by omega) (by omega) hlen hsl e2;obtain ⟨⟨τ',rfl⟩,h2⟩:=g.behind hbh;exact ⟨s',τ',e,h,h2⟩
theorem vc:GY P Ab=some 8:=by kernel_rfl
theorem uX:bytesOf P Ab=some 96:=by kernel_rfl
theorem ve:Fq P Ab=some (.agg #[.int .i64 0,.int .i64 0,.int .i64 0,.int .i64 0,.int .i64 0,.slice none 0 0,.slice none 0 0,.bool false]):=by kernel_rfl
theorem Pm:∀ (l l':List RO) (om om':List (Bp × Bp)),om.length=l.length->D3 (l++l') (om++om')=D3 l om++D3 l' om'
 | [],l',[],om',h=>rfl
 | [],l',p::om,om',h=>by simp at h
 | o::l,l',[],om',h=>by simp at h
 | o::l,l',p::om,om',h=>by
   simp only[Ab6,D3,Pm l l' om om' (by simpa using h),ya]
theorem Oi (l:List RO) (om:List (Bp × Bp)) (h:om.length=l.length) (a:Nat) (ha:a<=l.length):(D3 l om).take (a*8)=D3 (l.take a) (om.take a)/\(D3 l om).drop (a*8)=D3 (l.drop a) (om.drop a):=by
 have e:D3 l om=D3 (l.take a) (om.take a)++D3 (l.drop a) (om.drop a):=by
  rw[<- Pm _ _ _ _ (by simp; omega),Aak,Aak]
 have hl:(D3 (l.take a) (om.take a)).length=a*8:=by rw[MY _ _ (by simp; omega),zx,Abk ha]
 rw[e];constructor
 ·rw[<- hl,List.take_left]
 ·rw[<- hl,List.drop_left]
theorem Ql (a b:List (Bp × Bp)):PB (a++b)=PB a++PB b:=by unfold PB; rw[Acy]
theorem Ve (p:Bp × Bp) (b:List (Bp × Bp)):PB (p::b)=(hs p.1++hs p.2)++PB b:=rfl
theorem Na (om:List (Bp × Bp)) (x:Nat):PB om=PB (om.take x)++PB (om.drop x):=by rw[<- Ql,Aak]
theorem aW {lo:Nat} {s:Bp} (h:∀ a,s.1=some a->lo<=a.block) {j:Nat} (hj:j ∈ hs s):lo<=j:=by
 obtain ⟨a,ha,rfl⟩:=BN.1 hj;exact h a ha
theorem sL (k:Nat) (h:Im J i t) (hn:t.ob.length<=5000) {x:Nat} (hx:x<t.ob.length):∃ J' os',HR (k+1) (Bx i) (x:Int) J=some (.tuple #[],J')/\Im J' { i with os:=os',om:=i.om.eraseIdx x } { t with ob:=t.ob.eraseIdx x }/\GM i { i with os:=os',om:=i.om.eraseIdx x } J J'/\(∀ a,os'.1=some a->J.length<=a.block)/\(∀ j,j<J.length->j≠i.hb->J'[j]?=J[j]?):=by
 have sep:=h.sep;have hol:=h.ol;have h0:Cq Ab 8 (J++[]) i.os t.ob.length (D3 t.ob i.om):=by rw[yw]; exact h.ob
 obtain ⟨src1,e1,s1,τ1,a1,sl1,b1⟩:=NW vc uX ve rfl rfl (by decide) (by decide) (by decide) J [] (none,0,0) 0 [] (Cq.nil _ _ _) (by intro a ha; cases ha) h0 0 x (by omega) (by omega) (by omega) none (some (.int .i64 (x:Int))) (.inr ⟨rfl,rfl⟩) (.inl rfl);rw[zw,yV,Acz,Aac,IN,(Oi t.ob i.om hol x (by omega)).1] at sl1;rw[yw] at e1 a1;have hg:=h.app τ1;obtain ⟨src2,e2,s2,τ2,a2,sl2,b2⟩:=NW vc uX ve rfl rfl (by decide) (by decide) (by decide) J τ1 s1 x _ sl1 b1 hg.ob (x+1) t.ob.length (by omega) (yj _) (by omega) (some (.int .i64 ((x+1:Nat):Int))) none (.inl rfl) (.inr ⟨rfl,rfl⟩);rw[(Oi t.ob i.om hol (x+1) (by omega)).2,zp (l:=D3 (t.ob.drop (x+1)) (i.om.drop (x+1))) (by rw[MY _ _ (by simp; omega),zz]; exact yj _),<- Pm _ _ _ _ (by simp; omega)] at sl2;rw[<- Aax,<- Aax,show x+(t.ob.length-(x+1))=(t.ob.eraseIdx x).length from by rw[Abh hx]; omega] at sl2;have hg2:=h.app τ2;have hsub:∀ j ∈ PB (i.om.eraseIdx x),j ∈ PB i.om:=by
  intro j hj;rw[Aax,Ql] at hj;rw[Na i.om x,yO (by omega),Ve];rcases yf.1 hj with hj | hj
  ·exact yf.2 (.inl hj)
  ·exact yf.2 (.inr (yf.2 (.inr hj)))
 have hnd:(PB (i.om.eraseIdx x)).Nodup:=by
  have:=sep.D;rw[Na i.om x,yO (by omega),Ve] at this;rw[Aax,Ql];exact this.sublist (List.Sublist.append (List.Sublist.refl _) (List.sublist_append_right _ _))
 have hlt:=h.lt;have hin:∀ {j},j ∈ i.l->j<J.length:=fun hj=>hlt _ hj;have hB:∀ j ∈ hs s2,J.length<=j:=fun j hj=>aW b2 hj;have mA:∀ j ∈ hs i.bs,j<J.length:=fun j hj=>hin (RI.IP.2 (.inr (.inl hj)));have mC:∀ j ∈ hs i.fs,j<J.length:=fun j hj=>hin (RI.IP.2 (.inr (.inr (.inr (.inl hj)))));have mD:∀ j ∈ PB i.om,j<J.length:=fun j hj=>hin (RI.IP.2 (.inr (.inr (.inr (.inr hj)))));have mh:=hin i.K1;have sep':Sep { i with os:=s2,om:=i.om.eraseIdx x }:=
  { hA:=sep.hA,hB:=fun hh=>Ack.2 (hB _ hh) mh,hC:=sep.hC,hD:=fun hh=>sep.hD (hsub _ hh),
    AB:=fun a ha hh=>by have:=hB _ hh; have:=mA _ ha; omega,AC:=sep.AC,AD:=fun a ha hh=>sep.AD a ha (hsub _ hh),
    BC:=fun a ha hh=>by have:=hB _ ha; have:=mC _ hh; omega,BD:=fun a ha hh=>by have:=hB _ ha; have:=mD _ (hsub _ hh); omega,CD:=fun a ha hh=>sep.CD a ha (hsub _ hh),D:=hnd };have hlt2:∀ j ∈ RI.l { i with os:=s2,om:=i.om.eraseIdx x },j<(J++τ2).length:=by
  intro j hj;rcases RI.IP.1 hj with hj | hj | hj | hj | hj
  ·have hj':j=i.hb:=hj;rw[hj',yi]; omega
  ·have:=mA _ hj; simp; omega
  ·obtain ⟨a,ha,rfl⟩:=BN.1 hj; exact sl2.lt a ha
  ·have:=mC _ hj; simp; omega
  ·have:=mD _ (hsub _ hj); simp; omega
 have hinn:∀ (y:Nat) (h1:y<(t.ob.eraseIdx x).length) (h2:y<(i.om.eraseIdx x).length),Eg (J++τ2) (i.om.eraseIdx x)[y].1 (t.ob.eraseIdx x)[y].refs/\Eg (J++τ2) (i.om.eraseIdx x)[y].2 (t.ob.eraseIdx x)[y].data:=by
  intro y h1 h2;rw[List.getElem_eraseIdx,List.getElem_eraseIdx];split
  ·exact hg2.inn y (by omega) (by omega)
  ·have hl:=Abh hx;exact hg2.inn (y+1) (by omega) (by omega)
 have hR:=Im.ft (i:={ i with os:=s2,om:=i.om.eraseIdx x }) (t:={ t with ob:=t.ob.eraseIdx x }) hg2.bl sl2 hg2.fw (by show (i.om.eraseIdx x).length=(t.ob.eraseIdx x).length; rw[Abh hx,Abh (by omega),hol]) hinn sep' hlt2;refine ⟨_,s2, ?_,hR,⟨by simp,fun j hj hn=>?_,fun j hj=>?_,rfl⟩,b2,fun j hj hne=>?_⟩
 ·rw[Tb];have w:Ar ((x:Int)+1)=((x+1:Nat):Int):=Ah (by unfold AK; omega);have est:AX.CT (J++τ2) i.hb 1 (.slice s2.1 s2.2.1 s2.2.2)=some ((J++τ2).set i.hb (.cells [.slice i.bs.1 i.bs.2.1 i.bs.2.2,.slice s2.1 s2.2.1 s2.2.2,.slice i.fs.1 i.fs.2.1 i.fs.2.2,.int .i64 t.born] CH true)):=by
   simp[AX.CT,hg2.hp]
  simp only[AI,IN,h.E6,e1,a1,hg.E6,w,e2,a2,est]
 ·have:i.hb≠j:=fun e=>hn (by rw[<- e]; exact i.K1);rw[yc this,AT hj]
 ·rcases RI.IP.1 hj with hj | hj | hj | hj | hj
  ·exact .inl (by rw[hj]; exact i.K1)
  ·exact .inl (RI.IP.2 (.inr (.inl hj)))
  ·exact .inr (hB _ hj)
  ·exact .inl (RI.IP.2 (.inr (.inr (.inr (.inl hj)))))
  ·exact .inl (RI.IP.2 (.inr (.inr (.inr (.inr (hsub _ hj))))))
 ·rw[yc (yW hne),AT hj]
theorem Zx (k:Nat) (h:Im J i t) (hn:t.ob.length<=5000) {q:Nat} {a:Int} (hq:Ak .i64 J q 0=some a):∀ (n x f:Nat),x+n=t.ob.length->n<f->Eb k f (Bx i) q (x:Int) J=some (.exit 0,[.int .i64 ((x+Qn (t.ob.drop x) a:Nat):Int)],J)
 | 0,x,0,hx,hf=>by omega
 | 0,x,f+1,hx,hf=>by
   rw[Lm,yS (by omega)];simp only[AI,IN,h.E6,xY (show ¬ (x:Int)<((t.ob.length:Nat):Int) by omega),By,Qn,yl]
 | n+1,x,0,hx,hf=>by omega
 | n+1,x,f+1,hx,hf=>by
   have hxl:x<t.ob.length:=by omega
   obtain ⟨b,e,hc,L⟩:=h.obj hxl;have L:=L (by rw[h.ol]; exact hxl);have qx:(0<=(x:Int)/\(x:Int)<((t.ob.length:Nat):Int))=True:=zl (by omega);have w1:Ar ((x:Int)+1)=((x+1:Nat):Int):=Ah (by unfold AK; omega);rw[Lm,yO hxl,Qn];simp only[AI,IN,yl,h.E6,xZ (show (x:Int)<((t.ob.length:Nat):Int) by omega),IT,qx,ye,e,xQ,L.l0,hq];by_cases g:t.ob[x].addr<a
   ·rw[xZ g,yk g];simp only[IT,w1];rw[Zx k h hn hq n (x+1) f (by omega) (by omega),show x+1+Qn (t.ob.drop (x+1)) a=x+(Qn (t.ob.drop (x+1)) a+1) from by omega]
   ·rw[xY g,ym g];simp only[By,yl]
theorem WN {α:Type} (l:List α) (n:Nat) (hn:n<=l.length) (a:α) (y:Nat) (hy:y<(l.take n++a::l.drop n).length):(l.take n++a::l.drop n)[y]=if h:y<n then l[y] else if h2:y=n then a else l[y-1]'(by simp at hy; omega):=by
 have hl:(l.take n).length=n:=by rw[zx]; omega
 split
 ·rename_i h;rw[Aa3 (by omega),Acg]
 ·split
  ·rename_i h h2;subst h2;rw[Aag (by omega)];simp only[hl,Aaf,Abc]
  ·rename_i h h2;obtain ⟨d,rfl⟩:∃ d,y=n+1+d:=⟨y-n-1,by omega⟩;rw[Aag (by omega)];simp only[hl,show n+1+d-n=d+1 from by omega,Abq,List.getElem_drop];congr 1;omega
theorem sN (k:Nat) (hk:5000<=k) (h:Im J i t) (hn:t.ob.length<=4900) (o:RO) (p:Bp × Bp) (hp1:Eg J p.1 o.refs) (hp2:Eg J p.2 o.data) (hpl:∀ j,j ∈ hs p.1\/j ∈ hs p.2->j<J.length/\j ∉ i.l) (hpn:(hs p.1++hs p.2).Nodup):
  ∃ J' os',GH (k+1) (Bx i) o.addr o.id o.r o.d o.k p.1 p.2 o.Wg J=some (.tuple #[],J')/\Im J' { i with os:=os',om:=i.om.take (Qn t.ob o.addr)++p::i.om.drop (Qn t.ob o.addr) } { t with ob:=Sg t.ob o } /\
   (∀ j,j<J.length->j≠i.hb->J'[j]?=J[j]?)/\J.length<=J'.length/\(∀ a,os'.1=some a->J.length<=a.block)/\(∀ j,j ∈ RI.l { i with os:=os',om:=i.om.take (Qn t.ob o.addr)++p::i.om.drop (Qn t.ob o.addr) }->j ∈ i.l\/j ∈ hs p.1\/j ∈ hs p.2\/J.length<=j):=by
 have sep:=h.sep;have hol:=h.ol;obtain ⟨n,hN⟩:∃ n,Qn t.ob o.addr=n:=⟨_,rfl⟩;have hnl:n<=t.ob.length:=by rw[<- hN]; exact kA _ _
 obtain ⟨B,hB⟩:∃ B,Au.cells (Bi o p) Ab true=B:=⟨_,rfl⟩;have hb:=h.app [B];have lq:∀ (τ:Aa) (x:Nat),Ak .i64 (J++([B]++τ)) J.length x=((Bi o p)[x]?).bind (Bn .i64):=fun τ x=>by rw[<- hB]; simp[Ak,D5]
 have lqs:∀ (τ:Aa) (x:Nat),AR (J++([B]++τ)) J.length x=((Bi o p)[x]?).bind ED:=fun τ x=>by rw[<- hB]; simp[AR,D5]
 have lqb:∀ (τ:Aa) (x:Nat),Tq (J++([B]++τ)) J.length x=((Bi o p)[x]?).bind DK:=fun τ x=>by rw[<- hB]; simp[Tq,D5]
 have e0:=Zx k hb (by show t.ob.length<=5000; omega) (q:=J.length) (a:=o.addr) (by have:=lq [] 0; rw[yw] at this; rw[this]; rfl) t.ob.length 0 k (by omega) (by omega);rw[yV,IN,hN] at e0;have e0':Eb k k (Bx i) J.length 0 (J++[B])=_:=e0;obtain ⟨src1,e1,s1,τ1,a1,sl1,b1⟩:=NW vc uX ve rfl rfl (by decide) (by decide) (by decide) (J++[B]) [] (none,0,0) 0 [] (Cq.nil _ _ _) (by intro a ha; cases ha) (by rw[yw]; exact hb.ob) 0 n (by omega) hnl (by omega) none (some (.int .i64 (n:Int))) (.inr ⟨rfl,rfl⟩) (.inl rfl);rw[zw,yV,Acz,Aac,IN,(Oi t.ob i.om hol n hnl).1] at sl1;rw[yw] at e1 a1;obtain ⟨s2,τ2,a2,sl2,b2⟩:=Om vc uX ve rfl rfl (by decide) (by decide) (by decide) (J++[B]) τ1 s1 n _ 1 1 (Bi o p) Ab (by omega) (by decide) rfl sl1 b1;have a2':AF P Ab (s1.1,s1.2.1,s1.2.2) (some ⟨(J++[B]++τ1).length,0,none⟩,1,1) (J++[B]++τ1++[Au.cells [.int .i64 o.addr,.int .i64 o.id,.int .i64 o.r,.int .i64 o.d,.int .i64 o.k,.slice p.1.1 p.1.2.1 p.1.2.2,.slice p.2.1 p.2.2.1 p.2.2.2,.bool o.Wg] Ab true])=some (s2,J++[B]++τ2):=a2;have hg2:=hb.app τ2;obtain ⟨src3,e3,s3,τ3,a3,sl3,b3⟩:=NW vc uX ve rfl rfl (by decide) (by decide) (by decide) (J++[B]) τ2 s2 (n+1) _ sl2 b2 hg2.ob n t.ob.length hnl (yj _) (by omega) (some (.int .i64 (n:Int))) none (.inl rfl) (.inr ⟨rfl,rfl⟩);rw[(Oi t.ob i.om hol n hnl).2,zp (l:=D3 (t.ob.drop n) (i.om.drop n)) (by rw[MY _ _ (by simp; omega),zz]; exact yj _),ya (D3 (t.ob.take n) (i.om.take n)) (Bi o p),show Bi o p++D3 (t.ob.drop n) (i.om.drop n)=D3 (o::t.ob.drop n) (p::i.om.drop n) from rfl,<- Pm _ _ _ _ (by simp; omega)] at sl3;have hins:Sg t.ob o=t.ob.take n++o::t.ob.drop n:=by unfold Sg; rw[hN]
 have hlen:(Sg t.ob o).length=n+1+(t.ob.length-n):=by rw[hins]; simp; omega
 rw[<- hins,<- hlen,ya] at sl3;have hg3:=h.app ([B]++τ3);have hlt:=h.lt;have hin:∀ {j},j ∈ i.l->j<J.length:=fun hj=>hlt _ hj;have hB3:∀ j ∈ hs s3,J.length<=j:=fun j hj=>by have:=aW b3 hj; simp at this; omega
 have mA:∀ j ∈ hs i.bs,j<J.length:=fun j hj=>hin (RI.IP.2 (.inr (.inl hj)));have mC:∀ j ∈ hs i.fs,j<J.length:=fun j hj=>hin (RI.IP.2 (.inr (.inr (.inr (.inl hj)))));have mD:∀ j ∈ PB i.om,j<J.length:=fun j hj=>hin (RI.IP.2 (.inr (.inr (.inr (.inr hj)))));have mh:=hin i.K1;have mem_om:∀ j,j ∈ PB (i.om.take n++p::i.om.drop n)↔j ∈ PB i.om\/j ∈ hs p.1\/j ∈ hs p.2:=by
  intro j;rw[Ql,Ve,Na i.om n];simp only[yf];constructor
  ·rintro (h | (h | h) | h)
   ·exact .inl (.inl h)
   ·exact .inr (.inl h)
   ·exact .inr (.inr h)
   ·exact .inl (.inr h)
  ·rintro ((h | h) | h | h)
   ·exact .inl h
   ·exact .inr (.inr h)
   ·exact .inr (.inl (.inl h))
   ·exact .inr (.inl (.inr h))
 have hnd:(PB (i.om.take n++p::i.om.drop n)).Nodup:=by
  have hD:=sep.D;rw[Na i.om n] at hD;obtain ⟨d1,d2,d3⟩:=zv.1 hD;have out:∀ j,j ∈ hs p.1++hs p.2->j ∉ PB i.om:=fun j hj hm=>(hpl j (yf.1 hj)).2 (RI.IP.2 (.inr (.inr (.inr (.inr hm)))));rw[Ql,Ve];refine zv.2 ⟨d1,zv.2 ⟨hpn,d2, ?_⟩, ?_⟩
  ·intro a ha b hb' e;subst e;exact out a ha (by rw[Na i.om n]; exact yf.2 (.inr hb'))
  ·intro a ha b hb' e;subst e;rcases yf.1 hb' with hb' | hb'
   ·exact out a hb' (by rw[Na i.om n]; exact yf.2 (.inl ha))
   ·exact d3 a ha a hb' rfl
 have pout:∀ {j},j ∈ PB (i.om.take n++p::i.om.drop n)->j<J.length:=fun hj=>by
  rcases (mem_om _).1 hj with hj | hj
  ·exact mD _ hj
  ·exact (hpl _ hj).1
 have pne:∀ {j},j ∈ i.hb::(hs i.bs++hs i.fs)->j ∉ PB (i.om.take n++p::i.om.drop n):=fun {j} hj hm=>by
  rcases (mem_om _).1 hm with hm | hm
  ·rcases yL.1 hj with e | hj
   ·exact sep.hD (e ▸ hm)
   ·rcases yf.1 hj with hj | hj
    ·exact sep.AD _ hj hm
    ·exact sep.CD _ hj hm
  ·refine (hpl _ hm).2 ?_;rcases yL.1 hj with e | hj
   ·rw[e]; exact i.K1
   ·rcases yf.1 hj with hj | hj
    ·exact RI.IP.2 (.inr (.inl hj))
    ·exact RI.IP.2 (.inr (.inr (.inr (.inl hj))))
 rw[hN];have sep':Sep { i with os:=s3,om:=i.om.take n++p::i.om.drop n }:=
  { hA:=sep.hA,hB:=fun hh=>Ack.2 (hB3 _ hh) mh,hC:=sep.hC,hD:=fun hh=>pne (zi) hh,
    AB:=fun a ha hh=>by have:=hB3 _ hh; have:=mA _ ha; omega,AC:=sep.AC,AD:=fun a ha hh=>pne (yJ _ (yf.2 (.inl ha))) hh,
    BC:=fun a ha hh=>by have:=hB3 _ ha; have:=mC _ hh; omega,BD:=fun a ha hh=>by have:=hB3 _ ha; have:=pout hh; omega,CD:=fun a ha hh=>pne (yJ _ (yf.2 (.inr ha))) hh,D:=hnd };have hlt2:∀ j ∈ RI.l { i with os:=s3,om:=i.om.take n++p::i.om.drop n },j<(J++([B]++τ3)).length:=by
  intro j hj;rcases RI.IP.1 hj with hj | hj | hj | hj | hj
  ·have hj':j=i.hb:=hj;rw[hj',yi]; omega
  ·have:=mA _ hj; simp; omega
  ·obtain ⟨a,ha,rfl⟩:=BN.1 hj; exact sl3.lt a ha
  ·have:=mC _ hj; simp; omega
  ·have:=pout hj; simp; omega
 have hinn:∀ (y:Nat) (h1:y<(Sg t.ob o).length) (h2:y<(i.om.take n++p::i.om.drop n).length),Eg (J++([B]++τ3)) (i.om.take n++p::i.om.drop n)[y].1 (Sg t.ob o)[y].refs/\Eg (J++([B]++τ3)) (i.om.take n++p::i.om.drop n)[y].2 (Sg t.ob o)[y].data:=by
  intro y h1 h2;simp only[hins] at h1 ⊢;rw[WN t.ob n hnl o y h1,WN i.om n (by omega) p y h2];have hl1:(t.ob.take n++o::t.ob.drop n).length=t.ob.length+1:=by simp; omega
  by_cases c1:y<n
  ·simp only[c1,dite_true];exact hg3.inn y (by omega) (by omega)
  ·by_cases c2:y=n
   ·simp only[c1,c2,dite_false,dite_true,Aad];exact ⟨hp1.app _,hp2.app _⟩
   ·simp only[c1,c2,dite_false];exact hg3.inn (y-1) (by omega) (by omega)
 have hR:=Im.ft (i:={ i with os:=s3,om:=i.om.take n++p::i.om.drop n }) (t:={ t with ob:=Sg t.ob o }) hg3.bl sl3 hg3.fw (by show (i.om.take n++p::i.om.drop n).length=(Sg t.ob o).length; rw[hlen]; simp; omega) hinn sep' hlt2;refine ⟨_,s3, ?_,hR,fun j hj hne=>?_,by simp,fun a ha=>by have:=b3 a ha; simp at this; omega,fun j hj=>?_⟩
 ·rw[Td];have est:AX.CT (J++([B]++τ3)) i.hb 1 (.slice s3.1 s3.2.1 s3.2.2)=some ((J++([B]++τ3)).set i.hb (.cells [.slice i.bs.1 i.bs.2.1 i.bs.2.2,.slice s3.1 s3.2.1 s3.2.2,.slice i.fs.1 i.fs.2.1 i.fs.2.2,.int .i64 t.born] CH true)):=by
   have hh:=hg3.hp;generalize J++([B]++τ3)=Z at hh ⊢;simp[AX.CT,hh]
  have c0:∀ τ,Ak .i64 (J++[B]++τ) J.length 0=some o.addr:=fun τ=>by rw[ya,lq]; rfl
  have c1:∀ τ,Ak .i64 (J++[B]++τ) J.length 1=some o.id:=fun τ=>by rw[ya,lq]; rfl
  have c2:∀ τ,Ak .i64 (J++[B]++τ) J.length 2=some o.r:=fun τ=>by rw[ya,lq]; rfl
  have c3:∀ τ,Ak .i64 (J++[B]++τ) J.length 3=some o.d:=fun τ=>by rw[ya,lq]; rfl
  have c4:∀ τ,Ak .i64 (J++[B]++τ) J.length 4=some o.k:=fun τ=>by rw[ya,lq]; rfl
  have c5:∀ τ,AR (J++[B]++τ) J.length 5=some (p.1.1,p.1.2.1,p.1.2.2):=fun τ=>by rw[ya,lqs]; rfl
  have c6:∀ τ,AR (J++[B]++τ) J.length 6=some (p.2.1,p.2.2.1,p.2.2.2):=fun τ=>by rw[ya,lqs]; rfl
  have c7:∀ τ,Tq (J++[B]++τ) J.length 7=some o.Wg:=fun τ=>by rw[ya,lqb]; rfl
  have hBox:Au.cells [.int .i64 o.addr,.int .i64 o.id,.int .i64 o.r,.int .i64 o.d,.int .i64 o.k,.slice p.1.1 p.1.2.1 p.1.2.2,.slice p.2.1 p.2.2.1 p.2.2.2,.bool o.Wg] Ab true=B:=hB;rw[<- ya] at est;simp only[Ae,hBox,e0',AI,ye,D7,IN,zu,Nat.reduceAdd,hb.E6,e1,a1,c0,c1,c2,c3,c4,c5,c6,c7];rw[<- hBox] at a2' ⊢;simp only[a2',AI];rw[hBox];simp only[hg2.E6,e3,a3,AI,est];simp only[ya]
 ·rw[yc (yW hne),AT hj]
 ·rcases RI.IP.1 hj with hj | hj | hj | hj | hj
  ·exact .inl (by rw[hj]; exact i.K1)
  ·exact .inl (RI.IP.2 (.inr (.inl hj)))
  ·exact .inr (.inr (.inr (hB3 _ hj)))
  ·exact .inl (RI.IP.2 (.inr (.inr (.inr (.inl hj)))))
  ·rcases (mem_om _).1 hj with hj | hj | hj
   ·exact .inl (RI.IP.2 (.inr (.inr (.inr (.inr hj)))))
   ·exact .inr (.inl hj)
   ·exact .inr (.inr (.inl hj))
end
section
variable {J:Aa} {m:HM} {t:RM} {i:RI}
theorem qa (k:Nat) (hk:5000<=k) (h:RG J i m t) (hP:Kw m) (hS:Sh m) (a:Int):EE (Fe (k+4) (Bx i) a J) J i (.int .i64 (Ig m a).1) (Ig m a).2:=by
 have hol:=h.ol;rw[Rz];have hix:=NB (k+1) (by omega) h a;simp only[Vo k hk h a,AI,Ag];unfold Ig;cases hh:AU m a with
 | false=>
   simp only[y8,yq,vK,IT];exact EE.My h hP rfl
 | true=>
   obtain ⟨x,j,b,p,F⟩:=h.found hh;obtain ⟨J',os',e,h',k',_,_⟩:=sL (k+2) h.at_ (by omega) F.xl;have ea:a.toNat/2=j:=by rw[F.e,xQ]; omega
   obtain ⟨s1,s2⟩:=h.sim.kill h.inv hS hP F.st F.all;rw[ea];simp only[ye,yr,By,hix,AI,Ag,F.idx,e,Gs];exact ⟨J',_,_,rfl,h',s1,s2,k'⟩
theorem fC {om:List (Bp × Bp)} (h:(PB om).Nodup) {y z:Nat} (hy:y<om.length) (hz:z<om.length) {j:Nat} (hj:j ∈ hs om[y].1\/j ∈ hs om[y].2) (hk:j ∈ hs om[z].1\/j ∈ hs om[z].2):y=z:=by
 obtain ⟨_,h2⟩:=List.pairwise_flatMap.1 h;have h3:=Abi.1 h2;rcases Aaa y z with hlt | he | hlt
 ·exact absurd rfl (h3 y z hy hz hlt j (yf.2 hj) j (yf.2 hk))
 ·exact he
 ·exact absurd rfl (h3 z y hz hy hlt j (yf.2 hk) j (yf.2 hj))
theorem kn {om:List (Bp × Bp)} (h:(PB om).Nodup) {y:Nat} (hy:y<om.length) {j:Nat} (hj:j ∈ hs om[y].1):j ∉ hs om[y].2:=by
 obtain ⟨h1,_⟩:=List.pairwise_flatMap.1 h;obtain ⟨_,_,h3⟩:=zv.1 (h1 _ (yU hy));exact fun hk=>h3 j hj j hk rfl
theorem Zh:∀ (l:List RO) (om:List (Bp × Bp)) (y:Nat) (hy:y<l.length) (hy':y<om.length) (o:RO),Bi o om[y]=Bi l[y] om[y]->D3 (l.set y o) om=D3 l om
 | [],om,y,hy,_,_,_=>by simp at hy
 | a::l,[],y,_,hy',_,_=>by simp at hy'
 | a::l,p::om,0,hy,hy',o,h=>by
   simp only[zX,D3];rw[show Bi o p=Bi a p from h]
 | a::l,p::om,y+1,hy,hy',o,h=>by
   simp only[zW,D3];rw[Zh l om y (by simpa using hy) (by simpa using hy') o h]
theorem Im.tD (h:Im J i t) {y b:Nat} (hy:y<t.ob.length) (hy':y<i.om.length) (hb:b ∈ hs i.om[y].1\/b ∈ hs i.om[y].2) (c:Au) (o:RO) (hro:Bi o i.om[y]=Bi t.ob[y] i.om[y]) (hin:Eg (J.set b c) i.om[y].1 o.refs/\Eg (J.set b c) i.om[y].2 o.data):
  Im (J.set b c) i { t with ob:=t.ob.set y o }:=by
 have sep:=h.sep;have hm:b ∈ PB i.om:=Ih hy' hb;refine { hp:=?_,bl:=?_,ob:=?_,fw:=?_,ol:=by show _=(t.ob.set y o).length; rw[yZ]; exact h.ol,inn:=?_,nd:=h.nd,lt:=fun j hj=>by rw[yZ]; exact h.lt j hj }
 ·rw[yc (fun e:b=i.hb=>sep.hD (by rw[<- e]; exact hm))]; exact h.hp
 ·exact h.bl.Aw fun a ha=>yc fun e:b=a.block=>sep.AD a.block (BN.2 ⟨a,ha,rfl⟩) (by rw[<- e]; exact hm)
 ·show Cq _ 8 _ _ (t.ob.set y o).length (D3 (t.ob.set y o) i.om);rw[yZ,Zh _ _ _ hy hy' _ hro];exact h.ob.Aw fun a ha=>yc fun e:b=a.block=>sep.BD a.block (BN.2 ⟨a,ha,rfl⟩) (by rw[<- e]; exact hm)
 ·exact h.fw.Aw fun a ha=>yc fun e:b=a.block=>sep.CD a.block (BN.2 ⟨a,ha,rfl⟩) (by rw[<- e]; exact hm)
 ·intro z h1 h2;have h1':z<t.ob.length:=by simpa using h1
  show Eg _ i.om[z].1 (t.ob.set y o)[z].refs/\Eg _ i.om[z].2 (t.ob.set y o)[z].data;by_cases e:y=z
  ·subst e;rw[List.getElem_set_self];exact hin
  ·rw[List.getElem_set_ne e];exact ⟨(h.inn z h1' h2).1.Aw fun d hd=>yc fun e':b=d=>e (fC sep.D hy' h2 hb (.inl (by rw[e']; exact hd))),(h.inn z h1' h2).2.Aw fun d hd=>yc fun e':b=d=>e (fC sep.D hy' h2 hb (.inr (by rw[e']; exact hd)))⟩
theorem uJ (h:RG J i m t) (hP:Kw m) {a:Int} {x j b:Nat} {p:Bp × Bp} (F:Found J i m t a x j b p) (q:Nat) (hq:2+q<use m j) (v:Int):
  ∃ b2 J' t',(if (q:Int)<Av m j then p.1.1=some ⟨b2,0,none⟩/\AX.CT J b2 q (.int .i64 v)=some J' else p.2.1=some ⟨b2,0,none⟩/\AX.CT J b2 (q-(Av m j).toNat) (.int .i64 v)=some J')/\Im J' i t'/\PE (Gz m (2*j+2+q) v) t'/\Kw (Gz m (2*j+2+q) v)/\GM i i J J':=by
 have hu:=h.inv.use F.st;obtain ⟨s1,s2⟩:=h.sim.word h.inv hP F.st F.all hq v;obtain ⟨_,r1,r2,r3,r4,_⟩:=Ot h.inv F.st;have hx':x<i.om.length:=by rw[h.at_.ol]; exact F.xl
 have ep:i.om[x]=p:=by have:=F.om; rw[yg hx'] at this; exact zH this
 have eo:t.ob[x]'F.xl=Bm m j:=by have:=F.ob; rw[yg F.xl] at this; exact zH this
 have sep:=h.at_.sep;have lr:(Bm m j).refs.length=(Av m j).toNat:=Gk _ _ _;have ld:(Bm m j).data.length=(Bf m j).toNat:=Gk _ _ _;by_cases c:(q:Int)<Av m j
 ·rw[yk c] at s1;obtain ⟨b2,e2,l2,c2⟩:=F.rs.u9 (x:=q) (by omega);have hb2:b2 ∈ hs p.1:=Mb e2;have st:=jv c2 (x:=q) (by omega) v;refine ⟨b2,_,_,by rw[yk c]; exact ⟨e2,st⟩,h.at_.tD F.xl hx' (.inl (by rw[ep]; exact hb2)) _ _ (by rw[eo]; rfl) ?_,s1,s2,GM.set _ _ (i.Ih hx' (.inl (by rw[ep]; exact hb2)))⟩;rw[ep];refine ⟨⟨by show _=((Bm m j).refs.set q v).length; rw[yZ]; exact F.rs.1,fun _=>?_,fun a ha=>by rw[e2] at ha; cases ha; exact ⟨_,_,_,yo (Af c2),zh _⟩⟩,F.ds.Aw fun d hd=>yc fun e:b2=d=>kn sep.D hx' (j:=b2) (by rw[ep]; exact hb2) (by rw[ep,e]; exact hd)⟩;obtain ⟨b3,c3,e3,c4⟩:=F.rs.2.1 (fun hn=>by rw[hn] at lr; simp at lr; omega);rw[e3] at e2;cases e2;exact ⟨b2,c3,by rw[e3]; show _=(some _,((Bm m j).refs.set q v).length,c3); rw[yZ],yo (Af c2)⟩
 ·rw[ym c] at s1;obtain ⟨b2,e2,l2,c2⟩:=F.ds.u9 (x:=q-(Av m j).toNat) (by omega);have hb2:b2 ∈ hs p.2:=Mb e2;have st:=jv c2 (x:=q-(Av m j).toNat) (by omega) v;refine ⟨b2,_,_,by rw[ym c]; exact ⟨e2,st⟩,h.at_.tD F.xl hx' (.inr (by rw[ep]; exact hb2)) _ _ (by rw[eo]; rfl) ?_,s1,s2,GM.set _ _ (i.Ih hx' (.inr (by rw[ep]; exact hb2)))⟩;rw[ep];refine ⟨F.rs.Aw fun d hd=>yc fun e:b2=d=>kn sep.D hx' (j:=b2) (by rw[ep,e]; exact hd) (by rw[ep]; exact hb2),⟨by show _=((Bm m j).data.set _ v).length; rw[yZ]; exact F.ds.1,fun _=>?_,fun a ha=>by rw[e2] at ha; cases ha; exact ⟨_,_,_,yo (Af c2),zh _⟩⟩⟩;obtain ⟨b3,c3,e3,c4⟩:=F.ds.2.1 (fun hn=>by rw[hn] at ld; simp at ld; omega);rw[e3] at e2;cases e2;exact ⟨b2,c3,by rw[e3]; show _=(some _,((Bm m j).data.set _ v).length,c3); rw[yZ],yo (Af c2)⟩
theorem jc (k:Nat) (hk:5000<=k) (h:RG J i m t) (hP:Kw m) (a x v:Int):EE (Fw (k+4) (Bx i) a x v J) J i (.int .i64 (Cv m a x v).1) (Cv m a x v).2:=by
 have hol:=h.ol;rw[PS];have hix:=NB (k+1) (by omega) h a;simp only[Vo k hk h a,AI,Ag];unfold Cv B9;cases hh:AU m a with
 | false=>
   simp only[y8,yq,vK,IT,show ((4:Int)=0)=False from by decide];exact EE.My h hP rfl
 | true=>
   obtain ⟨y,j,b,p,F⟩:=h.found hh;have hu:=h.inv.use F.st;obtain ⟨_,r1,r2,r3,r4,_⟩:=Ot h.inv F.st;have hy:=F.xl;have rl:p.1.2.1=(Av m j).toNat:=by rw[F.rs.1]; exact Gk _ _ _
   have ea:a.toNat/2=j:=by rw[F.e,xQ]; omega
   have qy:(0<=(y:Int)/\(y:Int)<((t.ob.length:Nat):Int))=True:=zl (by omega);simp only[ye,yr,By,hix,AI,Ag,F.idx,ea,y8,yq];by_cases g0:x<0
   ·rw[ym (show ¬ (0<=x/\x<Av m j) by omega)];simp only[xZ g0,IT,AI,show ((1:Int)=0)=False from by decide,yq];exact EE.My h hP rfl
   simp only[xY g0,By,IN,h.at_.E6,qy,ye,F.os,AI,xQ,F.ld.l5,rl];by_cases g1:x<Av m j;rotate_left
   ·rw[ym (show ¬ (0<=x/\x<Av m j) by omega)];simp only[xZ (show x>=(((Av m j).toNat:Nat):Int) by omega),IT,AI,show ((1:Int)=0)=False from by decide,yq];exact EE.My h hP rfl
   rw[yk (show 0<=x/\x<Av m j from ⟨by omega,g1⟩)];obtain ⟨n,rfl⟩:∃ n:Nat,x=(n:Int):=⟨x.toNat,by omega⟩;simp only[xY (show ¬ (n:Int)>=(((Av m j).toNat:Nat):Int) by omega),By,ye];have eh:EM (k+3) (Bx i) v J=_:=k9 k hk h v;have fin:EE ((AR J i.hb 1).bind fun l15=>if 0<=(y:Int)/\(y:Int)<(l15.2.1:Nat) then l15.1.bind fun a16=>(AR J a16.block (a16.off+y*8+5)).bind fun l17=>if 0<=(n:Int)/\(n:Int)<(l17.2.1:Nat) then l17.1.bind fun a18=>(AX.CT J a18.block (a18.off+((n:Int)).toNat*1) (.int .i64 v)).bind fun s19=>some (Value.int .i64 0,s19) else none else none) J i (.int .i64 0) (Gz m (a+2+0+(n:Int)).toNat v):=by
    obtain ⟨b2,J',t',e,h',s1,s2,k'⟩:=uJ h hP F n (by omega) v;rw[yk g1] at e;have qn:(0<=(n:Int)/\(n:Int)<(((Av m j).toNat:Nat):Int))=True:=zl (by omega);rw[show (a+2+0+(n:Int)).toNat=2*j+2+n from by rw[F.e]; omega];exact ⟨J',i,t',by simp only[h.at_.E6,AI,qy,ye,F.os,IN,F.ld.l5,rl,qn,e.1,xQ,yH,e.2],h',s1,s2,k'⟩
   by_cases g2:v=0
   ·subst g2;simp only[yr,By,AI,ne_eq,Aah,false_and,yq];exact fin
   ·simp only[zr.2 g2,IT,eh,AI,Ao];cases hv:AU m v with
    | false=>
      simp only[yY,IT,ne_eq,g2,zP,Abg,ye];exact EE.My h hP rfl
    | true=>
      simp only[yp,By,Bool.true_eq_false,and_false,yq];exact fin
theorem aZ:∀ (l:List RO) (om:List (Bp × Bp)) (y:Nat) (hy:y<l.length) (hy':y<om.length) (v:Bool),(D3 l om).set (y*8+7) (.bool v)=D3 (l.set y { l[y] with Wg:=v }) om
 | [],om,y,hy,_,_=>by simp at hy
 | a::l,[],y,_,hy',_=>by simp at hy'
 | a::l,p::om,0,hy,hy',v=>rfl
 | a::l,p::om,y+1,hy,hy',v=>by
   have ih:=aZ l om y (by simpa using hy) (by simpa using hy') v;simp only[zW,D3,Abq];rw[<- ih,zS _ _ (by simp[Bi]; omega)];congr 2;simp[Bi]; omega
theorem Im.uK (h:Im J i t) {y b:Nat} (hy:y<t.ob.length) (e:i.os.1=some ⟨b,0,none⟩) (hc:J[b]?=some (.cells (D3 t.ob i.om) Ab true)) (v:Bool):
  AX.CT J b (y*8+7) (.bool v)=some (J.set b (.cells (D3 (t.ob.set y { t.ob[y] with Wg:=v }) i.om) Ab true))/\Im (J.set b (.cells (D3 (t.ob.set y { t.ob[y] with Wg:=v }) i.om) Ab true)) i { t with ob:=t.ob.set y { t.ob[y] with Wg:=v } }/\GM i i J (J.set b (.cells (D3 (t.ob.set y { t.ob[y] with Wg:=v }) i.om) Ab true)):=by
 have sep:=h.sep;have hy':y<i.om.length:=by rw[h.ol]; exact hy
 have hb:=Mb e;have hl:=MY t.ob i.om h.ol;refine ⟨?_,{ hp:=?_,bl:=?_,ob:=?_,fw:=?_,ol:=by show _=(t.ob.set y _).length; rw[yZ]; exact h.ol,inn:=?_,nd:=h.nd,lt:=fun j hj=>by rw[yZ]; exact h.lt j hj },GM.set _ _ (RI.IP.2 (.inr (.inr (.inl hb))))⟩
 ·have:y*8+7<(D3 t.ob i.om).length:=by omega
  simp only[AX.CT,hc,this,ye,aZ t.ob i.om y hy hy' v]
 ·rw[yc (fun e:b=i.hb=>sep.hB (by rw[<- e]; exact hb))]; exact h.hp
 ·exact h.bl.Aw fun a ha=>yc fun e:b=a.block=>sep.AB a.block (BN.2 ⟨a,ha,rfl⟩) (by rw[<- e]; exact hb)
 ·have:=h.ob.form;rw[e] at this;refine .inr ⟨b, ?_,zh _, ?_,yo (Af hc)⟩
  ·show i.os=(_,(t.ob.set y _).length,(t.ob.set y _).length); rw[yZ]; exact this
  ·exact MY _ _ (by rw[yZ]; exact h.ol)
 ·exact h.fw.Aw fun a ha=>yc fun e:b=a.block=>sep.BC b hb (by rw[e]; exact BN.2 ⟨a,ha,rfl⟩)
 ·intro z h1 h2;have h1':z<t.ob.length:=by simpa using h1
  show Eg _ i.om[z].1 (t.ob.set y _)[z].refs/\Eg _ i.om[z].2 (t.ob.set y _)[z].data;have hz:=h.inn z h1' h2;have hz':Eg (J.set b (.cells (D3 (t.ob.set y { t.ob[y] with Wg:=v }) i.om) Ab true)) i.om[z].1 t.ob[z].refs/\Eg (J.set b (.cells (D3 (t.ob.set y { t.ob[y] with Wg:=v }) i.om) Ab true)) i.om[z].2 t.ob[z].data:=
   ⟨hz.1.Aw fun d hd=>yc fun e':b=d=>sep.BD b hb (by rw[e']; exact Ih h2 (.inl hd)),hz.2.Aw fun d hd=>yc fun e':b=d=>sep.BD b hb (by rw[e']; exact Ih h2 (.inr hd))⟩;by_cases e:y=z
  ·subst e;rw[List.getElem_set_self];exact hz'
  ·rw[List.getElem_set_ne e];exact hz'
theorem sM (k:Nat) (hk:5000<=k) (h:RG J i m t) (hP:Kw m) (hS:Sh m) (a:Int) (v:Bool):EE (HS (k+4) (Bx i) a v J) J i (.int .i64 (Lv m a (if v then 1 else 0)).1) (Lv m a (if v then 1 else 0)).2:=by
 have hol:=h.ol;rw[Tc];have hix:=NB (k+1) (by omega) h a;simp only[Vo k hk h a,AI,Ag];unfold Lv;cases hh:AU m a with
 | false=>
   simp only[y8,yq,vK,IT];exact EE.My h hP rfl
 | true=>
   obtain ⟨y,j,b,p,F⟩:=h.found hh;have hy:=F.xl;have ea:a.toNat/2=j:=by rw[F.e,xQ]; omega
   have qy:(0<=(y:Int)/\(y:Int)<((t.ob.length:Nat):Int))=True:=zl (by omega);obtain ⟨e1,h1,k1⟩:=h.at_.uK hy F.os F.cell v;obtain ⟨s1,s2⟩:=h.sim.pins h.inv hS hP F.st F.all v;have eo:t.ob[y]'F.xl=Bm m j:=by have:=F.ob; rw[yg F.xl] at this; exact zH this
   rw[ea];simp only[ye,yr,By,IN,h.at_.E6,hix,AI,Ag,F.idx,qy,F.os,xQ,e1];exact ⟨_,i,_,rfl,h1,by rw[eo]; exact s1,s2,k1⟩
theorem sK (k:Nat) (hk:5000<=k) (h:RG J i m t) (hP:Kw m) (hS:Sh m) (a:Int):EE (FH (k+5) (Bx i) a J) J i (.int .i64 (Lv m a 1).1) (Lv m a 1).2:=by
 obtain ⟨J',i',t',e,r⟩:=sM k hk h hP hS a true;refine ⟨J',i',t', ?_,r⟩;rw[Ta];simp only[e,AI,Ag,ye]
end
end
end Go.Proofs.YtjbledomkmdkmaaGreat
