/- Part 7. -/
import Derived.Test.YtjbledomkmdkmaaGreatP6
set_option linter.unusedVariables false
set_option linter.unusedSimpArgs false
set_option linter.unusedSectionVars false
namespace Go.Proofs.YtjbledomkmdkmaaGreat
open Go Go.AX
noncomputable section
section
set_option maxRecDepth 100000
section
variable [AJ]
theorem R8 (k b c J):FX (k+1) b c J =
 (Je k b c true J).bind fun d=>(Bk .i64 d.1).bind fun f=>bif f != 0 then (some (qIi f,d.2)) else ((Cg k b c d.2).bind fun e=>(Eo e.1).bind fun h=>bif decide (((h.2.1:Nat):Int)>(0:Int)) then (some (qIi 8,e.2)) else ((Gu k b c e.2).bind fun g=>(Bk .i64 g.1).bind fun i=>(Er k k b c i g.2).bind fun a=>if a.1 = .exit 0 then (some (qIi 0,a.2.2)) else none)):=by
 simp only[Cg,FX,Er,Je,Gu,Ac]; kernel_rfl
theorem Vb (k g a J):DA (k+1) g a J =
 gLd Be g 1 J fun d=>if 0<=(Ar (a+1))/\(Ar (a+1))<(d.2.1:Nat) then d.1.bind fun c=>(Aj .i64 J c.block (c.off+(Ar (a+1)).toNat*1)).bind fun h=>(Hn k h J).bind fun e=>My e.1 fun i j l=>(Hm k i j l e.2).bind fun f=>(Bk .i64 f.1).bind fun b=>some (qIi b,f.2) else none:=by
 simp only[DA,Hm,Hn,Ac]; kernel_rfl
theorem Lb (k n i0 a c J):Eu k (n+1) i0 a c J =
 bif decide (c<16) then (Ae J (.cells [qIi 0,qIi i0,qIi c] Am true) fun h5 d=>(AH P Am (a.1,a.2.1,a.2.2) (some ⟨h5,0,none⟩,1,1) d).bind fun b=>Eu k n i0 (b.1.1,b.1.2.1,b.1.2.2) (Ar (c+1)) b.2) else (some (.exit 2,[.slice a.1 a.2.1 a.2.2],J)):=by
 simp only[Eu,Ac]; kernel_rfl
theorem La (k n d a b J):Et k (n+1) d a b J =
 gLd Be d 0 J fun f=>bif decide (b<((f.2.1:Nat):Int)) then ((Eu k k b (a.1,a.2.1,a.2.2) (0:Int) J).bind fun e=>if e.1 = .exit 2 then (So e.2.1 fun c=>Et k n d (c.1,c.2.1,c.2.2) (Ar (b+1)) e.2.2) else none) else (some (.exit 0,[.slice a.1 a.2.1 a.2.2],J)):=by
 simp only[Et,Eu,Ac]; kernel_rfl
theorem Lc (k n b c J):Ew k (n+1) b c J =
 bif decide (c<16) then (Ae J (.cells [qIi 1,qIi 0,qIi c] Am true) fun d e=>(AH P Am (b.1,b.2.1,b.2.2) (some ⟨d,0,none⟩,1,1) e).bind fun a=>Ew k n  (a.1.1,a.1.2.1,a.1.2.2) (Ar (c+1)) a.2) else (some (.exit 4,[.slice b.1 b.2.1 b.2.2],J)):=by
 simp only[Ew,Ac]; kernel_rfl
theorem Ld (k n f b c J):Ex k (n+1) f b c J =
 gLd Be f 2 J fun e=>bif decide (c<((e.2.1:Nat):Int)) then (Ae J (.cells [qIi 2,qIi 0,qIi c] Am true) fun d g=>(AH P Am (b.1,b.2.1,b.2.2) (some ⟨d,0,none⟩,1,1) g).bind fun a=>Ex k n f (a.1.1,a.1.2.1,a.1.2.2) (Ar (c+1)) a.2) else (some (.exit 6,[.slice b.1 b.2.1 b.2.2],J)):=by
 simp only[Ex,Ac]; kernel_rfl
theorem RE (k g J):Hj (k+1) g J =
 (AZ k g J).bind fun h=>(Dl h.1).bind fun i=>bif !i then (some (.slice none 0 0,h.2)) else ((Et k k g (none,0,0) (0:Int) h.2).bind fun d=>if d.1 = .exit 0 then (So d.2.1 fun a=>(Ew k k  (a.1,a.2.1,a.2.2) (0:Int) d.2.2).bind fun e=>if e.1 = .exit 4 then (So e.2.1 fun b=>(Ex k k g (b.1,b.2.1,b.2.2) (0:Int) e.2.2).bind fun f=>if f.1 = .exit 6 then (So f.2.1 fun c=>some (.slice c.1 c.2.1 c.2.2,f.2.2)) else none) else none) else none):=by
 simp only[Hj,Et,Ew,Ex,AZ,Ac]; kernel_rfl
theorem TR (k u d e f J):FJ (k+1) u d e f J =
 Ae J (.cells [qIi d,qIi e,qIi f] Am true) fun h1 s2=>(Aj .i64 s2 h1 (0+0)).bind fun t=>bif t == 0 then ((Aj .i64 s2 h1 (0+1)).bind fun w=>(bif decide (w>=0) then (Aj .i64 s2 h1 (0+1)).bind fun x=>gLd Be u 0 s2 fun v=>some (decide (x<((v.2.1:Nat):Int)),s2) else some (false,s2)).bind fun j=>(bif j.1 then (Aj .i64 j.2 h1 (0+2)).bind fun y=>some (decide (y>=0),j.2) else some (false,j.2)).bind fun b=>(bif b.1 then (Aj .i64 b.2 h1 (0+2)).bind fun m=>some (decide (m<16),b.2) else some (false,b.2)).bind fun g=>some (.bool g.1,g.2)) else (bif t == 1 then ((Aj .i64 s2 h1 (0+1)).bind fun n=>(bif n == 0 then (Aj .i64 s2 h1 (0+2)).bind fun o=>some (decide (o>=0),s2) else some (false,s2)).bind fun c=>(bif c.1 then (Aj .i64 c.2 h1 (0+2)).bind fun p=>some (decide (p<16),c.2) else some (false,c.2)).bind fun h=>some (.bool h.1,h.2)) else (bif t == 2 then ((Aj .i64 s2 h1 (0+1)).bind fun q=>(bif q == 0 then (Aj .i64 s2 h1 (0+2)).bind fun r=>some (decide (r>=0),s2) else some (false,s2)).bind fun a=>(bif a.1 then (Aj .i64 a.2 h1 (0+2)).bind fun s=>gLd Be u 2 a.2 fun l=>some (decide (s<((l.2.1:Nat):Int)),a.2) else some (false,a.2)).bind fun i=>some (.bool i.1,i.2)) else (some (.bool false,s2)))):=by
 simp only[FJ,Ac]; kernel_rfl
theorem NG (k a J):GZ (k+1) a J =
 Ae J (.cells [qVi a] FO true) fun h1 s2=>some (.func (.func 244) #[] #[qVi (some ⟨h1,0,none⟩)],s2):=by
 simp only[GZ,Ac]; kernel_rfl
theorem TS (k n a b c o J):Ix (k+1) n a b c o J =
 Ae J (.cells [qIi a,qIi b,qIi c] Am true) fun h1 s2=>(Aj .i64 s2 h1 (0+0)).bind fun x=>(bif x == 0 then (gLd Be n 0 s2 fun v=>(Aj .i64 s2 h1 (0+1)).bind fun p=>if 0<=p/\p<(v.2.1:Nat) then v.1.bind fun u=>(Be s2 u.block (u.off+p.toNat*1)).bind fun w=>(Aj .i64 s2 h1 (0+2)).bind fun q=>if 0<=q/\q<(w.2.1:Nat) then w.1.bind fun f=>(CY s2 f.block (f.off+q.toNat*1) (qIi o)).bind fun r=>some (.normal,[],r) else none else none) else ((bif x == 1 then (gLd Be n 1 s2 fun i=>(Aj .i64 s2 h1 (0+2)).bind fun d=>if 0<=d/\d<(i.2.1:Nat) then i.1.bind fun g=>(CY s2 g.block (g.off+d.toNat*1) (qIi o)).bind fun s=>some (.normal,[],s) else none) else (gLd Be n 2 s2 fun j=>(Aj .i64 s2 h1 (0+2)).bind fun e=>if 0<=e/\e<(j.2.1:Nat) then j.1.bind fun h=>(CY s2 h.block (h.off+e.toNat*1) (qIi o)).bind fun t=>some (.normal,[],t) else none):Option Bq).bind fun l=>if l.1 = .normal then (some (.normal,[],l.2.2)) else none):Option Bq).bind fun m=>if m.1 = .normal then (some (.tuple #[],m.2.2)) else none:=by
 simp only[Ix,Ac]; kernel_rfl
theorem Yj (k j b c d p J):Kg (k+1) j b c d p J =
 Ae J (.cells [qIi b,qIi c,qIi d] Ad true) fun h1 s2=>(Aj .i64 s2 h1 0).bind fun z=>(Aj .i64 s2 h1 (0+1)).bind fun A=>(Aj .i64 s2 h1 (0+1+1)).bind fun B=>(ET k z A B s2).bind fun a=>(Dl a.1).bind fun y=>bif y then ((Aj .i64 a.2 h1 0).bind fun C=>(Aj .i64 a.2 h1 (0+1)).bind fun D=>(Aj .i64 a.2 h1 (0+1+1)).bind fun r=>(EX k C D r a.2).bind fun m=>(Bk .i64 m.1).bind fun l=>(Iy k j l m.2).bind fun g=>(Bk .i64 g.1).bind fun e=>bif e == 0 then (some (.tuple #[qIi 0,.bool false],g.2)) else ((DY k j e l p g.2).bind fun n=>(Bk .i64 n.1).bind fun s=>some (.tuple #[qIi (Ar (e*64)),.bool (s == 0)],n.2))) else ((Aj .i64 a.2 h1 0).bind fun t=>(Aj .i64 a.2 h1 (0+1)).bind fun u=>(Aj .i64 a.2 h1 (0+1+1)).bind fun v=>(ND k j t u v p a.2).bind fun h=>sY h.1 fun w q=>bif q then (some (.tuple #[qIi w,.bool true],h.2)) else ((Iy k j (1:Int) h.2).bind fun i=>(Bk .i64 i.1).bind fun f=>bif f == 0 then (some (.tuple #[qIi 0,.bool false],i.2)) else ((Gw k j f p i.2).bind fun o=>(Bk .i64 o.1).bind fun x=>some (.tuple #[qIi (Ar (f*64)),.bool (x == 0)],o.2)))):=by
 simp only[Gw,DY,ET,EX,Iy,Kg,ND,Ac]; kernel_rfl
theorem Yd (k a b c J):ET (k+1) a b c J =
 Ae J (.cells [qIi a,qIi b,qIi c] Ad true) fun h1 s2=>(Aj .i64 s2 h1 0).bind fun e=>(Aj .i64 s2 h1 (0+1)).bind fun f=>(Aj .i64 s2 h1 (0+1+1)).bind fun g=>(Cn k e f g s2).bind fun d=>(Bk .i64 d.1).bind fun h=>some (.bool (decide (h>32)),d.2):=by
 simp only[ET,Cn,Ac]; kernel_rfl
theorem Pw (k c d e a J):Ci (k+1) c d e a J =
 (FE k c d e (2:Int) a (3:Int) a J).bind fun b=>(Bk .i64 b.1).bind fun f=>some (qIi f,b.2):=by
 simp only[Ci,FE,Ac]; kernel_rfl
theorem ZQ (k a b c J):EX (k+1) a b c J =
 Ae J (.cells [qIi a,qIi b,qIi c] Ad true) fun h1 s2=>(Aj .i64 s2 h1 0).bind fun e=>(Aj .i64 s2 h1 (0+1)).bind fun f=>(Aj .i64 s2 h1 (0+1+1)).bind fun g=>(Cn k e f g s2).bind fun d=>(Bk .i64 d.1).bind fun h=>if (64:Int)=0 then none else some (qIi (Ar ((Ar ((Ar (h+64))-(1:Int))).tdiv (64:Int))),d.2):=by
 simp only[EX,Cn,Ac]; kernel_rfl
theorem Ty (k b c d J):DK (k+1) b c d J =
 (FE k b c (1:Int) (1:Int) d (0:Int) (0:Int) J).bind fun a=>(Bk .i64 a.1).bind fun e=>some (qIi e,a.2):=by
 simp only[DK,FE,Ac]; kernel_rfl
theorem SR (k e B f g h J):Ff (k+1) e B f g h J =
 Ae J (.cells [qIi f,qIi g,qIi h] Ad true) fun h1 s2=>(Az k e s2).bind fun j=>(Dl j.1).bind fun C=>bif !C then (some (.tuple #[qIi 0,qIi 5],j.2)) else ((Aj .i64 j.2 h1 0).bind fun E=>(Aj .i64 j.2 h1 (0+1)).bind fun F=>(Aj .i64 j.2 h1 (0+1+1)).bind fun G=>(IK k E F G j.2).bind fun l=>(Dl l.1).bind fun D=>bif !D then (some (.tuple #[qIi 0,qIi 2],l.2)) else ((Aj .i64 l.2 h1 0).bind fun r=>(Aj .i64 l.2 h1 (0+1)).bind fun s=>(Aj .i64 l.2 h1 (0+1+1)).bind fun t=>(Iv k e B r s t (0:Int) l.2).bind fun d=>(Bk .i64 d.1).bind fun n=>bif n != 0 then (some (.tuple #[qIi 0,qIi n],d.2)) else (gLd (Aj .i64) e 3 d.2 fun u=>e.bind fun m=>(CY d.2 m.block (m.off+3) (qIi (Ar (u+1)))).bind fun c=>gLd (Aj .i64) e 3 c fun v=>(Aj .i64 c h1 0).bind fun w=>(Aj .i64 c h1 (0+1)).bind fun x=>(Aj .i64 c h1 (0+1+1)).bind fun y=>(Aj .i64 c h1 (0+0)).bind fun a=>if 0<=a/\a<=a/\a*(8:Nat)<=2 ^ 40/\a<=2 ^ 40 then Ae c (.cells (rep a.toNat [qIi 0]) Ak true) fun p o=>(Aj .i64 o h1 (0+1)).bind fun b=>if 0<=b/\b<=b/\b*(8:Nat)<=2 ^ 40/\b<=2 ^ 40 then Ae o (.cells (rep b.toNat [qIi 0]) Ak true) fun q A=>(H2 k e B v w x y (some ⟨p,0,none⟩,a.toNat,a.toNat) (some ⟨q,0,none⟩,b.toNat,b.toNat) false A).bind fun i=>W8 i.1 (gLd (Aj .i64) e 3 i.2 fun z=>some (.tuple #[qIi z,qIi 0],i.2)) else none else none))):=by
 simp only[Az,Ff,Iv,H2,IK,Ac]; kernel_rfl
theorem T8 (k c d g h i J):FD (k+1) c d g h i J =
 Ae J (.cells [qIi g,qIi h,qIi i] Ad true) fun h1 s2=>(AV k c s2).bind fun l=>(Dl l.1).bind fun N=>bif !N then (some (.tuple #[qIi 0,qIi 5],l.2)) else ((Aj .i64 l.2 h1 0).bind fun Q=>(Aj .i64 l.2 h1 (0+1)).bind fun S=>(Aj .i64 l.2 h1 (0+1+1)).bind fun T=>(EV k Q S T l.2).bind fun m=>(Dl m.1).bind fun O=>bif !O then (some (.tuple #[qIi 0,qIi 2],m.2)) else ((Aj .i64 m.2 h1 0).bind fun z=>(Aj .i64 m.2 h1 (0+1)).bind fun A=>(Aj .i64 m.2 h1 (0+1+1)).bind fun B=>(Hm k z A B m.2).bind fun v=>(Bk .i64 v.1).bind fun C=>(Jd k c d C (-1:Int) v.2).bind fun e=>(Bk .i64 e.1).bind fun t=>bif t != 0 then (some (.tuple #[qIi 0,qIi t],e.2)) else (gLd (Aj .i64) c 6 e.2 fun D=>c.bind fun n=>(CY e.2 n.block (n.off+6) (qIi (Ar (D+1)))).bind fun a=>gLd Be c 1 a fun r=>gLd Be c 1 a fun s=>gLd (Aj .i64) c 6 a fun E=>(Aj .i64 a h1 0).bind fun F=>(Aj .i64 a h1 (0+1)).bind fun G=>(Aj .i64 a h1 (0+1+1)).bind fun H=>(Lt k F G H a).bind fun w=>(Bk .i64 w.1).bind fun I=>if 0<=d/\d<(r.2.1:Nat) then r.1.bind fun o=>(CY w.2 o.block (o.off+d.toNat*1) (qIi E)).bind fun M=>if 0<=(Ar (d+1))/\(Ar (d+1))<(s.2.1:Nat) then s.1.bind fun p=>(CY M p.block (p.off+(Ar (d+1)).toNat*1) (qIi I)).bind fun x=>gLd B9 c 2 x fun L=>if (2:Int)=0 then none else (BM k L (Ar (d.tdiv (2:Int))) (1:Int) x).bind fun b=>(Bk .i64 b.1).bind fun P=>gLd xH c 4 b.2 fun y=>gLd (Aj .i64) c 6 b.2 fun u=>y.bind fun j=>(Un b.2 j).bind fun f=>c.bind fun q=>(Aj .i64 (List.set b.2 j (.map (NY u (qIi d) f))) q.block (q.off+6)).bind fun K=>some (.tuple #[qIi K,qIi 0],(List.set b.2 j (.map (NY u (qIi d) f)))) else none else none))):=by
 simp only[FD,Jd,AV,EV,Hm,Lt,BM,Ac]; kernel_rfl
theorem SY (k c d J):BA (k+1) c d J =
 (Az k c J).bind fun a=>(Dl a.1).bind fun e=>bif !e then (some (qIi 5,a.2)) else ((Ay k c d a.2).bind fun b=>(Bk .i64 b.1).bind fun f=>bif decide (f<0) then (some (qIi 4,b.2)) else (some (qIi 0,b.2))):=by
 simp only[Ay,Az,BA,Ac]; kernel_rfl
theorem Vi (k c i J):Ji (k+1) c i J =
 gLd Be c 1 J fun d=>(Gj Ab 8 (d.1,d.2.1,d.2.2) none (some (qIi i)) none J).bind fun e=>(AH P Ab (none,0,0) (e.1,e.2.1,e.2.2) J).bind fun a=>gLd Be c 1 a.2 fun f=>(Gj Ab 8 (f.1,f.2.1,f.2.2) (some (qIi (Ar (i+1)))) none none a.2).bind fun g=>(AH P Ab (a.1.1,a.1.2.1,a.1.2.2) (g.1,g.2.1,g.2.2) a.2).bind fun b=>c.bind fun j=>(CY b.2 j.block (j.off+1) (.slice b.1.1 b.1.2.1 b.1.2.2)).bind fun h=>some (.tuple #[],h):=by
 simp only[Ji,Ac]; kernel_rfl
theorem Vo (k b c d J):BM (k+1) b c d J =
 Ae J (.cells [qIi d] Ak true) fun h1 s2=>(Fi k b c (some ⟨h1,0,none⟩,1,1) s2).bind fun a=>(Bk .i64 a.1).bind fun e=>bif e != 0 then (some (qIi e,a.2)) else ((G6 k b c d a.2).bind fun f=>W8 f.1 (some (qIi 0,f.2))):=by
 simp only[BM,Fi,G6,Ac]; kernel_rfl
theorem Vd (k e c f J):Jf (k+1) e c f J =
 gLd Be e 1 J fun a=>(Gj Ak 1 (a.1,a.2.1,a.2.2) (some (qIi c)) (some (qIi (Ar (c+f)))) none J).bind fun b=>(if b.2.1=0 then some J else b.1.bind fun d=>H5 J d.block d.off (rep b.2.1 [qIi 0])).bind fun g=>some (.tuple #[],g):=by
 simp only[Jf,Ac]; kernel_rfl
theorem RD (k c r d n J):Ga (k+1) c r d n J =
 (BA k c r J).bind fun p=>(Bk .i64 p.1).bind fun u=>bif u != 0 then (some (qIi u,p.2)) else ((Ay k c r p.2).bind fun l=>(Bk .i64 l.1).bind fun b=>(bif decide (d<0) then some (true,l.2) else gLd Be c 1 l.2 fun t=>if 0<=b/\b<(t.2.1:Nat) then t.1.bind fun s=>(Be l.2 s.block (s.off+b.toNat*8+5)).bind fun v=>some (decide (d>=((v.2.1:Nat):Int)),l.2) else none).bind fun m=>(bif m.1 then some (true,m.2) else (bif n != 0 then (CN k c n m.2).bind fun i=>(Dl i.1).bind fun o=>some (!o,i.2) else some (false,m.2)).bind fun j=>some (j.1,j.2)).bind fun a=>bif a.1 then (some (qIi 1,a.2)) else (gLd Be c 1 a.2 fun g=>if 0<=b/\b<(g.2.1:Nat) then g.1.bind fun e=>(Be a.2 e.block (e.off+b.toNat*8+5)).bind fun h=>if 0<=d/\d<(h.2.1:Nat) then h.1.bind fun f=>(CY a.2 f.block (f.off+d.toNat*1) (qIi n)).bind fun q=>some (qIi 0,q) else none else none)):=by
 simp only[CN,Ay,Ga,BA,Ac]; kernel_rfl
theorem RH (k d J):EF (k+1) d J =
 (AZ k d J).bind fun c=>(Dl c.1).bind fun f=>bif !f then (some (.slice none 0 0,c.2)) else (Ae c.2 (.cells [] Ak true) fun g e=>gLd Be d 2 e fun b=>(AH P Ak (some ⟨g,0,some 0⟩,0,0) (b.1,b.2.1,b.2.2) e).bind fun a=>some (.slice a.1.1 a.1.2.1 a.1.2.2,a.2)):=by
 simp only[AZ,EF,Ac]; kernel_rfl
theorem Ta (k c g J):G0 (k+1) c g J =
 (AZ k c J).bind fun a=>(Dl a.1).bind fun h=>bif !h then (some (qIi 5,a.2)) else (bif decide (g<=0) then (some (qIi 1,a.2)) else (gLd Be c 2 a.2 fun j=>bif decide (((j.2.1:Nat):Int)>=(64:Int)) then (some (qIi 6,a.2)) else (gLd Be c 2 a.2 fun e=>Ae a.2 (.cells [qIi g] Ak true) fun i l=>(AH P Ak (e.1,e.2.1,e.2.2) (some ⟨i,0,none⟩,1,1) l).bind fun d=>c.bind fun b=>(CY d.2 b.block (b.off+2) (.slice d.1.1 d.1.2.1 d.1.2.2)).bind fun f=>some (qIi 0,f)))):=by
 simp only[AZ,G0,Ac]; kernel_rfl
theorem Tb (k c g J):G5 (k+1) c g J =
 (Bh k c J).bind fun a=>(Dl a.1).bind fun h=>bif !h then (some (qIi 5,a.2)) else (bif decide (g<=0) then (some (qIi 1,a.2)) else (gLd Be c 3 a.2 fun j=>bif ((j.2.1:Nat):Int) == (64:Int) then (some (qIi 6,a.2)) else (gLd Be c 3 a.2 fun e=>Ae a.2 (.cells [qIi g] Ak true) fun i l=>(AH P Ak (e.1,e.2.1,e.2.2) (some ⟨i,0,none⟩,1,1) l).bind fun d=>c.bind fun b=>(CY d.2 b.block (b.off+3) (.slice d.1.1 d.1.2.1 d.1.2.2)).bind fun f=>some (qIi 0,f)))):=by
 simp only[G5,Bh,Ac]; kernel_rfl
theorem Vj (k b d i J):Jj (k+1) b d i J =
 (BA k b d J).bind fun a=>(Bk .i64 a.1).bind fun g=>bif g != 0 then (some (qIi g,a.2)) else (gLd Be b 1 a.2 fun f=>(Ay k b d a.2).bind fun h=>(Bk .i64 h.1).bind fun c=>if 0<=c/\c<(f.2.1:Nat) then f.1.bind fun e=>(CY h.2 e.block (e.off+c.toNat*8+7) (.bool i)).bind fun j=>some (qIi 0,j) else none):=by
 simp only[Ay,BA,Jj,Ac]; kernel_rfl
theorem We (k b c f J):JR (k+1) b c f J =
 (BI k b c J).bind fun a=>(Bk .i64 a.1).bind fun d=>bif d != 0 then (some (qIi d,a.2)) else (gLd B9 b 3 a.2 fun g=>if (2:Int)=0 then none else (BM k g (Ar (c.tdiv (2:Int))) f a.2).bind fun e=>(Bk .i64 e.1).bind fun h=>some (qIi 0,e.2)):=by
 simp only[BI,JR,BM,Ac]; kernel_rfl
theorem RC (k b J):CF (k+1) b J =
 (Az k b J).bind fun a=>(Dl a.1).bind fun c=>bif !c then (some (qIi 0,a.2)) else (gLd Be b 0 a.2 fun d=>some (qIi ((d.2.1:Nat):Int),a.2)):=by
 simp only[CF,Az,Ac]; kernel_rfl
theorem Vg (k b c J):CN (k+1) b c J =
 (Ay k b c J).bind fun a=>(Bk .i64 a.1).bind fun d=>some (.bool (decide (d>=0)),a.2):=by
 simp only[CN,Ay,Ac]; kernel_rfl
theorem Ye (k c d e J):IK (k+1) c d e J =
 Ae J (.cells [qIi c,qIi d,qIi e] Ad true) fun h1 s2=>(Aj .i64 s2 h1 (0+0)).bind fun m=>(bif decide (m<0) then some (true,s2) else (Aj .i64 s2 h1 (0+0)).bind fun n=>some (decide (n>15),s2)).bind fun f=>(bif f.1 then some (true,f.2) else (Aj .i64 f.2 h1 (0+1)).bind fun o=>some (decide (o<0),f.2)).bind fun g=>(bif g.1 then some (true,g.2) else (Aj .i64 g.2 h1 (0+1)).bind fun p=>some (decide (p>200),g.2)).bind fun b=>bif b.1 then (some (.bool false,b.2)) else ((Aj .i64 b.2 h1 (0+2)).bind fun a=>bif a == 0 then (bif a == 0 then (some (.bool true,b.2)) else (bif a == 1 then ((Aj .i64 b.2 h1 (0+0)).bind fun h=>some (.bool (decide (h>=1)),b.2)) else (bif a == 2 then ((Aj .i64 b.2 h1 (0+0)).bind fun i=>some (.bool (decide (i>=2)),b.2)) else (some (.bool false,b.2))))) else (bif a == 3 then (some (.bool true,b.2)) else (bif a == 1 then ((Aj .i64 b.2 h1 (0+0)).bind fun j=>some (.bool (decide (j>=1)),b.2)) else (bif a == 2 then ((Aj .i64 b.2 h1 (0+0)).bind fun l=>some (.bool (decide (l>=2)),b.2)) else (some (.bool false,b.2)))))):=by
 simp only[IK,Ac]; kernel_rfl
theorem Vu (k c f J):Cb (k+1) c f J =
 gLd B9 c 0 J fun q=>(Bd k q f J).bind fun h=>(Dl h.1).bind fun o=>(bif o then (CG k c f h.2).bind fun n=>(Bk .i64 n.1).bind fun p=>some (p == 0,n.2) else some (false,h.2)).bind fun i=>(bif i.1 then ((CO k c f (1:Int) i.2).bind fun j=>W8 j.1 (gLd Be c 6 j.2 fun b=>Ae j.2 (.cells [qIi f] Ak true) fun g l=>(AH P Ak (b.1,b.2.1,b.2.2) (some ⟨g,0,none⟩,1,1) l).bind fun a=>c.bind fun d=>(CY a.2 d.block (d.off+6) (.slice a.1.1 a.1.2.1 a.1.2.2)).bind fun m=>some (.normal,[],m))) else (some (.normal,[],i.2)):Option Bq).bind fun e=>if e.1 = .normal then (some (.tuple #[],e.2.2)) else none:=by
 simp only[Bd,Cb,CG,CO,Ac]; kernel_rfl
theorem MH (k n d m i q i4 a J):EH k (n+1) d m i q i4 a J =
 bif decide (a<i4) then (if 0<=a/\a<i then m.bind fun e=>(Aj .i64 J e.block (e.off+a.toNat*1)).bind fun g=>(CG k d g J).bind fun b=>(Bk .i64 b.1).bind fun j=>(bif j == 0 then (gLd B9 d 0 b.2 fun o=>(Fq k o g b.2).bind fun c=>(Bk .i64 c.1).bind fun r=>gLd (Aj .i64) d 8 c.2 fun l=>d.bind fun f=>(CY c.2 f.block (f.off+8) (qIi (Ar (l+1)))).bind fun p=>some (.normal,[],p)) else (some (.normal,[],b.2)):Option Bq).bind fun h=>if h.1 = .normal then (EH k n d m i q i4 (Ar (a+1)) h.2.2) else none else none) else (some (.exit 0,[],J)):=by
 simp only[Fq,CG,EH,Ac]; kernel_rfl
theorem Vx (k b J):Js (k+1) b J =
 gLd Be b 7 J fun B=>(bif decide (((B.2.1:Nat):Int)>(0:Int)) then (gLd Be b 7 J fun z=>if 0<=(0:Int)/\(0:Int)<(z.2.1:Nat) then z.1.bind fun y=>(Aj .i64 J y.block (y.off+(0:Int).toNat*1)).bind fun A=>gLd Be b 7 J fun q=>(Gj Ak 1 (q.1,q.2.1,q.2.2) (some (qIi 1)) none none J).bind fun r=>(BN k (r.1,r.2.1,r.2.2) J).bind fun h=>(Eo h.1).bind fun d=>b.bind fun f=>(CY h.2 f.block (f.off+7) (.slice d.1 d.2.1 d.2.2)).bind fun o=>gLd B9 b 0 o fun t=>(Cg k t A o).bind fun i=>(Eo i.1).bind fun c=>(EH k k b c.1 c.2.1 c.2.2 ((c.2.1:Nat):Int) (0:Int) i.2).bind fun e=>if e.1 = .exit 0 then (gLd B9 b 0 e.2.2 fun u=>(FX k u A e.2.2).bind fun j=>(Bk .i64 j.1).bind fun C=>some (.normal,[],j.2)) else none else none) else (some (.normal,[],J)):Option Bq).bind fun a=>if a.1 = .normal then (gLd Be b 7 a.2.2 fun p=>(bif ((p.2.1:Nat):Int) == (0:Int) then (gLd B9 b 5 a.2.2 fun v=>gLd B9 b 5 a.2.2 fun w=>(Eg k w a.2.2).bind fun l=>(Bk .i64 l.1).bind fun s=>(FL k v (0:Int) s (0:Int) l.2).bind fun m=>(Bk .i64 m.1).bind fun D=>b.bind fun g=>(CY m.2 g.block (g.off+4) (qIi 0)).bind fun x=>some (.normal,[],x)) else (some (.normal,[],a.2.2)):Option Bq).bind fun n=>if n.1 = .normal then (some (.tuple #[],n.2.2)) else none) else none:=by
 simp only[Cg,FX,Eg,FL,BN,Js,EH,Ac]; kernel_rfl
theorem NC (k n h0 p l r i4 b a J):FH k (n+1) h0 p l r i4 b a J =
 bif decide (a<i4) then (if 0<=a/\a<l then p.bind fun g=>(Aj .i64 J g.block (g.off+a.toNat*1)).bind fun h=>(bif h != 0 then (Aj .i64 J h0 (0+2)).bind fun o=>(FG k o a J).bind fun i=>(Dl i.1).bind fun j=>some (!j,i.2) else some (false,J)).bind fun e=>(bif e.1 then (Ae e.2 (.cells [qIi h] Ak true) fun m q=>(AH P Ak (b.1,b.2.1,b.2.2) (some ⟨m,0,none⟩,1,1) q).bind fun c=>some (.normal,[.slice c.1.1 c.1.2.1 c.1.2.2],c.2)) else (some (.normal,[.slice b.1 b.2.1 b.2.2],e.2)):Option Bq).bind fun f=>if f.1 = .normal then (So f.2.1 fun d=>FH k n h0 p l r i4 (d.1,d.2.1,d.2.2) (Ar (a+1)) f.2.2) else none else none) else (some (.exit 0,[.slice b.1 b.2.1 b.2.2],J)):=by
 simp only[FG,FH,Ac]; kernel_rfl
theorem Xa (k h i J):Jh (k+1) h i J =
 (AL k h i J).bind fun l=>(az l.1).bind fun e=>if e.length=2 then e.head?.bind fun p=>My p fun m n o=>e.tail.head?.bind fun q=>(Bk .i64 q).bind fun r=>Ae l.2 (.cells [qIi 0,qIi 0,qIi 0] Ad true) fun j f=>(H5 f j 0 [qIi m,qIi n,qIi o]).bind fun g=>(KR k h i g).bind fun d=>(Eo d.1).bind fun a=>(FH k k j a.1 a.2.1 a.2.2 ((a.2.1:Nat):Int) (none,0,0) (0:Int) d.2).bind fun c=>if c.1 = .exit 0 then (So c.2.1 fun b=>some (.slice b.1 b.2.1 b.2.2,c.2.2)) else none else none:=by
 simp only[AL,KR,Jh,FH,Ac]; kernel_rfl
theorem Vw (k b c d J):CO (k+1) b c d J =
 gLd B9 b 5 J fun e=>if (2:Int)=0 then none else (BM k e (Ar (c.tdiv (2:Int))) d J).bind fun a=>(Bk .i64 a.1).bind fun f=>some (.tuple #[],a.2):=by
 simp only[BM,CO,Ac]; kernel_rfl
theorem MX (k n e j i m i4 a J):G8 k (n+1) e j i m i4 a J =
 bif decide (a<i4) then (if 0<=a/\a<i then j.bind fun c=>(Aj .i64 J c.block (c.off+a.toNat*1)).bind fun d=>(CP k e d J).bind fun b=>(Dl b.1).bind fun h=>(bif h then (gLd B9 e 0 b.2 fun l=>(Ke k l d (.func (.func 266) #[qVi e] #[]) b.2).bind fun f=>(Dl f.1).bind fun o=>some (.normal,[],f.2)) else (some (.normal,[],b.2)):Option Bq).bind fun g=>if g.1 = .normal then (G8 k n e j i m i4 (Ar (a+1)) g.2.2) else none else none) else (some (.exit 0,[],J)):=by
 simp only[Ke,G8,CP,Ac]; kernel_rfl
theorem MY (k n h i1 a J):G9 k (n+1) h i1 a J =
 bif decide (a<i1) then (gLd B9 h 0 J fun l=>(Bn k l a J).bind fun e=>(Bk .i64 e.1).bind fun g=>(bif g == 1 then some (true,e.2) else some (g == 2,e.2)).bind fun b=>(bif b.1 then (gLd Be h 7 b.2 fun d=>Ae b.2 (.cells [qIi a] Ak true) fun j m=>(AH P Ak (d.1,d.2.1,d.2.2) (some ⟨j,0,none⟩,1,1) m).bind fun c=>h.bind fun f=>(CY c.2 f.block (f.off+7) (.slice c.1.1 c.1.2.1 c.1.2.2)).bind fun o=>some (.normal,[],o)) else (some (.normal,[],b.2)):Option Bq).bind fun i=>if i.1 = .normal then (G9 k n h i1 (Ar (a+1)) i.2.2) else none) else (some (.exit 2,[],J)):=by
 simp only[Bn,G9,Ac]; kernel_rfl
theorem Wp (k a J):Ik (k+1) a J =
 gLd Vy a 2 J fun o=>(bif o then ((EM k a J).bind fun m=>W8 m.1 (some (.normal,[],m.2))) else (some (.normal,[],J)):Option Bq).bind fun n=>if n.1 = .normal then ((Gm k a n.2.2).bind fun h=>W8 h.1 (gLd Be a 6 h.2 fun p=>bif decide (((p.2.1:Nat):Int)>(0:Int)) then (some (.tuple #[],h.2)) else (gLd B9 a 0 h.2 fun q=>(B8 k q h.2).bind fun e=>(Eo e.1).bind fun b=>(G8 k k a b.1 b.2.1 b.2.2 ((b.2.1:Nat):Int) (0:Int) e.2).bind fun c=>if c.1 = .exit 0 then (gLd B9 a 0 c.2.2 fun j=>(AF k j c.2.2).bind fun f=>(Bk .i64 f.1).bind fun i=>(G9 k k a i (0:Int) f.2).bind fun g=>if g.1 = .exit 2 then (a.bind fun d=>(CY g.2.2 d.block (d.off+4) (qIi 2)).bind fun l=>some (.tuple #[],l)) else none) else none))) else none:=by
 simp only[B8,AF,Gm,Ik,G8,G9,EM,Ac]; kernel_rfl
theorem Te (k c d J):Fj (k+1) c d J =
 (BZ k c J).bind fun b=>(Dl b.1).bind fun f=>(bif f then some (decide (d>=0),b.2) else some (false,b.2)).bind fun a=>(bif a.1 then gLd (Aj .i64) c 0 a.2 fun g=>some (decide (d<g),a.2) else some (false,a.2)).bind fun e=>some (.bool e.1,e.2):=by
 simp only[BZ,Fj,Ac]; kernel_rfl
theorem Vp (k c a J):E6 (k+1) c a J =
 gLd (Aj .i64) c 1 J fun b=>gLd Be c 2 J fun e=>if (64:Int)=0 then none else if 0<=(Ar ((Ar (a*b)).tdiv (64:Int)))/\(Ar ((Ar (a*b)).tdiv (64:Int)))<(e.2.1:Nat) then e.1.bind fun d=>(Aj .u64 J d.block (d.off+(Ar ((Ar (a*b)).tdiv (64:Int))).toNat*1)).bind fun g=>if (64:Int)=0 then none else if ((Ar (a*b)).tmod (64:Int))<0 then none else (DP k c J).bind fun f=>(Bk .i64 f.1).bind fun h=>some (qIi (Ar ((BitVec.ofInt 64 (Ar (g.fdiv (2 ^ (min ((Ar (a*b)).tmod (64:Int)).toNat 64)))) &&& BitVec.ofInt 64 h).toNat)),f.2) else none:=by
 simp only[E6,DP,Ac]; kernel_rfl
theorem LA (k a c J):C9 (k+1) a c J =
 (JC k (a.1,a.2.1,a.2.2) c J).bind fun b=>(Bk .i64 b.1).bind fun d=>some (.bool (decide (d>=0)),b.2):=by
 simp only[C9,JC,Ac]; kernel_rfl
theorem ZH (k d e f J):EV (k+1) d e f J =
 Ae J (.cells [qIi d,qIi e,qIi f] Ad true) fun h1 s2=>(Aj .i64 s2 h1 (0+0)).bind fun t=>(bif decide (t>=0) then (Aj .i64 s2 h1 (0+0)).bind fun u=>some (decide (u<=15),s2) else some (false,s2)).bind fun j=>(bif j.1 then (Aj .i64 j.2 h1 (0+1)).bind fun v=>some (decide (v>=0),j.2) else some (false,j.2)).bind fun l=>(bif l.1 then (Aj .i64 l.2 h1 (0+1)).bind fun w=>some (decide (w<=200),l.2) else some (false,l.2)).bind fun m=>(bif m.1 then (Aj .i64 m.2 h1 (0+2)).bind fun n=>some (decide (n>=0),m.2) else some (false,m.2)).bind fun c=>(bif c.1 then (Aj .i64 c.2 h1 (0+2)).bind fun o=>some (decide (o<=3),c.2) else some (false,c.2)).bind fun a=>(bif a.1 then (Aj .i64 a.2 h1 (0+2)).bind fun p=>(bif p != 1 then some (true,a.2) else (Aj .i64 a.2 h1 (0+0)).bind fun q=>some (decide (q>=1),a.2)).bind fun g=>some (g.1,g.2) else some (false,a.2)).bind fun b=>(bif b.1 then (Aj .i64 b.2 h1 (0+2)).bind fun r=>(bif r != 2 then some (true,b.2) else (Aj .i64 b.2 h1 (0+0)).bind fun s=>some (decide (s>=2),b.2)).bind fun h=>some (h.1,h.2) else some (false,b.2)).bind fun i=>some (.bool i.1,i.2):=by
 simp only[EV,Ac]; kernel_rfl
theorem bK (k i a b J):LU (k+1) i a b J =
 (AF k i J).bind fun c=>(Bk .i64 c.1).bind fun n=>(bif n == 0 then some (true,c.2) else some (decide (a<0),c.2)).bind fun d=>(bif d.1 then some (true,d.2) else some (decide (a>=8),d.2)).bind fun e=>(bif e.1 then some (true,e.2) else some (decide (b<0),e.2)).bind fun f=>(bif f.1 then some (true,f.2) else (Fo k f.2).bind fun j=>(Eo j.1).bind fun m=>some (decide (b>=((m.2.1:Nat):Int)),j.2)).bind fun g=>bif g.1 then (some (.tuple #[qVi none,qIi 1],g.2)) else (Ae g.2 (.cells [qVi i,qIi a,qIi b,qIi 0,qIi 0,qIi 0,qIi 0] Cz true) fun l h=>some (.tuple #[qVi (some ⟨l,0,none⟩),qIi 0],h)):=by
 simp only[LU,Fo,AF,Ac]; kernel_rfl
theorem OK (k h i j l J):De (k+1) h i j l J =
 Ae J (.cells [qIi i,qIi j,qIi l] Ad true) fun h1 s2=>(FC k h s2).bind fun o=>(Dl o.1).bind fun b4=>bif !b4 then (some (.tuple #[qIi 0,qIi 5],o.2)) else ((Aj .i64 o.2 h1 0).bind fun n5=>(Aj .i64 o.2 h1 (0+1)).bind fun n6=>(Aj .i64 o.2 h1 (0+1+1)).bind fun n7=>(EV k n5 n6 n7 o.2).bind fun p=>(Dl p.1).bind fun b9=>bif !b9 then (some (.tuple #[qIi 0,qIi 2],p.2)) else ((Aj .i64 p.2 h1 0).bind fun x=>(Aj .i64 p.2 h1 (0+1)).bind fun y=>(Aj .i64 p.2 h1 (0+1+1)).bind fun z=>(Hm k x y z p.2).bind fun u=>(Bk .i64 u.1).bind fun t=>(Fo k u.2).bind fun f=>(Eo f.1).bind fun s=>gLd (Aj .i64) h 2 f.2 fun m=>if 0<=m/\m<(s.2.1:Nat) then s.1.bind fun q=>(CW f.2 q.block (q.off+m.toNat*1)).bind fun v20=>og v20 fun ac=>(bif decide (t>32) then (some (.normal,[.func (.func 272) #[] #[]],f.2)) else (some (.normal,[(.func (.method "dustcart/alloc.place") #[ac] #[])],f.2)):Option Bq).bind fun c=>if c.1 = .normal then (u_f c.2.1 fun f23=>h.bind fun a=>(B9 c.2.2 a.block a.off).bind fun V=>(Aj .i64 c.2.2 a.block (a.off+1)).bind fun A=>(Aj .i64 c.2.2 a.block (a.off+1+1)).bind fun B=>(Aj .i64 c.2.2 a.block (a.off+1+1+1)).bind fun C=>(Aj .i64 c.2.2 a.block (a.off+1+1+1+1)).bind fun D=>(Aj .i64 c.2.2 a.block (a.off+1+1+1+1+1)).bind fun E=>(Aj .i64 c.2.2 a.block (a.off+1+1+1+1+1+1)).bind fun F=>Ae c.2.2 (.cells [qVi none,qIi 0,qIi 0,qIi 0,qIi 0,qIi 0,qIi 0] Cz true) fun d Z=>(H5 Z d 0 [qVi V,qIi A,qIi B,qIi C,qIi D,qIi E,qIi F]).bind fun aa=>(IJ k f23 [qVi h,qIi t] aa).bind fun g=>sY g.1 fun n w=>bif !w then (some (.tuple #[qIi 0,qIi 6],g.2)) else (gLd B9 h 0 g.2 fun W=>if (64:Int)=0 then none else (BH k W (Ar (n.tdiv (64:Int))) g.2).bind fun e=>(Bk .i64 e.1).bind fun G=>gLd (Aj .i64) h 1 e.2 fun H=>(bif G == H then (gLd B9 h 0 e.2 fun X=>(Aj .i64 e.2 h1 0).bind fun I=>(Aj .i64 e.2 h1 (0+1)).bind fun K=>(Aj .i64 e.2 h1 (0+1+1)).bind fun L=>(FD k X n I K L e.2).bind fun v=>GV v.1 fun ad M=>some (.normal,[qIi M],v.2)) else (some (.normal,[qIi 5],e.2)):Option Bq).bind fun b=>if b.1 = .normal then (ZZ b.2.1 fun N=>bif N != 0 then ((B9 b.2.2 d 0).bind fun Y=>(Aj .i64 b.2.2 d (0+1)).bind fun O=>(Aj .i64 b.2.2 d (0+1+1)).bind fun P=>(Aj .i64 b.2.2 d (0+1+1+1)).bind fun Q=>(Aj .i64 b.2.2 d (0+1+1+1+1)).bind fun S=>(Aj .i64 b.2.2 d (0+1+1+1+1+1)).bind fun T=>(Aj .i64 b.2.2 d (0+1+1+1+1+1+1)).bind fun U=>h.bind fun r=>(H5 b.2.2 r.block r.off [qVi Y,qIi O,qIi P,qIi Q,qIi S,qIi T,qIi U]).bind fun ab=>some (.tuple #[qIi 0,qIi 6],ab)) else (some (.tuple #[qIi n,qIi 0],b.2.2))) else none)) else none else none)):=by
 simp only[De,FC,Fo,IJ,FD,BH,EV,Hm,Ac]; kernel_rfl
theorem Yo (k b c J):CG (k+1) b c J =
 gLd B9 b 5 J fun e=>if (2:Int)=0 then none else (DC k e (Ar (c.tdiv (2:Int))) J).bind fun a=>(Bk .i64 a.1).bind fun d=>some (qIi d,a.2):=by
 simp only[DC,CG,Ac]; kernel_rfl
theorem PL (k n c b f i3 a J):Jm k (n+1) c b f i3 a J =
 (bif decide (a<(b:Int)) then if 0<=a/\a<b then c.bind fun e=>(Aj .i64 J e.block (e.off+a.toNat*1)).bind fun g=>some (decide (g<i3),J) else none else some (false,J)).bind fun d=>bif d.1 then (Jm k n c b f i3 (Ar (a+1)) d.2) else (some (.exit 0,[qIi a],d.2)):=by
 simp only[Jm,Ac]; kernel_rfl
theorem bP (k a l J):Mc (k+1) a l J =
 (Jm k k a.1 a.2.1 a.2.2 l (0:Int) J).bind fun i=>if i.1 = .exit 0 then (ZZ i.2.1 fun h=>(bif decide (h<((a.2.1:Nat):Int)) then if 0<=h/\h<(a.2.1:Nat) then a.1.bind fun o=>(Aj .i64 i.2.2 o.block (o.off+h.toNat*1)).bind fun q=>some (q == l,i.2.2) else none else some (false,i.2.2)).bind fun n=>bif n.1 then (some (.slice a.1 a.2.1 a.2.2,n.2)) else (Ae n.2 (.cells [] Ak true) fun p g=>(Gj Ak 1 (a.1,a.2.1,a.2.2) none (some (qIi h)) none g).bind fun e=>(AH P Ak (some ⟨p,0,some 0⟩,0,0) (e.1,e.2.1,e.2.2) g).bind fun c=>FQ g c.2 (Ae c.2 (.cells [qIi l] Ak true) fun m j=>(AH P Ak (c.1.1,c.1.2.1,c.1.2.2) (some ⟨m,0,none⟩,1,1) j).bind fun b=>gj a.1 j b.2 ((Gj Ak 1 (a.1,a.2.1,a.2.2) (some (qIi h)) none none b.2).bind fun f=>(AH P Ak (b.1.1,b.1.2.1,b.1.2.2) (f.1,f.2.1,f.2.2) b.2).bind fun d=>some (.slice d.1.1 d.1.2.1 d.1.2.2,d.2))))) else none:=by
 simp only[Mc,Jm,Ac]; kernel_rfl
theorem RN (k c a J):EG (k+1) c a J =
 gLd (Aj .i64) a 2 J fun f=>(bif decide (f<0) then some (true,J) else gLd (Aj .i64) a 2 J fun g=>some (decide (g>=((c.2.1:Nat):Int)),J)).bind fun b=>bif b.1 then (some (qVi none,b.2)) else (gLd (Aj .i64) a 2 b.2 fun d=>if 0<=d/\d<(c.2.1:Nat) then c.1.bind fun e=>some (qVi (some ⟨e.block,e.off+d.toNat*1,none⟩),b.2) else none):=by
 simp only[EG,Ac]; kernel_rfl
theorem SP (k b e J):HE (k+1) b e J =
 (BA k b e J).bind fun a=>(Bk .i64 a.1).bind fun h=>bif h != 0 then (some (.tuple #[qIi 0,qIi h],a.2)) else (gLd Be b 1 a.2 fun g=>(Ay k b e a.2).bind fun d=>(Bk .i64 d.1).bind fun c=>if 0<=c/\c<(g.2.1:Nat) then g.1.bind fun f=>(Aj .i64 d.2 f.block (f.off+c.toNat*8+1)).bind fun i=>some (.tuple #[qIi i,qIi 0],d.2) else none):=by
 simp only[HE,Ay,BA,Ac]; kernel_rfl
theorem Ua (k a J):BZ (k+1) a J =
 (Lq P LD (qVi a) (qVi none)).bind fun c=>(bif !c then gLd (Aj .i64) a 0 J fun d=>some (decide (d>0),J) else some (false,J)).bind fun b=>some (.bool b.1,b.2):=by
 simp only[BZ,Ac]; kernel_rfl
theorem EZ (k n c b g e i4 a J):Ds k (n+1) c b g e i4 a J =
 bif decide (a<i4) then (if 0<=a/\a<b then c.bind fun f=>(Aj .i64 J f.block (f.off+a.toNat*1)).bind fun i=>(GL k e [qIi i] J).bind fun d=>(Dl d.1).bind fun h=>bif h then (some (.ret,[qIi a],d.2)) else (Ds k n c b g e i4 (Ar (a+1)) d.2) else none) else (some (.exit 0,[],J)):=by
 simp only[GL,Ds,Ac]; kernel_rfl
theorem Lg (k b c J):Hp (k+1) b c J =
 (Ds k k b.1 b.2.1 b.2.2 c ((b.2.1:Nat):Int) (0:Int) J).bind fun a=>if a.1 = .exit 0 then (some (qIi (-1:Int),a.2.2)) else if a.1 = .ret then (ZZ a.2.1 fun d=>some (qIi d,a.2.2)) else none:=by
 simp only[Hp,Ds,Ac]; kernel_rfl
theorem QM (k b J):Eg (k+1) b J =
 (BZ k b J).bind fun a=>(Dl a.1).bind fun c=>bif !c then (some (qIi 0,a.2)) else (gLd (Aj .i64) b 0 a.2 fun d=>some (qIi d,a.2)):=by
 simp only[Eg,BZ,Ac]; kernel_rfl
theorem UZ (k f b m J):Je (k+1) f b m J =
 (AV k f J).bind fun h=>(Dl h.1).bind fun n=>bif !n then (some (qIi 5,h.2)) else ((DL k f b h.2).bind fun i=>(Dl i.1).bind fun o=>(bif !o then some (true,i.2) else some (!m,i.2)).bind fun a=>bif a.1 then (some (qIi 1,a.2)) else (gLd Be f 0 a.2 fun l=>if 0<=b/\b<(l.2.1:Nat) then l.1.bind fun j=>(Aj .i64 a.2 j.block (j.off+b.toNat*2+0)).bind fun p=>(bif p != 1 then gLd Be f 0 a.2 fun e=>if 0<=b/\b<(e.2.1:Nat) then e.1.bind fun d=>(Aj .i64 a.2 d.block (d.off+b.toNat*2+0)).bind fun g=>some (g != 2,a.2) else none else some (false,a.2)).bind fun c=>bif c.1 then (some (qIi 5,c.2)) else (some (qIi 0,c.2)) else none)):=by
 simp only[Je,AV,DL,Ac]; kernel_rfl
theorem MB (k n d i1 b J):FY k (n+1) d i1 b J =
 gLd Be d 0 J fun h=>if 0<=i1/\i1<(h.2.1:Nat) then h.1.bind fun g=>(Aj .i64 J g.block (g.off+i1.toNat*2+0)).bind fun l=>(bif l == 2 then gLd Be d 0 J fun j=>some (decide ((Ar (i1+b))<((j.2.1:Nat):Int)),J) else some (false,J)).bind fun e=>(bif e.1 then gLd Be d 0 e.2 fun i=>if 0<=(Ar (i1+b))/\(Ar (i1+b))<(i.2.1:Nat) then i.1.bind fun c=>(Aj .i64 e.2 c.block (c.off+(Ar (i1+b)).toNat*2+0)).bind fun f=>some (f == 3,e.2) else none else some (false,e.2)).bind fun a=>bif a.1 then (FY k n d i1 (Ar (b+1)) a.2) else (some (.exit 0,[qIi b],a.2)) else none:=by
 simp only[FY,Ac]; kernel_rfl
theorem Vc (k c d J):Gu (k+1) c d J =
 (FY k k c d (1:Int) J).bind fun a=>if a.1 = .exit 0 then (ZZ a.2.1 fun b=>some (qIi b,a.2.2)) else none:=by
 simp only[Gu,FY,Ac]; kernel_rfl
theorem FK (k n v0 i1 j i u i5 a J):Di k (n+1) v0 i1 j i u i5 a J =
 bif decide (a<i5) then (Ae J (.cells [qIi 0,qIi 0,qIi 0] Am true) fun c r=>(H5 r c 0 [qIi i1,qIi 0,qIi a]).bind fun h=>(bif i1 == 0 then (if (16:Int)=0 then none else if (16:Int)=0 then none else (CY h c (0+1) (qIi (Ar (a.tdiv (16:Int))))).bind fun s=>(CY s c (0+2) (qIi (a.tmod (16:Int)))).bind fun t=>some (.normal,[],t)) else (some (.normal,[],h)):Option Bq).bind fun b=>if b.1 = .normal then (if 0<=a/\a<i then j.bind fun e=>(Aj .i64 b.2.2 e.block (e.off+a.toNat*1)).bind fun m=>(bif m != 0 then (Aj .i64 b.2.2 c 0).bind fun o=>(Aj .i64 b.2.2 c (0+1)).bind fun p=>(Aj .i64 b.2.2 c (0+1+1)).bind fun q=>if 0<=a/\a<i then j.bind fun f=>(Jb k v0 [.agg #[qIi o,qIi p,qIi q],qVi (some ⟨f.block,f.off+a.toNat*1,none⟩)] b.2.2).bind fun g=>(Dl g.1).bind fun l=>some (!l,g.2) else none else some (false,b.2.2)).bind fun d=>bif d.1 then (some (.ret,[],d.2)) else (Di k n v0 i1 j i u i5 (Ar (a+1)) d.2) else none) else none) else (some (.exit 2,[],J)):=by
 simp only[Jb,Di,Ac]; kernel_rfl
theorem BS (k n v0 h1 i2 a J):Dh k (n+1) v0 h1 i2 a J =
 bif decide (a<i2) then (if 0<=a/\a<(3:Nat) then (Be J h1 (0+a.toNat*1)).bind fun b=>(Di k k v0 a b.1 b.2.1 b.2.2 ((b.2.1:Nat):Int) (0:Int) J).bind fun c=>if c.1 = .exit 2 then (Dh k n v0 h1 i2 (Ar (a+1)) c.2.2) else if c.1 = .ret then (some (.ret,[],c.2.2)) else none else none) else (some (.exit 0,[],J)):=by
 simp only[Dh,Di,Ac]; kernel_rfl
theorem Md (k m c J):I8 (k+1) m c J =
 c.bind fun i=>(B9 J i.block i.off).bind fun n=>gLd Be n 1 J fun e=>c.bind fun j=>(B9 J j.block j.off).bind fun o=>gLd Be o 2 J fun f=>c.bind fun l=>(B9 J l.block l.off).bind fun g=>gLd Be g 3 J fun b=>Ae J (.cells [.slice e.1 e.2.1 e.2.2,.slice f.1 f.2.1 f.2.2,.slice b.1 b.2.1 b.2.2] FR true) fun d h=>(Dh k k m d ((3:Nat):Int) (0:Int) h).bind fun a=>if a.1 = .exit 0 then (some (.tuple #[],a.2.2)) else if a.1 = .ret then (some (.tuple #[],a.2.2)) else none:=by
 simp only[I8,Dh,Ac]; kernel_rfl
theorem OV (k n b i1 i2 a J):Ii k (n+1) b i1 i2 a J =
 (bif decide (a<i1) then (Cw k b (Ar (i2+a)) J).bind fun d=>(Bk .i64 d.1).bind fun e=>some (e == 0,d.2) else some (false,J)).bind fun c=>bif c.1 then (Ii k n b i1 i2 (Ar (a+1)) c.2) else (some (.exit 2,[qIi a],c.2)):=by
 simp only[Cw,Ii,Ac]; kernel_rfl
theorem Wi (k n b i1 a J):Ih k (n+1) b i1 a J =
 (CF k b J).bind fun d=>(Bk .i64 d.1).bind fun e=>bif decide ((Ar (a+i1))<=e) then ((Ii k k b i1 a (0:Int) d.2).bind fun c=>if c.1 = .exit 2 then (ZZ c.2.1 fun f=>bif f == i1 then (some (.ret,[qIi a],c.2.2)) else (Ih k n b i1 (Ar (a+1)) c.2.2)) else none) else (some (.exit 0,[],d.2)):=by
 simp only[CF,Ih,Ii,Ac]; kernel_rfl
theorem ZR (k b c J):Iy (k+1) b c J =
 (Ih k k b c (1:Int) J).bind fun a=>if a.1 = .exit 0 then (some (qIi 0,a.2.2)) else if a.1 = .ret then (ZZ a.2.1 fun d=>some (qIi d,a.2.2)) else none:=by
 simp only[Iy,Ih,Ac]; kernel_rfl
theorem J1 (k n e i1 i2 a J):Cu k (n+1) e i1 i2 a J =
 bif decide (a<(Ar (i1+i2))) then (gLd Be e 0 J fun c=>if 0<=a/\a<(c.2.1:Nat) then c.1.bind fun b=>(Aj .i64 J b.block (b.off+a.toNat*2+0)).bind fun d=>bif d != 0 then (some (.ret,[qIi 8],J)) else (Cu k n e i1 i2 (Ar (a+1)) J) else none) else (some (.exit 0,[],J)):=by
 simp only[Cu,Ac]; kernel_rfl
theorem J3 (k n d i1 i2 i3 a J):Cv k (n+1) d i1 i2 i3 a J =
 bif decide (a<(Ar (i1+i2))) then (gLd Be d 0 J fun c=>if 0<=a/\a<(c.2.1:Nat) then c.1.bind fun b=>(H5 J b.block (b.off+a.toNat*2) [qIi 3,qIi i3]).bind fun e=>Cv k n d i1 i2 i3 (Ar (a+1)) e else none) else (some (.exit 2,[],J)):=by
 simp only[Cv,Ac]; kernel_rfl
theorem OU (k e b h q J):DY (k+1) e b h q J =
 (Az k e J).bind fun m=>(Dl m.1).bind fun s=>bif !s then (some (qIi 5,m.2)) else ((Fh k e b m.2).bind fun n=>(Dl n.1).bind fun t=>(bif !t then some (true,n.2) else some (decide (h<1),n.2)).bind fun i=>(bif i.1 then some (true,i.2) else gLd Be e 0 i.2 fun u=>some (decide (h>(Ar (((u.2.1:Nat):Int)-b))),i.2)).bind fun o=>(bif o.1 then some (true,o.2) else (IL k q o.2).bind fun r=>(Dl r.1).bind fun j=>some (!j,r.2)).bind fun c=>bif c.1 then (some (qIi 1,c.2)) else ((Cu k k e b h b c.2).bind fun a=>if a.1 = .exit 0 then ((Cv k k e b h q b a.2.2).bind fun d=>if d.1 = .exit 2 then (gLd Be e 0 d.2.2 fun g=>if 0<=b/\b<(g.2.1:Nat) then g.1.bind fun f=>(CY d.2.2 f.block (f.off+b.toNat*2+0) (qIi 2)).bind fun p=>some (qIi 0,p) else none) else none) else if a.1 = .ret then (ZZ a.2.1 fun l=>some (qIi l,a.2.2)) else none)):=by
 simp only[DY,Cu,Cv,Az,Fh,IL,Ac]; kernel_rfl
theorem PK (k n h0 f e o a J):Jl k (n+1) h0 f e o a J =
 bif decide (a<(e:Int)) then (if 0<=a/\a<e then f.bind fun c=>(Aj .i64 J c.block (c.off+a.toNat*2+1)).bind fun g=>(Aj .i64 J h0 0).bind fun h=>(Aj .i64 J h0 (0+1)).bind fun i=>(Aj .i64 J h0 (0+1+1)).bind fun j=>(Cn k h i j J).bind fun b=>(Bk .i64 b.1).bind fun l=>bif decide (g>=l) then (if 0<=a/\a<e then f.bind fun d=>(Aj .i64 b.2 d.block (d.off+a.toNat*2+0)).bind fun m=>some (.ret,[qIi m,.bool true],b.2) else none) else (Jl k n h0 f e o (Ar (a+1)) b.2) else none) else (some (.exit 2,[],J)):=by
 simp only[Cn,Jl,Ac]; kernel_rfl
theorem PJ (k n c i1 f d J):GR k (n+1) c i1 f d J =
 (CF k c J).bind fun i=>(Bk .i64 i.1).bind fun o=>bif decide (d<o) then ((Cw k c d i.2).bind fun j=>(Bk .i64 j.1).bind fun p=>(bif p != 1 then some (true,j.2) else (Fg k c d j.2).bind fun m=>(Bk .i64 m.1).bind fun q=>some (q != i1,m.2)).bind fun l=>bif l.1 then (GR k n c i1 f (Ar (d+1)) l.2) else ((Iu k c d l.2).bind fun e=>(Eo e.1).bind fun b=>(Jl k k f b.1 b.2.1 b.2.2 (0:Int) e.2).bind fun a=>if a.1 = .exit 2 then (GR k n c i1 f (Ar (d+1)) a.2.2) else if a.1 = .ret then (wx a.2.1 fun h g=>some (.ret,[qIi h,.bool g],a.2.2)) else none)) else (some (.exit 0,[],i.2)):=by
 simp only[CF,Iu,Fg,Cw,GR,Jl,Ac]; kernel_rfl
theorem bN (k g b c d h J):ND (k+1) g b c d h J =
 Ae J (.cells [qIi b,qIi c,qIi d] Ad true) fun h1 s2=>(GR k k g h h1 (1:Int) s2).bind fun a=>if a.1 = .exit 0 then (some (.tuple #[qIi 0,.bool false],a.2.2)) else if a.1 = .ret then (wx a.2.1 fun f e=>some (.tuple #[qIi f,.bool e],a.2.2)) else none:=by
 simp only[ND,GR,Ac]; kernel_rfl
theorem SO (k f a l J):Gw (k+1) f a l J =
 (Az k f J).bind fun h=>(Dl h.1).bind fun o=>bif !o then (some (qIi 5,h.2)) else ((Fh k f a h.2).bind fun i=>(Dl i.1).bind fun p=>(bif !p then some (true,i.2) else (IL k l i.2).bind fun n=>(Dl n.1).bind fun q=>some (!q,n.2)).bind fun b=>bif b.1 then (some (qIi 1,b.2)) else (gLd Be f 0 b.2 fun m=>if 0<=a/\a<(m.2.1:Nat) then m.1.bind fun c=>(Aj .i64 b.2 c.block (c.off+a.toNat*2+0)).bind fun g=>bif g != 0 then (some (qIi 8,b.2)) else (gLd Be f 0 b.2 fun e=>if 0<=a/\a<(e.2.1:Nat) then e.1.bind fun d=>(H5 b.2 d.block (d.off+a.toNat*2) [qIi 1,qIi l]).bind fun j=>some (qIi 0,j) else none) else none)):=by
 simp only[Gw,Az,Fh,IL,Ac]; kernel_rfl
theorem Yf (k a b c J):Cn (k+1) a b c J =
 Ae J (.cells [qIi a,qIi b,qIi c] Ad true) fun h1 s2=>(Aj .i64 s2 h1 0).bind fun h=>(Aj .i64 s2 h1 (0+1)).bind fun i=>(Aj .i64 s2 h1 (0+1+1)).bind fun j=>(IK k h i j s2).bind fun d=>(Dl d.1).bind fun g=>bif !g then (some (qIi 0,d.2)) else ((Aj .i64 d.2 h1 (0+0)).bind fun e=>(Aj .i64 d.2 h1 (0+1)).bind fun f=>if (2:Int)=0 then none else some (qIi (Ar ((Ar ((Ar ((2:Int)+e))+f))+((Ar ((Ar ((2:Int)+e))+f)).tmod (2:Int)))),d.2)):=by
 simp only[IK,Cn,Ac]; kernel_rfl
theorem LW (k n g i1 d i3 a J):Fs k (n+1) g i1 d i3 a J =
 bif decide (a<i3) then (gLd Be g 0 J fun c=>(Aj .i64 J d 0).bind fun e=>(Aj .i64 J d (0+1)).bind fun f=>if 0<=(Ar (i1+a))/\(Ar (i1+a))<(c.2.1:Nat) then c.1.bind fun b=>(H5 J b.block (b.off+(Ar (i1+a)).toNat*2) [qIi e,qIi f]).bind fun h=>Fs k n g i1 d i3 (Ar (a+1)) h else none) else (some (.exit 1,[],J)):=by
 simp only[Fs,Ac]; kernel_rfl
theorem T9 (k m d q e f g h J):FE (k+1) m d q e f g h J =
 Ae J (.cells [qIi e,qIi f] Bi true) fun h1 s2=>Ae s2 (.cells [qIi g,qIi h] Bi true) fun D E=>(AV k m E).bind fun y=>(Dl y.1).bind fun B=>bif !B then (some (qIi 5,y.2)) else ((DL k m d y.2).bind fun z=>(Dl z.1).bind fun C=>(bif !C then some (true,z.2) else some (decide (q<1),z.2)).bind fun r=>(bif r.1 then some (true,r.2) else gLd Be m 0 r.2 fun u=>some (decide (q>(Ar (((u.2.1:Nat):Int)-d))),r.2)).bind fun c=>(bif c.1 then some (true,c.2) else (Aj .i64 c.2 h1 (0+1)).bind fun v=>(MC k v c.2).bind fun p=>(Dl p.1).bind fun s=>some (!s,p.2)).bind fun a=>bif a.1 then (some (qIi 1,a.2)) else (gLd Be m 0 a.2 fun i=>(Gj Bi 2 (i.1,i.2.1,i.2.2) (some (qIi d)) (some (qIi (Ar (d+q)))) none a.2).bind fun j=>(DQ k (j.1,j.2.1,j.2.2) (.func (.func 285) #[] #[]) a.2).bind fun l=>(Dl l.1).bind fun t=>bif t then (some (qIi 8,l.2)) else ((Fs k k m d D q (0:Int) l.2).bind fun b=>if b.1 = .exit 1 then (gLd Be m 0 b.2.2 fun o=>(Aj .i64 b.2.2 h1 0).bind fun w=>(Aj .i64 b.2.2 h1 (0+1)).bind fun x=>if 0<=d/\d<(o.2.1:Nat) then o.1.bind fun n=>(H5 b.2.2 n.block (n.off+d.toNat*2) [qIi w,qIi x]).bind fun A=>some (qIi 0,A) else none) else none))):=by
 simp only[FE,Fs,AV,DL,MC,DQ,Ac]; kernel_rfl
theorem Ma (k n o i1 i2 i b J):Dp k (n+1) o i1 i2 i b J =
 gLd Be o 1 J fun q=>bif decide (b<((q.2.1:Nat):Int)) then (gLd Be o 1 J fun j=>if 0<=b/\b<(j.2.1:Nat) then j.1.bind fun a=>(Aj .i64 J a.block (a.off+b.toNat*8)).bind fun r=>(Aj .i64 J a.block (a.off+b.toNat*8+1)).bind fun s=>(Aj .i64 J a.block (a.off+b.toNat*8+1+1)).bind fun t=>(Aj .i64 J a.block (a.off+b.toNat*8+1+1+1)).bind fun u=>(Aj .i64 J a.block (a.off+b.toNat*8+1+1+1+1)).bind fun v=>(Be J a.block (a.off+b.toNat*8+1+1+1+1+1)).bind fun f=>(Be J a.block (a.off+b.toNat*8+1+1+1+1+1+1)).bind fun g=>(Vy J a.block (a.off+b.toNat*8+1+1+1+1+1+1+1)).bind fun p=>Ae J (.cells [qIi 0,qIi 0,qIi 0,qIi 0,qIi 0,.slice none 0 0,.slice none 0 0,.bool false] Ab true) fun c H=>(H5 H c 0 [qIi r,qIi s,qIi t,qIi u,qIi v,.slice f.1 f.2.1 f.2.2,.slice g.1 g.2.1 g.2.2,.bool p]).bind fun e=>(Aj .i64 e c (0+1)).bind fun w=>(bif w != i2 then (Aj .i64 e c (0+0)).bind fun x=>(Aj .i64 e i 0).bind fun y=>(Aj .i64 e i (0+1)).bind fun z=>(Aj .i64 e i (0+1+1)).bind fun A=>(Cn k y z A e).bind fun l=>(Bk .i64 l.1).bind fun B=>some (decide (x<(Ar (i1+B))),l.2) else some (false,e)).bind fun d=>(bif d.1 then (Aj .i64 d.2 c (0+0)).bind fun C=>(Aj .i64 d.2 c (0+2)).bind fun D=>(Aj .i64 d.2 c (0+2+1)).bind fun E=>(Aj .i64 d.2 c (0+2+1+1)).bind fun F=>(Cn k D E F d.2).bind fun m=>(Bk .i64 m.1).bind fun G=>some (decide (i1<(Ar (C+G))),m.2) else some (false,d.2)).bind fun h=>bif h.1 then (some (.ret,[qIi 8],h.2)) else (Dp k n o i1 i2 i (Ar (b+1)) h.2) else none) else (some (.exit 0,[],J)):=by
 simp only[Dp,Cn,Ac]; kernel_rfl
theorem TN (k n b f g h K J):Iv (k+1) n b f g h K J =
 Ae J (.cells [qIi f,qIi g,qIi h] Ad true) fun h1 s2=>(bif decide (b<0) then some (true,s2) else if (2:Int)=0 then none else some ((b.tmod (2:Int)) != (0:Int),s2)).bind fun u=>(bif u.1 then some (true,u.2) else gLd Be n 0 u.2 fun L=>some (decide (b>=(Ar (((L.2.1:Nat):Int)*(64:Int)))),u.2)).bind fun m=>bif m.1 then (some (qIi 1,m.2)) else (if (64:Int)=0 then none else (Aj .i64 m.2 h1 0).bind fun M=>(Aj .i64 m.2 h1 (0+1)).bind fun N=>(Aj .i64 m.2 h1 (0+1+1)).bind fun O=>(ET k M N O m.2).bind fun a=>(Dl a.1).bind fun v=>(bif v then (if (64:Int)=0 then none else (bif (b.tmod (64:Int)) != (0:Int) then some (true,a.2) else gLd Be n 0 a.2 fun q=>if 0<=(Ar (b.tdiv (64:Int)))/\(Ar (b.tdiv (64:Int)))<(q.2.1:Nat) then q.1.bind fun o=>(Aj .i64 a.2 o.block (o.off+(Ar (b.tdiv (64:Int))).toNat*2+0)).bind fun w=>some (w != 2,a.2) else none).bind fun i=>(bif i.1 then some (true,i.2) else (Gz k n (Ar (b.tdiv (64:Int))) i.2).bind fun c=>(Bk .i64 c.1).bind fun x=>(Aj .i64 c.2 h1 0).bind fun y=>(Aj .i64 c.2 h1 (0+1)).bind fun z=>(Aj .i64 c.2 h1 (0+1+1)).bind fun A=>(EX k y z A c.2).bind fun s=>(Bk .i64 s.1).bind fun B=>some (x != B,s.2)).bind fun j=>bif j.1 then (some (.ret,[qIi 5],j.2)) else (some (.normal,[],j.2))) else (gLd Be n 0 a.2 fun r=>if 0<=(Ar (b.tdiv (64:Int)))/\(Ar (b.tdiv (64:Int)))<(r.2.1:Nat) then r.1.bind fun p=>(Aj .i64 a.2 p.block (p.off+(Ar (b.tdiv (64:Int))).toNat*2+0)).bind fun C=>(bif C != 1 then some (true,a.2) else (Aj .i64 a.2 h1 0).bind fun D=>(Aj .i64 a.2 h1 (0+1)).bind fun E=>(Aj .i64 a.2 h1 (0+1+1)).bind fun F=>(Cn k D E F a.2).bind fun t=>(Bk .i64 t.1).bind fun G=>if (64:Int)=0 then none else some ((Ar ((Ar ((Ar (b+G))-(1:Int))).tdiv (64:Int))) != (Ar (b.tdiv (64:Int))),t.2)).bind fun l=>bif l.1 then (some (.ret,[qIi 5],l.2)) else (some (.normal,[],l.2)) else none):Option Bq).bind fun d=>if d.1 = .normal then ((Dp k k n b K h1 (0:Int) d.2.2).bind fun e=>if e.1 = .exit 0 then (some (qIi 0,e.2.2)) else if e.1 = .ret then (ZZ e.2.1 fun H=>some (qIi H,e.2.2)) else none) else if d.1 = .ret then (ZZ d.2.1 fun I=>some (qIi I,d.2.2)) else none):=by
 simp only[Gz,Iv,Dp,ET,EX,Cn,Ac]; kernel_rfl
theorem ME (k n c h1 b J):EE k (n+1) c h1 b J =
 gLd Be c 1 J fun f=>(bif decide (b<((f.2.1:Nat):Int)) then gLd Be c 1 J fun e=>if 0<=b/\b<(e.2.1:Nat) then e.1.bind fun d=>(Aj .i64 J d.block (d.off+b.toNat*8+0)).bind fun g=>(Aj .i64 J h1 (0+0)).bind fun h=>some (decide (g<h),J) else none else some (false,J)).bind fun a=>bif a.1 then (EE k n c h1 (Ar (b+1)) a.2) else (some (.exit 0,[qIi b],a.2)):=by
 simp only[EE,Ac]; kernel_rfl
theorem Vk (k v g h i j l b c m J):H2 (k+1) v g h i j l b c m J =
 Ae J (.cells [qIi g,qIi h,qIi i,qIi j,qIi l,.slice b.1 b.2.1 b.2.2,.slice c.1 c.2.1 c.2.2,.bool m] Ab true) fun h1 s2=>(EE k k v h1 (0:Int) s2).bind fun e=>if e.1 = .exit 0 then (ZZ e.2.1 fun u=>gLd Be v 1 e.2.2 fun n=>(Gj Ab 8 (n.1,n.2.1,n.2.2) none (some (qIi u)) none e.2.2).bind fun o=>(AH P Ab (none,0,0) (o.1,o.2.1,o.2.2) e.2.2).bind fun a=>(Aj .i64 a.2 h1 0).bind fun y=>(Aj .i64 a.2 h1 (0+1)).bind fun z=>(Aj .i64 a.2 h1 (0+1+1)).bind fun A=>(Aj .i64 a.2 h1 (0+1+1+1)).bind fun B=>(Aj .i64 a.2 h1 (0+1+1+1+1)).bind fun C=>(Be a.2 h1 (0+1+1+1+1+1)).bind fun p=>(Be a.2 h1 (0+1+1+1+1+1+1)).bind fun q=>(Vy a.2 h1 (0+1+1+1+1+1+1+1)).bind fun w=>Ae a.2 (.cells [qIi y,qIi z,qIi A,qIi B,qIi C,.slice p.1 p.2.1 p.2.2,.slice q.1 q.2.1 q.2.2,.bool w] Ab true) fun x D=>(AH P Ab (a.1.1,a.1.2.1,a.1.2.2) (some ⟨x,0,none⟩,1,1) D).bind fun d=>gLd Be v 1 d.2 fun r=>(Gj Ab 8 (r.1,r.2.1,r.2.2) (some (qIi u)) none none d.2).bind fun s=>(AH P Ab (d.1.1,d.1.2.1,d.1.2.2) (s.1,s.2.1,s.2.2) d.2).bind fun f=>v.bind fun t=>(CY f.2 t.block (t.off+1) (.slice f.1.1 f.1.2.1 f.1.2.2)).bind fun E=>some (.tuple #[],E)) else none:=by
 simp only[H2,EE,Ac]; kernel_rfl
theorem MA (k n f i1 i2 i3 a J):ED k (n+1) f i1 i2 i3 a J =
 bif decide (a<(Ar (i1+i2))) then ((Jc k f a J).bind fun b=>GV b.1 fun d e=>(bif e == 0 then some (d != i3,b.2) else some (false,b.2)).bind fun c=>bif c.1 then (some (.ret,[qIi 8],c.2)) else (ED k n f i1 i2 i3 (Ar (a+2)) c.2)) else (some (.exit 0,[],J)):=by
 simp only[Jc,ED,Ac]; kernel_rfl
theorem UY (k g a l u J):Jd (k+1) g a l u J =
 (bif decide (a<0) then some (true,J) else gLd Be g 1 J fun v=>some (decide (a>=((v.2.1:Nat):Int)),J)).bind fun q=>(bif q.1 then some (true,q.2) else if (2:Int)=0 then none else some ((a.tmod (2:Int)) != (0:Int),q.2)).bind fun d=>bif d.1 then (some (qIi 1,d.2)) else (if (64:Int)=0 then none else (bif decide (l<=32) then (gLd Be g 0 d.2 fun t=>if 0<=(Ar (a.tdiv (64:Int)))/\(Ar (a.tdiv (64:Int)))<(t.2.1:Nat) then t.1.bind fun s=>(Aj .i64 d.2 s.block (s.off+(Ar (a.tdiv (64:Int))).toNat*2+0)).bind fun w=>(bif w != 1 then some (true,d.2) else if (64:Int)=0 then none else some ((Ar ((Ar ((Ar (a+l))-(1:Int))).tdiv (64:Int))) != (Ar (a.tdiv (64:Int))),d.2)).bind fun r=>bif r.1 then (some (.ret,[qIi 5],r.2)) else (some (.normal,[],r.2)) else none) else (gLd Be g 0 d.2 fun i=>if 0<=(Ar (a.tdiv (64:Int)))/\(Ar (a.tdiv (64:Int)))<(i.2.1:Nat) then i.1.bind fun h=>(Aj .i64 d.2 h.block (h.off+(Ar (a.tdiv (64:Int))).toNat*2+0)).bind fun m=>(bif m != 2 then some (true,d.2) else if (64:Int)=0 then none else some ((a.tmod (64:Int)) != (0:Int),d.2)).bind fun e=>(bif e.1 then some (true,e.2) else (Gu k g (Ar (a.tdiv (64:Int))) e.2).bind fun j=>(Bk .i64 j.1).bind fun n=>if (64:Int)=0 then none else some (n != (Ar ((Ar ((Ar (l+64))-(1:Int))).tdiv (64:Int))),j.2)).bind fun f=>bif f.1 then (some (.ret,[qIi 5],f.2)) else (some (.normal,[],f.2)) else none):Option Bq).bind fun b=>if b.1 = .normal then ((ED k k g a l u a b.2.2).bind fun c=>if c.1 = .exit 0 then (some (qIi 0,c.2.2)) else if c.1 = .ret then (ZZ c.2.1 fun o=>some (qIi o,c.2.2)) else none) else if b.1 = .ret then (ZZ b.2.1 fun p=>some (qIi p,b.2.2)) else none):=by
 simp only[Jd,ED,Gu,Ac]; kernel_rfl
theorem XY (k a b c J):Lt (k+1) a b c J =
 Ae J (.cells [qIi a,qIi b,qIi c] Ad true) fun h1 s2=>(Aj .i64 s2 h1 (0+0)).bind fun d=>(Aj .i64 s2 h1 (0+1)).bind fun e=>(Aj .i64 s2 h1 (0+2)).bind fun f=>some (qIi (Ar ((Ar (d+(Ar ((16:Int)*e))))+(Ar ((4096:Int)*f)))),s2):=by
 simp only[Lt,Ac]; kernel_rfl
theorem Td (k g h c J):Fi (k+1) g h c J =
 Ae J (.cells [qVi g] LD true) fun h1 s2=>(B9 s2 h1 0).bind fun l=>(BZ k l s2).bind fun b=>(Dl b.1).bind fun i=>bif !i then (some (qIi 5,b.2)) else ((B9 b.2 h1 0).bind fun m=>(Fj k m h b.2).bind fun e=>(Dl e.1).bind fun j=>(bif !j then some (true,e.2) else (CM k (c.1,c.2.1,c.2.2) (.func (.func 288) #[] #[qVi (some ⟨h1,0,none⟩)]) e.2).bind fun f=>(Dl f.1).bind fun d=>some (d,f.2)).bind fun a=>bif a.1 then (some (qIi 1,a.2)) else (some (qIi 0,a.2))):=by
 simp only[Fi,BZ,Fj,CM,Ac]; kernel_rfl
theorem Vq (k d a g J):G6 (k+1) d a g J =
 gLd (Aj .i64) d 1 J fun b=>gLd Be d 2 J fun e=>if (64:Int)=0 then none else if 0<=(Ar ((Ar (a*b)).tdiv (64:Int)))/\(Ar ((Ar (a*b)).tdiv (64:Int)))<(e.2.1:Nat) then e.1.bind fun c=>(Aj .u64 J c.block (c.off+(Ar ((Ar (a*b)).tdiv (64:Int))).toNat*1)).bind fun h=>(DP k d J).bind fun f=>(Bk .i64 f.1).bind fun i=>if (64:Int)=0 then none else if ((Ar (a*b)).tmod (64:Int))<0 then none else if (64:Int)=0 then none else if ((Ar (a*b)).tmod (64:Int))<0 then none else (CY f.2 c.block (c.off+(Ar ((Ar (a*b)).tdiv (64:Int))).toNat*1) (.int .u64 (u64 ((BitVec.ofInt 64 (u64 ((BitVec.ofInt 64 h &&& ~~~ (BitVec.ofInt 64 (u64 ((u64 (i))*2 ^ (min ((Ar (a*b)).tmod (64:Int)).toNat 64))))).toNat)) ||| BitVec.ofInt 64 (u64 ((u64 (g))*2 ^ (min ((Ar (a*b)).tmod (64:Int)).toNat 64)))).toNat)))).bind fun j=>some (.tuple #[],j) else none:=by
 simp only[DP,G6,Ac]; kernel_rfl
theorem Me (k n b i1 i2 i3 a J):Fx k (n+1) b i1 i2 i3 a J =
 bif decide (a<i3) then ((G6 k b (Ar (i1+a)) i2 J).bind fun c=>W8 c.1 (Fx k n b i1 i2 i3 (Ar (a+1)) c.2)) else (some (.exit 0,[],J)):=by
 simp only[Fx,G6,Ac]; kernel_rfl
theorem TW (k b c d f J):FL (k+1) b c d f J =
 Ae J (.cells [qIi f] Ak true) fun h1 s2=>(Fi k b c (some ⟨h1,0,none⟩,1,1) s2).bind fun a=>(Bk .i64 a.1).bind fun g=>bif g != 0 then (some (qIi g,a.2)) else ((bif decide (d<1) then some (true,a.2) else gLd (Aj .i64) b 0 a.2 fun i=>some (decide (d>(Ar (i-c))),a.2)).bind fun e=>bif e.1 then (some (qIi 1,e.2)) else ((Fx k k b c f d (0:Int) e.2).bind fun h=>if h.1 = .exit 0 then (some (qIi 0,h.2.2)) else none)):=by
 simp only[FL,Fx,Fi,Ac]; kernel_rfl
theorem OT (k n g i1 i2 c b J):Ie k (n+1) g i1 i2 c b J =
 bif decide (b<i2) then ((AM k g i1 b J).bind fun d=>GV d.1 fun f i=>Ae d.2 (.cells [qIi f] Ak true) fun e h=>(AH P Ak (c.1,c.2.1,c.2.2) (some ⟨e,0,none⟩,1,1) h).bind fun a=>Ie k n g i1 i2 (a.1.1,a.1.2.1,a.1.2.2) (Ar (b+1)) a.2) else (some (.exit 0,[.slice c.1 c.2.1 c.2.2],J)):=by
 simp only[AM,Ie,Ac]; kernel_rfl
theorem ZO (k l m J):KR (k+1) l m J =
 (AL k l m J).bind fun n=>(az n.1).bind fun i=>if i.length=2 then i.head?.bind fun r=>My r fun o p q=>i.tail.head?.bind fun s=>(Bk .i64 s).bind fun t=>Ae n.2 (.cells [qIi 0,qIi 0,qIi 0] Ad true) fun g j=>(H5 j g 0 [qIi o,qIi p,qIi q]).bind fun d=>(Aj .i64 d g (0+0)).bind fun a=>if 0<=(0:Int)/\(0:Int)<=a/\a*(8:Nat)<=2 ^ 40/\a<=2 ^ 40 then Ae d (.cells (rep a.toNat [qIi 0]) Ak true) fun f e=>(Aj .i64 e g (0+0)).bind fun h=>(Ie k k l m h (some ⟨f,0,none⟩,(0:Int).toNat,a.toNat) (0:Int) e).bind fun c=>if c.1 = .exit 0 then (So c.2.1 fun b=>some (.slice b.1 b.2.1 b.2.2,c.2.2)) else none else none else none:=by
 simp only[AL,KR,Ie,Ac]; kernel_rfl
theorem Kt (k n f p m s i4 b a J):Co k (n+1) f p m s i4 b a J =
 bif decide (a<i4) then (if 0<=a/\a<m then p.bind fun B=>(Aj .i64 J B.block (B.off+a.toNat*1)).bind fun o=>(CP k f o J).bind fun q=>(Dl q.1).bind fun C=>(bif !C then some (true,q.2) else gLd B9 f 0 q.2 fun x=>(EW k x o q.2).bind fun i=>(Bk .i64 i.1).bind fun u=>some (u != 2,i.2)).bind fun c=>bif c.1 then (Co k n f p m s i4 (b.1,b.2.1,b.2.2) (Ar (a+1)) c.2) else (gLd B9 f 0 c.2 fun y=>(AM k y o (0:Int) c.2).bind fun j=>GV j.1 fun v D=>(CP k f v j.2).bind fun d=>(Dl d.1).bind fun r=>(bif r then (gLd B9 f 0 d.2 fun z=>(AM k z o (1:Int) d.2).bind fun l=>GV l.1 fun w E=>Ae l.2 (.cells [qIi w] Ak true) fun t A=>(AH P Ak (b.1,b.2.1,b.2.2) (some ⟨t,0,none⟩,1,1) A).bind fun e=>some (.normal,[.slice e.1.1 e.1.2.1 e.1.2.2],e.2)) else (some (.normal,[.slice b.1 b.2.1 b.2.2],d.2)):Option Bq).bind fun h=>if h.1 = .normal then (So h.2.1 fun g=>Co k n f p m s i4 (g.1,g.2.1,g.2.2) (Ar (a+1)) h.2.2) else none) else none) else (some (.exit 0,[.slice b.1 b.2.1 b.2.2],J)):=by
 simp only[AM,EW,Co,CP,Ac]; kernel_rfl
theorem Ku (k n f g d h i4 a J):DD k (n+1) f g d h i4 a J =
 bif decide (a<i4) then (if 0<=a/\a<d then g.bind fun b=>(Aj .i64 J b.block (b.off+a.toNat*1)).bind fun e=>(Cb k f e J).bind fun c=>W8 c.1 (DD k n f g d h i4 (Ar (a+1)) c.2) else none) else (some (.exit 2,[],J)):=by
 simp only[Cb,DD,Ac]; kernel_rfl
theorem Qr (k e J):Gm (k+1) e J =
 gLd B9 e 0 J fun g=>(B8 k g J).bind fun f=>(Eo f.1).bind fun d=>(Co k k e d.1 d.2.1 d.2.2 ((d.2.1:Nat):Int) (none,0,0) (0:Int) f.2).bind fun b=>if b.1 = .exit 0 then (So b.2.1 fun a=>(DD k k e a.1 a.2.1 a.2.2 ((a.2.1:Nat):Int) (0:Int) b.2.2).bind fun c=>if c.1 = .exit 2 then (some (.tuple #[],c.2.2)) else none) else none:=by
 simp only[B8,Gm,Co,DD,Ac]; kernel_rfl
theorem Wq (k b c J):CP (k+1) b c J =
 gLd B9 b 0 J fun h=>(Bd k h c J).bind fun a=>(Dl a.1).bind fun f=>(bif f then (CG k b c a.2).bind fun d=>(Bk .i64 d.1).bind fun g=>some (g != 0,d.2) else some (false,a.2)).bind fun e=>some (.bool e.1,e.2):=by
 simp only[Bd,CG,CP,Ac]; kernel_rfl
theorem Yc (k b c d J):Ke (k+1) b c d J =
 (JT k b c (d) J).bind fun a=>(Bk .i64 a.1).bind fun e=>some (.bool (decide (e>0)),a.2):=by
 simp only[Ke,JT,Ac]; kernel_rfl
theorem Ub (k b J):DP (k+1) b J =
 gLd (Aj .i64) b 1 J fun a=>if a<0 then none else some (qIi (Ar ((Ar ((1:Int)*2 ^ (min a.toNat 64)))-(1:Int))),J):=by
 simp only[DP,Ac]; kernel_rfl
theorem IM (k n c b e i3 i4 a J):ER k (n+1) c b e i3 i4 a J =
 bif decide (a<i4) then (if 0<=a/\a<b then c.bind fun d=>(Aj .i64 J d.block (d.off+a.toNat*1)).bind fun f=>bif i3 == f then (some (.ret,[qIi a],J)) else (ER k n c b e i3 i4 (Ar (a+1)) J) else none) else (some (.exit 0,[],J)):=by
 simp only[ER,Ac]; kernel_rfl
theorem MV (k b c J):JC (k+1) b c J =
 (ER k k b.1 b.2.1 b.2.2 c ((b.2.1:Nat):Int) (0:Int) J).bind fun a=>if a.1 = .exit 0 then (some (qIi (-1:Int),a.2.2)) else if a.1 = .ret then (ZZ a.2.1 fun d=>some (qIi d,a.2.2)) else none:=by
 simp only[JC,ER,Ac]; kernel_rfl
theorem UT (k J):Fo (k+1)  J =
 Ae J (.cells [.iface 268 (.agg #[]),.iface 269 (.agg #[]),.iface 270 (.agg #[]),.iface 271 (.agg #[]),.iface 272 (.agg #[])] S8 true) fun h1 s2=>some (.slice (some ⟨h1,0,none⟩) 5 5,s2):=by
 simp only[Fo,Ac]; kernel_rfl
theorem Pv (k a J):FC (k+1) a J =
 (Lq P JG (qVi a) (qVi none)).bind fun c=>(bif !c then gLd B9 a 0 J fun e=>(Lq P Fb (qVi e) (qVi none)).bind fun d=>some (!d,J) else some (false,J)).bind fun b=>some (.bool b.1,b.2):=by
 simp only[FC,Ac]; kernel_rfl
theorem N9 (k n a i1 c J):Dg k (n+1) a i1 c J =
 gLd B9 a 0 J fun h=>(AF k h J).bind fun b=>(Bk .i64 b.1).bind fun f=>bif decide ((Ar (c+i1))<=f) then (gLd B9 a 0 b.2 fun i=>gLd (Aj .i64) a 1 b.2 fun g=>(Ci k i c i1 g b.2).bind fun e=>(Bk .i64 e.1).bind fun d=>bif d == 0 then (some (.ret,[qIi (Ar (c*64)),.bool true],e.2)) else (Dg k n a i1 (Ar (c+1)) e.2)) else (some (.exit 0,[],b.2)):=by
 simp only[Dg,AF,Ci,Ac]; kernel_rfl
theorem OM (k d e J):Fm (k+1) d e J =
 if (64:Int)=0 then none else (Dg k k d (Ar ((Ar ((Ar (e+64))-(1:Int))).tdiv (64:Int))) (1:Int) J).bind fun a=>if a.1 = .exit 0 then (some (.tuple #[qIi 0,.bool false],a.2.2)) else if a.1 = .ret then (wx a.2.1 fun c b=>some (.tuple #[qIi c,.bool b],a.2.2)) else none:=by
 simp only[Fm,Dg,Ac]; kernel_rfl
theorem TB (k c d J):DL (k+1) c d J =
 (AV k c J).bind fun b=>(Dl b.1).bind fun f=>(bif f then some (decide (d>=1),b.2) else some (false,b.2)).bind fun a=>(bif a.1 then gLd Be c 0 a.2 fun g=>some (decide (d<((g.2.1:Nat):Int)),a.2) else some (false,a.2)).bind fun e=>some (.bool e.1,e.2):=by
 simp only[AV,DL,Ac]; kernel_rfl
theorem SV (k d a J):Cw (k+1) d a J =
 (Az k d J).bind fun f=>(Dl f.1).bind fun i=>(bif !i then some (true,f.2) else some (decide (a<0),f.2)).bind fun c=>(bif c.1 then some (true,c.2) else gLd Be d 0 c.2 fun j=>some (decide (a>=((j.2.1:Nat):Int)),c.2)).bind fun b=>bif b.1 then (some (qIi (-1:Int),b.2)) else (gLd Be d 0 b.2 fun h=>if 0<=a/\a<(h.2.1:Nat) then h.1.bind fun g=>(Aj .i64 b.2 g.block (g.off+a.toNat*2+0)).bind fun e=>some (qIi e,b.2) else none):=by
 simp only[Az,Cw,Ac]; kernel_rfl
theorem SX (k c a J):Fh (k+1) c a J =
 (bif decide (a>=1) then gLd Be c 0 J fun d=>some (decide (a<((d.2.1:Nat):Int)),J) else some (false,J)).bind fun b=>some (.bool b.1,b.2):=by
 simp only[Fh,Ac]; kernel_rfl
theorem Yg (k a J):IL (k+1) a J =
 (bif decide (a>=0) then some (decide (a<8),J) else some (false,J)).bind fun b=>some (.bool b.1,b.2):=by
 simp only[IL,Ac]; kernel_rfl
theorem SU (k d a J):Fg (k+1) d a J =
 (Az k d J).bind fun f=>(Dl f.1).bind fun i=>(bif !i then some (true,f.2) else some (decide (a<0),f.2)).bind fun c=>(bif c.1 then some (true,c.2) else gLd Be d 0 c.2 fun j=>some (decide (a>=((j.2.1:Nat):Int)),c.2)).bind fun b=>bif b.1 then (some (qIi (-1:Int),b.2)) else (gLd Be d 0 b.2 fun h=>if 0<=a/\a<(h.2.1:Nat) then h.1.bind fun g=>(Aj .i64 b.2 g.block (g.off+a.toNat*2+1)).bind fun e=>some (qIi e,b.2) else none):=by
 simp only[Az,Fg,Ac]; kernel_rfl
theorem LZ (k n r j h B f q a J):Dn k (n+1) r j h B f q a J =
 bif decide (a<(h:Int)) then (if 0<=a/\a<h then j.bind fun z=>(Aj .i64 J z.block (z.off+a.toNat*1)).bind fun D=>(bif decide (D>q) then (if 0<=a/\a<h then j.bind fun A=>(Aj .i64 J A.block (A.off+a.toNat*1)).bind fun E=>Ae J (.cells [qIi q,qIi (Ar (E-q))] AG true) fun C y=>(AH P AG (f.1,f.2.1,f.2.2) (some ⟨C,0,none⟩,1,1) y).bind fun g=>some (.normal,[.slice g.1.1 g.1.2.1 g.1.2.2],g.2) else none) else (some (.normal,[.slice f.1 f.2.1 f.2.2],J)):Option Bq).bind fun c=>if c.1 = .normal then (So c.2.1 fun i=>if 0<=a/\a<h then j.bind fun l=>(Aj .i64 c.2.2 l.block (l.off+a.toNat*1)).bind fun s=>gLd Be r 1 c.2.2 fun o=>if 0<=a/\a<h then j.bind fun m=>(Aj .i64 c.2.2 m.block (m.off+a.toNat*1)).bind fun t=>(Ay k r t c.2.2).bind fun e=>(Bk .i64 e.1).bind fun d=>if 0<=d/\d<(o.2.1:Nat) then o.1.bind fun b=>(Aj .i64 e.2 b.block (b.off+d.toNat*8+2)).bind fun u=>(Aj .i64 e.2 b.block (b.off+d.toNat*8+2+1)).bind fun v=>(Aj .i64 e.2 b.block (b.off+d.toNat*8+2+1+1)).bind fun w=>(Cn k u v w e.2).bind fun p=>(Bk .i64 p.1).bind fun x=>Dn k n r j h B (i.1,i.2.1,i.2.2) (Ar (s+x)) (Ar (a+1)) p.2 else none else none else none) else none else none) else (some (.exit 0,[.slice f.1 f.2.1 f.2.2,qIi q],J)):=by
 simp only[Dn,Ay,Cn,Ac]; kernel_rfl
theorem TK (k h g J):Iu (k+1) h g J =
 (Cw k h g J).bind fun l=>(Bk .i64 l.1).bind fun o=>bif o != 1 then (some (.slice none 0 0,l.2)) else ((GP k h g l.2).bind fun n=>(Eo n.1).bind fun j=>(Dn k k h j.1 j.2.1 j.2.2 (none,0,0) (Ar (g*64)) (0:Int) n.2).bind fun b=>if b.1 = .exit 0 then (Aan b.2.1 fun a e=>(bif decide (e<(Ar ((Ar (g+1))*(64:Int)))) then (Ae b.2.2 (.cells [qIi e,qIi (Ar ((Ar ((Ar (g+1))*(64:Int)))-e))] AG true) fun i m=>(AH P AG (a.1,a.2.1,a.2.2) (some ⟨i,0,none⟩,1,1) m).bind fun c=>some (.normal,[.slice c.1.1 c.1.2.1 c.1.2.2],c.2)) else (some (.normal,[.slice a.1 a.2.1 a.2.2],b.2.2)):Option Bq).bind fun f=>if f.1 = .normal then (So f.2.1 fun d=>some (.slice d.1 d.2.1 d.2.2,f.2.2)) else none) else none):=by
 simp only[Iu,Dn,GP,Cw,Ac]; kernel_rfl
theorem ZK (k a J):MC (k+1) a J =
 (bif decide (a>=0) then some (decide (a<8),J) else some (false,J)).bind fun b=>some (.bool b.1,b.2):=by
 simp only[MC,Ac]; kernel_rfl
theorem L9 (k a c J):DQ (k+1) a c J =
 (EL k (a.1,a.2.1,a.2.2) (c) J).bind fun b=>(Bk .i64 b.1).bind fun d=>some (.bool (decide (d>=0)),b.2):=by
 simp only[DQ,EL,Ac]; kernel_rfl
theorem Q9 (k a b J):GM (k+1) a b J =
 Ae J (.cells [qIi a,qIi b] Bi true) fun h1 s2=>(Aj .i64 s2 h1 0).bind fun d=>(Aj .i64 s2 h1 (0+1)).bind fun e=>(Lq P Bi (.agg #[qIi d,qIi e]) (.agg #[qIi 0,qIi 0])).bind fun c=>some (.bool (!c),s2):=by
 simp only[GM,Ac]; kernel_rfl
theorem L7 (k n e i1 b J):DI k (n+1) e i1 b J =
 gLd Be e 0 J fun f=>(bif decide ((Ar (i1+b))<((f.2.1:Nat):Int)) then gLd Be e 0 J fun d=>if 0<=(Ar (i1+b))/\(Ar (i1+b))<(d.2.1:Nat) then d.1.bind fun c=>(Aj .i64 J c.block (c.off+(Ar (i1+b)).toNat*2+0)).bind fun g=>some (g == 3,J) else none else some (false,J)).bind fun a=>bif a.1 then (DI k n e i1 (Ar (b+1)) a.2) else (some (.exit 0,[qIi b],a.2)):=by
 simp only[DI,Ac]; kernel_rfl
theorem SW (k c a J):Gz (k+1) c a J =
 gLd Be c 0 J fun g=>if 0<=a/\a<(g.2.1:Nat) then g.1.bind fun e=>(Aj .i64 J e.block (e.off+a.toNat*2+0)).bind fun i=>bif i == 1 then (some (qIi 1,J)) else (gLd Be c 0 J fun h=>if 0<=a/\a<(h.2.1:Nat) then h.1.bind fun f=>(Aj .i64 J f.block (f.off+a.toNat*2+0)).bind fun j=>bif j != 2 then (some (qIi 0,J)) else ((DI k k c a (1:Int) J).bind fun b=>if b.1 = .exit 0 then (ZZ b.2.1 fun d=>some (qIi d,b.2.2)) else none) else none) else none:=by
 simp only[Gz,DI,Ac]; kernel_rfl
theorem UW (k d e J):Jc (k+1) d e J =
 (AV k d J).bind fun b=>(Dl b.1).bind fun l=>bif !l then (some (.tuple #[qIi 0,qIi 5],b.2)) else ((bif decide (e<0) then some (true,b.2) else gLd Be d 1 b.2 fun m=>some (decide (e>=((m.2.1:Nat):Int)),b.2)).bind fun f=>bif f.1 then (some (.tuple #[qIi 0,qIi 4],f.2)) else (gLd B9 d 2 f.2 fun n=>if (2:Int)=0 then none else (I9 k n (Ar ((Ar (e.tdiv (2:Int)))+(1:Int))) (1:Int) f.2).bind fun j=>GV j.1 fun i g=>(bif g != 0 then some (true,j.2) else (DA k d (Ar ((2:Int)*i)) j.2).bind fun c=>(Bk .i64 c.1).bind fun h=>some (decide (e>=(Ar ((Ar ((2:Int)*i))+h))),c.2)).bind fun a=>bif a.1 then (some (.tuple #[qIi 0,qIi 4],a.2)) else (some (.tuple #[qIi (Ar ((2:Int)*i)),qIi 0],a.2)))):=by
 simp only[Jc,AV,DA,I9,Ac]; kernel_rfl
theorem Qn (k d b J):Gl (k+1) d b J =
 b.bind fun a=>(B9 J a.block a.off).bind fun f=>(HG k f d J).bind fun c=>(Dl c.1).bind fun e=>some (.bool (!e),c.2):=by
 simp only[Gl,HG,Ac]; kernel_rfl
theorem Tf (k d a J):HG (k+1) d a J =
 (bif decide (a>=0) then (DP k d J).bind fun b=>(Bk .i64 b.1).bind fun e=>some (decide (a<=e),b.2) else some (false,J)).bind fun c=>some (.bool c.1,c.2):=by
 simp only[DP,HG,Ac]; kernel_rfl
theorem HF (k n g i1 a c J):DZ k (n+1) g i1 a c J =
 (Az k g J).bind fun j=>(Dl j.1).bind fun r=>(bif r then gLd Be g 1 j.2 fun s=>some (decide (c<((s.2.1:Nat):Int)),j.2) else some (false,j.2)).bind fun d=>bif d.1 then (gLd Be g 1 d.2 fun q=>if 0<=c/\c<(q.2.1:Nat) then q.1.bind fun p=>(Aj .i64 d.2 p.block (p.off+c.toNat*8+0)).bind fun t=>if (64:Int)=0 then none else (bif (Ar (t.tdiv (64:Int))) == i1 then (gLd Be g 1 d.2 fun i=>if 0<=c/\c<(i.2.1:Nat) then i.1.bind fun h=>(Aj .i64 d.2 h.block (h.off+c.toNat*8+0)).bind fun m=>Ae d.2 (.cells [qIi m] Ak true) fun l o=>(AH P Ak (a.1,a.2.1,a.2.2) (some ⟨l,0,none⟩,1,1) o).bind fun b=>some (.normal,[.slice b.1.1 b.1.2.1 b.1.2.2],b.2) else none) else (some (.normal,[.slice a.1 a.2.1 a.2.2],d.2)):Option Bq).bind fun f=>if f.1 = .normal then (So f.2.1 fun e=>DZ k n g i1 (e.1,e.2.1,e.2.2) (Ar (c+1)) f.2.2) else none else none) else (some (.exit 0,[.slice a.1 a.2.1 a.2.2],d.2)):=by
 simp only[Az,DZ,Ac]; kernel_rfl
theorem QH (k c d J):GP (k+1) c d J =
 (DZ k k c d (none,0,0) (0:Int) J).bind fun b=>if b.1 = .exit 0 then (So b.2.1 fun a=>some (.slice a.1 a.2.1 a.2.2,b.2.2)) else none:=by
 simp only[GP,DZ,Ac]; kernel_rfl
theorem MT (k n h i1 j i3 c a J):Ee k (n+1) h i1 j i3 c a J =
 bif decide (a<i3) then ((AM k h i1 a J).bind fun b=>GV b.1 fun l p=>(bif l != 0 then (Aj .i64 b.2 j (0+2)).bind fun m=>(FG k m a b.2).bind fun f=>(Dl f.1).bind fun i=>some (i,f.2) else some (false,b.2)).bind fun d=>(bif d.1 then ((CV k h i1 a (0:Int) d.2).bind fun g=>(Bk .i64 g.1).bind fun q=>some (.normal,[qIi (Ar (c+1))],g.2)) else (some (.normal,[qIi c],d.2)):Option Bq).bind fun e=>if e.1 = .normal then (ZZ e.2.1 fun o=>Ee k n h i1 j i3 o (Ar (a+1)) e.2.2) else none) else (some (.exit 0,[qIi c],J)):=by
 simp only[AM,CV,Ee,FG,Ac]; kernel_rfl
theorem Wg (k i j t J):JT (k+1) i j t J =
 (AL k i j J).bind fun s=>(az s.1).bind fun q=>if q.length=2 then q.head?.bind fun y=>My y fun v w x=>q.tail.head?.bind fun z=>(Bk .i64 z).bind fun A=>Ae s.2 (.cells [qIi 0,qIi 0,qIi 0] Ad true) fun f r=>(H5 r f 0 [qIi v,qIi w,qIi x]).bind fun b=>(Aj .i64 b f (0+2)).bind fun m=>(bif m != 1 then (Aj .i64 b f (0+2)).bind fun n=>some (n != 2,b) else some (false,b)).bind fun c=>bif c.1 then (some (qIi 0,c.2)) else ((AM k i j (0:Int) c.2).bind fun d=>GV d.1 fun g u=>(bif g != 0 then (GL k t [qIi g] d.2).bind fun h=>(Dl h.1).bind fun l=>some (l,h.2) else some (false,d.2)).bind fun a=>bif a.1 then (some (qIi 0,a.2)) else ((Aj .i64 a.2 f (0+0)).bind fun o=>(Ee k k i j f o (0:Int) (0:Int) a.2).bind fun e=>if e.1 = .exit 0 then (ZZ e.2.1 fun p=>some (qIi p,e.2.2)) else none)) else none:=by
 simp only[GL,AM,AL,JT,Ee,Ac]; kernel_rfl
theorem Hu (k n d c g f i4 a J):Ca k (n+1) d c g f i4 a J =
 bif decide (a<i4) then (if 0<=a/\a<c then d.bind fun b=>(Aj .i64 J b.block (b.off+a.toNat*2)).bind fun i=>(Aj .i64 J b.block (b.off+a.toNat*2+1)).bind fun j=>(KQ k f [.agg #[qIi i,qIi j]] J).bind fun e=>(Dl e.1).bind fun h=>bif h then (some (.ret,[qIi a],e.2)) else (Ca k n d c g f i4 (Ar (a+1)) e.2) else none) else (some (.exit 0,[],J)):=by
 simp only[KQ,Ca,Ac]; kernel_rfl
theorem MG (k b c J):EL (k+1) b c J =
 (Ca k k b.1 b.2.1 b.2.2 c ((b.2.1:Nat):Int) (0:Int) J).bind fun a=>if a.1 = .exit 0 then (some (qIi (-1:Int),a.2.2)) else if a.1 = .ret then (ZZ a.2.1 fun d=>some (qIi d,a.2.2)) else none:=by
 simp only[EL,Ca,Ac]; kernel_rfl
theorem Mf (k n b i1 a J):Fy k (n+1) b i1 a J =
 bif decide (a>=0) then ((E6 k b a J).bind fun c=>(Bk .i64 c.1).bind fun d=>bif d == i1 then (some (.ret,[qIi a,qIi 0],c.2)) else (Fy k n b i1 (Ar (a-1)) c.2)) else (some (.exit 0,[],J)):=by
 simp only[Fy,E6,Ac]; kernel_rfl
theorem TX (k d b f J):I9 (k+1) d b f J =
 (BZ k d J).bind fun c=>(Dl c.1).bind fun g=>bif !g then (some (.tuple #[qIi 0,qIi 5],c.2)) else (gLd (Aj .i64) d 0 c.2 fun e=>(Fy k k d f (Ar ((if e<(if (0:Int)>b then (0:Int) else b) then e else (if (0:Int)>b then (0:Int) else b))-(1:Int))) c.2).bind fun a=>if a.1 = .exit 0 then (some (.tuple #[qIi 0,qIi 4],a.2.2)) else if a.1 = .ret then (jt a.2.1 fun h i=>some (.tuple #[qIi h,qIi i],a.2.2)) else none):=by
 simp only[I9,Fy,BZ,Ac]; kernel_rfl
theorem R7 (k b e J):Hh (k+1) b e J =
 Ae J (.cells [] Jw true) fun h1 s2=>(Ep k b (0:Int) e s2).bind fun c=>(Eo c.1).bind fun a=>(DX k b (a.1,a.2.1,a.2.2) c.2).bind fun d=>sY d.1 fun g f=>some (.tuple #[qIi g,.bool f],d.2):=by
 simp only[Ep,DX,Hh,Ac]; kernel_rfl
theorem ON (k i c J):DX (k+1) i c J =
 bif decide (((c.2.1:Nat):Int)>(0:Int)) then (if 0<=(0:Int)/\(0:Int)<(c.2.1:Nat) then c.1.bind fun g=>(Aj .i64 J g.block (g.off+(0:Int).toNat*2+0)).bind fun l=>some (.tuple #[qIi l,.bool true],J) else none) else ((Fl k i J).bind fun h=>(az h.1).bind fun e=>if e.length=2 then e.head?.bind fun o=>zy o fun m n=>e.tail.head?.bind fun p=>(Dl p).bind fun j=>Ae h.2 (.cells [qIi 0,qIi 0] N4 true) fun a f=>(H5 f a 0 [qIi m,qIi n]).bind fun b=>(Aj .i64 b a (0+0)).bind fun d=>some (.tuple #[qIi d,.bool j],b) else none):=by
 simp only[Fl,DX,Ac]; kernel_rfl
theorem JQ (k n i0 i1 u l z i5 d b J):CL k (n+1) i0 i1 u l z i5 d b J =
 bif decide (b<i5) then (if 0<=b/\b<l then u.bind fun j=>(Aj .i64 J j.block (j.off+b.toNat*2)).bind fun o=>(Aj .i64 J j.block (j.off+b.toNat*2+1)).bind fun p=>Ae J (.cells [qIi 0,qIi 0] AG true) fun a v=>(H5 v a 0 [qIi o,qIi p]).bind fun f=>(Aj .i64 f a (0+0)).bind fun i=>(bif decide ((Ar (i0-i))>(0:Int)) then ((Aj .i64 f a (0+1)).bind fun q=>(CY f a (0+0) (qIi i0)).bind fun w=>(CY w a (0+1) (qIi (Ar (q-(Ar (i0-i)))))).bind fun x=>some (.normal,[],x)) else (some (.normal,[],f)):Option Bq).bind fun c=>if c.1 = .normal then ((Aj .i64 c.2.2 a (0+1)).bind fun r=>(bif decide (r>=i1) then ((Aj .i64 c.2.2 a 0).bind fun s=>(Aj .i64 c.2.2 a (0+1)).bind fun t=>Ae c.2.2 (.cells [qIi s,qIi t] AG true) fun m y=>(AH P AG (d.1,d.2.1,d.2.2) (some ⟨m,0,none⟩,1,1) y).bind fun e=>some (.normal,[.slice e.1.1 e.1.2.1 e.1.2.2],e.2)) else (some (.normal,[.slice d.1 d.2.1 d.2.2],c.2.2)):Option Bq).bind fun h=>if h.1 = .normal then (So h.2.1 fun g=>CL k n i0 i1 u l z i5 (g.1,g.2.1,g.2.2) (Ar (b+1)) h.2.2) else none) else none else none) else (some (.exit 2,[.slice d.1 d.2.1 d.2.2],J)):=by
 simp only[CL,Ac]; kernel_rfl
theorem JP (k n g i1 i2 h f j i6 d a J):CK k (n+1) g i1 i2 h f j i6 d a J =
 bif decide (a<i6) then (if 0<=a/\a<f then h.bind fun i=>(Aj .i64 J i.block (i.off+a.toNat*1)).bind fun m=>gLd B9 g 0 J fun o=>(H0 k o m J).bind fun l=>(Eo l.1).bind fun e=>(CL k k i1 i2 e.1 e.2.1 e.2.2 ((e.2.1:Nat):Int) (d.1,d.2.1,d.2.2) (0:Int) l.2).bind fun c=>if c.1 = .exit 2 then (So c.2.1 fun b=>CK k n g i1 i2 h f j i6 (b.1,b.2.1,b.2.2) (Ar (a+1)) c.2.2) else none else none) else (some (.exit 0,[.slice d.1 d.2.1 d.2.2],J)):=by
 simp only[CK,CL,H0,Ac]; kernel_rfl
theorem Pu (k d f g J):Ep (k+1) d f g J =
 (D9 k d J).bind fun e=>(Eo e.1).bind fun c=>(CK k k d f g c.1 c.2.1 c.2.2 ((c.2.1:Nat):Int) (none,0,0) (0:Int) e.2).bind fun b=>if b.1 = .exit 0 then (So b.2.1 fun a=>some (.slice a.1 a.2.1 a.2.2,b.2.2)) else none:=by
 simp only[D9,Ep,CK,Ac]; kernel_rfl
theorem J0 (k n c h1 b J):Df k (n+1) c h1 b J =
 gLd B9 c 0 J fun i=>(AF k i J).bind fun d=>(Bk .i64 d.1).bind fun h=>bif decide (b<h) then (gLd B9 c 0 d.2 fun j=>gLd (Aj .i64) c 1 d.2 fun e=>(DK k j b e d.2).bind fun a=>(Bk .i64 a.1).bind fun f=>bif f == 0 then ((H5 a.2 h1 0 [qIi (Ar (b*64)),qIi (Ar ((Ar (b+1))*(64:Int)))]).bind fun g=>some (.ret,[.bool true],g)) else (Df k n c h1 (Ar (b+1)) a.2)) else (some (.exit 0,[],d.2)):=by
 simp only[Df,AF,DK,Ac]; kernel_rfl
theorem OL (k i J):Fl (k+1) i J =
 Ae J (.cells [qIi 0,qIi 0] N4 true) fun h1 s2=>(Df k k i h1 (1:Int) s2).bind fun a=>if a.1 = .exit 0 then ((H5 a.2.2 h1 0 [qIi 0,qIi 0]).bind fun b=>(((Nm b h1 0 2).bind fun f=>some (.agg f.toArray)).bind fun g=>some [g,.bool false]).bind fun c=>some (Lh c,b)) else if a.1 = .ret then (oS a.2.1 fun e=>(((Nm a.2.2 h1 0 2).bind fun v20=>some (.agg v20.toArray)).bind fun h=>some [h,.bool e]).bind fun d=>some (Lh d,a.2.2)) else none:=by
 simp only[Fl,Df,Ac]; kernel_rfl
theorem Ja (k n h i1 b a J):Ch k (n+1) h i1 b a J =
 bif decide (a<i1) then (gLd B9 h 0 J fun r=>(Bn k r a J).bind fun i=>(Bk .i64 i.1).bind fun q=>(bif q == 1 then gLd B9 h 0 i.2 fun o=>(BH k o a i.2).bind fun e=>(Bk .i64 e.1).bind fun l=>gLd (Aj .i64) h 1 e.2 fun m=>some (l == m,e.2) else some (false,i.2)).bind fun f=>(bif f.1 then (Ae f.2 (.cells [qIi a] Ak true) fun j p=>(AH P Ak (b.1,b.2.1,b.2.2) (some ⟨j,0,none⟩,1,1) p).bind fun c=>some (.normal,[.slice c.1.1 c.1.2.1 c.1.2.2],c.2)) else (some (.normal,[.slice b.1 b.2.1 b.2.2],f.2)):Option Bq).bind fun g=>if g.1 = .normal then (So g.2.1 fun d=>Ch k n h i1 (d.1,d.2.1,d.2.2) (Ar (a+1)) g.2.2) else none) else (some (.exit 0,[.slice b.1 b.2.1 b.2.2],J)):=by
 simp only[Ch,BH,Bn,Ac]; kernel_rfl
theorem Ot (k c J):D9 (k+1) c J =
 gLd B9 c 0 J fun f=>(AF k f J).bind fun d=>(Bk .i64 d.1).bind fun e=>(Ch k k c e (none,0,0) (0:Int) d.2).bind fun b=>if b.1 = .exit 0 then (So b.2.1 fun a=>some (.slice a.1 a.2.1 a.2.2,b.2.2)) else none:=by
 simp only[D9,Ch,AF,Ac]; kernel_rfl
theorem M8 (k n i h1 g j f m i6 a J):EB k (n+1) i h1 g j f m i6 a J =
 bif decide (a<i6) then (if 0<=a/\a<f then j.bind fun c=>(Aj .i64 J c.block (c.off+a.toNat*1)).bind fun b=>(DE k b (some ⟨h1,0,none⟩) (some ⟨g,0,none⟩) J).bind fun d=>W8 d.1 ((DA k i b d.2).bind fun e=>(Bk .i64 e.1).bind fun h=>(CY e.2 h1 0 (qIi (Ar (b+h)))).bind fun l=>EB k n i h1 g j f m i6 (Ar (a+1)) l) else none) else (some (.exit 0,[],J)):=by
 simp only[DE,EB,DA,Ac]; kernel_rfl
theorem Ll (k f d J):H0 (k+1) f d J =
 (Ft k f d J).bind fun h=>(Dl h.1).bind fun j=>bif !j then (some (.slice none 0 0,h.2)) else (Ae h.2 (.cells [.slice none 0 0] Sl true) fun g l=>Ae l (.cells [qIi 0] Ak true) fun h5 m=>(CY m h5 0 (qIi (Ar (d*64)))).bind fun n=>(Cg k f d n).bind fun i=>(Eo i.1).bind fun e=>(EB k k f h5 g e.1 e.2.1 e.2.2 ((e.2.1:Nat):Int) (0:Int) i.2).bind fun c=>if c.1 = .exit 0 then ((DE k (Ar ((Ar (d+1))*(64:Int))) (some ⟨h5,0,none⟩) (some ⟨g,0,none⟩) c.2.2).bind fun b=>W8 b.1 ((Be b.2 g 0).bind fun a=>some (.slice a.1 a.2.1 a.2.2,b.2))) else none):=by
 simp only[H0,DE,EB,Cg,Ft,Ac]; kernel_rfl
theorem Ob (k c b J):Ft (k+1) c b J =
 (DL k c b J).bind fun a=>(Dl a.1).bind fun g=>(bif g then gLd Be c 0 a.2 fun e=>if 0<=b/\b<(e.2.1:Nat) then e.1.bind fun d=>(Aj .i64 a.2 d.block (d.off+b.toNat*2+0)).bind fun h=>some (h == 1,a.2) else none else some (false,a.2)).bind fun f=>some (.bool f.1,f.2):=by
 simp only[DL,Ft,Ac]; kernel_rfl
theorem M7 (k i d e J):DE (k+1) i d e J =
 d.bind fun j=>(Aj .i64 J j.block j.off).bind fun p=>(bif decide (i>p) then (e.bind fun l=>(Be J l.block l.off).bind fun f=>d.bind fun m=>(Aj .i64 J m.block m.off).bind fun q=>d.bind fun n=>(Aj .i64 J n.block n.off).bind fun r=>Ae J (.cells [qIi q,qIi (Ar (i-r))] AG true) fun o g=>(AH P AG (f.1,f.2.1,f.2.2) (some ⟨o,0,none⟩,1,1) g).bind fun a=>e.bind fun b=>(CY a.2 b.block b.off (.slice a.1.1 a.1.2.1 a.1.2.2)).bind fun h=>some (.normal,[],h)) else (some (.normal,[],J)):Option Bq).bind fun c=>if c.1 = .normal then (some (.tuple #[],c.2.2)) else none:=by
 simp only[DE,Ac]; kernel_rfl
theorem Y0 (k:Nat) (f:Int) (g:Int) (a:qSi) (b:qSi) (c:qSi) (d:qSi) (e:qSi) (x1:qSi) (J:Aa):fn P X H k 8 [.agg #[.int .u8 f,.int .u8 g,.slice a.1 a.2.1 a.2.2,.slice b.1 b.2.1 b.2.2,.slice c.1 c.2.1 c.2.2,.slice d.1 d.2.1 d.2.2,.slice e.1 e.2.1 e.2.2],.slice x1.1 x1.2.1 x1.2.2] J=JS k f g a b c d e x1 J:=by
 simp only[JS,Ac]
theorem MQ (k:Nat) (a:Int) (b:Int) (c:Int) (d:qOi) (J:Aa):HB k (.func (.func 76) #[] #[qVi d]) [.agg #[qIi a,qIi b,qIi c]] J=Ir k a b c d J:=by
 simp only[HB,Ir,Ac]; kernel_rfl
theorem Ni (k:Nat) (d:Int) (e:Int) (f:Int) (a:qOi) (b:qOi) (c:qOi) (J:Aa):II k (.func (.func 77) #[] #[qVi a,qVi b,qVi c]) [qIi d,qIi e,qIi f] J=Is k d e f a b c J:=by
 simp only[II,Is,Ac]; kernel_rfl
theorem Nh (k:Nat) (c:Int) (d:Int) (a:qOi) (b:qOi) (J:Aa):IH k (.func (.func 78) #[] #[qVi a,qVi b]) [qIi c,qIi d] J=It k c d a b J:=by
 simp only[IH,It,Ac]; kernel_rfl
theorem Jz (k:Nat) (b:Int) (c:Int) (a:qOi) (J:Aa):Ip k (.func (.func 73) #[] #[qVi a]) [qIi b,qIi c] J=GN k b c a J:=by
 simp only[Ip,GN,Ac]; kernel_rfl
theorem Jy (k:Nat) (c:Int) (d:Int) (a:qOi) (b:qOi) (J:Aa):Io k (.func (.func 75) #[] #[qVi a,qVi b]) [qIi c,qIi d] J=GO k c d a b J:=by
 simp only[Io,GO,Ac]; kernel_rfl
theorem JO (k:Nat) (b:Value) (a:qOi) (J:Aa):LV k (.func (.func 244) #[] #[qVi a]) [b] J=I8 k b a J:=by
 simp only[LV,I8,Ac]; kernel_rfl
theorem Mq (k:Nat) (a:qOi) (b:Int) (J:Aa):IJ k (.func (.func 272) #[] #[]) [qVi a,qIi b] J=Fm k a b J:=by
 simp only[IJ,Fm,Ac]; kernel_rfl
theorem SB (k:Nat) (b:Int) (a:qOi) (J:Aa):GL k (.func (.func 166) #[] #[qVi a]) [qIi b] J=Hv k b a J:=by
 simp only[GL,Hv,Ac]; kernel_rfl
theorem N7 (k:Nat) (b:Int) (a:qOi) (J:Aa):GL k (.func (.func 288) #[] #[qVi a]) [qIi b] J=Gl k b a J:=by
 simp only[GL,Gl,Ac]; kernel_rfl
theorem N8 (k:Nat) (a:Int) (b:Int) (J:Aa):KQ k (.func (.func 285) #[] #[]) [.agg #[qIi a,qIi b]] J=GM k a b J:=by
 simp only[KQ,GM,Ac]; kernel_rfl
def Hl (k:Nat)  (h:Nat) (b:Nat) (d:Int) (e:Int) (f:Int) (r:qOi) (J:Aa):PC:=
 Ae J (.cells [qIi 0,qIi 0,qIi 0] Am true) fun h1 s2=>(H5 s2 h1 0 [qIi d,qIi e,qIi f]).bind fun q=>Kv h q .ready .busy fun _ _ c=>(Be c b 0).bind fun g=>(Aj .i64 c h1 0).bind fun n=>(Aj .i64 c h1 (0+1)).bind fun o=>(Aj .i64 c h1 (0+1+1)).bind fun p=>Ae c (.cells [qIi n,qIi o,qIi p] Am true) fun m i=>(AH P Am (g.1,g.2.1,g.2.2) (some ⟨m,0,none⟩,1,1) i).bind fun a=>(CY a.2 b 0 (.slice a.1.1 a.1.2.1 a.1.2.2)).bind fun j=>Kv h j .busy .ready fun _ _ l=>some (.bool true,l)
theorem Mp (k:Nat) (h:Nat) (e:Nat) (a:Int) (b:Int) (d:Int) (f:qOi) (J:Aa) (g:J[h]?=some (.loop 96 .ready (Hk 0 17 [(3,qVi (some ⟨e,0,none⟩))]))):Jb (k+1) (.func (.yield h) #[] #[]) [.agg #[qIi a,qIi b,qIi d],qVi f] J=Hl k  h e a b d f J:=by
 simp only[Jb,Ac,Hl];exact (lR (F:=Tryz.f96) (c:=Bu Tryz.f96) (x:=(Cy (Bu Tryz.f96)).getD default) g (by kernel_rfl) (by kernel_rfl) (by kernel_rfl) (by kernel_rfl) (by kernel_rfl) (by kernel_rfl)).trans (by kernel_rfl)
def HO (k:Nat) (a:rp) (h:Nat) (c:Nat) (p:Int) (q:Int) (r:Int) (s:qOi) (J:Aa):PC:=
 Kv h J .ready .busy fun _ _ s1=>(Be s1 c 0).bind fun g=>s.bind fun n=>(Aj .i64 s1 n.block n.off).bind fun u=>(a (g.1,g.2.1,g.2.2) u s1).bind fun e=>(Dl e.1).bind fun t=>(bif !t then ((Be e.2 c 0).bind fun i=>s.bind fun o=>(Aj .i64 e.2 o.block o.off).bind fun v=>Ae e.2 (.cells [qIi v] Ak true) fun f j=>(AH P Ak (i.1,i.2.1,i.2.2) (some ⟨f,0,none⟩,1,1) j).bind fun b=>(CY b.2 c 0 (.slice b.1.1 b.1.2.1 b.1.2.2)).bind fun l=>some (.normal,[],l)) else (some (.normal,[],e.2)):Option Bq).bind fun d=>if d.1 = .normal then (Kv h d.2.2 .busy .ready fun _ _ m=>some (.bool true,m)) else none
theorem Mz (k:Nat) (h:Nat) (e:Nat) (a:Int) (b:Int) (d:Int) (f:qOi) (J:Aa) (g:J[h]?=some (.loop 168 .ready (Hk 0 26 [(3,qVi (some ⟨e,0,none⟩))]))):Jb (k+1) (.func (.yield h) #[] #[]) [.agg #[qIi a,qIi b,qIi d],qVi f] J=HO k (C9 k) h e a b d f J:=by
 simp only[Jb,C9,Ac,HO];exact (lR (F:=Tryz.f168) (c:=Bu Tryz.f168) (x:=(Cy (Bu Tryz.f168)).getD default) g (by kernel_rfl) (by kernel_rfl) (by kernel_rfl) (by kernel_rfl) (by kernel_rfl) (by kernel_rfl)).trans (by kernel_rfl)
end
end
section
set_option maxRecDepth 100000
section
variable [AJ]
end
theorem bT (a:Addr):Lq P Ej (qVi (some a)) (qVi none)=some false/\Lq P Ej (qVi none) (qVi none)=some true/\Lq P Hq (qVi (some a)) (qVi none)=some false/\Lq P Hq (qVi none) (qVi none)=some true/\Lq P DU (qVi (some a)) (qVi none)=some false/\Lq P DU (qVi none) (qVi none)=some true/\Lq P Kq (qVi (some a)) (qVi none)=some false/\Lq P Kq (qVi none) (qVi none)=some true/\Lq P Fb (qVi (some a)) (qVi none)=some false/\Lq P Fb (qVi none) (qVi none)=some true/\Lq P FO (qVi (some a)) (qVi none)=some false/\Lq P FO (qVi none) (qVi none)=some true/\Lq P Hr (qVi (some a)) (qVi none)=some false/\Lq P Hr (qVi none) (qVi none)=some true/\Lq P PZ (qVi (some a)) (qVi none)=some false/\Lq P PZ (qVi none) (qVi none)=some true/\Lq P iS (qVi (some a)) (qVi none)=some false/\Lq P iS (qVi none) (qVi none)=some true/\Lq P LD (qVi (some a)) (qVi none)=some false/\Lq P LD (qVi none) (qVi none)=some true/\Lq P JG (qVi (some a)) (qVi none)=some false/\Lq P JG (qVi none) (qVi none)=some true:=by
 refine ⟨?_, ?_, ?_, ?_, ?_, ?_, ?_, ?_, ?_, ?_, ?_, ?_, ?_, ?_, ?_, ?_, ?_, ?_, ?_, ?_, ?_, ?_⟩ <;> kernel_rfl
abbrev Gn:FuncId:=73
abbrev Gp:FuncId:=75
abbrev Th:FuncId:=76
abbrev Ti:FuncId:=77
abbrev Tj:FuncId:=78
abbrev LC:FuncId:=272
abbrev Na:FuncId:=285
end
section
local instance qCT:AJ:=Ao
def rowOf (ws:List (BitVec 64)):List Value:=ws.map fun x=>.int .u64 (x.toNat:Int)
structure DJ (J:Aa) (tb wb e w:Nat) (ws:List (BitVec 64)):Prop where
 tab:J[tb]?=some (.cells [qIi (e:Int),qIi (w:Int),.slice (some ⟨wb,0,none⟩) ws.length ws.length] N5 true)
 row:J[wb]?=some (.cells (rowOf ws) BE true)
 len:ws.length=(e*w+63)/64
 pos:0<e
 top:e<=4096
 okw:okW w
variable {J:Aa} {tb wb e w:Nat} {ws:List (BitVec 64)}
theorem DJ.ldE (h:DJ J tb wb e w ws):Aj .i64 J tb 0=some (e:Int):=by
 simp[Aj,CW,h.tab,Bk]
theorem DJ.uX (h:DJ J tb wb e w ws):Aj .i64 J tb 1=some (w:Int):=by
 simp[Aj,CW,h.tab,Bk]
theorem DJ.ldR (h:DJ J tb wb e w ws):Be J tb 2=some (some ⟨wb,0,none⟩,ws.length,ws.length):=by
 simp[Be,CW,h.tab,Eo]
theorem DJ.ldX (h:DJ J tb wb e w ws) {j:Nat} (a:j<ws.length):Aj .u64 J wb j=some ((ws.getD j 0).toNat:Int):=by
 simp[Aj,CW,h.row,rowOf,Bk,Aau a]
theorem DJ.same {J':Aa} (h:DJ J tb wb e w ws) (h1:J'[tb]?=J[tb]?) (h2:J'[wb]?=J[wb]?):DJ J' tb wb e w ws:=
 ⟨by rw[h1]; exact h.tab,by rw[h2]; exact h.row,h.len,h.pos,h.top,h.okw⟩
theorem Af {α:Type} {l:List α} {i:Nat} {x:α} (h:l[i]?=some x):i<l.length:=by
 rcases Ael i l.length with a | a
 ·exact a
 ·rw[Adr a] at h; cases h
theorem DJ.lt (h:DJ J tb wb e w ws):tb<J.length/\wb<J.length:=by
 exact ⟨Af h.tab,Af h.row⟩
theorem DJ.app (τ:Aa) (h:DJ J tb wb e w ws):DJ (J++τ) tb wb e w ws:=
 h.same (AT h.lt.1) (AT h.lt.2)
theorem Xq (k:Nat) (h:DJ J tb wb e w ws):BZ (k+1) (some ⟨tb,0,none⟩) J=some (.bool true,J):=by
 have hp:=h.pos;rw[Ua];simp only[bT,AI,h.ldE,Aa0,IN,Option.isNone_some,Adi,IS];simp only[show decide ((e:Int)>0)=true from by simp; omega]
theorem mH (k:Nat) (h:DJ J tb wb e w ws) (i:Int):Fj (k+2) (some ⟨tb,0,none⟩) i J=some (.bool (decide (0<=i/\i<(e:Int))),J):=by
 rw[Te,Xq _ h];simp only[AI,An,IS,h.ldE,Aa0];by_cases h0:0<=i
 ·simp[h0]
 ·simp[h0]
theorem iL (k:Nat) (h:DJ J tb wb e w ws):DP (k+1) (some ⟨tb,0,none⟩) J=some (qIi ((2 ^ w-1:Nat):Int),J):=by
 rw[Ub];simp only[AI,h.uX,IN];rcases h.okw with rfl | rfl | rfl | rfl <;> rfl
theorem DJ.fit (h:DJ J tb wb e w ws) {j:Nat} (a:j<e):j*w/64<ws.length/\j*w<32768:=by
 have b:=h.len; have c:=h.top;rcases h.okw with rfl | rfl | rfl | rfl <;> omega
theorem nO (k:Nat) (h:DJ J tb wb e w ws) {j:Nat} (f:j<e):E6 (k+2) (some ⟨tb,0,none⟩) (j:Int) J=some (qIi (CJ w ws j:Int),J):=by
 obtain ⟨h1,g⟩:=h.fit f;have a:Ar ((j:Int)*(w:Int))=((j*w:Nat):Int):=by rw[<- Aig]; exact XJ (by omega)
 have b:((j*w:Nat):Int).tdiv 64=((j*w/64:Nat):Int):=rfl;have c:((j*w:Nat):Int).tmod 64=((j*w % 64:Nat):Int):=rfl;have d:Ar ((j*w/64:Nat):Int)=((j*w/64:Nat):Int):=XJ (by omega);rw[Vp];simp only[AI,IN,h.uX,h.ldR,a,b,c,d,IT,Acg];rw[Aaz (by decide),Aay (by omega)];simp only[h.ldX h1,AI];rw[Aaz (by decide),Aaz (by omega)];simp only[AI,iL _ h,Ah,uK _ _ _ (Aev _ (by decide:0<64)) h.okw];rfl
theorem mQ (k:Nat) (h:DJ J tb wb e w ws) (i:Int):DC (k+3) (some ⟨tb,0,none⟩) i J=some (qIi (if 0<=i/\i<(e:Int) then (CJ w ws i.toNat:Int) else -1),J):=by
 rw[Vn,mH _ h];simp only[AI,An];by_cases hi:0<=i/\i<(e:Int)
 ·obtain ⟨j,rfl⟩:∃ j:Nat,i=(j:Int):=⟨i.toNat,by omega⟩;simp only[hi,Ahf,Afz,Aa4,By,Aat,nO _ h (show j<e by omega),AI,Ah,IT]
 ·simp only[hi,Aic,Adi,IS,Aa5]
theorem vr (k:Nat) (h:DJ J tb wb e w ws) {j v:Nat} (g:j<e):G6 (k+2) (some ⟨tb,0,none⟩) (j:Int) (v:Int) J=some (.tuple #[],J.set wb (.cells (rowOf (FB w ws j v)) BE true)):=by
 obtain ⟨h1,i⟩:=h.fit g;have a:=h.row;have b:Ar ((j:Int)*(w:Int))=((j*w:Nat):Int):=by rw[<- Aig]; exact XJ (by omega)
 have c:((j*w:Nat):Int).tdiv 64=((j*w/64:Nat):Int):=rfl;have d:((j*w:Nat):Int).tmod 64=((j*w % 64:Nat):Int):=rfl;have f:Ar ((j*w/64:Nat):Int)=((j*w/64:Nat):Int):=XJ (by omega);rw[Vq];simp only[AI,IN,h.uX,h.ldR,b,c,d,f,IT,Acg];rw[Aaz (by decide),Aay (by omega)];simp only[h.ldX h1,AI,iL _ h,Ah];rw[Aaz (by decide),Aaz (by omega),Aaz (by decide),Aaz (by omega),vt _ _ _ _ (Aev _ (by decide:0<64))];simp only[CY,a];rw[Aay (by simpa [rowOf] using h1)];simp only[AI,rowOf,FB,List.map_set]
theorem DJ.put (h:DJ J tb wb e w ws) (a:tb≠wb) (j v:Nat):DJ (J.set wb (.cells (rowOf (FB w ws j v)) BE true)) tb wb e w (FB w ws j v) where
 tab:=by
  rw[Aar (Adk a),h.tab,Ek]
 row:=by rw[Aa2 h.lt.2]
 len:=by rw[Ek]; exact h.len
 pos:=h.pos
 top:=h.top
 okw:=h.okw
theorem aM (k:Nat) (h:DJ J tb wb e w ws) (v:Nat):∀ (n j:Nat),e<n+j->0<n->Fz (k+2) n (some ⟨tb,0,none⟩) (v:Int) (j:Int) J =
  some (match QY (CJ w ws) e v j with | some i=>(.ret,[qIi (i:Int),qIi 0],J) | none=>(.exit 0,[],J))
 | 0,j,f,h0=>by omega
 | n+1,j,f,h0=>by
   rw[QN,QY];simp only[AI,h.ldE,IN,Aa0];by_cases a:j<e
   ·have g:=h.top;simp only[show decide ((j:Int)<(e:Int))=true from by simpa using a,IS,nO _ h a,AI,Ah,a,dif_pos];by_cases c:CJ w ws j=v
    ·simp[c]
    ·have b:((CJ w ws j:Int) == (v:Int))=false:=by simp; omega
     have d:=wSu j (by omega);simp only[b,By,c,Aa5,d];exact aM k h v n (j+1) (by omega) (by omega)
   ·simp only[show decide ((j:Int)<(e:Int))=false from by simpa using a,By,a,dif_neg,not_false_iff]
theorem pe (k:Nat) (b:5000<=k) (h:DJ J tb wb e w ws) (i:Int) (v:Nat) (hi:i<4294967296):DO (k+3) (some ⟨tb,0,none⟩) i (v:Int) J =
  some (match QY (CJ w ws) e v i.toNat with | some j=>.tuple #[qIi (j:Int),qIi 0] | none=>.tuple #[qIi 0,qIi 4],J):=by
 have c:=h.top;have a:(if (0:Int)>i then (0:Int) else i)=(i.toNat:Int):=by split <;> omega
 rw[TZ,Xq _ h];simp only[AI,An,Aa4,By,a];rw[aM k h v (k+2) i.toNat (by omega) (by omega)];cases QY (CJ w ws) e v i.toNat with
 | none=>simp
 | some j=>simp[UQ]
theorem aI (k:Nat) (h:DJ J tb wb e w ws) (v:Nat):∀ (n j:Nat),j<=e->j<n->Fy (k+2) n (some ⟨tb,0,none⟩) (v:Int) ((j:Int)-1) J =
  some (match QV (CJ w ws) v j with | some i=>(.ret,[qIi (i:Int),qIi 0],J) | none=>(.exit 0,[],J))
 | 0,j,b,c=>by omega
 | n+1,0,b,c=>by
   rw[Mf,QV];rfl
 | n+1,j+1,b,c=>by
   have l:=h.top;rw[Mf,QV];have f:((j+1:Nat):Int)-1=(j:Int):=by omega
   simp only[f,show decide ((j:Int)>=0)=true from by simp,IS,nO _ h (show j<e by omega),AI,Ah];by_cases d:CJ w ws j=v
   ·simp[d]
   ·have a:((CJ w ws j:Int) == (v:Int))=false:=by simp; omega
    have g:Ar ((j:Int)-1)=(j:Int)-1:=Ai (by unfold AQ; omega);simp only[a,By,d,Aa5,g];exact aI k h v n j (by omega) (by omega)
theorem wR (k:Nat) (b:5000<=k) (h:DJ J tb wb e w ws) (i:Int) (v:Nat):I9 (k+3) (some ⟨tb,0,none⟩) i (v:Int) J =
  some (match QV (CJ w ws) v (min i.toNat e) with | some j=>.tuple #[qIi (j:Int),qIi 0] | none=>.tuple #[qIi 0,qIi 4],J):=by
 have c:=h.top;have a:Ar ((if (e:Int)<(if (0:Int)>i then (0:Int) else i) then (e:Int) else (if (0:Int)>i then (0:Int) else i))-1)=((min i.toNat e:Nat):Int)-1:=by
  rw[Ai (by unfold AQ; split <;> split <;> omega)];split <;> split <;> omega
 rw[TX,Xq _ h];simp only[AI,An,Aa4,By,IN,h.ldE,Aa0,a];rw[aI k h v (k+2) (min i.toNat e) (Nat.min_le_right _ _) (by omega)];cases QV (CJ w ws) v (min i.toNat e) with
 | none=>simp
 | some j=>simp[UQ]
theorem w7 (k:Nat) (h:DJ J tb wb e w ws) (v:Int):HG (k+2) (some ⟨tb,0,none⟩) v J=some (.bool (decide (0<=v/\v<=((2 ^ w-1:Nat):Int))),J):=by
 rw[Tf];by_cases h0:0<=v
 ·simp only[show decide (v>=0)=true from by simpa using h0,IS,iL _ h,AI,Ah];simp[h0]
 ·simp only[show decide (v>=0)=false from by simpa using h0,By,AI];simp[h0]
theorem ke (k:Nat) (h:DJ J tb wb e w ws) (v:Int) (c:Nat) (a:B9 J c 0=some (some ⟨tb,0,none⟩)):Gl (k+3) v (some ⟨c,0,none⟩) J=some (.bool (!decide (0<=v/\v<=((2 ^ w-1:Nat):Int))),J):=by
 rw[Qn];simp only[AI,a,w7 _ h,An]
theorem kg (k:Nat) (h:DJ J tb wb e w ws) (i v:Int) (b:Nat) (g:Aj .i64 J b 0=some v) (c:b<J.length):∃ τ,Fi (k+8) (some ⟨tb,0,none⟩) i (some ⟨b,0,none⟩,1,1) J =
  some (qIi (if (0<=i/\i<(e:Int))/\(0<=v/\v<=((2 ^ w-1:Nat):Int)) then 0 else 1),J++τ):=by
 rw[Td];simp only[Ae];refine ⟨[.cells [qVi (some ⟨tb,0,none⟩)] LD true], ?_⟩
 ·have d:∀ T,B9 (J++[.cells [qVi (some ⟨tb,0,none⟩)] T true]) J.length 0=some (some ⟨tb,0,none⟩):=by intro T; simp[B9,CW,HR]
  have h1:=fun o=>h.app [o];have f:∀ o,Aj .i64 (J++[o]) b 0=some v:=by intro o; rw[HP _ _ _ c,g]
  simp only[d,AI,Xq _ (h1 _),mH _ (h1 _),An,Aa4,By];by_cases hi:0<=i/\i<(e:Int)
  ·simp only[hi,Ahf,Afz,true_and,Aa4,By];rw[JU,Lg,EZ];simp only[show decide ((0:Int)<((1:Nat):Int))=true from rfl,IS,show ((0:Int)<=0/\(0:Int)<((1:Nat):Int))=True from by simp,Aat,AI,Afm,Ad6,Aa0,f];simp only[N7,Aat,ke _ (h1 _) v J.length (d _),AI,An];by_cases a:0<=v/\v<=((2 ^ w-1:Nat):Int)
   ·simp only[a,Ahf,Afz,Aa4,By,Aat];rw[EZ];rfl
   ·simp only[a,Aic,Adi,IS,Aa5];rfl
  ·simp only[hi,Aic,Adi,IS,false_and,Aa5,AI]
theorem ba (k:Nat) (h:DJ J tb wb e w ws) {j v:Nat} (b:j<e) (c:v<2 ^ w):∃ τ,BM (k+9) (some ⟨tb,0,none⟩) (j:Int) (v:Int) J =
  some (qIi 0,(J++τ).set wb (.cells (rowOf (FB w ws j v)) BE true)):=by
 have h1:=h.app [.cells [qIi (v:Int)] Ak true];obtain ⟨τ,a⟩:=kg k h1 (j:Int) (v:Int) J.length (by simp[Aj,CW,Bk]) (by simp);refine ⟨[.cells [qIi (v:Int)] Ak true]++τ, ?_⟩;rw[Vo];simp only[Ae];rw[a,Aay (by have:=Ahi w; omega)];simp only[AI,Ah];rw[vr (k+6) (h1.app τ) b];simp only[Abx,By,AI,Gi,Aaq]
end
section
local instance qHV:AJ:=Ao
def valid (a b c:Int):Bool:=decide (0<=a/\a<=15/\0<=b/\b<=200/\0<=c/\c<=3/\(c=1->1<=a)/\(c=2->2<=a))
def words (a b c:Int):Int:=bif valid a b c then (2+a+b+1)/2*2 else 0
theorem Ny (k:Nat) (a b c:Int) (J:Aa):ZE (EV (k+1) a b c J) J (.bool (valid a b c)):=by
 simp only[ZE,ZH,Ae,Bv,IN,Aca,Ace,AI,Ah,lz];refine ⟨_,Aec some (Aht ?_ rfl)⟩;refine Aec Value.bool ?_;unfold valid;rw[Ahj];simp[Ah7];omega
theorem Qt (k:Nat) (a b c:Int) (J:Aa):ZE (Hm (k+2) a b c J) J (qIi (words a b c)):=by
 unfold ZE;rw[ZI];simp only[Ae,Bv,IN,Aca,Ace,AI,Ah];rw[(Ny _ _ _ _ _).eq];simp only[AI,An,GB,Aca,Ace,Ah];unfold words;rcases Bool.eq_false_or_eq_true (valid a b c) with d | d
 rotate_left
 ·simp only[d,Adi,IS,By,Aaq];exact ⟨_,rfl⟩
 ·simp only[d,Aa4,IS,By,Aaq];simp[valid] at d;simp only[show ((2:Int)=0)=False from by simp,Aa5];refine ⟨_,Aec some (Aht (Aec (Value.int .i64) ?_) rfl)⟩;have hi:=d;simp only[Ar];have e:IntKind.i64.wrap (2+a)=2+a:=by rw[Afk]; omega
  have f:IntKind.i64.wrap (2+a+b)=2+a+b:=by rw[Afk]; omega
  have g:IntKind.i64.wrap (2+a+b+1)=2+a+b+1:=by rw[Afk]; omega
  rw[e,f,g,Afn (by omega),Afk,Afk];omega
end
section
local instance qCH:AJ:=Ao
structure Cs where
 hb:Nat
 bl:Nat
 wd:Nat
 st:Nat
 sw:Nat
 pn:Nat
 pw:Nat
 pl:Nat
 fw:Nat
def Cs.l (i:Cs):List Nat:=[i.hb,i.bl,i.wd,i.st,i.sw,i.pn,i.pw,i.pl,i.fw]
structure HM where
 bls:List (Int × Int)
 wds:List Int
 stw:List (BitVec 64)
 pnw:List (BitVec 64)
 pl:List (Int × Int)
 fw:List (Int × Int)
 births:Int
def CU:List (Int × Int)->List Value
 | []=>[]
 | b::l=>qIi b.1 :: qIi b.2::CU l
def Bl (l:List Int):List Value:=l.map fun n=>qIi n
def Sx (l:List (Int × Int)):List (Int × Value):=l.map fun p=>(p.1,qIi p.2)
structure Al (J:Aa) (i:Cs) (m:HM):Prop where
 hp:J[i.hb]?=some (.cells [.slice (some ⟨i.bl,0,none⟩) m.bls.length m.bls.length,.slice (some ⟨i.wd,0,none⟩) m.wds.length m.wds.length,qVi (some ⟨i.st,0,none⟩),qVi (some ⟨i.pn,0,none⟩),.map (some i.pl),.map (some i.fw),qIi m.births] FT true)
 bl:J[i.bl]?=some (.cells (CU m.bls) Gc true)
 wd:J[i.wd]?=some (.cells (Bl m.wds) Dv true)
 st:DJ J i.st i.sw (32*m.bls.length) 1 m.stw
 pn:DJ J i.pn i.pw (32*m.bls.length) 1 m.pnw
 pl:J[i.pl]?=some (.map (Sx m.pl))
 fw:J[i.fw]?=some (.map (Sx m.fw))
 nb:2<=m.bls.length
 nt:m.bls.length<=64
 wl:m.wds.length=64*m.bls.length
 nd:i.l.Nodup
 wi:∀ a,AQ (m.wds.getD a 0)
structure Br (i:Cs) (J J':Aa):Prop where
 len:J.length<=J'.length
 same:∀ j,j<J.length->j ∉ i.l->J'[j]?=J[j]?
theorem Br.refl (i:Cs) (J:Aa):Br i J J:=⟨Aa1 _,fun _ _ _=>rfl⟩
theorem Br.trans {i:Cs} {a b c:Aa} (h:Br i a b) (g:Br i b c):Br i a c:=
 ⟨Adt h.len g.len,fun j h1 d=>(g.same j (Acp h1 h.len) d).trans (h.same j h1 d)⟩
theorem Br.app (i:Cs) (J τ:Aa):Br i J (J++τ):=⟨by simp,fun j h _=>AT h⟩
theorem Br.set {i:Cs} {b:Nat} (J:Aa) (o:Au) (h:b ∈ i.l):Br i J (J.set b o):=
 ⟨by simp,fun j _ a=>Aar (fun e=>a (by rw[<- e]; exact h))⟩
variable {J:Aa} {i:Cs} {m:HM}
theorem Al.lt (h:Al J i m):∀ j ∈ i.l,j<J.length:=by
 intro j a;simp only[Cs.l,Acd,Aee,Aga] at a;rcases a with rfl | rfl | rfl | rfl | rfl | rfl | rfl | rfl | rfl
 ·exact Af h.hp
 ·exact Af h.bl
 ·exact Af h.wd
 ·exact h.st.lt.1
 ·exact h.st.lt.2
 ·exact h.pn.lt.1
 ·exact h.pn.lt.2
 ·exact Af h.pl
 ·exact Af h.fw
theorem Al.Ax {J':Aa} (h:Al J i m) (hs:∀ j ∈ i.l,J'[j]?=J[j]?):Al J' i m where
 hp:=by rw[hs _ (by simp[Cs.l])]; exact h.hp
 bl:=by rw[hs _ (by simp[Cs.l])]; exact h.bl
 wd:=by rw[hs _ (by simp[Cs.l])]; exact h.wd
 st:=h.st.same (hs _ (by simp[Cs.l])) (hs _ (by simp[Cs.l]))
 pn:=h.pn.same (hs _ (by simp[Cs.l])) (hs _ (by simp[Cs.l]))
 pl:=by rw[hs _ (by simp[Cs.l])]; exact h.pl
 fw:=by rw[hs _ (by simp[Cs.l])]; exact h.fw
 nb:=h.nb
 nt:=h.nt
 wl:=h.wl
 nd:=h.nd
 wi:=h.wi
theorem Al.app (τ:Aa) (h:Al J i m):Al (J++τ) i m:=h.Ax fun j a=>AT (h.lt j a)
theorem Al.H7 (h:Al J i m):Be J i.hb 0=some (some ⟨i.bl,0,none⟩,m.bls.length,m.bls.length):=by simp[Be,CW,h.hp,Eo]
theorem Al.Fa (h:Al J i m):Be J i.hb 1=some (some ⟨i.wd,0,none⟩,m.wds.length,m.wds.length):=by simp[Be,CW,h.hp,Eo]
theorem Al.UL (h:Al J i m):B9 J i.hb 2=some (some ⟨i.st,0,none⟩):=by simp[B9,CW,h.hp,HR]
theorem Al.cH (h:Al J i m):B9 J i.hb 3=some (some ⟨i.pn,0,none⟩):=by simp[B9,CW,h.hp,HR]
theorem Al.eR (h:Al J i m):xH J i.hb 4=some (some i.pl):=by simp[xH,CW,h.hp,fc]
theorem Al.ld5 (h:Al J i m):xH J i.hb 5=some (some i.fw):=by simp[xH,CW,h.hp,fc]
theorem Al.uT (h:Al J i m):Aj .i64 J i.hb 6=some m.births:=by simp[Aj,CW,h.hp,Bk]
theorem Al.uX (h:Al J i m) {a:Nat} (b:a<m.wds.length):Aj .i64 J i.wd a=some (m.wds.getD a 0):=by
 simp[Aj,CW,h.wd,Bl,Bk,Aau b]
theorem J6:∀ l:List (Int × Int),(CU l).length=2*l.length
 | []=>rfl
 | b::l=>by simp[CU,J6 l]; omega
theorem UC:∀ (l:List (Int × Int)) (b:Nat),b<l.length->(CU l)[2*b]?=some (qIi (l.getD b (0,0)).1)/\(CU l)[2*b+1]?=some (qIi (l.getD b (0,0)).2)
 | [],b,h=>by simp at h
 | x::l,0,h=>by simp[CU]
 | x::l,b+1,h=>by
   have:=UC l b (by simpa using h);have a:2*(b+1)=2*b+1+1:=by omega
   simp only[CU,a,Ace,List.getD_cons_succ];exact this
theorem Al.Vy (h:Al J i m) {b:Nat} (hb:b<m.bls.length):Aj .i64 J i.bl (b*2)=some (m.bls.getD b (0,0)).1/\Aj .i64 J i.bl (b*2+1)=some (m.bls.getD b (0,0)).2:=by
 obtain ⟨h1,a⟩:=UC m.bls b hb;rw[Agj] at h1 a;simp[Aj,CW,h.bl,Bk,h1,a]
abbrev AU (i:Cs):qOi:=some ⟨i.hb,0,none⟩
theorem JY (k:Nat) (h:Al J i m):AV (k+1) (AU i) J=some (.bool true,J):=by
 have:=h.nb;rw[Va];simp only[bT,AI,Adi,IS,IN,Aa0,h.H7];simp only[show decide (((m.bls.length:Nat):Int)>0)=true from by simp; omega]
theorem fh (k:Nat) (h:Al J i m):Dt (k+2) (AU i) J=some (qIi m.births,J):=by
 rw[SE,JY _ h];simp only[AI,An,Aa4,By,IN,h.uT]
def Start (m:HM) (j:Nat):Prop:=j<32*m.bls.length/\CJ 1 m.stw j=1
instance (m:HM) (j:Nat):Decidable (Start m j):=inferInstanceAs (Decidable (_/\_))
def Aw (m:HM) (a:Int):Bool:=decide (0<=a/\a.toNat % 2=0/\Start m (a.toNat/2))
theorem Tm (k:Nat) (h:Al J i m) (a:Int) (e:AQ a):Bd (k+4) (AU i) a J=some (.bool (Aw m a),J):=by
 rw[Wb,JY _ h];simp only[AI,An,IS];unfold Aw;by_cases h0:0<=a
 ·obtain ⟨n,rfl⟩:∃ n:Nat,a=(n:Int):=⟨a.toNat,by omega⟩;simp only[show decide ((n:Int)>=0)=true from by simp,IS];rw[Aaz (by decide)];simp only[AI];have t1:(n:Int).tmod 2=((n % 2:Nat):Int):=rfl;have t2:(n:Int).tdiv 2=((n/2:Nat):Int):=rfl;rw[t1,t2];by_cases h1:n % 2=0
  ·have b:(((n % 2:Nat):Int) == 0)=true:=by simp; omega
   simp only[b,IS,IN,h.UL,AI];have d:Ar ((n/2:Nat):Int)=((n/2:Nat):Int):=Ai (by unfold AQ at *; omega);rw[Aaz (by decide)];simp only[d,mQ _ h.st,AI,Ah];congr 3;by_cases c:n/2<32*m.bls.length
   ·rw[Aay (by omega)];simp[Start,h1,c];rw[Ahj]; simp;rw[show ((n:Int)/2).toNat=n/2 from by omega]; omega
   ·rw[Aaz (by omega)];simp[Start,c]
  ·have b:(((n % 2:Nat):Int) == 0)=false:=by simp; omega
   simp only[b,By,AI];simp[h1]
 ·simp[show decide (a>=0)=false from by simpa using h0,h0]
theorem AY {a:Int} (h:Aw m a=true):∃ j,a=((2*j:Nat):Int)/\Start m j:=by
 unfold Aw at h;rw[Ad4] at h;exact ⟨a.toNat/2,by omega,h.2.2⟩
theorem RU {j:Nat} (h:Start m j):Aw m ((2*j:Nat):Int)=true:=by
 unfold Aw;rw[Ad4];refine ⟨by omega,by omega, ?_⟩;rw[show (((2*j:Nat):Int)).toNat/2=j from by omega]; exact h
theorem O9 (k:Nat) (h:Al J i m) (a:Int) (b:AQ a):BI (k+5) (AU i) a J=some (qIi (if Aw m a then 0 else 4),J):=by
 rw[SJ,JY _ h];simp only[AI,An,Aa4,By,Tm _ h a b];cases Aw m a <;> rfl
def Pt (n:Int):Nat:=(words (n.tmod 16) ((n.tmod 4096).tdiv 16) (n.tdiv 4096)).toNat
def sz (m:HM) (j:Nat):Nat:=Pt (m.wds.getD (2*j+1) 0)
theorem Oy (a b c:Int):0<=words a b c/\words a b c<=218:=by
 unfold words;cases d:valid a b c with
 | false=>simp
 | true=>
   simp[valid] at d;simp only[IS];omega
theorem YQ (n:Int):Pt n<=218:=by
 have:=Oy (n.tmod 16) ((n.tmod 4096).tdiv 16) (n.tdiv 4096);unfold Pt; omega
theorem jo (n:Int):(Pt n:Int)=words (n.tmod 16) ((n.tmod 4096).tdiv 16) (n.tdiv 4096):=by
 have:=Oy (n.tmod 16) ((n.tmod 4096).tdiv 16) (n.tdiv 4096);unfold Pt; omega
theorem dE (k:Nat) (n:Int) (e:AQ n) (J:Aa):∃ τ,Hn (k+1) n J=some (.agg #[qIi (n.tmod 16),qIi ((n.tmod 4096).tdiv 16),qIi (n.tdiv 4096)],J++τ):=by
 rw[ZJ];simp only[Ae];have a:Ar ((n.tmod 4096).tdiv 16)=(n.tmod 4096).tdiv 16:=Ai (by unfold AQ at *; have:=Aft n (show (0:Int)<4096 by decide); have c:=Int.lt_tmod_of_pos n (show (0:Int)<4096 by decide); rw[show (n.tmod 4096).tdiv 16=(n.tmod 4096).tdiv 16 from rfl]; have:=Int.natAbs_tdiv_le_natAbs (n.tmod 4096) 16; omega);have b:Ar (n.tdiv 4096)=n.tdiv 4096:=Ai (by unfold AQ at *; have d:(n.tdiv 4096).natAbs=n.natAbs/4096:=Int.natAbs_tdiv n 4096; omega);rw[Aaz (by decide),Aaz (by decide),Aaz (by decide),Aaz (by decide),a,b];simp[H5,Nm,Bb,Lh]
theorem jk (k:Nat) (h:Al J i m) {j:Nat} (e:j<32*m.bls.length):∃ τ,DA (k+3) (AU i) ((2*j:Nat):Int) J=some (qIi (sz m j:Int),J++τ):=by
 have hw:=h.wl;have f:=h.nt;have b:=h.wi (2*j+1);obtain ⟨τ,hs⟩:=dE (k+1) (m.wds.getD (2*j+1) 0) b J;obtain ⟨d,c⟩:=Qt k ((m.wds.getD (2*j+1) 0).tmod 16) (((m.wds.getD (2*j+1) 0).tmod 4096).tdiv 16) ((m.wds.getD (2*j+1) 0).tdiv 4096) (J++τ);refine ⟨τ++d, ?_⟩;have a:Ar (((2*j:Nat):Int)+1)=((2*j+1:Nat):Int):=Ai (by unfold AQ; omega);rw[Vb];simp only[AI,IN,h.Fa,a,IT,Acg];rw[Aay (by omega)];simp only[AI,h.uX (show 2*j+1<m.wds.length by omega),hs,HA,c,Ah,Aaq];unfold sz;rw[jo]
def bY (m:HM) (n:Nat):Option Nat:=
 match QV (CJ 1 m.stw) 1 (min (n/2+1) (32*m.bls.length)) with
 | none=>none
 | some j=>if 2*j+sz m j<=n then none else some j
def QT (m:HM) (a:Int):Option Nat:=if 0<=a/\a<(m.wds.length:Int) then bY m a.toNat else none
theorem wH (k:Nat) (o:5000<=k) (h:Al J i m) (a:Int):∃ τ,Jc (k+10) (AU i) a J =
  some (match QT m a with | some j=>.tuple #[qIi ((2*j:Nat):Int),qIi 0] | none=>.tuple #[qIi 0,qIi 4],J++τ):=by
 have hw:=h.wl;have p:=h.nt;rw[UW];simp only[JY _ h,AI,An,Aa4,By];by_cases h0:0<=a;rotate_left
 ·refine ⟨[], ?_⟩;have:¬ (0<=a/\a<(m.wds.length:Int)):=by omega
  simp only[show decide (a<0)=true from by simp; omega,IS,AI,QT,this,Aa5,Ab1]
 simp only[show decide (a<0)=false from by simp; omega,By,IN,h.Fa,AI];by_cases h1:a<(m.wds.length:Int);rotate_left
 ·refine ⟨[], ?_⟩;have:¬ (0<=a/\a<(m.wds.length:Int)):=by omega
  simp only[show decide (a>=((m.wds.length:Nat):Int))=true from by simp; omega,IS,QT,this,Aa5,Ab1]
 obtain ⟨n,rfl⟩:∃ n:Nat,a=(n:Int):=⟨a.toNat,by omega⟩;have t2:(n:Int).tdiv 2=((n/2:Nat):Int):=rfl;have d:Ar ((n/2:Nat):Int)=((n/2:Nat):Int):=Ai (by unfold AQ; omega);have e:Ar (((n/2:Nat):Int)+1)=((n/2+1:Nat):Int):=Ai (by unfold AQ; omega);simp only[show decide ((n:Int)>=((m.wds.length:Nat):Int))=false from by simp; omega,By,h.UL,AI,t2,d,e];rw[Aaz (by decide)];have c:=wR (k+6) (by omega) h.st ((n/2+1:Nat):Int) 1;rw[show ((1:Nat):Int)=1 from rfl,IT] at c;rw[c];simp only[QT,bY,show (0<=(n:Int)/\(n:Int)<(m.wds.length:Int)) from ⟨h0,h1⟩,Afz,Aat,IT,AI];cases l:QV (CJ 1 m.stw) 1 (min (n/2+1) (32*m.bls.length)) with
 | none=>
   refine ⟨[], ?_⟩;simp[B6]
 | some j=>
   obtain ⟨r,s,_⟩:=RX l;obtain ⟨τ,hs⟩:=jk (k+6) h (show j<32*m.bls.length by omega);refine ⟨τ, ?_⟩;have f:Ar (2*(j:Int))=((2*j:Nat):Int):=Ai (by unfold AQ; omega);have q:=YQ (m.wds.getD (2*j+1) 0);have g:Ar (((2*j:Nat):Int)+(sz m j:Int))=((2*j+sz m j:Nat):Int):=Ai (by unfold AQ; unfold sz; omega);simp only[B6,Abx,By,f,hs,AI,Ah,g];by_cases b:2*j+sz m j<=n
   ·simp only[show decide ((n:Int)>=((2*j+sz m j:Nat):Int))=true from by simp; omega,IS,b,Aat]
   ·simp only[show decide ((n:Int)>=((2*j+sz m j:Nat):Int))=false from by simp; omega,By,b,Aa5]
def getM (l:List (Int × Int)) (k:Int):Option Int:=(l.find? fun e=>k == e.1).map (·.2)
theorem j9 (k:Nat) (h:Al J i m) (a:Int) (b:AQ a):Dk (k+6) (AU i) a J=some (if Aw m a then .tuple #[qIi (m.wds.getD a.toNat 0),qIi 0] else .tuple #[qIi 0,qIi 4],J):=by
 have hw:=h.wl;rw[Tz];simp only[O9 _ h a b,AI,Ah];cases c:Aw m a with
 | false=>rfl
 | true=>
   obtain ⟨j,rfl,e,_⟩:=AY c;have d:((2*j:Nat):Int).toNat<m.wds.length:=by omega
   simp only[Aat,Abx,By,IN,h.Fa,AI];rw[Aay (by omega)];simp only[AI,Acg,IN,h.uX d]
def Ka (m:HM) (b:Nat):Nat->Nat->Nat
 | 0,n=>n
 | f+1,n=>if (m.bls.getD b (0,0)).1=2/\b+n<m.bls.length/\(m.bls.getD (b+n) (0,0)).1=3 then Ka m b f (n+1) else n
theorem oM (k:Nat) (h:Al J i m) {b:Nat} (hb:b<m.bls.length):∀ (f n:Nat),m.bls.length<=b+n+f->n<=m.bls.length->FY k (f+1) (AU i) (b:Int) (n:Int) J=some (.exit 0,[qIi (Ka m b f n:Int)],J):=by
 intro f;have s:=h.nt
 induction f with
 | zero=>
   intro n p j;rw[MB];simp only[AI,IN,Aa0,h.H7,IT];rw[Aay (by omega)];have e:Ar ((b:Int)+(n:Int))=((b+n:Nat):Int):=Ai (by unfold AQ; omega);simp only[AI,(h.Vy hb).1,e,Ka];by_cases a:(m.bls.getD b (0,0)).1=2
   ·have c:((m.bls.getD b (0,0)).1 == 2)=true:=by simpa using a
    have r:decide (((b+n:Nat):Int)<((m.bls.length:Nat):Int))=false:=by simp; omega
    simp only[c,IS,r,By,AI]
   ·have:((m.bls.getD b (0,0)).1 == 2)=false:=by simpa using a
    simp only[this,By,AI]
 | succ f q=>
   intro n p j;rw[MB];simp only[AI,IN,Aa0,h.H7,IT];rw[Aay (by omega)];have e:Ar ((b:Int)+(n:Int))=((b+n:Nat):Int):=Ai (by unfold AQ; omega);have o:=wSu n (by omega);simp only[AI,(h.Vy hb).1,e,o,IT];by_cases a:(m.bls.getD b (0,0)).1=2
   ·have c:((m.bls.getD b (0,0)).1 == 2)=true:=by simpa using a
    simp only[c,IS,AI];by_cases g:b+n<m.bls.length
    ·simp only[show decide (((b+n:Nat):Int)<((m.bls.length:Nat):Int))=true from by simp; omega,IS,AI,h.H7];rw[Aay (by omega)];simp only[AI,IN,Aa0,(h.Vy g).1];by_cases d:(m.bls.getD (b+n) (0,0)).1=3
     ·have l:((m.bls.getD (b+n) (0,0)).1 == 3)=true:=by simpa using d
      simp only[l,IS,AI];rw[Ka,Aay ⟨a,g,d⟩];exact q (n+1) (by omega) (by omega)
     ·have l:((m.bls.getD (b+n) (0,0)).1 == 3)=false:=by simpa using d
      simp only[l,By,AI];rw[Ka,Aaz (by rintro ⟨_,_,h⟩; exact d h)]
    ·simp only[show decide (((b+n:Nat):Int)<((m.bls.length:Nat):Int))=false from by simp; omega,By,AI];rw[Ka,Aaz (by rintro ⟨_,h,_⟩; exact g h)]
   ·have c:((m.bls.getD b (0,0)).1 == 2)=false:=by simpa using a
    simp only[c,By,AI];rw[Ka,Aaz (by rintro ⟨h,_⟩; exact a h)]
theorem WJ (m:HM) (b:Nat):∀ (f g n:Nat),m.bls.length<=b+n+f->m.bls.length<=b+n+g->Ka m b f n=Ka m b g n
 | 0,0,n,_,_=>rfl
 | 0,g+1,n,h1,a=>by
   rw[Ka,Ka,Aaz (by rintro ⟨_,h,_⟩; omega)]
 | f+1,0,n,h1,a=>by
   rw[Ka,Ka,Aaz (by rintro ⟨_,h,_⟩; omega)]
 | f+1,g+1,n,h1,a=>by
   rw[Ka,Ka];split
   ·exact WJ m b f g (n+1) (by omega) (by omega)
   ·rfl
def LG (m:HM) (b:Nat):Nat:=Ka m b m.bls.length 1
theorem qL (k:Nat) (a:100<=k) (h:Al J i m) {b:Nat} (hb:b<m.bls.length):Gu (k+1) (AU i) (b:Int) J=some (qIi (LG m b:Int),J):=by
 have d:=h.nt;have c:=h.nb;rw[Vc];have:=oM k h hb (k-1) 1 (by omega) (by omega);rw[show k-1+1=k from by omega] at this;rw[show (1:Int)=((1:Nat):Int) from rfl,this];simp only[AI,Aat,Em];unfold LG;rw[WJ m b (k-1) m.bls.length 1 (by omega) (by omega)]
def Mr (m:HM) (hi:Nat) (a:Int):Nat->Nat->Bool
 | 0,_=>true
 | f+1,x=>if x<hi then (match QT m (x:Int) with
   | some o=>if ((2*o:Nat):Int)=a then Mr m hi a f (x+2) else false
   | none=>Mr m hi a f (x+2)) else true
theorem nK (k:Nat) (t:5000<=k) (h:Al J i m) (a b:Nat) (c:Int) (w:a<4096) (u:b<=218):∀ (f x:Nat) (τ:Aa),a+b<=x+2*f->x<=5000 ->
  ∃ j,ED (k+10) (f+1) (AU i) (a:Int) (b:Int) c (x:Int) (J++τ)=some (if Mr m (a+b) c f x then (.exit 0,[],J++j) else (.ret,[qIi 8],J++j)):=by
 intro f;have e:Ar ((a:Int)+(b:Int))=((a+b:Nat):Int):=Ai (by unfold AQ; omega)
 induction f with
 | zero=>
   intro x τ h1 r;refine ⟨τ, ?_⟩;rw[MA];have q:decide ((x:Int)<((a+b:Nat):Int))=false:=by simp; omega
   simp only[e,q,By,Mr,Aat]
 | succ f v=>
   intro x τ h1 r;rw[MA];by_cases g:x<a+b
   ·have q:decide ((x:Int)<((a+b:Nat):Int))=true:=by simp; omega
    have p:Ar ((x:Int)+2)=((x+2:Nat):Int):=Ai (by unfold AQ; omega);obtain ⟨l,s⟩:=wH k t (h.app τ) (x:Int);obtain ⟨n,d⟩:=v (x+2) (τ++l) (by omega) (by omega);rw[<- Aaq] at d;simp only[e,p,q,IS,s,AI,Mr,g,Aat];cases y:QT m (x:Int) with
    | none=>
      refine ⟨n, ?_⟩;simp only[B6,show ((4:Int) == 0)=false from rfl,By,AI];exact d
    | some o=>
      simp only[B6,Ah9,IS,AI];by_cases hb:((2*o:Nat):Int)=c
      ·refine ⟨n, ?_⟩;subst hb;simp only[Abx,By,Aat];exact d
      ·refine ⟨τ++l, ?_⟩;have:(((2*o:Nat):Int) != c)=true:=by simpa using hb
       simp only[this,IS,hb,Aa5,Aaq,Ab8]
   ·refine ⟨τ, ?_⟩;have q:decide ((x:Int)<((a+b:Nat):Int))=false:=by simp; omega
    simp only[e,q,By,Mr,g,Aa5,Aat]
theorem fR (m:HM) (hi:Nat) (a:Int):∀ (f g x:Nat),hi<=x+2*f->hi<=x+2*g->Mr m hi a f x=Mr m hi a g x
 | 0,0,_,_,_=>rfl
 | 0,g+1,x,h1,b=>by rw[Mr,Mr,Aaz (by omega)]
 | f+1,0,x,h1,b=>by rw[Mr,Mr,Aaz (by omega)]
 | f+1,g+1,x,h1,b=>by
   rw[Mr,Mr];have:=fR m hi a f g (x+2) (by omega) (by omega);rw[this]
def Mi (m:HM) (a:Int) (d:Nat) (c:Int):Int:=
 if ¬ (0<=a/\a<(m.wds.length:Int)/\a.toNat % 2=0) then 1 else
 let b:=a.toNat/64
 if d<=32 then (if (m.bls.getD b (0,0)).1≠1\/(a.toNat+d-1)/64≠b then 5 else if Mr m (a.toNat+d) c 200 a.toNat then 0 else 8)
 else if (m.bls.getD b (0,0)).1≠2\/a.toNat % 64≠0\/LG m b≠(d+63)/64 then 5 else if Mr m (a.toNat+d) c 200 a.toNat then 0 else 8
theorem xB (k:Nat) (H:5000<=k) (h:Al J i m) (a:Int) (b:Nat) (d:Int) (h0:2<=b) (r:b<=218):∃ τ,Jd (k+11) (AU i) a (b:Int) d J=some (qIi (Mi m a b d),J++τ):=by
 have hw:=h.wl;have O:=h.nt;rw[UY];simp only[AI,IN,h.H7,h.Fa];by_cases L:0<=a;rotate_left
 ·refine ⟨[], ?_⟩;simp only[show decide (a<0)=true from by simp; omega,IS,AI,Mi,show ¬ (0<=a/\a<(m.wds.length:Int)/\a.toNat % 2=0) from by omega,Aep,Aat,Ab1]
 by_cases M:a<(m.wds.length:Int);rotate_left
 ·refine ⟨[], ?_⟩;simp only[show decide (a<0)=false from by simp; omega,By,show decide (a>=((m.wds.length:Nat):Int))=true from by simp; omega,IS,AI,Mi,show ¬ (0<=a/\a<(m.wds.length:Int)/\a.toNat % 2=0) from by omega,Aep,Aat,Ab1]
 obtain ⟨n,rfl⟩:∃ n:Nat,a=(n:Int):=⟨a.toNat,by omega⟩;have t1:(n:Int).tmod 2=((n % 2:Nat):Int):=rfl;have t2:(n:Int).tdiv 64=((n/64:Nat):Int):=rfl;have t3:(n:Int).tmod 64=((n % 64:Nat):Int):=rfl;have A:Ar ((n/64:Nat):Int)=((n/64:Nat):Int):=Ai (by unfold AQ; omega);have B:Ar ((n:Int)+(b:Int))=((n+b:Nat):Int):=Ai (by unfold AQ; omega);have C:Ar (((n+b:Nat):Int)-1)=((n+b-1:Nat):Int):=by rw[Ai (by unfold AQ; omega)]; omega
 have t4:(((n+b-1:Nat):Int)).tdiv 64=(((n+b-1)/64:Nat):Int):=rfl;have D:Ar (((n+b-1)/64:Nat):Int)=(((n+b-1)/64:Nat):Int):=Ai (by unfold AQ; omega);have E:Ar ((b:Int)+64)=((b+64:Nat):Int):=Ai (by unfold AQ; omega);have F:Ar (((b+64:Nat):Int)-1)=((b+63:Nat):Int):=by rw[Ai (by unfold AQ; omega)]; omega
 have t5:((b+63:Nat):Int).tdiv 64=(((b+63)/64:Nat):Int):=rfl;have G:Ar (((b+63)/64:Nat):Int)=(((b+63)/64:Nat):Int):=Ai (by unfold AQ; omega);simp only[show decide ((n:Int)<0)=false from by simp,By,show decide ((n:Int)>=((m.wds.length:Nat):Int))=false from by simp; omega,AI,t1,t2,t3,A,B,C,t4,D,E,F,t5,G];rw[Aaz (by decide)];simp only[AI];by_cases N:n % 2=0;rotate_left
 ·refine ⟨[], ?_⟩;have q:(((n % 2:Nat):Int) != 0)=true:=by simp; omega
  simp only[q,IS,Mi,show ¬ (0<=(n:Int)/\(n:Int)<(m.wds.length:Int)/\(n:Int).toNat % 2=0) from by omega,Aep,Aat,Ab1]
 have q:(((n % 2:Nat):Int) != 0)=false:=by simp; omega
 have hb:n/64<m.bls.length:=by omega
 obtain ⟨τ,y⟩:=nK k H h n b d (by omega) r (k+9) n [] (by omega) (by omega);have hm:Mr m (n+b) d (k+9) n=Mr m (n+b) d 200 n:=fR m _ d _ _ n (by omega) (by omega);rw[Ab1,hm] at y;have g:(¬ (0<=(n:Int)/\(n:Int)<(m.wds.length:Int)/\(n:Int).toNat % 2=0))=False:=Air (by omega);simp only[q,By,Mi,g,Aa5];simp only[IT];have tail:∀ (c:Bool),∃ K,(if (CA.normal:CA) = .normal then (ED (k+10) (k+10) (AU i) (n:Int) (b:Int) d (n:Int) J).bind fun e=>if e.1 = .exit 0 then some (Value.int .i64 (0:Int),e.2.2) else if e.1 = .ret then ZZ e.2.1 fun s=>some (qIi s,e.2.2) else none else none)=some (qIi (if Mr m (n+b) d 200 n=true then 0 else 8),J++K):=by
  intro c;refine ⟨τ, ?_⟩;rw[y];cases Mr m (n+b) d 200 n <;> simp[Em]
 obtain ⟨z,j⟩:=tail true;simp only[Aat] at j;have l:((64:Int)=0)=False:=by simp
 have v:(0<=((n/64:Nat):Int)/\((n/64:Nat):Int)<((m.bls.length:Nat):Int))=True:=Adu (by omega);by_cases w:b<=32
 ·have t:decide ((b:Int)<=32)=true:=by simp; omega
  simp only[l,Aa5,t,IS,w,Aat,v,AI,IN,Aa0,IT,(h.Vy hb).1,h.H7];by_cases f:(m.bls.getD (n/64) (0,0)).1=1
  ·simp only[f,Abx,By,ne_eq,Ae9,Ah6,AI];by_cases o:(n+b-1)/64=n/64
   ·simp only[o,Abx,By,AI,Aat,Ae9,Aa5];exact ⟨z,j⟩
   ·have p:((((n+b-1)/64:Nat):Int) != ((n/64:Nat):Int))=true:=by simp; omega
    simp only[p,IS,o,Aep,Aat,AI];exact ⟨[],by simp[Em]⟩
  ·have u:((m.bls.getD (n/64) (0,0)).1 != 1)=true:=Adz.2 f;simp only[u,IS,ne_eq,f,Aep,true_or,Aat,AI];exact ⟨[],by simp[Em]⟩
 ·have t:decide ((b:Int)<=32)=false:=by simp; omega
  simp only[l,Aa5,t,By,w,Aat,v,AI,IN,Aa0,IT,(h.Vy hb).1,h.H7];by_cases f:(m.bls.getD (n/64) (0,0)).1=2
  ·simp only[f,Abx,By,ne_eq,Ae9,Ah6,AI];by_cases o:n % 64=0
   ·have p:(((n % 64:Nat):Int) != 0)=false:=by simp; omega
    simp only[p,By,qL (k+9) (by omega) h hb,AI,Ah];simp only[o,Ae9,Ah6];by_cases x:LG m (n/64)=(b+63)/64
    ·simp only[x,Abx,By,AI,Aat,Ae9,Aa5];exact ⟨z,j⟩
    ·have I:((LG m (n/64):Int) != (((b+63)/64:Nat):Int))=true:=by simp; omega
     simp only[I,IS,x,Aep,Aat,AI];exact ⟨[],by simp[Em]⟩
   ·have p:(((n % 64:Nat):Int) != 0)=true:=by simp; omega
    simp only[p,IS,o,Aep,true_or,Aat,AI];exact ⟨[],by simp[Em]⟩
  ·have u:((m.bls.getD (n/64) (0,0)).1 != 2)=true:=Adz.2 f;simp only[u,IS,ne_eq,f,Aep,true_or,Aat,AI];exact ⟨[],by simp[Em]⟩
end
section
local instance qCB:AJ:=Ao
theorem wg:HV P Ak=some 1:=by kernel_rfl
theorem uC:bytesOf P Ak=some 8:=by kernel_rfl
theorem tB:FV P Ak=some (qIi 0):=by kernel_rfl
def CB (lo:Nat) (J:Aa) (s:Bx) (l:List Int):Prop:=
 (l=[]/\s=(none,0,0)) \/ ∃ b,lo<=b/\s=(some ⟨b,0,none⟩,l.length,l.length)/\l≠[]/\J[b]?=some (.cells (Bl l) Ak true)
theorem Cm (l:List Int):(Bl l).length=l.length:=by simp[Bl]
theorem KS (l a:List Int):Bl (l++a)=Bl l++Bl a:=by simp[Bl]
theorem CB.app {lo:Nat} {J:Aa} {s:Bx} {l:List Int} (τ:Aa) (h:CB lo J s l):CB lo (J++τ) s l:=by
 rcases h with h | ⟨b,h1,c,d,a⟩
 ·exact .inl h
 ·exact .inr ⟨b,h1,c,d,by rw[AT (Af a),a]⟩
theorem CB.ld {lo:Nat} {J:Aa} {b c c':Nat} {l:List Int} (h:CB lo J (some ⟨b,0,none⟩,c,c') l) {j:Nat} (e:j<l.length):Aj .i64 J b j=some (l.getD j 0):=by
 rcases h with ⟨_,h⟩ | ⟨f,_,a,_,d⟩
 ·cases h
 ·cases a;simp[Aj,CW,d,Bl,Bk,Aau e]
theorem CB.len {lo:Nat} {J:Aa} {s:Bx} {l:List Int} (h:CB lo J s l):s.2.1=l.length:=by
 rcases h with ⟨rfl,rfl⟩ | ⟨a,_,rfl,_,_⟩ <;> rfl
theorem rB (J τ:Aa) (s:Bx) (l:List Int) (x:Int) (h:Nat) (p:l.length<=10000) (hs:CB J.length (J++τ) s l) (d:∃ T rw,(J++τ)[h]?=some (.cells [qIi x] T rw)):
  ∃ s' e,AH P Ak s (some ⟨h,0,none⟩,1,1) (J++τ)=some (s',J++e)/\CB J.length (J++e) s' (l++[x]):=by
 obtain ⟨T,o,d⟩:=d;have k:Da (J++τ) 1 (some ⟨h,0,none⟩) 1=some [qIi x]:=by simp[Da,Nm,d]
 unfold AH LH;simp only[wg,uC,tB,AI,k];have n:(¬ (Gq (qIi 0)=false/\some 1=some (Value.cells (qIi 0)).size/\0<(Value.cells (qIi 0)).size))=False:=by simp[Gq,Value.cells]
 simp only[n,Aa5];rcases hs with ⟨rfl,rfl⟩ | ⟨b,hb,rfl,m,a⟩
 ·have r:KF (0+1) 8/\0<8:=by unfold KF; decide
  simp only[show ¬ (0+1<=0) from by decide,Aa5,r,Afz,Aat,HU,IS,qJ];refine ⟨_,τ++[.cells [qIi x] Ak true],by rw[<- Aaq]; rfl,.inr ⟨(J++τ).length,by simp,rfl,by simp, ?_⟩⟩;rw[<- Aaq]; simp[Bl]
 ·have r:KF (l.length+1) 8/\0<8:=by
   unfold KF;refine ⟨⟨?_, ?_⟩,by decide⟩ <;> omega
  have j:=Af a;have f:elemAt (J++τ) b=some 3:=by simp[elemAt,a]
  have g:Nm (J++τ) b 0 (l.length*1)=some (Bl l):=by
   simp only[Nm,a,Cm,Acg,IN,Aa1,Aat,Adf];rw[Ady (by rw[Cm]; exact Aa1 _)]
  have i:H6 (J++τ) b=true:=by simp[H6,a]
  simp only[show ¬ (l.length+1<=l.length) from by omega,Aa5,r,Afz,Aat,HU,Aew,By,AI,f,g,i,IS,qJ];have c:(J++τ).set b .dead=J++τ.set (b-J.length) .dead:=by
   rw[Afb _ _ hb]
  refine ⟨_,τ.set (b-J.length) .dead++[.cells (Bl l++[qIi x]) Ak true],by rw[c,<- Aaq],.inr ⟨(J++τ).length,by simp,by simp,by simp, ?_⟩⟩;rw[<- Aaq,KS];have:(J++τ).length=(J++τ.set (b-J.length) .dead).length:=by simp
  rw[this]; simp[Bl]
variable {J:Aa} {i:Cs} {m:HM}
def PU (m:HM) (hi:Nat):Nat->Nat->List Int
 | 0,_=>[]
 | f+1,j=>match QY (CJ 1 m.stw) (32*m.bls.length) 1 j with
   | none=>[]
   | some j'=>if 2*j'<hi then ((2*j':Nat):Int)::PU m hi f (j'+1) else []
theorem VB (k:Nat) (F:5000<=k) (h:Al J i m) (hi:Nat):∀ (f:Nat) (a:Option Nat) (τ:Aa) (s:Bx) (l:List Int),(match a with | none=>True | some j=>l.length<=j)->CB J.length (J++τ) s l->(∀ j,a=some j->j<32*m.bls.length) ->
  (match a with | none=>0 | some j=>32*m.bls.length-j)<f+1 ->
  ∃ b s',CQ (k+4) (f+1) (AU i) (hi:Int) s (match a with | none=>0 | some j=>(j:Int)) (match a with | none=>4 | some j=>0) (J++τ)=some (.exit 0,[.slice s'.1 s'.2.1 s'.2.2],J++b) /\
   CB J.length (J++b) s' (l++(match a with | none=>[] | some j=>if 2*j<hi then ((2*j:Nat):Int)::PU m hi f (j+1) else [])):=by
 have G:=h.nt;intro f
 induction f with
 | zero=>
   intro a τ s l r hs p o;cases a with
   | none=>
     refine ⟨τ,s, ?_,by simpa using hs⟩;rw[HT];rfl
   | some j=>
     have:=p j rfl;simp only at o;omega
 | succ f x=>
   intro a τ s l r hs p o;cases a with
   | none=>
     refine ⟨τ,s, ?_,by simpa using hs⟩;rw[HT];rfl
   | some j=>
     have D:=p j rfl;obtain ⟨y,A,z⟩:=s;have B:Ar (2*(j:Int))=((2*j:Nat):Int):=Ai (by unfold AQ; omega);have C:=wSu j (by omega);rw[HT];simp only[Ah9,IS,B,C,AI];by_cases c:2*j<hi
     ·have q:decide (((2*j:Nat):Int)<(hi:Int))=true:=by simp; omega
      obtain ⟨s1,e,v,d⟩:=rB J (τ++[.cells [qIi ((2*j:Nat):Int)] Ak true]) (y,A,z) l ((2*j:Nat):Int) (J++τ).length (by simp only at r; omega) (by rw[<- Aaq]; exact hs.app _) ⟨3,true,by rw[<- Aaq]; simp⟩;rw[<- Aaq] at v;have w:=pe (k+1) (by omega) (h.app e).st ((j+1:Nat):Int) 1 (by omega);rw[IT] at w;have t:DO (k+4) (some ⟨i.st,0,none⟩) ((j+1:Nat):Int) 1 (J++e)=_:=w;simp only[q,IS,Ae,v,AI,IN,(h.app e).UL,t,c,Aat];cases u:QY (CJ 1 m.stw) (32*m.bls.length) 1 (j+1) with
      | none=>
        obtain ⟨b,s',g,n⟩:=x none e s1 (l++[((2*j:Nat):Int)]) trivial d (fun _ h=>by cases h) (by simp);refine ⟨b,s', ?_, ?_⟩
        ·simp only[B6]; exact g
        ·rw[PU,u]; simpa using n
      | some j'=>
        obtain ⟨H,E,_,_⟩:=Sc u;obtain ⟨b,s',g,n⟩:=x (some j') e s1 (l++[((2*j:Nat):Int)]) (by simp only[Aaw,Adl,Adx] at r ⊢; omega) d (fun _ h=>by cases h; exact E) (by simp only at o ⊢; omega);refine ⟨b,s', ?_, ?_⟩
        ·simp only[B6]; exact g
        ·rw[PU,u]; simpa using n
     ·have q:decide (((2*j:Nat):Int)<(hi:Int))=false:=by simp; omega
      refine ⟨τ,(y,A,z), ?_,by simpa [c] using hs⟩;simp only[q,By]
def D8 (m:HM) (lo n:Nat):List Nat:=(List.range' lo n).filter fun j=>decide (CJ 1 m.stw j=1)
def Cq (l:List Nat):List Int:=l.map fun j=>((2*j:Nat):Int)
theorem cK (m:HM) (H:Nat) (c:H<=32*m.bls.length):∀ (n f j:Nat),j+n=H->32*m.bls.length-j<=f->PU m (2*H) f j=Cq (D8 m j n)
 | 0,0,j,h1,b=>rfl
 | 0,f+1,j,h1,b=>by
   rw[PU];cases g:QY (CJ 1 m.stw) (32*m.bls.length) 1 j with
   | none=>rfl
   | some j'=>
     obtain ⟨h,_⟩:=Sc g;simp only[show ¬ 2*j'<2*H from by omega,Aa5];rfl
 | n+1,0,j,h1,b=>by omega
 | n+1,f+1,j,h1,b=>by
   have d:j<32*m.bls.length:=by omega
   unfold D8;rw[Af8,Ae0];by_cases a:CJ 1 m.stw j=1
   ·rw[PU,QY,dif_pos d,Aay a];simp only[show 2*j<2*H from by omega,Aat,a,Ahf];rw[cK m H c n f (j+1) (by omega) (by omega)];rfl
   ·have e:PU m (2*H) (f+1) j=PU m (2*H) (f+1) (j+1):=by
     rw[PU,PU,QY,dif_pos d,Aaz a]
    rw[e,cK m H c n (f+1) (j+1) (by omega) (by omega)];simp only[a,Aic,Ab8,Aa5];rfl
theorem bE (k:Nat) (l:5000<=k) (h:Al J i m) (lo n:Nat) (p:lo+n<=32*m.bls.length):∃ τ s,EC (k+5) (AU i) ((2*lo:Nat):Int) ((2*(lo+n):Nat):Int) J=some (.slice s.1 s.2.1 s.2.2,J++τ)/\CB J.length (J++τ) s (Cq (D8 m lo n)):=by
 have r:=h.nt;have t1:((2*lo:Nat):Int).tdiv 2=(lo:Int):=by
  rw[show ((2*lo:Nat):Int).tdiv 2=(((2*lo)/2:Nat):Int) from rfl]; omega
 have o:Ar (lo:Int)=(lo:Int):=Ai (by unfold AQ; omega);have g:=pe (k+1) (by omega) h.st (lo:Int) 1 (by omega);rw[IT] at g;have d:DO (k+4) (some ⟨i.st,0,none⟩) (lo:Int) 1 J=_:=g;rw[RA];simp only[AI,IN,h.UL,t1,o,show ((2:Int)=0)=False from by simp,Aa5,d];have a:PU m (2*(lo+n)) (k+4) lo=Cq (D8 m lo n):=cK m (lo+n) p n (k+4) lo rfl (by omega);cases e:QY (CJ 1 m.stw) (32*m.bls.length) 1 lo with
 | none=>
   obtain ⟨f,s',b,c⟩:=VB k l h (2*(lo+n)) (k+3) none [] (none,0,0) [] trivial (.inl ⟨rfl,rfl⟩) (fun _ h=>by cases h) (by simp);rw[Ab1] at b;refine ⟨f,s', ?_, ?_⟩
   ·simp only[B6];rw[show CQ (k+4) (k+4) (AU i) ((2*(lo+n):Nat):Int) (none,0,0) 0 4 J=_ from b];simp only[AI,Aat,HW]
   ·rw[<- a,PU,e]; simpa using c
 | some j=>
   obtain ⟨t,q,_,_⟩:=Sc e;obtain ⟨f,s',b,c⟩:=VB k l h (2*(lo+n)) (k+3) (some j) [] (none,0,0) [] (by simp) (.inl ⟨rfl,rfl⟩) (fun _ h=>by cases h; exact q) (by simp only; omega);rw[Ab1] at b;refine ⟨f,s', ?_, ?_⟩
   ·simp only[B6];rw[show CQ (k+4) (k+4) (AU i) ((2*(lo+n):Nat):Int) (none,0,0) (j:Int) 0 J=_ from b];simp only[AI,Aat,HW]
   ·rw[<- a,PU,e]; simpa using c
theorem VW (k:Nat) (g:5000<=k) (h:Al J i m) {b:Nat} (hb:b<m.bls.length):∃ τ s,Cg (k+6) (AU i) (b:Int) J=some (.slice s.1 s.2.1 s.2.2,J++τ)/\CB J.length (J++τ) s (Cq (D8 m (32*b) 32)):=by
 have n:=h.nt;obtain ⟨τ,s,e,f⟩:=bE k g h (32*b) 32 (by omega);refine ⟨τ,s, ?_,f⟩;have a:Ar ((b:Int)*64)=((2*(32*b):Nat):Int):=by rw[Ai (by unfold AQ; omega)]; omega
 have c:=wSu b (by omega);have d:Ar (((b+1:Nat):Int)*64)=((2*(32*b+32):Nat):Int):=by rw[Ai (by unfold AQ; omega)]; omega
 rw[M9];have j:decide ((b:Int)<0)=false:=by simp
 have l:decide ((b:Int)>=((m.bls.length:Nat):Int))=false:=by simp; omega
 simp only[JY _ h,AI,An,Aa4,By,j,IN,h.H7,l,a,c,d,e,Eo]
theorem aB (k:Nat) (d:5000<=k) (h:Al J i m):∃ τ s,B8 (k+6) (AU i) J=some (.slice s.1 s.2.1 s.2.2,J++τ)/\CB J.length (J++τ) s (Cq (D8 m 0 (32*m.bls.length))):=by
 have e:=h.nt;have hw:=h.wl;obtain ⟨τ,s,b,c⟩:=bE k d h 0 (32*m.bls.length) (by omega);refine ⟨τ,s, ?_,c⟩;rw[Wa];have a:((m.wds.length:Nat):Int)=((2*(0+32*m.bls.length):Nat):Int):=by omega
 simp only[JY _ h,AI,An,Aa4,By,IN,h.Fa,a];rw[show (0:Int)=((2*0:Nat):Int) from rfl,show (32*m.bls.length)=0+32*m.bls.length from by omega,b];simp only[AI,Eo]
end
section
def num (r d k:Int):Int:=r+16*d+4096*k
theorem Kk {r d k:Int} (h:valid r d k=true):(num r d k).tmod 16=r/\((num r d k).tmod 4096).tdiv 16=d/\(num r d k).tdiv 4096=k/\AQ (num r d k):=by
 simp[valid] at h;unfold num AQ;have h0:0<=r+16*d+4096*k:=by omega
 rw[Agt h0,Agt h0,Afn h0,Afn (by omega)];omega
theorem Kw {r d k:Int} (h:valid r d k=true):Pt (num r d k)=((2+r+d+1)/2*2).toNat:=by
 obtain ⟨h1,a,b,_⟩:=Kk h;unfold Pt words;rw[h1,a,b,h]; rfl
def Av (m:HM) (j:Nat):Int:=(m.wds.getD (2*j+1) 0).tmod 16
def Bp (m:HM) (j:Nat):Int:=((m.wds.getD (2*j+1) 0).tmod 4096).tdiv 16
def PA (k v:Int):List (Int × Int)->List (Int × Int)
 | []=>[(k,v)]
 | e::es=>if k == e.1 then (k,v)::es else e::PA k v es
def Yp (k:Int):List (Int × Int)->List (Int × Int)
 | []=>[]
 | e::es=>if k == e.1 then es else e::Yp k es
theorem gu (k v:Int):∀ l,NY k (qIi v) (Sx l)=Sx (PA k v l)
 | []=>rfl
 | e::es=>by
   have:=gu k v es;simp only[Sx,Aek,NY,PA] at this ⊢;split
   ·rfl
   ·rw[this]; rfl
theorem gq (k:Int):∀ l,ML k (Sx l)=Sx (Yp k l)
 | []=>rfl
 | e::es=>by
   have:=gq k es;simp only[Sx,Aek,ML,Yp] at this ⊢;split
   ·rfl
   ·rw[this]; rfl
theorem Pd (k v k':Int):∀ l,getM (PA k v l) k'=if k'=k then some v else getM l k'
 | []=>by simp[getM,PA]
 | e::es=>by
   have c:=Pd k v k' es;unfold PA;by_cases h:k=e.1
   ·have hb:(k == e.1)=true:=by simpa using h
    simp only[hb,Aat,getM,Af2];by_cases a:k'=k
    ·simp[a]
    ·have h1:(k' == k)=false:=by simpa using a
     have b:(k' == e.1)=false:=by rw[<- h]; exact h1
     simp[h1,b,a]
   ·have hb:(k == e.1)=false:=by simpa using h
    simp only[hb,Ab8,Aa5,getM,Af2] at c ⊢;by_cases a:k'=e.1
    ·have h1:(k' == e.1)=true:=by simpa using a
     have b:¬ k'=k:=by rw[a]; exact fun e=>h e.symm
     simp[h1,b]
    ·have h1:(k' == e.1)=false:=by simpa using a
     simp only[h1];exact c
def SA:List (Int × Int)->Prop
 | []=>True
 | e::es=>getM es e.1=none/\SA es
theorem Us (k v:Int):∀ l,SA l->SA (PA k v l)
 | [],_=>⟨rfl,trivial⟩
 | e::es,h=>by
   unfold PA;by_cases a:k=e.1
   ·have hb:(k == e.1)=true:=by simpa using a
    simp only[hb,Aat];exact ⟨by simp only; rw[a]; exact h.1,h.2⟩
   ·have hb:(k == e.1)=false:=by simpa using a
    simp only[hb,Ab8,Aa5];refine ⟨?_,Us k v es h.2⟩;rw[Pd,Aaz (fun e=>a e.symm)];exact h.1
theorem Ui (k k':Int):∀ l,SA l->getM (Yp k l) k'=if k'=k then none else getM l k'
 | [],_=>by simp[getM,Yp]
 | e::es,h=>by
   have d:=Ui k k' es h.2;unfold Yp;by_cases b:k=e.1
   ·have hb:(k == e.1)=true:=by simpa using b
    simp only[hb,Aat];by_cases a:k'=k
    ·rw[Aay a,a,b]; exact h.1
    ·have c:(k' == e.1)=false:=by rw[<- b]; simpa using a
     rw[Aaz a];simp only[getM,Af2,c]
   ·have hb:(k == e.1)=false:=by simpa using b
    simp only[hb,Ab8,Aa5,getM,Af2] at d ⊢;by_cases a:k'=e.1
    ·have h1:(k' == e.1)=true:=by simpa using a
     have c:¬ k'=k:=by rw[a]; exact fun e=>b e.symm
     simp[h1,c]
    ·have h1:(k' == e.1)=false:=by simpa using a
     simp only[h1];exact d
theorem kY (k:Int):∀ l,SA l->SA (Yp k l)
 | [],_=>trivial
 | e::es,h=>by
   unfold Yp;by_cases a:k=e.1
   ·have hb:(k == e.1)=true:=by simpa using a
    simp only[hb,Aat];exact h.2
   ·have hb:(k == e.1)=false:=by simpa using a
    simp only[hb,Ab8,Aa5];refine ⟨?_,kY k es h.2⟩;rw[Ui k _ es h.2,Aaz (fun e=>a e.symm)];exact h.1
structure Inv (m:HM):Prop where
 good:∀ j,Start m j -> ∃ r d k,valid r d k=true/\m.wds.getD (2*j+1) 0=num r d k
 fit:∀ j,Start m j->2*j+sz m j<=m.wds.length
 apart:∀ j j',Start m j->Start m j'->j<j'->2*j+sz m j<=2*j'
 idn:∀ j,Start m j->1<=m.wds.getD (2*j) 0/\m.wds.getD (2*j) 0<=m.births/\getM m.pl (m.wds.getD (2*j) 0)=some ((2*j:Nat):Int)
 plc:∀ id a,getM m.pl id=some a -> ∃ j,a=((2*j:Nat):Int)/\Start m j/\m.wds.getD (2*j) 0=id
 brt:0<=m.births
 onc:SA m.pl
variable {m:HM}
theorem Inv.size (h:Inv m) {j:Nat} (hs:Start m j):2<=sz m j/\sz m j<=218/\sz m j % 2=0/\0<=Av m j/\0<=Bp m j/\2+Av m j+Bp m j<=(sz m j:Int):=by
 obtain ⟨r,d,k,a,b⟩:=h.good j hs;have h1:=Kw a;obtain ⟨c,e,_,_⟩:=Kk a;unfold Av Bp sz;rw[b,h1,c,e];simp[valid] at a;omega
theorem Inv.UH (h:Inv m) {n j:Nat} (hs:Start m j) (h1:2*j<=n) (h2:n<2*j+sz m j):bY m n=some j:=by
 unfold bY;have f:=hs.1;cases c:QV (CJ 1 m.stw) 1 (min (n/2+1) (32*m.bls.length)) with
 | none=>exact absurd hs.2 (cG c j (by omega))
 | some j'=>
   obtain ⟨g,d,e⟩:=RX c;have b:Start m j':=⟨by omega,d⟩;have:j'=j:=by
    rcases Ae2 j' j with a | rfl | a
    ·exact absurd hs.2 (e j a (by omega))
    ·rfl
    ·have:=h.apart j j' hs b a;omega
   subst this;simp only[show ¬ 2*j'+sz m j'<=n from by omega,Aa5]
theorem nI {n j:Nat} (h:bY m n=some j):Start m j/\2*j<=n+1/\n<2*j+sz m j/\2*j<=n:=by
 unfold bY at h;split at h
 ·cases h
 ·rename_i j' a;split at h
  ·cases h
  ·cases h;obtain ⟨c,b,d⟩:=RX a;exact ⟨⟨by omega,b⟩,by omega,by omega,by omega⟩
theorem UI {hi:Nat} {a:Int}:∀ {f x:Nat},Mr m hi a f x=true->hi<=x+2*f -> ∀ t,x+2*t<hi -> ∀ o,QT m ((x+2*t:Nat):Int)=some o->((2*o:Nat):Int)=a
 | 0,x,_,d,t,e=>by omega
 | f+1,x,h,d,t,e=>by
   intro o b;rw[Mr,Aay (by omega)] at h;cases t with
   | zero=>
     rw[show x+2*0=x from by omega] at b;rw[b] at h;simp only at h;split at h
     ·assumption
     ·cases h
   | succ t=>
     have c:Mr m hi a f (x+2)=true:=by
      split at h
      ·split at h
       ·exact h
       ·cases h
      ·exact h
     exact UI c (by omega) t (by omega) o (by rw[show x+2+2*t=x+2*(t+1) from by omega]; exact b)
theorem dG (m:HM) (b:Nat):∀ (f n:Nat),b+n<=m.bls.length->b+Ka m b f n<=m.bls.length
 | 0,n,h=>h
 | f+1,n,h=>by
   rw[Ka];split
   ·rename_i a;exact dG m b f (n+1) (by omega)
   ·exact h
theorem Inv.fits (h:Inv m) (hw:m.wds.length=64*m.bls.length) {a:Int} {d:Nat} {f:Int} (u:d<=218) (h2:2<=d) (b:Mi m a d f=0):
  ∃ j,a=((2*j:Nat):Int)/\j<32*m.bls.length/\2*j+d<=m.wds.length /\ ∀ o,Start m o->((2*o:Nat):Int)≠f->2*o+sz m o<=2*j\/2*j+d<=2*o:=by
 unfold Mi at b;split at b
 ·cases b
 rename_i h0;have r:0<=a/\a<(m.wds.length:Int)/\a.toNat % 2=0:=Af0.1 h0;obtain ⟨n,rfl⟩:∃ n:Nat,a=(n:Int):=⟨a.toNat,by omega⟩;rw[IT] at b r;have g:Mr m (n+d) f 200 n=true/\n+d<=m.wds.length:=by
  simp only at b;split at b
  ·split at b
   ·cases b
   ·rename_i p;split at b
    ·rename_i k;refine ⟨k, ?_⟩;have:(n+d-1)/64=n/64:=by
      apply Adv;intro i; exact p (.inr i)
     omega
    ·cases b
  ·split at b
   ·cases b
   ·rename_i p;split at b
    ·rename_i k;refine ⟨k, ?_⟩;have h1:n % 64=0:=by
      apply Adv;intro i; exact p (.inr (.inl i))
     have h2:LG m (n/64)=(d+63)/64:=by
      apply Adv;intro i; exact p (.inr (.inr i))
     have s:=dG m (n/64) m.bls.length 1 (by omega);rw[show Ka m (n/64) m.bls.length 1=LG m (n/64) from rfl,h2] at s;omega
    ·cases b
 obtain ⟨k,hlen⟩:=g;refine ⟨n/2,by omega,by omega,by omega,fun o q l=>?_⟩;apply Adv;intro i;have c:=UI k (by omega);have t:=q.1;by_cases hle:2*o<=n
 ·refine l (c 0 (by omega) o ?_);unfold QT;rw[Aay (by omega),IT];exact h.UH q (by omega) (by omega)
 ·refine l (c (o-n/2) (by omega) o ?_);have e:n+2*(o-n/2)=2*o:=by omega
  have v:=h.size q;unfold QT;rw[Aay (by omega),e,IT];exact h.UH q (by omega) (by omega)
end
section
local instance qCM:AJ:=Ao
variable {J:Aa} {i:Cs} {m:HM}
theorem Cs.ne (h:i.l.Nodup):i.hb≠i.bl/\i.hb≠i.wd/\i.hb≠i.st/\i.hb≠i.sw/\i.hb≠i.pn/\i.hb≠i.pw/\i.hb≠i.pl/\i.hb≠i.fw /\
  i.bl≠i.wd/\i.bl≠i.st/\i.bl≠i.sw/\i.bl≠i.pn/\i.bl≠i.pw/\i.bl≠i.pl/\i.bl≠i.fw /\
  i.wd≠i.st/\i.wd≠i.sw/\i.wd≠i.pn/\i.wd≠i.pw/\i.wd≠i.pl/\i.wd≠i.fw /\
  i.st≠i.sw/\i.st≠i.pn/\i.st≠i.pw/\i.st≠i.pl/\i.st≠i.fw/\i.sw≠i.pn/\i.sw≠i.pw/\i.sw≠i.pl/\i.sw≠i.fw /\
  i.pn≠i.pw/\i.pn≠i.pl/\i.pn≠i.fw/\i.pw≠i.pl/\i.pw≠i.fw/\i.pl≠i.fw:=by
 simp[Cs.l,and_assoc] at h;simp only[ne_eq];exact h
theorem Al.yP (h:Al J i m) (l:List Int) (b:l.length=m.wds.length) (hi:∀ a,AQ (l.getD a 0)):Al (J.set i.wd (.cells (Bl l) Dv true)) i { m with wds:=l }:=by
 obtain ⟨L,M,N,O,P,Q,S,T,U,d,e,f,k,n,o,p,q,r,s,t,u,v,w,x,y,z,A,B,C,D,E,F,G,H,I,K⟩:=Cs.ne h.nd;have g:∀ {j},j≠i.wd->(J.set i.wd (.cells (Bl l) Dv true))[j]?=J[j]?:=fun c=>Aar (Adk c);exact ⟨by rw[g (by first | assumption | (apply Adk; assumption)),h.hp]; simp only[b],by rw[g (by first | assumption | (apply Adk; assumption))]; exact h.bl,by rw[Aa2 (Af h.wd)],h.st.same (g (by first | assumption | (apply Adk; assumption))) (g (by first | assumption | (apply Adk; assumption))),h.pn.same (g (by first | assumption | (apply Adk; assumption))) (g (by first | assumption | (apply Adk; assumption))),by rw[g (by first | assumption | (apply Adk; assumption))]; exact h.pl,by rw[g (by first | assumption | (apply Adk; assumption))]; exact h.fw,h.nb,h.nt,by rw[b]; exact h.wl,h.nd,hi⟩
theorem Al.qB (h:Al J i m) (l:List (Int × Int)) (a:l.length=m.bls.length):Al (J.set i.bl (.cells (CU l) Gc true)) i { m with bls:=l }:=by
 obtain ⟨K,L,M,N,O,P,Q,S,T,c,d,e,f,k,n,o,p,q,r,s,t,u,v,w,x,y,z,A,B,C,D,E,F,G,H,I⟩:=Cs.ne h.nd;have g:∀ {j},j≠i.bl->(J.set i.bl (.cells (CU l) Gc true))[j]?=J[j]?:=fun b=>Aar (Adk b);exact ⟨by rw[g (by first | assumption | (apply Adk; assumption)),h.hp]; simp only[a],by rw[Aa2 (Af h.bl)],by rw[g (by first | assumption | (apply Adk; assumption))]; exact h.wd,by rw[a]; exact h.st.same (g (by first | assumption | (apply Adk; assumption))) (g (by first | assumption | (apply Adk; assumption))),by rw[a]; exact h.pn.same (g (by first | assumption | (apply Adk; assumption))) (g (by first | assumption | (apply Adk; assumption))),by rw[g (by first | assumption | (apply Adk; assumption))]; exact h.pl,by rw[g (by first | assumption | (apply Adk; assumption))]; exact h.fw,by rw[a]; exact h.nb,by rw[a]; exact h.nt,by rw[a]; exact h.wl,h.nd,h.wi⟩
theorem Al.yO (h:Al J i m) (j v:Nat):Al (J.set i.sw (.cells (rowOf (FB 1 m.stw j v)) BE true)) i { m with stw:=FB 1 m.stw j v }:=by
 obtain ⟨I,K,L,M,N,O,P,Q,S,b,c,d,e,f,k,l,n,o,p,q,r,s,t,u,w,x,y,z,A,B,C,D,E,F,G,H⟩:=Cs.ne h.nd;have g:∀ {j'},j'≠i.sw->(J.set i.sw (.cells (rowOf (FB 1 m.stw j v)) BE true))[j']?=J[j']?:=fun a=>Aar (Adk a);exact ⟨by rw[g (by first | assumption | (apply Adk; assumption)),h.hp],by rw[g (by first | assumption | (apply Adk; assumption))]; exact h.bl,by rw[g (by first | assumption | (apply Adk; assumption))]; exact h.wd,h.st.put (by first | assumption | (apply Adk; assumption)) j v,h.pn.same (g (by first | assumption | (apply Adk; assumption))) (g (by first | assumption | (apply Adk; assumption))),by rw[g (by first | assumption | (apply Adk; assumption))]; exact h.pl,by rw[g (by first | assumption | (apply Adk; assumption))]; exact h.fw,h.nb,h.nt,h.wl,h.nd,h.wi⟩
theorem Al.yN (h:Al J i m) (j v:Nat):Al (J.set i.pw (.cells (rowOf (FB 1 m.pnw j v)) BE true)) i { m with pnw:=FB 1 m.pnw j v }:=by
 obtain ⟨I,K,L,M,N,O,P,Q,S,b,c,d,e,f,k,l,n,o,p,q,r,s,t,u,w,x,y,z,A,B,C,D,E,F,G,H⟩:=Cs.ne h.nd;have g:∀ {j'},j'≠i.pw->(J.set i.pw (.cells (rowOf (FB 1 m.pnw j v)) BE true))[j']?=J[j']?:=fun a=>Aar (Adk a);exact ⟨by rw[g (by first | assumption | (apply Adk; assumption)),h.hp],by rw[g (by first | assumption | (apply Adk; assumption))]; exact h.bl,by rw[g (by first | assumption | (apply Adk; assumption))]; exact h.wd,h.st.same (g (by first | assumption | (apply Adk; assumption))) (g (by first | assumption | (apply Adk; assumption))),h.pn.put (by first | assumption | (apply Adk; assumption)) j v,by rw[g (by first | assumption | (apply Adk; assumption))]; exact h.pl,by rw[g (by first | assumption | (apply Adk; assumption))]; exact h.fw,h.nb,h.nt,h.wl,h.nd,h.wi⟩
theorem Al.yM (h:Al J i m) (l:List (Int × Int)):Al (J.set i.pl (.map (Sx l))) i { m with pl:=l }:=by
 obtain ⟨I,K,L,M,N,O,P,Q,S,b,c,d,e,f,k,n,o,p,q,r,s,t,u,v,w,x,y,z,A,B,C,D,E,F,G,H⟩:=Cs.ne h.nd;have g:∀ {j},j≠i.pl->(J.set i.pl (.map (Sx l)))[j]?=J[j]?:=fun a=>Aar (Adk a);exact ⟨by rw[g (by first | assumption | (apply Adk; assumption)),h.hp],by rw[g (by first | assumption | (apply Adk; assumption))]; exact h.bl,by rw[g (by first | assumption | (apply Adk; assumption))]; exact h.wd,h.st.same (g (by first | assumption | (apply Adk; assumption))) (g (by first | assumption | (apply Adk; assumption))),h.pn.same (g (by first | assumption | (apply Adk; assumption))) (g (by first | assumption | (apply Adk; assumption))),by rw[Aa2 (Af h.pl)],by rw[g (by first | assumption | (apply Adk; assumption))]; exact h.fw,h.nb,h.nt,h.wl,h.nd,h.wi⟩
theorem Al.st6 (h:Al J i m) (b:Int):∃ J',CY J i.hb 6 (qIi b)=some J'/\Al J' i { m with births:=b }/\Br i J J':=by
 obtain ⟨K,L,M,N,O,P,Q,S,T,c,d,e,f,k,l,n,p,q,r,s,t,u,v,w,x,y,z,A,B,C,D,E,F,G,H,I⟩:=Cs.ne h.nd;simp only[CY,h.hp];refine ⟨_,rfl, ?_,Br.set J _ (by simp[Cs.l])⟩;have g:∀ {j o},j≠i.hb->(J.set i.hb o)[j]?=J[j]?:=fun a=>Aar (Adk a);exact ⟨by rw[Aa2 (Af h.hp)]; rfl,by rw[g (by first | assumption | (apply Adk; assumption))]; exact h.bl,by rw[g (by first | assumption | (apply Adk; assumption))]; exact h.wd,h.st.same (g (by first | assumption | (apply Adk; assumption))) (g (by first | assumption | (apply Adk; assumption))),h.pn.same (g (by first | assumption | (apply Adk; assumption))) (g (by first | assumption | (apply Adk; assumption))),by rw[g (by first | assumption | (apply Adk; assumption))]; exact h.pl,by rw[g (by first | assumption | (apply Adk; assumption))]; exact h.fw,h.nb,h.nt,h.wl,h.nd,h.wi⟩
theorem gh (l:List Int) (a:Nat) (v:Int):Bl (l.set a v)=(Bl l).set a (qIi v):=by simp[Bl,List.map_set]
theorem Cp (l:List Int) (a b:Nat) (v:Int):(l.set a v).getD b 0=if a=b/\a<l.length then v else l.getD b 0:=by
 simp only[Aax,Aed];split
 ·rename_i e; subst e;split
  ·rename_i h; simp[h]
  ·rename_i h; simp[h,Adr (Ah5 h)]
 ·rename_i e; simp[e]
theorem Al.CY (h:Al J i m) {a:Nat} (c:a<m.wds.length) (v:Int) (d:AQ v):AX.CY J i.wd a (qIi v)=some (J.set i.wd (.cells (Bl (m.wds.set a v)) Dv true))/\Al (J.set i.wd (.cells (Bl (m.wds.set a v)) Dv true)) i { m with wds:=m.wds.set a v }:=by
 refine ⟨?_,h.yP _ (by simp) fun b=>?_⟩
 ·simp only[AX.CY,h.wd,Cm,c,Aat,gh]
 ·rw[Cp];split
  ·exact d
  ·exact h.wi b
def BG (m:HM) (a x:Int) (data:Bool):Int × Int:=
 if Aw m a then
  let j:=a.toNat/2
  let first:=a+2+(if data then Av m j else 0)
  if 0<=x/\x<(if data then Bp m j else Av m j) then (first+x,0) else (0,1)
 else (0,4)
theorem Xi (k:Nat) (h:Al J i m) (p:Inv m) (a x:Int) (q:AQ a) (data:Bool):∃ τ,CR (k+6) (AU i) a x data J=some (.tuple #[qIi (BG m a x data).1,qIi (BG m a x data).2],J++τ):=by
 have hw:=h.wl;have E:=h.nt;rw[TA];simp only[O9 _ h a q,AI,Ah];cases d:Aw m a with
 | false=>exact ⟨[],by simp[BG,d]⟩
 | true=>
   obtain ⟨j,rfl,hs⟩:=AY d;obtain ⟨F,G,H,r,s,I⟩:=p.size hs;have D:=hs.1;have g:Ar (((2*j:Nat):Int)+1)=((2*j+1:Nat):Int):=Ai (by unfold AQ; omega);have l:Ar (((2*j:Nat):Int)+2)=((2*j+2:Nat):Int):=Ai (by unfold AQ; omega);obtain ⟨τ,e⟩:=dE (k+4) (m.wds.getD (2*j+1) 0) (h.wi _) J;simp only[Aat,Abx,By,IN,h.Fa,g,IT,Acg,AI];rw[Aay (by omega)];simp only[AI,h.uX (show 2*j+1<m.wds.length by omega),e,HA,Ae];refine ⟨τ++[.cells [qIi (Av m j),qIi (Bp m j),qIi ((m.wds.getD (2*j+1) 0).tdiv 4096)] Ad true], ?_⟩;have f:∀ (Z:Aa) (x y z:Value) (u v w:Value) T,H5 (Z++[.cells [x,y,z] T true]) Z.length 0 [u,v,w]=some (Z++[.cells [u,v,w] T true]):=by
    intro Z x y z u v w T; simp[H5,Bb]
   simp only[f,AI,Bv,IN,Aca,Ace,Ah];rw[show ((m.wds.getD (2*j+1) 0).tmod 4096).tdiv 16=Bp m j from rfl,show (m.wds.getD (2*j+1) 0).tmod 16=Av m j from rfl];rw[Aaq];have o:((2*j:Nat):Int).toNat/2=j:=by omega
   unfold BG;rw[d];simp only[Aat,o,l];have main:∀ (f0 many:Int),0<=many->many<=4000->0<=f0->f0<=5000 -> ∀ (Z:Aa),((bif decide (x<0) then some (true,Z) else some (decide (x>=many),Z)).bind fun b=>bif b.1 then (some (Value.tuple #[qIi (0:Int),qIi (1:Int)],b.2)) else (some (.tuple #[qIi (Ar (f0+x)),qIi (0:Int)],b.2))) =
     some (.tuple #[qIi (if 0<=x/\x<many then (f0+x,(0:Int)) else (0,1)).1,qIi (if 0<=x/\x<many then (f0+x,(0:Int)) else (0,1)).2],Z):=by
    intro f0 many h1 A B C Z;by_cases c:x<0
    ·simp only[show decide (x<0)=true from by simpa using c,IS,AI,show ¬ (0<=x/\x<many) from by omega,Aa5]
    ·by_cases t:x<many
     ·simp only[show decide (x<0)=false from by simpa using c,By,AI,show decide (x>=many)=false from by simp; omega,show (0<=x/\x<many) from by omega,Afz,Aat];rw[Ai (by unfold AQ; omega)]
     ·simp only[show decide (x<0)=false from by simpa using c,By,AI,show decide (x>=many)=true from by simp; omega,IS,show ¬ (0<=x/\x<many) from by omega,Aa5]
   cases data with
   | false=>
     simp only[By,AI,Aat,UQ,Ab8,Aa5,Int.add_zero];rw[main _ _ r (by omega) (by omega) (by omega)];rw[show ((2*j+2:Nat):Int)=((2*j:Nat):Int)+2 from by omega]
   | true=>
     have n:Ar (((2*j+2:Nat):Int)+Av m j)=((2*j:Nat):Int)+2+Av m j:=by rw[Ai (by unfold AQ; omega)]; omega
     simp only[IS,AI,Aat,UQ,n];rw[main _ _ s (by omega) (by omega) (by omega)]
theorem fL (h:Inv m) {a x:Int} {data:Bool} {w:Int} (b:BG m a x data=(w,0)):∃ j t:Nat,Start m j/\a=((2*j:Nat):Int)/\w=((2*j+2+t:Nat):Int)/\2+t<sz m j:=by
 unfold BG at b;split at b
 ·rename_i e;obtain ⟨j,rfl,hs⟩:=AY e;have c:((2*j:Nat):Int).toNat/2=j:=by omega
  obtain ⟨f,g,i,k,l,n⟩:=h.size hs;simp only[c] at b;cases data with
  | false=>
    simp only[Ab8,Aa5] at b;split at b
    ·rename_i d;have hw:=Aec Prod.fst b;simp only at hw;exact ⟨j,x.toNat,hs,rfl,by omega,by omega⟩
    ·have:=Aec Prod.snd b;simp at this
  | true=>
    simp only[Aat] at b;split at b
    ·rename_i d;have hw:=Aec Prod.fst b;simp only at hw;exact ⟨j,(Av m j+x).toNat,hs,rfl,by omega,by omega⟩
    ·have:=Aec Prod.snd b;simp at this
 ·have:=Aec Prod.snd b;simp at this
theorem Inv.ye (h:Inv m) {j t:Nat} (hs:Start m j) (x:2+t<sz m j) (v:Int):Inv { m with wds:=m.wds.set (2*j+2+t) v }:=by
 have f:∀ j',Start m j' -> ∀ c,c<2->(m.wds.set (2*j+2+t) v).getD (2*j'+c) 0=m.wds.getD (2*j'+c) 0:=by
  intro j' b c w;rw[Cp,Aaz];rintro ⟨e,_⟩;have h1:=h.apart j j' hs b;have y:=h.size b;rcases Ae2 j j' with g | rfl | g
  ·have:=h1 g; omega
  ·omega
  ·omega
 have i:∀ j',Start m j'->(m.wds.set (2*j+2+t) v).getD (2*j') 0=m.wds.getD (2*j') 0:=fun j' b=>f j' b 0 (by decide);have l:∀ j',Start m j'->sz { m with wds:=m.wds.set (2*j+2+t) v } j'=sz m j':=fun j' b=>by
  unfold sz; rw[f j' b 1 (by decide)]
 refine ⟨fun j' b=>?_,fun j' b=>?_,fun n u h1 o g=>?_,fun j' b=>?_,fun id a p=>?_,h.brt,h.onc⟩
 ·obtain ⟨r,d,k,s,q⟩:=h.good j' b;exact ⟨r,d,k,s,by rw[f j' b 1 (by decide)]; exact q⟩
 ·rw[l j' b]; simpa using h.fit j' b
 ·rw[l n h1]; exact h.apart n u h1 o g
 ·have:=h.idn j' b;rw[<- i j' b] at this;exact this
 ·obtain ⟨j',rfl,b,he⟩:=h.plc id a p;exact ⟨j',rfl,b,(i j' b).trans he⟩
end
section
local instance qCN:AJ:=Ao
variable {J:Aa} {i:Cs} {m:HM}
def Mt (mm:Option (Value × Aa)) (J:Aa) (i:Cs) (r:Int × HM):Prop:=
 ∃ J',mm=some (qIi r.1,J')/\Al J' i r.2/\Br i J J'
theorem Mt.same (h:Al J i m) (τ:Aa) {code:Int} {mm:Option (Value × Aa)} (he:mm=some (qIi code,J++τ)) {r:Int × HM} (a:r=(code,m)):Mt mm J i r:=
 ⟨J++τ,by rw[a]; exact he,by rw[a]; exact h.app τ,Br.app i J τ⟩
theorem Mt.to {mm mm':Option (Value × Aa)} {r:Int × HM} (h:Mt mm J i r) (f:∀ J',mm=some (qIi r.1,J')->mm'=some (qIi r.1,J')):Mt mm' J i r:=by
 obtain ⟨J',e,g⟩:=h;exact ⟨J',f J' e,g⟩
def Hb (m:HM) (a:Nat) (v:Int):HM:={ m with wds:=m.wds.set a v }
theorem dL (h:Al J i m) (b:Inv m) (τ:Aa) {j t:Nat} (hs:Start m j) (f:2+t<sz m j) (v:Int) (c:AQ v) {mm:Option (Value × Aa)}
  (he:mm=(AX.CY (J++τ) i.wd (2*j+2+t) (qIi v)).bind fun s=>some (qIi 0,s)):Mt mm J i (0,Hb m (2*j+2+t) v):=by
 have d:=b.fit j hs;obtain ⟨e,a⟩:=(h.app τ).CY (show 2*j+2+t<m.wds.length by omega) v c;rw[e] at he;exact ⟨_,he,a,(Br.app i J τ).trans (Br.set _ _ (by simp[Cs.l]))⟩
def BU (m:HM) (a x v:Int):Int × HM:=
 if (BG m a x false).2=0 then (if v≠0/\Aw m v=false then (1,m) else (0,Hb m (BG m a x false).1.toNat v)) else ((BG m a x false).2,m)
def GU (m:HM) (a x v:Int):Int × HM:=
 if (BG m a x true).2=0 then (0,Hb m (BG m a x true).1.toNat v) else ((BG m a x true).2,m)
def MM (m:HM) (a:Int) (v:Nat):Int × HM:=if Aw m a then (0,{ m with pnw:=FB 1 m.pnw (a.toNat/2) v }) else (4,m)
def yJ (m:HM) (a v:Int):Int × HM:=
 if 0<=a/\a<(m.wds.length:Int) then (match bY m a.toNat with
  | none=>(4,m)
  | some j=>if ((2*j+2:Nat):Int)<=a/\a<((2*j+2:Nat):Int)+Av m j+Bp m j then (0,Hb m a.toNat v) else (4,m)) else (1,m)
theorem Tq (k:Nat) (h:Al J i m) (d:Inv m) (a x v:Int) (u:AQ a) (r:AQ v):Mt (CV (k+7) (AU i) a x v J) J i (BU m a x v):=by
 unfold BU;obtain ⟨τ,o⟩:=Xi k h d a x u false;rw[SI];simp only[o,AI,B6];generalize f:BG m a x false=w at o ⊢;obtain ⟨w,c⟩:=w;by_cases e:c=0
 ·subst e;obtain ⟨j,t,hs,rfl,rfl,y⟩:=fL d f;have p:=d.fit j hs;have tail:Mt ((AU i).bind fun l=>(Be (J++τ) l.block (l.off+1)).bind fun s=>if 0<=((2*j+2+t:Nat):Int)/\((2*j+2+t:Nat):Int)<(s.2.1:Nat) then s.1.bind fun n=>(AX.CY (J++τ) n.block (n.off+((2*j+2+t:Nat):Int).toNat*1) (qIi v)).bind fun g=>some (qIi (0:Int),g) else none) J i (0,Hb m (2*j+2+t) v):=by
   refine dL h d τ hs y v r ?_;simp only[AI,IN,(h.app τ).Fa];rw[Aay (by omega)];simp only[AI,IN,IT,Acg]
  by_cases b:v=0
  ·subst b;simp only[Abx,By,AI,ne_eq,Ae9,false_and,Aa5,Aat,IT];exact tail
  ·have q:(v != 0)=true:=by simpa using b
   simp only[Abx,By,q,IS,Tm (k+2) (h.app τ) v r,AI,An];cases Aw m v with
   | true=>
     simp only[Aa4,By,Aat,Bool.true_eq_false,and_false,Aa5,IT];exact tail
   | false=>exact Mt.same h τ rfl (by simp[b])
 ·have q:(c != 0)=true:=by simpa using e
  simp only[q,IS];exact Mt.same h τ rfl (by simp[e])
theorem iu (k:Nat) (h:Al J i m) (b:Inv m) (a x v:Int) (l:AQ a) (o:AQ v):Mt (DF (k+7) (AU i) a x v J) J i (GU m a x v):=by
 unfold GU;obtain ⟨τ,f⟩:=Xi k h b a x l true;rw[R9];simp only[f,AI,B6];generalize e:BG m a x true=w at f ⊢;obtain ⟨w,c⟩:=w;by_cases d:c=0
 ·subst d;obtain ⟨j,t,hs,rfl,rfl,n⟩:=fL b e;have g:=b.fit j hs;simp only[Abx,By,Aat,IT];refine dL h b τ hs n v o ?_;simp only[AI,IN,(h.app τ).Fa];rw[Aay (by omega)];simp only[AI,IN,IT,Acg]
 ·have q:(c != 0)=true:=by simpa using d
  simp only[q,IS];exact Mt.same h τ rfl (by simp[d])
theorem Inv.pins (h:Inv m) (l:List (BitVec 64)):Inv { m with pnw:=l }:=⟨h.good,h.fit,h.apart,h.idn,h.plc,h.brt,h.onc⟩
theorem Inv.kG (h:Inv m) (l:List (Int × Int)):Inv { m with fw:=l }:=⟨h.good,h.fit,h.apart,h.idn,h.plc,h.brt,h.onc⟩
theorem vm (k:Nat) (h:Al J i m) (a:Int) (f:AQ a) (v:Nat) (n:v<2):Mt (JR (k+10) (AU i) a (v:Int) J) J i (MM m a v):=by
 rw[We];simp only[O9 _ h a f,AI,Ah];cases c:Aw m a with
 | false=>exact Mt.same h [] (code:=4) (by simp) (by simp[MM,c])
 | true=>
   obtain ⟨j,rfl,hs⟩:=AY c;have e:((2*j:Nat):Int).toNat/2=j:=by omega
   unfold MM;rw[c,e];have l:=h.nt;have g:=hs.1;have t1:((2*j:Nat):Int).tdiv 2=(j:Int):=by
    rw[show ((2*j:Nat):Int).tdiv 2=(((2*j)/2:Nat):Int) from rfl]; omega
   have d:Ar (j:Int)=(j:Int):=Ai (by unfold AQ; omega);obtain ⟨τ,b⟩:=ba k h.pn g (show v<2 ^ 1 by omega);simp only[Aat,Abx,By,IN,h.cH,AI,t1,d,show ((2:Int)=0)=False from by simp,Aa5,b,Ah];exact ⟨_,rfl,(h.app τ).yN j v,(Br.app i J τ).trans (Br.set _ _ (by simp[Cs.l]))⟩
theorem tW (k:Nat) (h:Al J i m) (a:Int) (b:AQ a):Mt (HX (k+11) (AU i) a J) J i (MM m a 1):=by
 refine (vm k h a b 1 (by decide)).to fun J' e=>?_;rw[Wc];simp only[show (1:Int)=((1:Nat):Int) from rfl,e,AI,Ah]
def CT (m:HM) (j:Nat) (n:Int):HM:=
 { m with wds:=(m.wds.set (2*j) (m.births+1)).set (2*j+1) n,stw:=FB 1 m.stw j 1,pl:=PA (m.births+1) ((2*j:Nat):Int) m.pl,births:=m.births+1 }
theorem J4 {n:Int} {j j':Nat} (c:32*m.bls.length<=64*m.stw.length) (b:j<32*m.bls.length):Start (CT m j n) j'↔j'=j\/Start m j':=by
 unfold Start CT;simp only;by_cases a:j'=j
 ·subst a;simp only[true_or,iff_true];exact ⟨b,EU (.inl rfl) (by decide) (by omega)⟩
 ·rw[Cf (.inl rfl) (by decide) (fun e=>a e.symm)];simp[a]
theorem Inv.place (h:Inv m) (hw:m.wds.length=64*m.bls.length) (J:32*m.bls.length<=64*m.stw.length) {j:Nat} {r d k:Int} (C:valid r d k=true) (I:j<32*m.bls.length)
  (q:2*j+Pt (num r d k)<=m.wds.length) (p:∀ o,Start m o->2*o+sz m o<=2*j\/2*j+Pt (num r d k)<=2*o):Inv (CT m j (num r d k)):=by
 have g:=fun j'=>J4 (m:=m) (n:=num r d k) (j:=j) (j':=j') J I;have B:¬ Start m j:=fun hs=>by
  have h1:=p j hs;have y:=h.size hs;have N:2<=Pt (num r d k):=by
   rw[Kw C];simp[valid] at C;omega
  omega
 have w0:(CT m j (num r d k)).wds.getD (2*j) 0=m.births+1:=by
  unfold CT; simp only;rw[Cp,Aaz (by omega),Cp,Aay (by omega)]
 have G:(CT m j (num r d k)).wds.getD (2*j+1) 0=num r d k:=by
  unfold CT; simp only;rw[Cp,Aay ⟨rfl,by simp; omega⟩]
 have E:∀ j' c,j'≠j->c<2->(CT m j (num r d k)).wds.getD (2*j'+c) 0=m.wds.getD (2*j'+c) 0:=by
  intro j' c f O;unfold CT; simp only;rw[Cp,Aaz (by omega),Cp,Aaz (by omega)]
 have s1:sz (CT m j (num r d k)) j=Pt (num r d k):=by unfold sz; rw[G]
 have F:∀ j',j'≠j->sz (CT m j (num r d k)) j'=sz m j':=fun j' f=>by unfold sz; rw[E j' 1 f (by decide)]
 have wl:(CT m j (num r d k)).wds.length=m.wds.length:=by simp[CT]
 have u:∀ j',j'≠j->(CT m j (num r d k)).wds.getD (2*j') 0=m.wds.getD (2*j') 0:=fun j' f=>E j' 0 f (by decide);have s:∀ x,getM (CT m j (num r d k)).pl x=if x=m.births+1 then some ((2*j:Nat):Int) else getM m.pl x:=fun x=>Pd _ _ _ _
 have f:∀ j',Start m j'->j'≠j:=fun j' hs e=>B (e ▸ hs);refine ⟨fun j' b=>?_,fun j' b=>?_,fun t w h1 y A=>?_,fun j' b=>?_,fun id a v=>?_, ?_, ?_⟩
 ·rcases (g j').1 b with rfl | b
  ·exact ⟨r,d,k,C,G⟩
  ·obtain ⟨M,H,L,D,K⟩:=h.good j' b;exact ⟨M,H,L,D,by rw[E j' 1 (f j' b) (by decide)]; exact K⟩
 ·rw[wl];rcases (g j').1 b with rfl | b
  ·rw[s1]; exact q
  ·rw[F j' (f j' b)]; exact h.fit j' b
 ·rcases (g t).1 h1 with rfl | l
  ·rcases (g w).1 y with rfl | i
   ·omega
   ·rw[s1];have:=p w i;have:=h.size i;omega
  ·rw[F t (f t l)];rcases (g w).1 y with rfl | i
   ·have:=p t l;omega
   ·exact h.apart t w l i A
 ·rw[s];rcases (g j').1 b with rfl | b
  ·rw[w0];have:=h.brt;refine ⟨by omega,by show _<=m.births+1; omega,Aay rfl⟩
  ·rw[u j' (f j' b)];obtain ⟨i1,i2,i3⟩:=h.idn j' b;refine ⟨i1,by show _<=m.births+1; omega, ?_⟩;rw[Aaz (by omega)]; exact i3
 ·rw[s] at v;split at v
  ·rename_i z;cases v;exact ⟨j,rfl,(g j).2 (.inl rfl),by rw[w0,z]⟩
  ·obtain ⟨j',rfl,b,he⟩:=h.plc id a v;exact ⟨j',rfl,(g j').2 (.inr b),by rw[u j' (f j' b)]; exact he⟩
 ·have:=h.brt;show 0<=m.births+1;omega
 ·exact Us _ _ _ h.onc
theorem sC (k:Nat) {r d c:Int} (g:valid r d c=true) (J:Aa):∃ τ,Lt (k+1) r d c J=some (qIi (num r d c),J++τ):=by
 rw[XY];simp only[Ae,Bv,IN,Aca,Ace,AI,Ah];simp[valid] at g;have a:Ar (16*d)=16*d:=Ai (by unfold AQ; omega);have b:Ar (r+16*d)=r+16*d:=Ai (by unfold AQ; omega);have e:Ar (4096*c)=4096*c:=Ai (by unfold AQ; omega);have f:Ar (r+16*d+4096*c)=r+16*d+4096*c:=Ai (by unfold AQ; omega);simp only[a,b,e,f,num];exact ⟨_,rfl⟩
theorem gZ {l:List (BitVec 64)} {n:Nat} (h:l.length=(32*n*1+63)/64):32*n<=64*l.length:=by omega
def CX (m:HM) (a r d c:Int):Int × Int × HM:=
 if valid r d c then (if Mi m a (Pt (num r d c)) (-1)=0 then (m.births+1,0,CT m (a.toNat/2) (num r d c)) else (0,Mi m a (Pt (num r d c)) (-1),m)) else (0,2,m)
theorem aT (k:Nat) (K:5000<=k) (h:Al J i m) (W:Inv m) (hb:m.births<1000000) (a r d c:Int) (ha:AQ a):∃ J',FD (k+12) (AU i) a r d c J=some (.tuple #[qIi (CX m a r d c).1,qIi (CX m a r d c).2.1],J')/\Al J' i (CX m a r d c).2.2/\Br i J J':=by
 have ht:=h.nt;have hw:=h.wl;rw[T8];simp only[Ae];obtain ⟨Z0_,l⟩:∃ Z0_,J++[Au.cells [Value.int .i64 r,qIi d,qIi c] Ad true]=Z0_:=⟨_,rfl⟩;have h0:Al Z0_ i m:=l ▸ h.app _;have P:Br i J Z0_:=l ▸ Br.app i J _;have e:Z0_[J.length]?=some (Au.cells [Value.int .i64 r,qIi d,qIi c] Ad true):=by rw[<- l]; simp
 have E:∀ {Z:Aa},Z[J.length]?=some (Au.cells [Value.int .i64 r,qIi d,qIi c] Ad true)->Aj .i64 Z J.length 0=some r/\Aj .i64 Z J.length 1=some d/\Aj .i64 Z J.length 2=some c:=by
  intro Z hm; simp[Aj,CW,hm,Bk]
 have x:J.length ∉ i.l:=fun hm=>Ae6 _ (h.lt _ hm);have D:∀ {Z V:Aa},Br i Z V->Z[J.length]?=some (Au.cells [Value.int .i64 r,qIi d,qIi c] Ad true)->V[J.length]?=some (Au.cells [Value.int .i64 r,qIi d,qIi c] Ad true):=fun K hm=>(K.same _ (Af hm) x).trans hm;obtain ⟨u,hV⟩:=Ny (k+10) r d c Z0_;rw[l];obtain ⟨b0,b1,b2⟩:=E e;simp only[JY _ h0,AI,An,Aa4,By,IN,Nat.reduceAdd,b0,b1,b2,hV];cases g:valid r d c with
 | false=>
   unfold CX;rw[g];exact ⟨Z0_++u,by simp,h0.app _,P.trans (Br.app i Z0_ u)⟩
 | true=>
   have M:=D (Br.app i Z0_ u) e;obtain ⟨c0,c1,c2⟩:=E M;obtain ⟨S,hW⟩:=Qt (k+9) r d c (Z0_++u);have L:words r d c=((Pt (num r d c):Nat):Int):=by
    rw[Kw g]; unfold words; rw[g]; simp only[IS];simp[valid] at g;omega
   have z:=YQ (num r d c);have y:2<=Pt (num r d c):=by
    rw[Kw g];simp[valid] at g;omega
   have h1:Al (Z0_++u++S) i m:=(h0.app _).app _;obtain ⟨τ3,hF⟩:=xB k K h1 a (Pt (num r d c)) (-1) y z;simp only[Aa4,By,c0,c1,c2,hW,AI,Ah,L,hF];obtain ⟨Z1_,t⟩:∃ Z1_,Z0_++u++S++τ3=Z1_:=⟨_,rfl⟩;rw[t];have n:Al Z1_ i m:=t ▸ h1.app _;have Q:Br i Z0_ Z1_:=t ▸ (((Br.app i Z0_ u).trans (Br.app i _ S)).trans (Br.app i _ τ3));have N:=D Q e;by_cases w:Mi m a (Pt (num r d c)) (-1)=0;rotate_left
   ·have q:(Mi m a (Pt (num r d c)) (-1) != 0)=true:=by simpa using w
    simp only[q,IS];unfold CX;rw[g,Aay rfl,Aaz w];exact ⟨Z1_,rfl,n,P.trans Q⟩
   obtain ⟨j,rfl,hj,Y,aa⟩:=W.fits hw z y w;have X:=W.brt;obtain ⟨Z2_,e2,o,k2⟩:=n.st6 (m.births+1);have O:=D k2 N;obtain ⟨d0,d1,d2⟩:=E O;obtain ⟨T,hN⟩:=sC (k+10) g Z2_;have e0:Ar (m.births+1)=m.births+1:=Ai (by unfold AQ; omega);have q1:(0<=((2*j:Nat):Int)/\((2*j:Nat):Int)<((m.wds.length:Nat):Int))=True:=Adu (by omega);have ew:Ar (((2*j:Nat):Int)+1)=((2*j+1:Nat):Int):=Ai (by unfold AQ; omega);have q2:(0<=((2*j+1:Nat):Int)/\((2*j+1:Nat):Int)<((m.wds.length:Nat):Int))=True:=Adu (by omega);obtain ⟨F,p⟩:=(o.app T).CY (a:=2*j) (by show 2*j<m.wds.length; omega) (m.births+1) (by unfold AQ; omega);obtain ⟨Z4_,A⟩:∃ Z4_,(Z2_++T).set i.wd (.cells (Bl (m.wds.set (2*j) (m.births+1))) Dv true)=Z4_:=⟨_,rfl⟩;simp only at F p;rw[A] at F p;obtain ⟨G,f⟩:=p.CY (a:=2*j+1) (by simp; omega) (num r d c) (Kk g).2.2.2;simp only at G f;obtain ⟨Z5_,B⟩:∃ Z5_,Z4_.set i.wd (.cells (Bl ((m.wds.set (2*j) (m.births+1)).set (2*j+1) (num r d c))) Dv true)=Z5_:=⟨_,rfl⟩;rw[B] at G f;obtain ⟨U,H⟩:=ba (k+2) f.st (j:=j) (v:=1) hj (by decide);have t1:((2*j:Nat):Int).tdiv 2=(j:Int):=by
    rw[show ((2*j:Nat):Int).tdiv 2=(((2*j)/2:Nat):Int) from rfl]; omega
   have e6:Ar (j:Int)=(j:Int):=Ai (by unfold AQ; omega);have b:=(f.app U).yO j 1;simp only at H b;obtain ⟨Z6_,C⟩:∃ Z6_,(Z5_++U).set i.sw (.cells (rowOf (FB 1 m.stw j 1)) BE true)=Z6_:=⟨_,rfl⟩;rw[C] at H b;have s:=b.yM (PA (m.births+1) ((2*j:Nat):Int) m.pl);simp only at s;have k4:Br i Z2_ Z4_:=A ▸ (Br.app i Z2_ T).trans (Br.set _ _ (by simp[Cs.l]));have k5:Br i Z4_ Z5_:=B ▸ Br.set _ _ (by simp[Cs.l]);have k6:Br i Z5_ Z6_:=C ▸ (Br.app i Z5_ U).trans (Br.set _ _ (by simp[Cs.l]));unfold CX;rw[g,Aay rfl,Aay w,show ((2*j:Nat):Int).toNat/2=j from by omega];refine ⟨Z6_.set i.pl (.map (Sx (PA (m.births+1) ((2*j:Nat):Int) m.pl))), ?_,s,((((P.trans Q).trans k2).trans k4).trans k5).trans (k6.trans (Br.set _ _ (by simp[Cs.l])))⟩;simp only[w,Abx,By,n.uT,AI,e0,e2,o.Fa,o.uT,d0,d1,d2,hN];simp only[Ah,AI,ew,IN,Acg,IT];rw[Aay (by omega)];simp only[F,AI];rw[Aay (by omega)];have I:BM (k+11) (some ⟨i.st,0,none⟩) (j:Int) 1 Z5_=some (qIi 0,Z6_):=H;simp only[G,AI,f.UL,t1,e6,show ((2:Int)=0)=False from by simp,Aa5,I,Ah,b.eR,b.uT,Un,b.pl,gu,s.uT]
def Pn (l:List Int) (a:Nat) (v:List Int):List Int:=l.take a++v++l.drop (a+v.length)
theorem Ml {l:List Int} {a:Nat} {v:List Int} (h:a+v.length<=l.length):(Pn l a v).length=l.length:=by
 simp[Pn]; omega
theorem Kl {l:List Int} {a:Nat} {v:List Int} (h:a+v.length<=l.length) (x:Nat):(Pn l a v).getD x 0=if a<=x/\x<a+v.length then v.getD (x-a) 0 else l.getD x 0:=by
 simp only[Pn,Aax];have b:(l.take a).length=a:=by simp; omega
 rcases Ael x a with h1 | h1
 ·rw[Aaq,AT (by rw[b]; exact h1),Ad2,Aay h1,Aaz (by omega)]
 ·rcases Ael x (a+v.length) with c | c
  ·rw[Aaq,Acf (by rw[b]; exact h1),b,AT (by omega),Aay ⟨h1,c⟩]
  ·rw[Acf (by simp; omega),Aaz (by omega),Ad0];congr 2;simp; omega
theorem rY (l:List Int) (a:Nat) (v:List Int):Bl (Pn l a v)=Bb (Bl l) a (Bl v):=by
 simp[Pn,Bl,Bb,List.map_take,List.map_drop]
theorem lM (n:Nat):rep n [Value.int .i64 0]=Bl (List.replicate n 0):=by
 simp only[rep,Bl,List.map_replicate]
 induction n with
 | zero=>rfl
 | succ n a=>rw[Aeu,Ahy,a,Aeu]; rfl
theorem mz (h:Al J i m) {a b:Nat} (f:a<b) (hb:b<=m.wds.length):
  Gj Ak 1 (some ⟨i.wd,0,none⟩,m.wds.length,m.wds.length) (some (qIi (a:Int))) (some (qIi (b:Int))) none J=some (some ⟨i.wd,a,none⟩,b-a,m.wds.length-a):=by
 have e:elemAt J i.wd=some 3:=by simp only[elemAt,h.wd]
 have c:(0<=(b:Int)/\(b:Int)<=((m.wds.length:Nat):Int)):=by omega
 have d:(0<=(a:Int)/\(a:Int)<=(b:Int)):=by omega
 simp only[Gj,Aew,Adi,Ag4,IS,bound,IT];rw[Aay c,Aay d,Aaz (by omega)];simp[e]
theorem yq (k:Nat) (h:Al J i m) {a n:Nat} (d:0<n) (b:a+n<=m.wds.length):
  Jf (k+1) (AU i) (a:Int) (n:Int) J=some (.tuple #[],J.set i.wd (.cells (Bl (Pn m.wds a (List.replicate n 0))) Dv true)) /\
  Al (J.set i.wd (.cells (Bl (Pn m.wds a (List.replicate n 0))) Dv true)) i { m with wds:=Pn m.wds a (List.replicate n 0) }:=by
 have e:=h.nt;have hw:=h.wl;refine ⟨?_,h.yP _ (Ml (by simpa using b)) fun x=>?_⟩
 ·rw[Vd];have c:Ar ((a:Int)+(n:Int))=((a+n:Nat):Int):=Ai (by unfold AQ; omega);simp only[AI,IN,h.Fa,c,mz h (show a<a+n by omega) b];rw[Aaz (by omega)];rw[show a+n-a=n from by omega];simp only[AI,H5,h.wd,lM,Cm,Aet,b,Aat,rY]
 ·rw[Kl (by simpa using b)];split
  ·rw[Aax,Aem];split <;> (unfold AQ; decide)
  ·exact h.wi x
def HS (m:HM) (j:Nat):HM:=
 { m with wds:=Pn m.wds (2*j) (List.replicate (sz m j) 0),stw:=FB 1 m.stw j 0,pnw:=FB 1 m.pnw j 0,pl:=Yp (m.wds.getD (2*j) 0) m.pl }
theorem JK {j j':Nat} (c:32*m.bls.length<=64*m.stw.length) (b:j<32*m.bls.length):Start (HS m j) j'↔j'≠j/\Start m j':=by
 unfold Start HS;simp only;by_cases a:j'=j
 ·subst a;rw[EU (.inl rfl) (by decide) (by omega)];simp
 ·rw[Cf (.inl rfl) (by decide) (fun e=>a e.symm)];simp[a]
theorem Inv.kill (h:Inv m) (D:32*m.bls.length<=64*m.stw.length) {j:Nat} (hs:Start m j):Inv (HS m j):=by
 have C:=hs.1;have w:=h.fit j hs;have g:=fun j'=>JK (m:=m) (j:=j) (j':=j') D C;have J:=h.size hs;have wl:(HS m j).wds.length=m.wds.length:=Ml (by simpa using w);have v:∀ j',j'≠j->Start m j' -> ∀ c,c<2->(HS m j).wds.getD (2*j'+c) 0=m.wds.getD (2*j'+c) 0:=by
  intro j' f b c I;have G:=h.size b;show (Pn _ _ _).getD _ 0=_;rw[Kl (by simpa using w),Aaz];rintro ⟨K,H⟩;simp only[Aet] at H;rcases Ae2 j j' with i | rfl | i
  ·have:=h.apart j j' hs b i; omega
  ·exact f rfl
  ·have:=h.apart j' j b hs i; omega
 have q:∀ j',j'≠j->Start m j'->(HS m j).wds.getD (2*j') 0=m.wds.getD (2*j') 0:=fun j' f b=>v j' f b 0 (by decide);have A:∀ j',j'≠j->Start m j'->sz (HS m j) j'=sz m j':=fun j' f b=>by unfold sz; rw[v j' f b 1 (by decide)]
 have p:∀ x,getM (HS m j).pl x=if x=m.wds.getD (2*j) 0 then none else getM m.pl x:=fun x=>Ui _ _ _ h.onc
 refine ⟨fun j' b=>?_,fun j' b=>?_,fun u z h1 B i=>?_,fun j' b=>?_,fun id a s=>?_,h.brt,kY _ _ h.onc⟩
 ·obtain ⟨f,b⟩:=(g j').1 b;obtain ⟨r,d,k,F,E⟩:=h.good j' b;exact ⟨r,d,k,F,by rw[v j' f b 1 (by decide)]; exact E⟩
 ·obtain ⟨f,b⟩:=(g j').1 b;rw[wl,A j' f b]; exact h.fit j' b
 ·obtain ⟨o,l⟩:=(g u).1 h1;obtain ⟨y,t⟩:=(g z).1 B;rw[A u o l]; exact h.apart u z l t i
 ·obtain ⟨f,b⟩:=(g j').1 b;obtain ⟨i1,i2,i3⟩:=h.idn j' b;rw[q j' f b,p];refine ⟨i1,i2, ?_⟩;rw[Aaz]
  ·exact i3
  ·intro e;rw[e,(h.idn j hs).2.2] at i3;simp at i3;omega
 ·rw[p] at s;split at s
  ·cases s
  ·rename_i f;obtain ⟨j',rfl,b,he⟩:=h.plc id a s;have n:j'≠j:=fun e=>f (by rw[<- he,e]);exact ⟨j',rfl,(g j').2 ⟨n,b⟩,by rw[q j' n b]; exact he⟩
def Hw (m:HM) (a:Int):Int × HM:=if Aw m a then (0,HS m (a.toNat/2)) else (4,m)
theorem fq (k:Nat) (h:Al J i m) (y:Inv m) (a:Int) (B:AQ a):Mt (Fq (k+12) (AU i) a J) J i (Hw m a):=by
 have I:=h.nt;have hw:=h.wl;rw[UX];simp only[O9 _ h a B,AI,Ah];cases s:Aw m a with
 | false=>exact Mt.same h [] (code:=4) (by simp) (by simp[Hw,s])
 | true=>
   obtain ⟨j,rfl,hs⟩:=AY s;have D:Hw m ((2*j:Nat):Int)=(0,HS m j):=by unfold Hw; rw[s,Aay rfl,show ((2*j:Nat):Int).toNat/2=j from by omega]
   rw[D];have t:=hs.1;have C:=y.fit j hs;have K:=y.size hs;have t1:((2*j:Nat):Int).tdiv 2=(j:Int):=by
    rw[show ((2*j:Nat):Int).tdiv 2=(((2*j)/2:Nat):Int) from rfl]; omega
   have z:Ar (j:Int)=(j:Int):=Ai (by unfold AQ; omega);have h1:=h.yM (Yp (m.wds.getD (2*j) 0) m.pl);obtain ⟨Z1_,d⟩:∃ Z1_,J.set i.pl (.map (Sx (Yp (m.wds.getD (2*j) 0) m.pl)))=Z1_:=⟨_,rfl⟩;rw[d] at h1;obtain ⟨u,b⟩:=ba (k+2) h1.st (j:=j) (v:=0) t (by decide);have e:=(h1.app u).yO j 0;simp only at b e;obtain ⟨Z2_,o⟩:∃ Z2_,(Z1_++u).set i.sw (.cells (rowOf (FB 1 m.stw j 0)) BE true)=Z2_:=⟨_,rfl⟩;rw[o] at b e;obtain ⟨w,c⟩:=ba (k+2) e.pn (j:=j) (v:=0) t (by decide);have q:=(e.app w).yN j 0;simp only at c q;obtain ⟨Z3_,p⟩:∃ Z3_,(Z2_++w).set i.pw (.cells (rowOf (FB 1 m.pnw j 0)) BE true)=Z3_:=⟨_,rfl⟩;rw[p] at c q;obtain ⟨x,A⟩:=jk (k+8) q t;have r:DA (k+11) (AU i) ((2*j:Nat):Int) Z3_=some (qIi (sz m j:Int),Z3_++x):=A;obtain ⟨l,h5⟩:=yq (k+10) (q.app x) (a:=2*j) (n:=sz m j) (by omega) C;simp only at l h5;have E:Br i J Z1_:=d ▸ Br.set _ _ (by simp[Cs.l]);have F:Br i Z1_ Z2_:=o ▸ (Br.app i Z1_ u).trans (Br.set _ _ (by simp[Cs.l]));have G:Br i Z2_ Z3_:=p ▸ (Br.app i Z2_ w).trans (Br.set _ _ (by simp[Cs.l]));refine ⟨_, ?_,h5,((E.trans F).trans G).trans ((Br.app i Z3_ x).trans (Br.set _ _ (by simp[Cs.l])))⟩;have H:(0<=((2*j:Nat):Int)/\((2*j:Nat):Int)<((m.wds.length:Nat):Int)):=by omega
   simp only[Aat,Abx,By,IN,h.eR,h.Fa,AI];rw[Aay H];have f:BM (k+11) (some ⟨i.st,0,none⟩) (j:Int) 0 Z1_=some (qIi 0,Z2_):=b;have g:BM (k+11) (some ⟨i.pn,0,none⟩) (j:Int) 0 Z2_=some (qIi 0,Z3_):=c;simp only[AI,IN,Acg,IT,h.uX (show 2*j<m.wds.length by omega),kO,Un,h.pl,gq,oN,d,h1.UL,show ((2:Int)=0)=False from by simp,Aa5,t1,z,f,Ah,e.cH,g,r,l,Gi]
end
section
local instance qCV:AJ:=Ao
variable {J:Aa} {i:Cs} {m:HM}
def bq (m:HM) (t:Nat) (id:Int) (held:List Int):HM:=
 { m with wds:=Pn m.wds (2*t) held,stw:=FB 1 m.stw t 1,pl:=PA id ((2*t:Nat):Int) m.pl }
theorem tr {t j':Nat} {id:Int} {held:List Int} (c:32*m.bls.length<=64*m.stw.length) (b:t<32*m.bls.length):Start (bq m t id held) j'↔j'=t\/Start m j':=by
 unfold Start bq;simp only;by_cases a:j'=t
 ·subst a;simp only[true_or,iff_true];exact ⟨b,EU (.inl rfl) (by decide) (by omega)⟩
 ·rw[Cf (.inl rfl) (by decide) (fun e=>a e.symm)];simp[a]
theorem Inv.add (h:Inv m) (J:32*m.bls.length<=64*m.stw.length) {t:Nat} {id:Int} {held:List Int} {r d k:Int} (B:valid r d k=true) (I:t<32*m.bls.length)
  (hlen:held.length=Pt (num r d k)) (h0:held.getD 0 0=id) (h1:held.getD 1 0=num r d k) (p:1<=id/\id<=m.births) (l:getM m.pl id=none)
  (n:2*t+Pt (num r d k)<=m.wds.length) (i:∀ o,Start m o->2*o+sz m o<=2*t\/2*t+Pt (num r d k)<=2*o):Inv (bq m t id held):=by
 have f:=fun j'=>tr (m:=m) (t:=t) (j':=j') (id:=id) (held:=held) J I;have O:2<=Pt (num r d k):=by
  rw[Kw B];simp[valid] at B;omega
 have L:¬ Start m t:=fun hs=>by
  have h1:=i t hs;have z:=h.size hs;omega
 have hle:2*t+held.length<=m.wds.length:=by omega
 have w0:(bq m t id held).wds.getD (2*t) 0=id:=by
  show (Pn _ _ _).getD _ 0=_;rw[Kl hle,Aay (by omega),Afl,h0]
 have G:(bq m t id held).wds.getD (2*t+1) 0=num r d k:=by
  show (Pn _ _ _).getD _ 0=_;rw[Kl hle,Aay (by omega),show 2*t+1-2*t=1 from by omega,h1]
 have E:∀ j',Start m j' -> ∀ c,c<2->(bq m t id held).wds.getD (2*j'+c) 0=m.wds.getD (2*j'+c) 0:=by
  intro j' b c P;have Q:=h.size b;have:=i j' b;show (Pn _ _ _).getD _ 0=_;rw[Kl hle,Aaz (by omega)]
 have s1:sz (bq m t id held) t=Pt (num r d k):=by unfold sz; rw[G]
 have F:∀ j',Start m j'->sz (bq m t id held) j'=sz m j':=fun j' b=>by unfold sz; rw[E j' b 1 (by decide)]
 have wl:(bq m t id held).wds.length=m.wds.length:=Ml hle;have u:∀ j',Start m j'->(bq m t id held).wds.getD (2*j') 0=m.wds.getD (2*j') 0:=fun j' b=>E j' b 0 (by decide);have s:∀ x,getM (bq m t id held).pl x=if x=id then some ((2*t:Nat):Int) else getM m.pl x:=fun x=>Pd _ _ _ _
 refine ⟨fun j' b=>?_,fun j' b=>?_,fun w y h1 z A=>?_,fun j' b=>?_,fun D a v=>?_,h.brt,Us _ _ _ h.onc⟩
 ·rcases (f j').1 b with rfl | b
  ·exact ⟨r,d,k,B,G⟩
  ·obtain ⟨N,H,M,C,K⟩:=h.good j' b;exact ⟨N,H,M,C,by rw[E j' b 1 (by decide)]; exact K⟩
 ·rw[wl];rcases (f j').1 b with rfl | b
  ·rw[s1]; exact n
  ·rw[F j' b]; exact h.fit j' b
 ·rcases (f w).1 h1 with rfl | j
  ·rcases (f y).1 z with rfl | g
   ·omega
   ·rw[s1];have:=i y g;have:=h.size g;omega
  ·rw[F w j];rcases (f y).1 z with rfl | g
   ·have:=i w j;omega
   ·exact h.apart w y j g A
 ·rw[s];rcases (f j').1 b with rfl | b
  ·rw[w0];exact ⟨p.1,p.2,Aay rfl⟩
  ·rw[u j' b];obtain ⟨i1,i2,i3⟩:=h.idn j' b;refine ⟨i1,i2, ?_⟩;rw[Aaz (fun e=>by rw[e,l] at i3; cases i3)]; exact i3
 ·rw[s] at v;split at v
  ·rename_i q;cases v;exact ⟨t,rfl,(f t).2 (.inl rfl),by rw[w0,q]⟩
  ·obtain ⟨j',rfl,b,he⟩:=h.plc D a v;exact ⟨j',rfl,(f j').2 (.inr b),by rw[u j' b]; exact he⟩
theorem Inv.places (h:Inv m) (l:List (Int × Int)) (c:SA l) (b:∀ x,getM l x=getM m.pl x):Inv { m with pl:=l }:=
 ⟨h.good,h.fit,h.apart,fun j hs=>by rw[b]; exact h.idn j hs,fun id a e=>h.plc id a (by rw[<- b]; exact e),h.brt,c⟩
def Ph (m:HM) (j t:Nat):HM:=
 { m with
   wds:=Pn (Pn m.wds (2*j) (List.replicate (sz m j) 0)) (2*t) ((m.wds.drop (2*j)).take (sz m j))
   stw:=FB 1 (FB 1 m.stw j 0) t 1
   pnw:=FB 1 (FB 1 m.pnw j 0) t (CJ 1 m.pnw j)
   pl:=PA (m.wds.getD (2*j) 0) ((2*t:Nat):Int) m.pl
   fw:=PA ((2*j:Nat):Int) ((2*t:Nat):Int) m.fw }
theorem Inv.move (h:Inv m) (n:32*m.bls.length<=64*m.stw.length) {j t:Nat} (hs:Start m j) (z:t<32*m.bls.length) (f:2*t+sz m j<=m.wds.length)
  (l:∀ o,Start m o->o≠j->2*o+sz m o<=2*t\/2*t+sz m j<=2*o):Inv (Ph m j t):=by
 have w:=hs.1;have q:=h.fit j hs;have E:=h.size hs;have p:=fun j'=>JK (m:=m) (j:=j) (j':=j') n w;obtain ⟨r,d,k,A,s⟩:=h.good j hs;obtain ⟨i1,i2,i3⟩:=h.idn j hs;have e:sz m j=Pt (num r d k):=by unfold sz; rw[s]
 have y:=h.kill n hs;have held:∀ c,c<sz m j->((m.wds.drop (2*j)).take (sz m j)).getD c 0=m.wds.getD (2*j+c) 0:=by
  intro c v;simp only[Aax,Ad2,v,Aat,Ad0]
 have wl:(HS m j).wds.length=m.wds.length:=Ml (by simpa using q);have D:∀ o,Start m o->o≠j->sz (HS m j) o=sz m o:=by
  intro o g a;have B:=h.size g;unfold sz;congr 1;show (Pn _ _ _).getD _ 0=_;rw[Kl (by simpa using q),Aaz];rintro ⟨F,C⟩;simp only[Aet] at C;rcases Ae2 j o with b | rfl | b
  ·have:=h.apart j o hs g b; omega
  ·exact a rfl
  ·have:=h.apart o j g hs b; omega
 have u:=y.add (t:=t) (id:=m.wds.getD (2*j) 0) (held:=(m.wds.drop (2*j)).take (sz m j)) (r:=r) (d:=d) (k:=k)
  (by show 32*m.bls.length<=64*(FB _ _ _ _).length; rw[Ek]; exact n) A z (by rw[<- e]; simp; omega) (held 0 (by omega)) (by rw[held 1 (by omega),s]) ⟨i1,i2⟩
  (by show getM (Yp _ _) _=none; rw[Ui _ _ _ h.onc,Aay rfl]) (by rw[<- e,wl]; exact f)
  (fun o g=>by
   obtain ⟨a,i⟩:=(p o).1 g;rw[<- e,D o i a]; exact l o i a);have hp:=u.places (PA (m.wds.getD (2*j) 0) ((2*t:Nat):Int) m.pl) (Us _ _ _ h.onc) (fun x=>by
  show getM (PA _ _ _) x=getM (PA _ _ (Yp _ _)) x;rw[Pd,Pd,Ui _ _ _ h.onc];split <;> rfl);exact (hp.pins (FB 1 (FB 1 m.pnw j 0) t (CJ 1 m.pnw j))).kG (PA ((2*j:Nat):Int) ((2*t:Nat):Int) m.fw)
def yH (m:HM) (a b:Int):Int × HM:=
 if Aw m a then (if Mi m b (sz m (a.toNat/2)) a=0 then (0,Ph m (a.toNat/2) (b.toNat/2)) else (Mi m b (sz m (a.toNat/2)) a,m)) else (4,m)
theorem Inv.blocks (h:Inv m) (l:List (Int × Int)) (i:l.length=m.bls.length):Inv { m with bls:=l }:=by
 have hs:∀ j,Start { m with bls:=l } j↔Start m j:=fun j=>by unfold Start; simp only[i]
 exact ⟨fun j b=>h.good j ((hs j).1 b),fun j b=>h.fit j ((hs j).1 b),fun j j' h1 g=>h.apart j j' ((hs j).1 h1) ((hs j').1 g),fun j b=>h.idn j ((hs j).1 b),fun id a e=>by
  obtain ⟨j,c,d,f⟩:=h.plc id a e;exact ⟨j,c,(hs j).2 d,f⟩,h.brt,h.onc⟩
theorem UD:∀ (l:List (Int × Int)) (b:Nat) (x y:Int),b<l.length->CU (l.set b (x,y))=Bb (CU l) (b*2) [qIi x,qIi y]
 | [],_,_,_,h=>by simp at h
 | e::l,0,x,y,h=>by simp[CU,Bb]
 | e::l,b+1,x,y,h=>by
   have c:=UD l b x y (by simpa using h);have a:(b+1)*2=b*2+1+1:=by omega
   simp only[Aex,CU,c,a,Bb,Ahl,Agx,Agw,Adl,Adx]
theorem Al.stB (h:Al J i m) {b:Nat} (hb:b<m.bls.length) (x y:Int):H5 J i.bl (b*2) [qIi x,qIi y]=some (J.set i.bl (.cells (CU (m.bls.set b (x,y))) Gc true)) /\
  Al (J.set i.bl (.cells (CU (m.bls.set b (x,y))) Gc true)) i { m with bls:=m.bls.set b (x,y) }:=by
 refine ⟨?_,h.qB _ (by simp)⟩;have:b*2+2<=(CU m.bls).length:=by rw[J6]; omega
 simp only[H5,h.bl,Adl,Adx,IN,Nat.reduceAdd,this,Aat,UD _ _ _ _ hb]
def dk (l:List (Int × Int)) (b:Nat):Nat->List (Int × Int)
 | 0=>l
 | n+1=>dk (l.set (b+n) (0,0)) b n
def yj (l:List (Int × Int)) (b:Nat) (y:Int):Nat->List (Int × Int)
 | 0=>l
 | n+1=>yj (l.set (b+n) ((l.getD (b+n) (0,0)).1,y)) b y n
theorem Z4 (b:Nat):∀ (n:Nat) (l:List (Int × Int)),(dk l b n).length=l.length
 | 0,l=>rfl
 | n+1,l=>by rw[dk,Z4 b n]; simp
theorem V8 (k:Nat) {b:Nat}:∀ (n f:Nat) (J:Aa) (m:HM),Al J i m->b+n<=m.bls.length->n<f -> ∃ J',Er k f (AU i) (b:Int) (n:Int) J=some (.exit 0,[],J')/\Al J' i { m with bls:=dk m.bls b n }/\Br i J J'
 | 0,0,J,m,h,hb,a=>by omega
 | 0,f+1,J,m,h,hb,a=>by
   rw[KZ];exact ⟨J,rfl,h,Br.refl _ _⟩
 | n+1,0,J,m,h,hb,a=>by omega
 | n+1,f+1,J,m,h,hb,a=>by
   have p:=h.nt;obtain ⟨c,h1⟩:=h.stB (b:=b+n) (by omega) 0 0;obtain ⟨J',d,e,g⟩:=V8 k n f _ _ h1 (by show b+n<=(m.bls.set _ _).length; rw[Adj]; omega) (by omega);refine ⟨J', ?_,e,(Br.set _ _ (by simp[Cs.l])).trans g⟩;rw[KZ];have q:decide (((n+1:Nat):Int)>0)=true:=Aak (by omega);have j:Ar ((b:Int)+((n+1:Nat):Int))=((b+n+1:Nat):Int):=by rw[Ai (by unfold AQ; omega)]; omega
   have l:Ar (((b+n+1:Nat):Int)-1)=((b+n:Nat):Int):=by rw[Ai (by unfold AQ; omega)]; omega
   have o:Ar (((n+1:Nat):Int)-1)=(n:Int):=by rw[Ai (by unfold AQ; omega)]; omega
   simp only[q,IS,AI,Aa0,h.H7,j,l,o];rw[Aay (by omega)];simp only[AI,IN,IT,c];exact d
theorem ay (k:Nat) (h:Al J i m) (b:Int):DL (k+2) (AU i) b J=some (.bool (decide (1<=b/\b<(m.bls.length:Int))),J):=by
 rw[TB];simp only[JY _ h,AI,An,IS];by_cases h0:1<=b
 ·simp only[show decide (b>=1)=true from by simpa using h0,IS,IN,AI,h.H7];simp[h0]
 ·simp only[show decide (b>=1)=false from by simpa using h0,By,AI];simp[h0]
def Sw (m:HM) (b:Int) (ok:Bool):Int:=
 if ¬ (1<=b/\b<(m.bls.length:Int))\/ok=false then 1
 else if (m.bls.getD b.toNat (0,0)).1≠1/\(m.bls.getD b.toNat (0,0)).1≠2 then 5 else 0
theorem xD (k:Nat) (h:Al J i m) (b:Int) (ok:Bool):Je (k+3) (AU i) b ok J=some (qIi (Sw m b ok),J):=by
 rw[UZ];simp only[JY _ h,ay _ h,AI,An,Aa4,By];unfold Sw;by_cases h0:1<=b/\b<(m.bls.length:Int);rotate_left
 ·simp[h0]
 obtain ⟨n,rfl⟩:∃ n:Nat,b=(n:Int):=⟨b.toNat,by omega⟩;have d:n<m.bls.length:=by omega
 have g:decide (1<=(n:Int)/\(n:Int)<(m.bls.length:Int))=true:=Aak h0;simp only[g,Aa4,By,AI];cases ok with
 | false=>simp
 | true=>
   have j:(¬ (1<=(n:Int)/\(n:Int)<(m.bls.length:Int))\/true=false)=False:=Air (by simp; omega);simp only[Aa4,By,IN,Aa0,h.H7,AI,j,Aa5];rw[Aay (show 0<=(n:Int)/\(n:Int)<((m.bls.length:Nat):Int) by omega)];simp only[AI,IT,IN,(h.Vy d).1];by_cases a:(m.bls.getD n (0,0)).1=1
   ·simp only[a,Abx,By,AI,ne_eq,Ae9,false_and,Aa5]
   ·have e:((m.bls.getD n (0,0)).1 != 1)=true:=Adz.2 a;simp only[e,IS];rw[Aay (show 0<=(n:Int)/\(n:Int)<((m.bls.length:Nat):Int) by omega)];simp only[AI,(h.Vy d).1];by_cases c:(m.bls.getD n (0,0)).1=2
    ·simp only[c,Abx,By,ne_eq,Ae9,and_false,Aa5]
    ·have f:((m.bls.getD n (0,0)).1 != 2)=true:=Adz.2 c;simp only[f,IS,ne_eq,a,c,Aep,Afz,Aat]
theorem cw {b:Int} {ok:Bool} (h:Sw m b ok=0):∃ n:Nat,b=(n:Int)/\1<=n/\n<m.bls.length/\ok=true:=by
 unfold Sw at h;split at h
 ·cases h
 ·rename_i h0;refine ⟨b.toNat, ?_, ?_, ?_, ?_⟩
  ·omega
  ·omega
  ·omega
  ·cases ok <;> simp at h0 ⊢
theorem m8 {b:Nat} (hb:b<m.bls.length):b+LG m b<=m.bls.length:=dG m b _ 1 (by omega)
def ZX (y:Int):Bool:=decide (0<=y/\y<8)
theorem vU (k:Nat) (y:Int) (J:Aa):MC (k+1) y J=some (.bool (ZX y),J):=by
 rw[ZK];unfold ZX;by_cases h0:0<=y <;> simp[h0]
def vF (m:HM) (b y:Int):Int × HM:=
 if Sw m b (ZX y)=0 then (0,{ m with bls:=yj m.bls b.toNat y (LG m b.toNat) }) else (Sw m b (ZX y),m)
def CZ (m:HM) (b:Int):Int × HM:=
 if Sw m b true=0 then (if D8 m (32*b.toNat) 32=[] then (0,{ m with bls:=dk m.bls b.toNat (LG m b.toNat) }) else (8,m)) else (Sw m b true,m)
theorem iq (k:Nat) (o:5000<=k) (h:Al J i m) (b:Int):Mt (FX (k+7) (AU i) b J) J i (CZ m b):=by
 unfold CZ;have r:=h.nt;rw[R8];simp only[xD (k+3) h b true,AI,Ah];by_cases a:Sw m b true=0;rotate_left
 ·have q:(Sw m b true != 0)=true:=Adz.2 a;simp only[q,IS];exact Mt.same h [] (by rw[Ab1]) (Aaz a)
 rw[Aay a];obtain ⟨n,rfl,h1,c,_⟩:=cw a;rw[IT];obtain ⟨τ,s,j,f⟩:=VW k o h c;simp only[a,Abx,By,j,AI,Eo];by_cases g:((s.2.1:Nat):Int)>0
 ·simp only[show decide (((s.2.1:Nat):Int)>0)=true from Aak g,IS];refine Mt.same h τ (code:=8) rfl (Aaz fun he=>?_);have hlen:=f.len;rw[he] at hlen;simp[Cq] at hlen;omega
 ·have d:D8 m (32*n) 32=[]:=by
   have hlen:=f.len;simp[Cq] at hlen;exact Aeh.1 (by omega)
  rw[Aay d];simp only[show decide (((s.2.1:Nat):Int)>0)=false from Aaj g,By];obtain ⟨J',e,l,p⟩:=V8 (k+6) (b:=n) (LG m n) (k+6) (J++τ) m (h.app τ) (m8 c) (by have:=m8 c; omega);simp only[qL (k+5) (by omega) (h.app τ) c,AI,Ah,e,Aat];exact ⟨J',rfl,l,(Br.app i J τ).trans p⟩
theorem xA (x y:Int):Lq P Bi (.agg #[qIi x,qIi y]) (.agg #[qIi 0,qIi 0])=(bif x == 0 then some (y == 0) else some false):=by kernel_rfl
theorem kj (k:Nat) (x y:Int) (J:Aa):∃ τ,GM (k+1) x y J=some (.bool (!(bif x == 0 then y == 0 else false)),J++τ):=by
 rw[Q9];simp only[Ae,Bv,IN,Aca,Ace,AI,Ah];rw[xA];cases x == 0 <;> exact ⟨_,rfl⟩
def KO (l:List (Int × Int)) (b:Nat):Nat->Nat->Option Nat
 | 0,_=>none
 | n+1,x=>if (l.getD (b+x) (0,0)).1=0/\(l.getD (b+x) (0,0)).2=0 then KO l b n (x+1) else some x
theorem YZ (k:Nat) {b c:Nat} (p:Nat) (v:Value) (r:∀ x y J,∃ τ,KQ k v [.agg #[qIi x,qIi y]] J=some (.bool (!(bif x == 0 then y == 0 else false)),J++τ)):∀ (n x f:Nat) (J:Aa),Al J i m->b+c<=m.bls.length->x+n=c->n<f ->
  ∃ τ,Ca k f (some ⟨i.bl,b*2,none⟩) c p v (c:Int) (x:Int) J=some (match KO m.bls b n x with | some D=>(.ret,[qIi (D:Int)],J++τ) | none=>(.exit 0,[],J++τ))
 | 0,x,0,J,h,hb,o,j=>by omega
 | 0,x,f+1,J,h,hb,o,j=>by
   rw[Hu];have q:decide ((x:Int)<(c:Int))=false:=Aaj (by omega);exact ⟨[],by simp only[q,By,KO,Ab1]⟩
 | n+1,x,0,J,h,hb,o,j=>by omega
 | n+1,x,f+1,J,h,hb,o,j=>by
   have F:=h.nt;have q:decide ((x:Int)<(c:Int))=true:=Aak (by omega);have g:b+x<m.bls.length:=by omega
   obtain ⟨w,z⟩:=h.Vy g;have s:Aj .i64 J i.bl (b*2+x*2)=some (m.bls.getD (b+x) (0,0)).1:=by rw[<- w]; congr 1; omega
   have t:Aj .i64 J i.bl (b*2+x*2+1)=some (m.bls.getD (b+x) (0,0)).2:=by rw[<- z]; congr 1; omega
   obtain ⟨τ,a⟩:=r (m.bls.getD (b+x) (0,0)).1 (m.bls.getD (b+x) (0,0)).2 J;have C:=wSu x (by omega);obtain ⟨E,u⟩:=YZ k p v r n (x+1) f (J++τ) (h.app τ) hb (by omega) (by omega);rw[Hu];simp only[q,IS];rw[Aay (by omega)];simp only[AI,IT,s,t,a,An,C];rw[KO];by_cases d:(m.bls.getD (b+x) (0,0)).1=0
   ·by_cases e:(m.bls.getD (b+x) (0,0)).2=0
    ·rw[Aay ⟨d,e⟩];simp only[d,e,Ah9,IS,Aa4,By];refine ⟨τ++E, ?_⟩;rw[u,Aaq]
    ·rw[Aaz (fun l=>e l.2)];have B:((m.bls.getD (b+x) (0,0)).2 == 0)=false:=by simpa using e
     simp only[d,Ah9,IS,B,Adi];exact ⟨τ,rfl⟩
   ·rw[Aaz (fun l=>d l.1)];have A:((m.bls.getD (b+x) (0,0)).1 == 0)=false:=by simpa using d
    simp only[A,By,Adi,IS];exact ⟨τ,rfl⟩
def VZ (l:List (Int × Int)) (b:Nat) (e:Int × Int):Nat->Nat->List (Int × Int)
 | 0,_=>l
 | n+1,x=>VZ (l.set (b+x) e) b e n (x+1)
theorem J8 (b:Nat) (e:Int × Int):∀ (n x:Nat) (l:List (Int × Int)),(VZ l b e n x).length=l.length
 | 0,x,l=>rfl
 | n+1,x,l=>by rw[VZ,J8 b e n]; simp
theorem Zq (k:Nat) {b c:Nat} (e:Int × Int) (d:Nat):∀ (n x f:Nat) (J:Aa) (m:HM),Al J i m->d ∉ i.l->(∃ T,J[d]?=some (.cells [qIi e.1,qIi e.2] T true))->b+c<=m.bls.length->x+n=c->n<f ->
  ∃ J',Fs k f (AU i) (b:Int) d (c:Int) (x:Int) J=some (.exit 1,[],J')/\Al J' i { m with bls:=VZ m.bls b e n x }/\Br i J J'
 | 0,x,0,J,m,h,g,a,hb,l,j=>by omega
 | 0,x,f+1,J,m,h,g,a,hb,l,j=>by
   rw[LW];have q:decide ((x:Int)<(c:Int))=false:=Aaj (by omega);exact ⟨J,by simp only[q,By],h,Br.refl _ _⟩
 | n+1,x,0,J,m,h,g,a,hb,l,j=>by omega
 | n+1,x,f+1,J,m,h,g,a,hb,l,j=>by
   have z:=h.nt;obtain ⟨T,a⟩:=a;have q:decide ((x:Int)<(c:Int))=true:=Aak (by omega);obtain ⟨p,h1⟩:=h.stB (b:=b+x) (by omega) e.1 e.2;have o:Br i J (J.set i.bl (.cells (CU (m.bls.set (b+x) (e.1,e.2))) Gc true)):=Br.set _ _ (by simp[Cs.l]);obtain ⟨J',r,s,t⟩:=Zq k e d n (x+1) f _ _ h1 g ⟨T,(o.same _ (Af a) g).trans a⟩ (by show b+c<=(m.bls.set _ _).length; rw[Adj]; omega) (by omega) (by omega);refine ⟨J', ?_,s,o.trans t⟩;have w:=wSu x (by omega);have y:Ar ((b:Int)+(x:Int))=((b+x:Nat):Int):=Ai (by unfold AQ; omega);have u:Aj .i64 J d 0=some e.1:=by simp[Aj,CW,a,Bk]
   have v:Aj .i64 J d 1=some e.2:=by simp[Aj,CW,a,Bk]
   rw[LW];simp only[q,IS,AI,Aa0,IN,h.H7,u,v,w,y];rw[Aay (by omega)];simp only[AI,IT,p];exact r
theorem jl (h:Al J i m) {a b:Nat} (f:a<b) (hb:b<=m.bls.length):
  Gj Bi 2 (some ⟨i.bl,0,none⟩,m.bls.length,m.bls.length) (some (qIi (a:Int))) (some (qIi (b:Int))) none J=some (some ⟨i.bl,a*2,none⟩,b-a,m.bls.length-a):=by
 have e:elemAt J i.bl=some Bi:=by simp only[elemAt,h.bl]
 have c:(0<=(b:Int)/\(b:Int)<=((m.bls.length:Nat):Int)):=by omega
 have d:(0<=(a:Int)/\(a:Int)<=(b:Int)):=by omega
 simp only[Gj,Aew,Adi,Ag4,IS,bound,IT];rw[Aay c,Aay d,Aaz (by omega)];simp[e]
def BF (m:HM) (b c x y a d:Int):Int × HM:=
 if 1<=b/\b<(m.bls.length:Int)/\1<=c/\c<=(m.bls.length:Int)-b/\ZX y=true then
  (if KO m.bls b.toNat c.toNat 0=none then (0,{ m with bls:=(VZ m.bls b.toNat (a,d) c.toNat 0).set b.toNat (x,y) }) else (8,m)) else (1,m)
theorem bI (k:Nat) (X:5000<=k) (h:Al J i m) (b c x y e f:Int) (hb:AQ b) (W:AQ c):Mt (FE (k+6) (AU i) b c x y e f J) J i (BF m b c x y e f):=by
 unfold BF;have Y:=h.nt;have O:=h.nb;rw[T9];simp only[Ae];obtain ⟨Z0_,j⟩:∃ Z0_,J++[Au.cells [Value.int .i64 x,qIi y] Bi true]=Z0_:=⟨_,rfl⟩;rw[j];obtain ⟨Z1_,l⟩:∃ Z1_,Z0_++[Au.cells [Value.int .i64 e,qIi f] Bi true]=Z1_:=⟨_,rfl⟩;rw[l];have o:Z1_=J++[Au.cells [Value.int .i64 x,qIi y] Bi true,Au.cells [Value.int .i64 e,qIi f] Bi true]:=by rw[<- l,<- j]; simp
 have h1:Al Z1_ i m:=by rw[o]; exact h.app _
 have S:Br i J Z1_:=by rw[o]; exact Br.app i J _
 have N:Z0_.length=J.length+1:=by rw[<- j]; simp
 have d:Z1_[J.length]?=some (Au.cells [Value.int .i64 x,qIi y] Bi true):=by rw[o]; simp
 have t:Z1_[Z0_.length]?=some (Au.cells [Value.int .i64 e,qIi f] Bi true):=by rw[<- l]; simp
 have g:J.length ∉ i.l:=fun hm=>Ae6 _ (h.lt _ hm);have p:Z0_.length ∉ i.l:=fun hm=>by have:=h.lt _ hm; omega
 have G:Aj .i64 Z1_ J.length 1=some y:=by simp[Aj,CW,d,Bk]
 have fail:∀ {r},r=((1:Int),m)->Mt (some (Value.int .i64 1,Z1_)) J i r:=fun P=>Mt.same h [Au.cells [Value.int .i64 x,qIi y] Bi true,Au.cells [Value.int .i64 e,qIi f] Bi true] (by rw[o]) P;simp only[JY _ h1,ay _ h1,AI,An,Aa4,By,IN,Aa0,h1.H7,G];by_cases v:1<=b/\b<(m.bls.length:Int);rotate_left
 ·simp only[Aaj v,Adi,IS,AI];exact fail (Aaz (by omega))
 obtain ⟨n,rfl⟩:∃ n:Nat,b=(n:Int):=⟨b.toNat,by omega⟩;simp only[Aak v,Aa4,By,AI];by_cases C:c<1
 ·simp only[Aak C,IS,AI];exact fail (Aaz (by omega))
 have H:Ar (((m.bls.length:Nat):Int)-(n:Int))=((m.bls.length-n:Nat):Int):=by rw[Ai (by unfold AQ; omega)]; omega
 simp only[Aaj C,By,AI,h1.H7,H];by_cases D:c>((m.bls.length-n:Nat):Int)
 ·simp only[Aak D,IS,AI];exact fail (Aaz (by omega))
 obtain ⟨w,rfl⟩:∃ w:Nat,c=(w:Int):=⟨c.toNat,by omega⟩;have s:=vU (k+4) y Z1_;generalize ZX y=ok at s ⊢;simp only[Aaj D,By,AI,G,s,An];cases ok with
 | false=>
   simp only[Adi,IS];exact fail (Aaz (by simp))
 | true=>
   rw[Aay ⟨v.1,v.2,by omega,by omega,rfl⟩,IT,IT];have I:Ar ((n:Int)+(w:Int))=((n+w:Nat):Int):=Ai (by unfold AQ; omega);have hw:n+w<=m.bls.length:=by omega
   simp only[Aa4,By,h1.H7,I,jl h1 (show n<n+w by omega) hw,AI,Nat.add_sub_cancel_left];rw[L9,MG];have Q:∀ x y J,∃ τ,KQ (k+3) (.func (.func Na) #[] #[]) [.agg #[qIi x,qIi y]] J=some (.bool (!(bif x == 0 then y == 0 else false)),J++τ):=by
    intro x y J;rw[N8];exact kj (k+2) x y J
   obtain ⟨τ,a⟩:=YZ (k+3) (b:=n) (c:=w) (m.bls.length-n) (.func (.func Na) #[] #[]) Q w 0 (k+3) Z1_ h1 hw (by omega) (by omega);rw[show ((0:Nat):Int)=0 from rfl] at a;cases hu:KO m.bls n w 0 with
   | some V=>
     rw[hu] at a;simp only[a,AI,Aat,Em,Ah,An,reduceCtorEq,Aa5];have q:decide ((V:Int)>=0)=true:=Aak (by omega);simp only[q,IS];exact Mt.same h ([Au.cells [Value.int .i64 x,qIi y] Bi true,Au.cells [Value.int .i64 e,qIi f] Bi true]++τ) (code:=8) (by rw[o,Aaq]) rfl
   | none=>
     rw[hu] at a;have q:decide ((-1:Int)>=0)=false:=by decide
     simp only[a,AI,Aat,Ah,An,q,By];have L:=h1.app τ;have z:Br i Z1_ (Z1_++τ):=Br.app i Z1_ τ;have A:=(z.same _ (Af t) p).trans t;obtain ⟨J3_,B,E,F⟩:=Zq (k+5) (b:=n) (c:=w) (e,f) Z0_.length w 0 (k+5) (Z1_++τ) m L p ⟨_,A⟩ hw (by omega) (by omega);rw[show ((0:Nat):Int)=0 from rfl] at B;have u:=(F.same _ (Af ((z.same _ (Af d) g).trans d)) g).trans ((z.same _ (Af d) g).trans d);have T:Aj .i64 J3_ J.length 0=some x:=by simp[Aj,CW,u,Bk]
     have U:Aj .i64 J3_ J.length 1=some y:=by simp[Aj,CW,u,Bk]
     have hlen:(VZ m.bls n (e,f) w 0).length=m.bls.length:=J8 _ _ _ _ _;obtain ⟨K,M⟩:=E.stB (b:=n) (by show n<(VZ _ _ _ _ _).length; omega) x y;simp only[B,AI,Aat,E.H7,T,U];rw[Aay (by show 0<=(n:Int)/\(n:Int)<(((VZ m.bls n (e,f) w 0).length:Nat):Int); omega)];simp only[AI,IN,IT,K];exact ⟨_,rfl,M,((S.trans z).trans F).trans (Br.set _ _ (by simp[Cs.l]))⟩
theorem aC (k:Nat) (a:5000<=k) (h:Al J i m) (b s:Int) (hb:AQ b):Mt (DK (k+7) (AU i) b s J) J i (BF m b 1 1 s 0 0):=by
 refine (bI k a h b 1 1 s 0 0 hb (by unfold AQ; decide)).to fun J' e=>?_;rw[Ty,e];simp only[AI,Ah]
theorem Sp (k:Nat) (d:5000<=k) (h:Al J i m) (b c s:Int) (hb:AQ b) (a:AQ c):Mt (Ci (k+7) (AU i) b c s J) J i (BF m b c 2 s 3 s):=by
 refine (bI k d h b c 2 s 3 s hb a).to fun J' e=>?_;rw[Pw,e];simp only[AI,Ah]
end
section
variable {m:HM}
def use (m:HM) (j:Nat):Nat:=(2+Av m j+Bp m j).toNat
def VT (l:List (Int × Int)) (a b:Nat):Prop:=
 (b<=32->(l.getD (a/64) (0,0)).1=1/\(a+b-1)/64=a/64) /\
 (32<b->(l.getD (a/64) (0,0)).1=2/\a % 64=0 /\ ∀ c,a/64<c->c<=(a+b-1)/64->(l.getD c (0,0)).1=3)
structure Inv2 (m:HM):Prop where
 kind:∀ j,Start m j->VT m.bls (2*j) (sz m j)
 zero:∀ a,(∀ j,Start m j->2*j<=a->a<2*j+use m j->False)->m.wds.getD a 0=0
structure Sh (m:HM):Prop where
 wl:m.wds.length=64*m.bls.length
 sl:32*m.bls.length<=64*m.stw.length
 pl:32*m.bls.length<=64*m.pnw.length
theorem Al.sh {J:Aa} {i:Cs} (h:Al J i m):Sh m:=⟨h.wl,gZ h.st.len,gZ h.pn.len⟩
theorem Inv.use (h:Inv m) {j:Nat} (hs:Start m j):2<=use m j/\use m j<=sz m j/\((use m j:Nat):Int)=2+Av m j+Bp m j:=by
 obtain ⟨a,b,c,d,e,f⟩:=h.size hs;unfold Go.Proofs.YtjbledomkmdkmaaGreat.use;omega
structure KY (m:HM) (r:Int × HM):Prop where
 inv:Inv r.2
 inv2:Inv2 r.2
 b1:m.births<=r.2.births
 b2:r.2.births<=m.births+1
 len:r.2.bls.length=m.bls.length
 err:r.1≠0->r.2=m
theorem KY.same (h:Inv m) (h2:Inv2 m) (c:Int):KY m (c,m):=⟨h,h2,Afp _,by simp only; omega,rfl,fun _=>rfl⟩
theorem Pc (h:Inv m) {a x:Int} {data:Bool} {w:Int} (b:BG m a x data=(w,0)):∃ j t:Nat,Start m j/\a=((2*j:Nat):Int)/\w=((2*j+2+t:Nat):Int)/\2+t<use m j/\(t:Int)=x+(if data then Av m j else 0):=by
 unfold BG at b;split at b
 ·rename_i e;obtain ⟨j,rfl,hs⟩:=AY e;have c:((2*j:Nat):Int).toNat/2=j:=by omega
  obtain ⟨g,i,k,l,n,o⟩:=h.size hs;obtain ⟨_,_,f⟩:=h.use hs;simp only[c] at b;cases data with
  | false=>
    simp only[Ab8,Aa5] at b;split at b
    ·rename_i d;have hw:=Aec Prod.fst b;simp only at hw;exact ⟨j,x.toNat,hs,rfl,by omega,by omega,by simp only[Ab8,Aa5]; omega⟩
    ·have:=Aec Prod.snd b;simp at this
  | true=>
    simp only[Aat] at b;split at b
    ·rename_i d;have hw:=Aec Prod.fst b;simp only at hw;exact ⟨j,(Av m j+x).toNat,hs,rfl,by omega,by omega,by simp only[Aat]; omega⟩
    ·have:=Aec Prod.snd b;simp at this
 ·have:=Aec Prod.snd b;simp at this
theorem XK (h:Inv m) {j t:Nat} (hs:Start m j) (f:2+t<sz m j) (v:Int):∀ j',Start m j' -> ∀ c,c<2->(Hb m (2*j+2+t) v).wds.getD (2*j'+c) 0=m.wds.getD (2*j'+c) 0:=by
 intro j' b c d;show (m.wds.set _ _).getD _ _=_;rw[Cp,Aaz];rintro ⟨e,_⟩;have h1:=h.apart j j' hs b;have g:=h.size b;rcases Ae2 j j' with a | rfl | a
 ·have:=h1 a; omega
 ·omega
 ·omega
theorem VO {m m':HM} {j j':Nat} (h:m'.wds.getD (2*j'+1) 0=m.wds.getD (2*j+1) 0):sz m' j'=sz m j/\use m' j'=use m j/\Av m' j'=Av m j/\Bp m' j'=Bp m j:=by
 unfold sz use Av Bp;rw[h];exact ⟨rfl,rfl,rfl,rfl⟩
theorem Inv2.word (h:Inv m) (h2:Inv2 m) {j t:Nat} (hs:Start m j) (f:2+t<use m j) (v:Int):Inv2 (Hb m (2*j+2+t) v):=by
 have hu:=h.use hs;have key:=XK h hs (show 2+t<sz m j by omega) v;refine ⟨fun j' b=>?_,fun a c=>?_⟩
 ·rw[(VO (key j' b 1 (by decide))).1]; exact h2.kind j' b
 ·show (m.wds.set _ _).getD _ _=_;rw[Cp,Aaz]
  ·exact h2.zero a fun j' b d e=>c j' b d (by rw[(VO (key j' b 1 (by decide))).2.1]; exact e)
  ·rintro ⟨rfl,_⟩;exact c j hs (by omega) (by rw[(VO (key j hs 1 (by decide))).2.1]; omega)
theorem ic (h:Inv m) (h2:Inv2 m) {j t:Nat} (hs:Start m j) (b:2+t<use m j) (v:Int):KY m (0,Hb m (2*j+2+t) v):=
 ⟨h.ye hs (by have:=h.use hs; omega) v,h2.word h hs b v,Afp _,by show m.births<=m.births+1; omega,rfl,fun a=>absurd rfl a⟩
theorem je (h:Inv m) (h2:Inv2 m) (a x v:Int):KY m (BU m a x v):=by
 unfold BU;generalize d:BG m a x false=w;obtain ⟨w,c⟩:=w;split
 ·rename_i b;simp only at b;subst b;obtain ⟨j,t,hs,rfl,rfl,e,_⟩:=Pc h d;split
  ·exact KY.same h h2 _
  ·simp only[IT];exact ic h h2 hs e v
 ·exact KY.same h h2 _
theorem VN (h:Inv m) (h2:Inv2 m) (a x v:Int):KY m (GU m a x v):=by
 unfold GU;generalize d:BG m a x true=w;obtain ⟨w,c⟩:=w;split
 ·rename_i b;simp only at b;subst b;obtain ⟨j,t,hs,rfl,rfl,e,_⟩:=Pc h d;simp only[IT];exact ic h h2 hs e v
 ·exact KY.same h h2 _
theorem Inv2.pins (h2:Inv2 m) (l:List (BitVec 64)):Inv2 { m with pnw:=l }:=⟨h2.kind,h2.zero⟩
theorem Inv2.kG (h2:Inv2 m) (l:List (Int × Int)):Inv2 { m with fw:=l }:=⟨h2.kind,h2.zero⟩
theorem Inv2.places (h2:Inv2 m) (l:List (Int × Int)):Inv2 { m with pl:=l }:=⟨h2.kind,h2.zero⟩
theorem sL (h:Inv m) (h2:Inv2 m) (a:Int) (v:Nat):KY m (MM m a v):=by
 unfold MM;split
 ·exact ⟨h.pins _,h2.pins _,Afp _,by show m.births<=m.births+1; omega,rfl,fun b=>absurd rfl b⟩
 ·exact KY.same h h2 _
theorem dH (m:HM) (b:Nat):∀ (f n c:Nat),n<=c->c<Ka m b f n->(m.bls.getD b (0,0)).1=2/\(m.bls.getD (b+c) (0,0)).1=3
 | 0,n,c,h1,a=>by rw[Ka] at a; omega
 | f+1,n,c,h1,a=>by
   rw[Ka] at a;split at a
   ·rename_i d;rcases Ahs h1 with rfl | h1
    ·exact ⟨d.1,d.2.2⟩
    ·exact dH m b f (n+1) c h1 a
   ·omega
theorem WI {b c:Nat} (h1:b<c) (h2:c<b+LG m b):(m.bls.getD b (0,0)).1=2/\(m.bls.getD c (0,0)).1=3:=by
 have:=dH m b m.bls.length 1 (c-b) (by omega) (by unfold LG at h2; omega);rw[show b+(c-b)=c from by omega] at this;exact this
theorem nJ {a:Int} {f:Nat} {g:Int} (h2:2<=f) (b:Mi m a f g=0):VT m.bls a.toNat f:=by
 unfold Mi at b;split at b
 ·cases b
 simp only at b;split at b
 ·rename_i hw;split at b
  ·cases b
  ·rename_i e;refine ⟨fun _=>⟨?_, ?_⟩,fun h=>by omega⟩
   ·apply Adv;intro d; exact e (.inl d)
   ·apply Adv;intro d; exact e (.inr d)
 ·rename_i hw;split at b
  ·cases b
  ·rename_i e;have i:(m.bls.getD (a.toNat/64) (0,0)).1=2:=by
    apply Adv;intro d; exact e (.inl d)
   have j:a.toNat % 64=0:=by
    apply Adv;intro d; exact e (.inr (.inl d))
   have k:LG m (a.toNat/64)=(f+63)/64:=by
    apply Adv;intro d; exact e (.inr (.inr d))
   refine ⟨fun h=>by omega,fun _=>⟨i,j,fun c h1 h2=>?_⟩⟩;exact (WI h1 (by rw[k]; omega)).2
theorem Inv2.place (h:Inv m) (h2:Inv2 m) (s:Sh m) {j:Nat} {r d k:Int} (p:valid r d k=true) (x:j<32*m.bls.length)
  (i:∀ o,Start m o->2*o+sz m o<=2*j\/2*j+Pt (num r d k)<=2*o) (y:VT m.bls (2*j) (Pt (num r d k))):Inv2 (CT m j (num r d k)):=by
 have g:=fun j'=>J4 (m:=m) (n:=num r d k) (j:=j) (j':=j') s.sl x;have hw:=s.wl;have q:=p;simp[valid] at q;have E:2<=Pt (num r d k):=by
  rw[Kw p];omega
 have l:¬ Start m j:=fun hs=>by
  have h1:=i j hs;have h2:=h.size hs;omega
 have f:∀ j',Start m j'->j'≠j:=fun j' hs e=>l (e ▸ hs);have u:(CT m j (num r d k)).wds.getD (2*j+1) 0=num r d k:=by
  unfold CT; simp only;rw[Cp,Aay ⟨rfl,by simp; omega⟩]
 have v:∀ j',j'≠j->(CT m j (num r d k)).wds.getD (2*j'+1) 0=m.wds.getD (2*j'+1) 0:=by
  intro j' f;unfold CT; simp only;rw[Cp,Aaz (by omega),Cp,Aaz (by omega)]
 have s1:sz (CT m j (num r d k)) j=Pt (num r d k):=by unfold sz; rw[u]
 obtain ⟨B,C,_,_⟩:=Kk p;have D:use (CT m j (num r d k)) j=(2+r+d).toNat:=by unfold use Av Bp; rw[u,B,C]
 refine ⟨fun j' b=>?_,fun a t=>?_⟩
 ·rcases (g j').1 b with rfl | b
  ·rw[s1]; exact y
  ·rw[(VO (v j' (f j' b))).1]; exact h2.kind j' b
 ·have c:=t j ((g j).2 (.inl rfl));rw[D] at c;have z:a≠2*j:=fun e=>c (by omega) (by omega);have A:a≠2*j+1:=fun e=>c (by omega) (by omega);unfold CT; simp only;rw[Cp,Aaz (by omega),Cp,Aaz (by omega)];exact h2.zero a fun j' b w h5=>t j' ((g j').2 (.inr b)) w (by rw[(VO (v j' (f j' b))).2.1]; exact h5)
theorem Uv (h:Inv m) (h2:Inv2 m) (g:Sh m) (a r d c:Int):KY m (CX m a r d c).2:=by
 unfold CX;split
 ·rename_i k;split
  ·rename_i i;have f:2<=Pt (num r d c):=by
    rw[Kw k];simp[valid] at k;omega
   have p:=nJ f i;obtain ⟨j,rfl,n,e,l⟩:=h.fits g.wl (YQ _) f i;rw[IT] at p;simp only[show ((2*j:Nat):Int).toNat/2=j from by omega];have b:∀ o,Start m o->2*o+sz m o<=2*j\/2*j+Pt (num r d c)<=2*o:=fun o q=>l o q (by omega);refine ⟨h.place g.wl g.sl k n e b,h2.place h g k n b p, ?_,Afp _,rfl,fun i=>absurd rfl i⟩;show m.births<=m.births+1;omega
  ·exact KY.same h h2 _
 ·exact KY.same h h2 _
theorem Nl (h:Inv m) {j j' a:Nat} (hs:Start m j) (c:Start m j') (d:j'≠j) (h1:2*j'<=a) (h2:a<2*j'+sz m j'):(HS m j).wds.getD a 0=m.wds.getD a 0:=by
 have e:=h.fit j hs;show (Pn _ _ _).getD _ 0=_;rw[Kl (by simpa using e),Aaz];rintro ⟨g,f⟩;simp only[Aet] at f;rcases Ae2 j j' with b | rfl | b
 ·have:=h.apart j j' hs c b; omega
 ·exact d rfl
 ·have:=h.apart j' j c hs b; omega
theorem Inv2.kill (h:Inv m) (h2:Inv2 m) (i:Sh m) {j:Nat} (hs:Start m j):Inv2 (HS m j):=by
 have n:=h.fit j hs;have d:=fun j'=>JK (m:=m) (j:=j) (j':=j') i.sl hs.1;have f:∀ j',j'≠j->Start m j'->sz (HS m j) j'=sz m j'/\use (HS m j) j'=use m j':=fun j' c b=>by
  have:=VO (Nl h hs b c (a:=2*j'+1) (by omega) (by have:=h.size b; omega));exact ⟨this.1,this.2.1⟩
 refine ⟨fun j' b=>?_,fun a k=>?_⟩
 ·obtain ⟨c,b⟩:=(d j').1 b;rw[(f j' c b).1]; exact h2.kind j' b
 ·show (Pn _ _ _).getD _ 0=_;rw[Kl (by simpa using n)];split
  ·rw[Aax,Aem];split <;> rfl
  ·rename_i l;refine h2.zero a fun j' b g h5=>?_;by_cases e:j'=j
   ·subst e;have:=h.use b;simp at l; omega
   ·exact k j' ((d j').2 ⟨e,b⟩) g (by rw[(f j' e b).2]; exact h5)
theorem nX (h:Inv m) (h2:Inv2 m) (b:Sh m) (a:Int):KY m (Hw m a):=by
 unfold Hw;split
 ·rename_i d;obtain ⟨j,rfl,hs⟩:=AY d;rw[show ((2*j:Nat):Int).toNat/2=j from by omega];exact ⟨h.kill b.sl hs,h2.kill h b hs,Afp _,by show m.births<=m.births+1; omega,rfl,fun c=>absurd rfl c⟩
 ·exact KY.same h h2 _
theorem dJ (c:Sh m) {j t j':Nat} (f:j<32*m.bls.length) (d:t<32*m.bls.length):Start (Ph m j t) j'↔j'=t\/(j'≠j/\Start m j'):=by
 have g:=c.sl;unfold Start Ph;simp only;by_cases b:j'=t
 ·subst b;rw[EU (.inl rfl) (by decide) (by rw[Ek]; omega)];simp[d]
 ·rw[Cf (.inl rfl) (by decide) (fun e=>b e.symm)];by_cases a:j'=j
  ·subst a;rw[EU (.inl rfl) (by decide) (by omega)];simp[b]
  ·rw[Cf (.inl rfl) (by decide) (fun e=>a e.symm)];simp[b,a]
theorem Sb (h:Inv m) {j t:Nat} (hs:Start m j) (b:2*t+sz m j<=m.wds.length) (a:Nat):
  (Ph m j t).wds.getD a 0=if 2*t<=a/\a<2*t+sz m j then m.wds.getD (2*j+(a-2*t)) 0 else if 2*j<=a/\a<2*j+sz m j then 0 else m.wds.getD a 0:=by
 have e:=h.fit j hs;have c:((m.wds.drop (2*j)).take (sz m j)).length=sz m j:=by simp; omega
 have d:(Pn m.wds (2*j) (List.replicate (sz m j) 0)).length=m.wds.length:=Ml (by simpa using e);show (Pn _ _ _).getD _ 0=_;rw[Kl (by rw[c,d]; exact b),c];split
 ·rename_i f;simp only[Aax,Ad2,show a-2*t<sz m j from by omega,Aat,Ad0]
 ·rw[Kl (by simpa using e),Aet];split
  ·rw[Aax,Aem];split <;> rfl
  ·rfl
theorem WU (h:Inv m) {o j a:Nat} (c:Start m o) (hs:Start m j) (h1:2*o<=a) (h2:a<2*o+sz m o) (h3:2*j<=a) (d:a<2*j+sz m j):o=j:=by
 rcases Ae2 j o with b | rfl | b
 ·have:=h.apart j o hs c b; omega
 ·rfl
 ·have:=h.apart o j c hs b; omega
theorem cP (h:Inv m) {j t o a:Nat} (hs:Start m j) (b:2*t+sz m j<=m.wds.length)
  (d:∀ o,Start m o->o≠j->2*o+sz m o<=2*t\/2*t+sz m j<=2*o) (e:Start m o) (c:o≠j) (h1:2*o<=a) (h2:a<2*o+sz m o):(Ph m j t).wds.getD a 0=m.wds.getD a 0:=by
 have:=d o e c;rw[Sb h hs b,Aaz (by omega),Aaz];rintro ⟨f,g⟩;exact c (WU h e hs h1 h2 f g)
theorem Inv2.move (h:Inv m) (h2:Inv2 m) (q:Sh m) {j t:Nat} (hs:Start m j) (v:t<32*m.bls.length) (c:2*t+sz m j<=m.wds.length)
  (l:∀ o,Start m o->o≠j->2*o+sz m o<=2*t\/2*t+sz m j<=2*o) (u:VT m.bls (2*t) (sz m j)):Inv2 (Ph m j t):=by
 have i:=fun j'=>dJ (m:=m) q (j:=j) (t:=t) (j':=j') hs.1 v;have w:=h.size hs;have hu:=h.use hs;have p:∀ j',j'≠j->Start m j'->sz (Ph m j t) j'=sz m j'/\use (Ph m j t) j'=use m j':=fun j' g b=>by
  have:=VO (cP h hs c l b g (a:=2*j'+1) (by omega) (by have:=h.size b; omega));exact ⟨this.1,this.2.1⟩
 have st:sz (Ph m j t) t=sz m j/\use (Ph m j t) t=use m j:=by
  have:=VO (m:=m) (m':=Ph m j t) (j:=j) (j':=t) (by rw[Sb h hs c,Aay (by omega)]; congr 1; omega);exact ⟨this.1,this.2.1⟩
 refine ⟨fun j' b=>?_,fun a n=>?_⟩
 ·by_cases f:j'=t
  ·subst f; rw[st.1]; exact u
  ·rcases (i j').1 b with e | ⟨g,b⟩
   ·exact absurd e f
   ·rw[(p j' g b).1]; exact h2.kind j' b
 ·rw[Sb h hs c];have d:=n t ((i t).2 (.inl rfl));rw[st.2] at d;split
  ·rename_i r;refine h2.zero _ fun j' b k h5=>?_;by_cases f:j'=j
   ·subst f;exact d (by omega) (by omega)
   ·have:=h.use b;exact f (WU h b hs k (by omega) (by omega) (by omega))
  ·rename_i r;split
   ·rfl
   ·rename_i s;refine h2.zero _ fun j' b k h5=>?_;by_cases f:j'=j
    ·subst f;omega
    ·exact n j' ((i j').2 (.inr ⟨f,b⟩)) k (by rw[(p j' f b).2]; exact h5)
theorem fZ (l:List (Int × Int)) (a c:Nat) (v:Int × Int):(l.set a v).getD c (0,0)=if a=c/\a<l.length then v else l.getD c (0,0):=by
 simp only[Aax,Aed];by_cases h:a=c
 ·subst h;by_cases b:a<l.length
  ·simp[b]
  ·simp[b]
 ·simp[h]
theorem Rd (b:Nat):∀ (n:Nat) (l:List (Int × Int)) (c:Nat),(dk l b n).getD c (0,0)=if b<=c/\c<b+n then (0,0) else l.getD c (0,0)
 | 0,l,c=>by rw[dk,Aaz (by omega)]
 | n+1,l,c=>by
   rw[dk,Rd b n,fZ];by_cases h1:b+n=c
   ·subst h1;rw[Aaz (by omega),Aay (show b<=b+n/\b+n<b+(n+1) by omega)];split
    ·rfl
    ·rename_i h;rw[Aax,Adr (by omega)]; rfl
   ·rw[Aaz (show ¬ (b+n=c/\b+n<l.length) from fun h=>h1 h.1)];by_cases a:b<=c/\c<b+n
    ·rw[Aay a,Aay (by omega)]
    ·rw[Aaz a,Aaz (by omega)]
theorem gY (b:Nat) (y:Int):∀ (n:Nat) (l:List (Int × Int)) (c:Nat),((yj l b y n).getD c (0,0)).1=(l.getD c (0,0)).1
 | 0,l,c=>rfl
 | n+1,l,c=>by
   rw[yj,gY b y n,fZ];split
   ·rename_i h;rw[h.1]
   ·rfl
theorem bG (b:Nat) (e:Int × Int):∀ (n x:Nat) (l:List (Int × Int)) (c:Nat),c<b+x\/b+x+n<=c->(VZ l b e n x).getD c (0,0)=l.getD c (0,0)
 | 0,x,l,c,h=>rfl
 | n+1,x,l,c,h=>by
   rw[VZ,bG b e n (x+1) _ c (by omega),Aax,Aax,Aed,Aaz (by omega)]
theorem WL {l:List (Int × Int)} {b:Nat}:∀ {n x:Nat},KO l b n x=none -> ∀ c,x<=c->c<x+n->l.getD (b+c) (0,0)=(0,0)
 | 0,x,h,c,h1,d=>by omega
 | n+1,x,h,c,h1,d=>by
   rw[KO] at h;split at h
   ·rename_i a;rcases Ahs h1 with rfl | h1
    ·exact Aht a.1 a.2
    ·exact WL h c h1 (by omega)
   ·cases h
theorem VT.Ax {l j:List (Int × Int)} {a d:Nat} (h:VT l a d) (f:∀ c,(l.getD c (0,0)).1≠0->a/64<=c->c<=(a+d-1)/64->(j.getD c (0,0)).1=(l.getD c (0,0)).1) (hw:0<d):VT j a d:=by
 refine ⟨fun b=>?_,fun b=>?_⟩
 ·obtain ⟨h1,e⟩:=h.1 b;exact ⟨by rw[f _ (by rw[h1]; decide) (Aa1 _) (by omega)]; exact h1,e⟩
 ·obtain ⟨h1,e,g⟩:=h.2 b;exact ⟨by rw[f _ (by rw[h1]; decide) (Aa1 _) (by omega)]; exact h1,e,fun c i h5=>by rw[f c (by rw[g c i h5]; decide) (by omega) h5]; exact g c i h5⟩
theorem Inv2.blocks (h:Inv m) (h2:Inv2 m) (l:List (Int × Int)) (g:l.length=m.bls.length)
  (f:∀ j,Start m j -> ∀ c,(m.bls.getD c (0,0)).1≠0->2*j/64<=c->c<=(2*j+sz m j-1)/64->(l.getD c (0,0)).1=(m.bls.getD c (0,0)).1):Inv2 { m with bls:=l }:=by
 have hs:∀ j,Start { m with bls:=l } j↔Start m j:=fun j=>by unfold Start; simp only[g]
 refine ⟨fun j d=>?_,fun a e=>h2.zero a fun j d=>e j ((hs j).2 d)⟩;have b:=(hs j).1 d;exact (h2.kind j b).Ax (f j b) (by have:=h.size b; show 0<sz m j; omega)
theorem Zn (h:Inv m) (h2:Inv2 m) {l:List (Int × Int)} (a:l.length=m.bls.length)
  (d:∀ j,Start m j -> ∀ c,(m.bls.getD c (0,0)).1≠0->2*j/64<=c->c<=(2*j+sz m j-1)/64->(l.getD c (0,0)).1=(m.bls.getD c (0,0)).1):KY m (0,{ m with bls:=l }):=
 ⟨h.blocks l a,h2.blocks h l a d,Afp _,by show m.births<=m.births+1; omega,a,fun b=>absurd rfl b⟩
theorem kJ {b:Int} {ok:Bool} (h:Sw m b ok=0):(m.bls.getD b.toNat (0,0)).1=1\/(m.bls.getD b.toNat (0,0)).1=2:=by
 unfold Sw at h;split at h
 ·cases h
 ·split at h
  ·cases h
  ·rename_i c;apply Adv;intro a;exact c ⟨fun e=>a (.inl e),fun e=>a (.inr e)⟩
theorem N2 (h:Inv m) (h2:Inv2 m) (b:Int):KY m (CZ m b):=by
 unfold CZ;split
 ·rename_i l;have a:=kJ l;split
  ·rename_i he;refine Zn h h2 (Z4 _ _ _) fun j f c v t u=>?_;rw[Rd,Aaz];rintro ⟨h5,k⟩;generalize b.toNat=n at a he h5 k;have w:=h.size f;have o:2*j/64≠n:=by
    intro e;have:j ∈ D8 m (32*n) 32:=by
     unfold D8;rw[Aea,Agh];exact ⟨by omega,Aak f.2⟩
    rw[he] at this;cases this
   obtain ⟨p,q⟩:=h2.kind j f;by_cases hw:sz m j<=32
   ·obtain ⟨i,r⟩:=p hw;have d:c=2*j/64:=by omega
    subst d;have:=WI (m:=m) (b:=n) (c:=2*j/64) (by omega) k;rw[i] at this;exact absurd this.2 (by decide)
   ·obtain ⟨i,r,s⟩:=q (by omega);by_cases g:n<2*j/64
    ·have:=WI (m:=m) (b:=n) (c:=2*j/64) g (by omega);rw[i] at this;exact absurd this.2 (by decide)
    ·have:=s n (by omega) (by omega);rcases a with e | e
     ·rw[this] at e; exact absurd e (by decide)
     ·rw[this] at e; exact absurd e (by decide)
  ·exact KY.same h h2 _
 ·exact KY.same h h2 _
theorem Zp (h:Inv m) (h2:Inv2 m) (b c x y e f:Int):KY m (BF m b c x y e f):=by
 unfold BF;split
 ·rename_i g;split
  ·rename_i hu;have hlen:(VZ m.bls b.toNat (e,f) c.toNat 0).length=m.bls.length:=J8 _ _ _ _ _;refine Zn h h2 (by rw[Adj,hlen]) fun j i q d _ _=>?_;have a:q<b.toNat\/b.toNat+c.toNat<=q:=by
    apply Adv;intro k;have:=WL hu (q-b.toNat) (by omega) (by omega);rw[show b.toNat+(q-b.toNat)=q from by omega] at this;rw[this] at d;exact d rfl
   rw[Aax,Aed,Aaz (by omega),<- Aax,bG _ _ _ _ _ _ (by omega)]
  ·exact KY.same h h2 _
 ·exact KY.same h h2 _
end
section
local instance qCW:AJ:=Ao
variable {J:Aa} {i:Cs} {m:HM}
theorem qv (n:Nat):rep n [Value.int .u64 0]=rowOf (List.replicate n 0#64):=by
 simp only[rep,rowOf,List.map_replicate]
 induction n with
 | zero=>rfl
 | succ n a=>rw[Aeu,Ahy,a,Aeu]; rfl
theorem qt (n:Nat):rep n [Value.int .i64 0,qIi 0]=CU (List.replicate n (0,0)):=by
 simp only[rep]
 induction n with
 | zero=>rfl
 | succ n a=>rw[Aeu,Ahy,a,Aeu]; rfl
theorem Z9 (k:Nat) {e:Nat} (h0:0<e) (h1:e<=4096) (J:Aa):∃ τ tb wb,JB (k+4) (e:Int) 1 J=some (.tuple #[qVi (some ⟨tb,0,none⟩),qIi 0],J++τ) /\
  DJ (J++τ) tb wb e 1 (List.replicate ((e+63)/64) 0#64)/\J.length<=tb/\J.length<=wb/\tb≠wb:=by
 rw[VC];simp only[show decide ((e:Int)<1)=false from Aaj (by omega),By,show decide ((e:Int)>4096)=false from Aaj (by omega),AI,Ae];rw[LA,MV,IM];simp only[show decide ((0:Int)<((4:Nat):Int))=true from rfl,IS,show ((0:Int)<=0/\(0:Int)<((4:Nat):Int))=True from by simp,Aat,AI,Afm,Ad6,Aa0,Bv,Aca,Ah,Ah9,Em,reduceCtorEq,Aa5,An,show decide ((0:Int)>=0)=true from rfl,Aa4,By];have b:Ar ((e:Int)*1)=(e:Int):=by rw[Ai (by unfold AQ; omega)]; omega
 have c:Ar ((e:Int)+64)=((e+64:Nat):Int):=Ai (by unfold AQ; omega);have d:Ar (((e+64:Nat):Int)-1)=((e+63:Nat):Int):=by rw[Ai (by unfold AQ; omega)]; omega
 have f:((e+63:Nat):Int).tdiv 64=(((e+63)/64:Nat):Int):=rfl;have g:Ar (((e+63)/64:Nat):Int)=(((e+63)/64:Nat):Int):=Ai (by unfold AQ; omega);simp only[b,c,d,f,g,show ((64:Int)=0)=False from by simp,Aa5];rw[Aay (by omega)];simp only[IT,qv];obtain ⟨Z,a⟩:∃ Z,J++[Au.cells [Value.int .i64 1,qIi 2,qIi 4,qIi 8] Ak true]=Z:=⟨_,rfl⟩;have h:Z.length=J.length+1:=by rw[<- a]; simp
 rw[a];refine ⟨[Au.cells [Value.int .i64 1,qIi 2,qIi 4,qIi 8] Ak true,.cells (rowOf (List.replicate ((e+63)/64) 0#64)) BE true,.cells [qIi (e:Int),qIi 1,.slice (some ⟨J.length+1,0,none⟩) ((e+63)/64) ((e+63)/64)] N5 true],J.length+2,J.length+1, ?_, ?_,by omega,by omega,by omega⟩
 ·rw[<- a]; simp
 ·refine ⟨?_, ?_,by simp,h0,h1,.inl rfl⟩
  ·rw[Aet,Acf (by omega),show J.length+2-J.length=2 from by omega]; rfl
  ·rw[Acf (by omega),show J.length+1-J.length=1 from by omega]; rfl
def JF (n:Nat):HM:={ bls:=List.replicate n (0,0),wds:=List.replicate (64*n) 0,stw:=List.replicate ((32*n+63)/64) 0#64,pnw:=List.replicate ((32*n+63)/64) 0#64,pl:=[],fw:=[],births:=0 }
theorem Inv.new (n:Nat):Inv (JF n):=by
 have hs:∀ j,¬ Start (JF n) j:=by
  rintro j ⟨_,h⟩;have:CJ 1 (JF n).stw j=0:=Ps _ _ _;omega
 exact ⟨fun j h=>absurd h (hs j),fun j h=>absurd h (hs j),fun j _ h=>absurd h (hs j),fun j h=>absurd h (hs j),fun id a h=>by simp[JF,getM] at h,Afp _,trivial⟩
theorem Inv2.new (n:Nat):Inv2 (JF n):=by
 have hs:∀ j,¬ Start (JF n) j:=by
  rintro j ⟨_,h⟩;have:CJ 1 (JF n).stw j=0:=Ps _ _ _;omega
 refine ⟨fun j h=>absurd h (hs j),fun a _=>?_⟩;show (List.replicate (64*n) (0:Int)).getD a 0=0;rw[Aax,Aem];split <;> rfl
theorem tR (k:Nat) {n:Nat} (h2:2<=n) (A:n<=64) (J:Aa):∃ J' i,J9 (k+5) (n:Int) J=some (.tuple #[qVi (AU i),qIi 0],J')/\Al J' i (JF n)/\(∀ j ∈ i.l,J.length<=j)/\Br i J J':=by
 rw[eD];have Q:Ar ((n:Int)*64)=((64*n:Nat):Int):=by rw[Ai (by unfold AQ; omega)]; omega
 simp only[show decide ((n:Int)<2)=false from Aaj (by omega),By,show decide ((n:Int)>64)=false from Aaj (by omega),AI,Ae,Q];rw[Aay (by omega),Aay (by omega)];simp only[IT,qt,lM];obtain ⟨o,ho⟩:∃ o:List Au,[Au.cells (CU (List.replicate n (0,0))) Bi true,.cells (Bl (List.replicate (64*n) 0)) Ak true,.map [],.map [],
  .cells [.slice (some ⟨J.length,0,none⟩) n n,.slice (some ⟨J.length+1,0,none⟩) (64*n) (64*n),qVi none,qVi none,.map (some (J.length+2)),.map (some (J.length+3)),qIi 0] FT true]=o:=⟨_,rfl⟩;have w:(J++[Au.cells (CU (List.replicate n (0,0))) Bi true]++[Au.cells (Bl (List.replicate (64*n) 0)) Ak true]++[Au.map []]++[Au.map []] ++
   [Au.cells [.slice (some ⟨J.length,0,none⟩) n n,.slice (some ⟨(J++[Au.cells (CU (List.replicate n (0,0))) Bi true]).length,0,none⟩) (64*n) (64*n),qVi none,qVi none,.map (some (J++[Au.cells (CU (List.replicate n (0,0))) Bi true]++[Au.cells (Bl (List.replicate (64*n) 0)) Ak true]).length),.map (some (J++[Au.cells (CU (List.replicate n (0,0))) Bi true]++[Au.cells (Bl (List.replicate (64*n) 0)) Ak true]++[Au.map []]).length),qIi 0] FT true])=J++o:=by
  rw[<- ho]; simp
 have T:(J++[Au.cells (CU (List.replicate n (0,0))) Bi true]++[Au.cells (Bl (List.replicate (64*n) 0)) Ak true]++[Au.map []]++[Au.map []]).length=J.length+4:=by simp
 rw[w,T];have D:o.length=5:=by rw[<- ho]; rfl
 have g:∀ q,q<5->(J++o)[J.length+q]?=o[q]?:=fun q _=>by rw[Acf (by omega)]; congr 1; omega
 have S:∀ (τ:Aa) q,q<5->(J++o++τ)[J.length+q]?=o[q]?:=fun τ q d=>by rw[AT (by simp; omega)]; exact g q d
 have V:Be (J++o) (J.length+4) 1=some (some ⟨J.length+1,0,none⟩,64*n,64*n):=by
  simp only[Be,CW,g 4 (by omega)]; rw[<- ho]; rfl
 have G:((64*n:Nat):Int).tdiv 2=((32*n:Nat):Int):=by
  rw[show ((64*n:Nat):Int).tdiv 2=(((64*n)/2:Nat):Int) from rfl]; omega
 have H:Ar ((32*n:Nat):Int)=((32*n:Nat):Int):=Ai (by unfold AQ; omega);obtain ⟨M,st,L,B,m,N,O,a3⟩:=Z9 k (e:=32*n) (by omega) (by omega) (J++o);simp only[IN,V,AI,show ((2:Int)=0)=False from by simp,Aa5,G,H,B,LK];have lo:(J++o).length=J.length+5:=by simp[D]
 rw[lo] at N O;obtain ⟨c,v⟩:∃ c,[Value.slice (some ⟨J.length,0,none⟩) n n,.slice (some ⟨J.length+1,0,none⟩) (64*n) (64*n),qVi none,qVi none,.map (some (J.length+2)),.map (some (J.length+3)),qIi 0]=c:=⟨_,rfl⟩;have X:o[4]?=some (.cells c FT true):=by rw[<- ho,<- v]; rfl
 obtain ⟨Z1_,f⟩:∃ Z1_,J++o++M=Z1_:=⟨_,rfl⟩;have E:∀ q,q<5->Z1_[J.length+q]?=o[q]?:=fun q d=>f ▸ S M q d;have Z:J.length+5<=Z1_.length:=by rw[<- f,Aaw,lo]; omega
 rw[f] at m ⊢;have s1:CY Z1_ (J.length+4) 2 (qVi (some ⟨st,0,none⟩))=some (Z1_.set (J.length+4) (.cells (c.set 2 (qVi (some ⟨st,0,none⟩))) FT true)):=by
  simp only[CY,E 4 (by omega),X];rw[Aay (by rw[<- v]; simp)]
 obtain ⟨Z2_,h⟩:∃ Z2_,Z1_.set (J.length+4) (.cells (c.set 2 (qVi (some ⟨st,0,none⟩))) FT true)=Z2_:=⟨_,rfl⟩;rw[h] at s1;have P:∀ q,q≠J.length+4->Z2_[q]?=Z1_[q]?:=fun q d=>by rw[<- h]; exact Aar (Adk d)
 have t:Z2_[J.length+4]?=some (.cells (c.set 2 (qVi (some ⟨st,0,none⟩))) FT true):=by rw[<- h]; exact Aa2 (by omega)
 have L2:Z2_.length=Z1_.length:=by rw[<- h]; simp
 have W:Be Z2_ (J.length+4) 1=some (some ⟨J.length+1,0,none⟩,64*n,64*n):=by
  simp only[Be,CW,t]; rw[<- v]; rfl
 obtain ⟨Y,s,I,u,p,p1,p2,p3⟩:=Z9 k (e:=32*n) (by omega) (by omega) Z2_;have t1:=m.lt;obtain ⟨Z3_,r⟩:∃ Z3_,Z2_++Y=Z3_:=⟨_,rfl⟩;have F:∀ q,q<Z2_.length->Z3_[q]?=Z2_[q]?:=fun q d=>by rw[<- r]; exact AT d
 have L3:Z2_.length<=Z3_.length:=by rw[<- r]; simp
 rw[r] at u p;have K:CY Z3_ (J.length+4) 3 (qVi (some ⟨s,0,none⟩))=some (Z3_.set (J.length+4) (.cells ((c.set 2 (qVi (some ⟨st,0,none⟩))).set 3 (qVi (some ⟨s,0,none⟩))) FT true)):=by
  simp only[CY,F (J.length+4) (by omega),t];rw[Aay (by rw[<- v]; simp)]
 obtain ⟨Z4_,l⟩:∃ Z4_,Z3_.set (J.length+4) (.cells ((c.set 2 (qVi (some ⟨st,0,none⟩))).set 3 (qVi (some ⟨s,0,none⟩))) FT true)=Z4_:=⟨_,rfl⟩;rw[l] at K;have y:∀ q,q≠J.length+4->Z4_[q]?=Z3_[q]?:=fun q d=>by rw[<- l]; exact Aar (Adk d)
 have z:Z4_[J.length+4]?=some (.cells ((c.set 2 (qVi (some ⟨st,0,none⟩))).set 3 (qVi (some ⟨s,0,none⟩))) FT true):=by rw[<- l]; exact Aa2 (by omega)
 have L4:Z4_.length=Z3_.length:=by rw[<- l]; simp
 have b:∀ q,q<Z2_.length->q≠J.length+4->Z4_[q]?=Z1_[q]?:=fun q h1 h2=>(y q h2).trans ((F q h1).trans (P q h2));have x:∀ q,q<4->Z4_[J.length+q]?=o[q]?:=fun q d=>(b _ (by omega) (by omega)).trans (E q (by omega));simp only[s1,AI,W,G,H,u,LK,K];refine ⟨Z4_,⟨J.length+4,J.length,J.length+1,st,L,s,I,J.length+2,J.length+3⟩,rfl, ?_, ?_, ?_⟩
 ·refine ⟨?_, ?_, ?_, ?_, ?_, ?_, ?_, ?_, ?_, ?_, ?_, ?_⟩
  ·rw[z,<- v];simp[JF]
  ·show Z4_[J.length]?=_;have:=x 0 (by omega);rw[Aa0] at this;rw[this,<- ho]; rfl
  ·show Z4_[J.length+1]?=_;rw[x 1 (by omega),<- ho]; rfl
  ·show DJ Z4_ st L (32*(List.replicate n ((0:Int),(0:Int))).length) 1 _;rw[Aet];exact m.same (b _ (by omega) (by omega)) (b _ (by omega) (by omega))
  ·show DJ Z4_ s I (32*(List.replicate n ((0:Int),(0:Int))).length) 1 _;rw[Aet];exact p.same (y _ (by omega)) (y _ (by omega))
  ·show Z4_[J.length+2]?=_;rw[x 2 (by omega),<- ho]; rfl
  ·show Z4_[J.length+3]?=_;rw[x 3 (by omega),<- ho]; rfl
  ·simpa [JF] using h2
  ·simpa [JF] using A
  ·simp[JF]
  ·simp only[Cs.l,Afi,Acd,Aee,Aga,Ahh,List.nodup_nil,Aep,and_true];have:=p.lt;refine ⟨⟨?_, ?_, ?_, ?_, ?_, ?_, ?_, ?_⟩,⟨?_, ?_, ?_, ?_, ?_, ?_, ?_⟩,⟨?_, ?_, ?_, ?_, ?_, ?_⟩,⟨?_, ?_, ?_, ?_, ?_⟩,⟨?_, ?_, ?_, ?_⟩,⟨?_, ?_, ?_⟩,⟨?_, ?_⟩, ?_⟩ <;> omega
  ·intro a;show AQ ((List.replicate (64*n) (0:Int)).getD a 0);rw[Aax,Aem];split <;> (unfold AQ; decide)
 ·intro j C;simp only[Cs.l,Acd,Aee,Aga] at C;omega
 ·refine ⟨by omega,fun j C U=>?_⟩;rw[b j (by omega) (by omega),<- f,Aaq,AT C]
end
section
local instance qCX:AJ:=Ao
variable {J:Aa} {i:Cs} {m:HM}
structure ZD where
 k:Int
 a:Int
 b:Int
 c:Int
 r:Int
 d:Int
 s:Int
def ZD.cells (x:ZD):List Value:=[qIi x.k,qIi x.a,qIi x.b,qIi x.c,qIi x.r,qIi x.d,qIi x.s]
def ZD.ok (x:ZD):Prop:=AQ x.k/\AQ x.a/\AQ x.b/\AQ x.c/\AQ x.r/\AQ x.d/\AQ x.s
theorem Mt.after {Z:Aa} {mm:Option (Value × Aa)} {r:Int × HM} (h:Mt mm Z i r) (b:Br i J Z):Mt mm J i r:=by
 obtain ⟨J',e,h1,a⟩:=h;exact ⟨J',e,h1,b.trans a⟩
def doR (m:HM) (x:ZD):Int × HM:=
 if x.k=0 then BF m x.a 1 1 x.b 0 0 else if x.k=1 then BF m x.a x.b 2 x.c 3 x.c else if x.k=2 then CZ m x.a else if x.k=3 then vF m x.a x.b else
 if x.k=4 then (CX m x.a x.r x.d x.s).2 else if x.k=5 then Hw m x.a else if x.k=6 then yH m x.a x.b else if x.k=7 then BU m x.a x.b x.c else
 if x.k=8 then GU m x.a x.b x.c else if x.k=9 then yJ m x.a x.b else if x.k=10 then MM m x.a 1 else if x.k=11 then MM m x.a 0 else
 if x.k=12 then (0,{ m with fw:=[] }) else (0,m)
def uj:List ZD->List Value
 | []=>[]
 | x::l=>x.cells++uj l
def mN (J:Aa) (p:qOi) (l:List ZD):Prop:=l=[] \/ ∃ ab T rw,p=some ⟨ab,0,none⟩/\J[ab]?=some (.cells (uj l) T rw)
theorem mN.DR {J J':Aa} {p:qOi} {l:List ZD} (h:mN J p l) (d:Br i J J') (hi:l≠[] -> ∀ a,p=some a->a.block ∉ i.l):mN J' p l:=by
 by_cases c:l=[]
 ·exact .inl c
 rcases h with h | ⟨ab,T,b,rfl,h⟩
 ·exact .inl h
 ·exact .inr ⟨ab,T,b,rfl,(d.same _ (Af h) (hi c _ rfl)).trans h⟩
def runM (m:HM) (l:List ZD):HM:=l.foldl (fun m x=>(doR m x).2) m
end
section
local instance qCG:AJ:=Ao
variable {J:Aa} {i:Cs} {m:HM}
theorem LR {lo n j:Nat}:j ∈ D8 m lo n↔lo<=j/\j<lo+n/\CJ 1 m.stw j=1:=by
 unfold D8;rw[Aea,Agh];simp[and_assoc]
theorem xJ {j:Nat}:j ∈ D8 m 0 (32*m.bls.length)↔Start m j:=by
 rw[LR]; unfold Start; simp
theorem XD (lo n:Nat):(D8 m lo n).Nodup:=(List.nodup_range' (step:=1) (by decide)).filter _
theorem OH (l:List Nat) {x:Nat} (a:x<l.length):(Cq l).getD x 0=((2*l[x]:Nat):Int):=by
 simp[Cq,Aau a]
end
section
local instance qCS:AJ:=Ao
variable {J:Aa} {i:Cs} {m:HM}
theorem GW (k:Nat) (h:Al J i m):AF (k+2) (AU i) J=some (qIi ((m.bls.length:Nat):Int),J):=by
 rw[SF,JY _ h];simp only[AI,An,Aa4,By,IN,Aa0,h.H7]
theorem jO (k:Nat) (h:Al J i m) {b:Nat} (hb:b<m.bls.length):Bn (k+3) (AU i) (b:Int) J=some (qIi (m.bls.getD b (0,0)).1,J):=by
 rw[NB];have a:decide ((b:Int)<0)=false:=Aaj (by omega);have c:decide ((b:Int)>=((m.bls.length:Nat):Int))=false:=Aaj (by omega);simp only[a,By,GW _ h,AI,Ah,c,IN,Aa0,h.H7];rw[Aay (by omega)];simp only[AI,IT,IN,(h.Vy hb).1]
theorem bd (k:Nat) (h:Al J i m) {b:Nat} (hb:b<m.bls.length):BH (k+3) (AU i) (b:Int) J=some (qIi (m.bls.getD b (0,0)).2,J):=by
 rw[K8];have a:decide ((b:Int)<0)=false:=Aaj (by omega);have c:decide ((b:Int)>=((m.bls.length:Nat):Int))=false:=Aaj (by omega);simp only[a,By,GW _ h,AI,Ah,c,IN,Aa0,h.H7];rw[Aay (by omega)];simp only[AI,IT,IN,(h.Vy hb).2]
def iR (m:HM) (a:Int):Bool:=Aw m a && decide (CJ 1 m.pnw (a.toNat/2)=1)
theorem rj (k:Nat) (h:Al J i m) (a:Int) (e:AQ a):Gt (k+5) (AU i) a J=some (.bool (iR m a),J):=by
 have l:=h.nt;rw[SH,Tm _ h a e];simp only[AI,An];unfold iR;cases f:Aw m a with
 | false=>simp only[By,AI,Ag2]
 | true=>
   obtain ⟨j,rfl,hs⟩:=AY f;have g:=hs.1;have t1:((2*j:Nat):Int).tdiv 2=(j:Int):=by
    rw[show ((2*j:Nat):Int).tdiv 2=(((2*j)/2:Nat):Int) from rfl]; omega
   have c:Ar (j:Int)=(j:Int):=Ai (by unfold AQ; omega);have d:DC (k+4) (some ⟨i.pn,0,none⟩) (j:Int) J=some (qIi (CJ 1 m.pnw j:Int),J):=by
    have:=mQ (k+1) h.pn (j:Int);rw[Aay (by omega),IT] at this;exact this
   have hb:(((CJ 1 m.pnw j:Nat):Int) == 1)=decide (CJ 1 m.pnw j=1):=by
    by_cases b:CJ 1 m.pnw j=1
    ·simp[b]
    ·have:¬ ((CJ 1 m.pnw j:Nat):Int)=1:=by omega
     simp[b,this]
   simp only[IS,IN,h.cH,AI,show ((2:Int)=0)=False from by simp,Aa5,t1,c,d,Ah,Af7,show ((2*j:Nat):Int).toNat/2=j from by omega,hb]
def CC (m:HM) (j:Nat):Int:=(m.wds.getD (2*j+1) 0).tdiv 4096
theorem ub (k:Nat) (h:Al J i m) {j:Nat} (hs:Start m j):∃ τ,AL (k+6) (AU i) ((2*j:Nat):Int) J=some (.tuple #[.agg #[qIi (Av m j),qIi (Bp m j),qIi (CC m j)],qIi 0],J++τ):=by
 have hw:=h.wl;have f:=h.nt;have e:=hs.1;rw[NA];simp only[Ae];have h1:=h.app [Au.cells [Value.int .i64 0,qIi 0,qIi 0] Ad true];obtain ⟨τ,a⟩:=dE (k+4) (m.wds.getD (2*j+1) 0) (h.wi _) (J++[Au.cells [Value.int .i64 0,qIi 0,qIi 0] Ad true]);have b:Ar (((2*j:Nat):Int)+1)=((2*j+1:Nat):Int):=Ai (by unfold AQ; omega);simp only[O9 _ h1 _ (show AQ ((2*j:Nat):Int) by unfold AQ; omega),RU hs,Aat,AI,Ah,Abx,By,IN,h1.Fa,b,IT,Acg];rw[Aay (by omega)];simp only[h1.uX (show 2*j+1<m.wds.length by omega),AI,a,HA];rw[show ((m.wds.getD (2*j+1) 0).tmod 4096).tdiv 16=Bp m j from rfl,show (m.wds.getD (2*j+1) 0).tmod 16=Av m j from rfl,show (m.wds.getD (2*j+1) 0).tdiv 4096=CC m j from rfl];refine ⟨[Au.cells [qIi (Av m j),qIi (Bp m j),qIi (CC m j)] Ad true]++τ, ?_⟩;have c:∀ x y z u v w:Value,H5 (J++[Au.cells [x,y,z] Ad true]++τ) J.length 0 [u,v,w]=some (J++[Au.cells [u,v,w] Ad true]++τ):=by
  intro x y z u v w; simp[H5,Bb]
 have d:∀ u v w:Value,Nm (J++[Au.cells [u,v,w] Ad true]++τ) J.length 0 3=some [u,v,w]:=by
  intro u v w; simp[Nm]
 rw[<- Aaq];simp only[c,AI,d,Lh]
theorem RR (h:Inv m) {j x:Nat} (hs:Start m j) (a:(x:Int)<Av m j):BG m ((2*j:Nat):Int) (x:Int) false=(((2*j+2+x:Nat):Int),0):=by
 unfold BG;rw[RU hs];simp only[Aat,show ((2*j:Nat):Int).toNat/2=j from by omega,Ab8,Aa5];rw[Aay (by omega)];congr 1
theorem Zr (h:Inv m) {j x:Nat} (hs:Start m j) (a:(x:Int)<Bp m j):BG m ((2*j:Nat):Int) (x:Int) true=(((2*j+2+(Av m j).toNat+x:Nat):Int),0):=by
 have:=h.size hs;unfold BG;rw[RU hs];simp only[Aat,show ((2*j:Nat):Int).toNat/2=j from by omega];rw[Aay (by omega)];congr 1;omega
theorem Ns (m:HM) (lo n:Nat):(D8 m lo n).length<=n:=by
 have:(D8 m lo n).length<=(List.range' lo n).length:=Afc _ _;simpa using this
structure Hf (J:Aa) (s:Bx) (J':Aa) (s':Bx):Prop where
 len:J.length<=J'.length
 same:∀ q,q<J.length->(∀ a,s.1=some a->a.block≠q)->J'[q]?=J[q]?
 new:s'=s \/ ∀ a,s'.1=some a->J.length<=a.block
theorem Hf.refl (J:Aa) (s:Bx):Hf J s J s:=⟨Aa1 _,fun _ _ _=>rfl,.inl rfl⟩
theorem Hf.app (J:Aa) (s:Bx) (τ:Aa):Hf J s (J++τ) s:=⟨by simp,fun q a _=>AT a,.inl rfl⟩
theorem Hf.trans {a b c:Aa} {s t u:Bx} (h:Hf a s b t) (g:Hf b t c u):Hf a s c u:=by
 refine ⟨Adt h.len g.len,fun q f e=>?_, ?_⟩
 ·refine (g.same q (Acp f h.len) fun x d=>?_).trans (h.same q f e);rcases h.new with rfl | hw
  ·exact e x d
  ·have:=hw x d; omega
 ·rcases g.new with rfl | hw
  ·exact h.new
  ·exact .inr fun x d=>Adt h.len (hw x d)
def Off (i:Cs) (s:Bx):Prop:=∀ a,s.1=some a->a.block ∉ i.l
theorem Hf.heap {J':Aa} {s s':Bx} (g:Hf J s J' s') (h:Al J i m) (d:Off i s):Al J' i m/\Off i s':=by
 refine ⟨h.Ax fun j c=>g.same j (h.lt j c) fun a b e=>d a b (e ▸ c), ?_⟩;rcases g.new with rfl | hw
 ·exact d
 ·intro a b hm;have:=hw a b;have:=h.lt _ hm;omega
theorem Hf.other {J':Aa} {s s':Bx} (g:Hf J s J' s') {q:Nat} {o:Au} (h:J[q]?=some o) (hs:∀ a,s.1=some a->a.block≠q):J'[q]?=some o /\ ∀ a,s'.1=some a->a.block≠q:=by
 have c:=Af h;refine ⟨(g.same q c hs).trans h, ?_⟩;rcases g.new with rfl | hw
 ·exact hs
 ·intro a b e;have:=hw a b;omega
theorem WV (J:Aa) (s:Bx) (l e:List Int) (src:qOi) (c:Nat) (o:l.length+e.length<=1000000) (hs:CB 0 J s l) (f:e≠[]) (t:Da J 1 src e.length=some (Bl e)):
  ∃ s' J',AH P Ak s (src,e.length,c) J=some (s',J')/\Hf J s J' s'/\CB 0 J' s' (l++e):=by
 have hp:0<e.length:=Ae1.2 f;unfold AH LH;simp only[wg,uC,tB,AI,t];have u:(¬ (Gq (qIi 0)=false/\some 1=some (Value.cells (qIi 0)).size/\0<(Value.cells (qIi 0)).size))=False:=by simp[Gq,Value.cells]
 simp only[u,Aa5];rcases hs with ⟨rfl,rfl⟩ | ⟨b,hb,rfl,i,d⟩
 ·have r:KF (0+e.length) 8/\0<8:=by
   unfold KF;refine ⟨⟨?_, ?_⟩,by decide⟩ <;> simp at o <;> omega
  simp only[show ¬ (0+e.length<=0) from by omega,Aa5,r,Afz,Aat,HU,IS,qJ];refine ⟨_,_,rfl,⟨by simp,fun q h _=>AT h,.inr fun a g=>by cases g; exact Aa1 _⟩,.inr ⟨J.length,Ado _,by simp,by simpa using f,by simp⟩⟩
 ·have r:KF (l.length+e.length) 8/\0<8:=by
   unfold KF;refine ⟨⟨?_, ?_⟩,by decide⟩ <;> omega
  have n:=Af d;have j:elemAt J b=some Ak:=by simp[elemAt,d]
  have k:Nm J b 0 (l.length*1)=some (Bl l):=by
   simp only[Nm,d,Cm,Acg,IN,Aa1,Aat,Adf];rw[Ady (by rw[Cm]; exact Aa1 _)]
  have m:H6 J b=true:=by simp[H6,d]
  simp only[show ¬ (l.length+e.length<=l.length) from by omega,Aa5,r,Afz,Aat,HU,Aew,By,AI,j,k,m,IS,qJ];refine ⟨_,_,rfl,⟨by simp,fun q h p=>?_,.inr fun a g=>?_⟩,.inr ⟨J.length,Ado _,by simp,by simp[f], ?_⟩⟩
  ·rw[AT (by simpa using h),Aar (p _ rfl)]
  ·cases g; exact Aa1 _
  ·rw[KS];simp
def KM (m:HM) (a n:Nat):List Int:=(List.range' a n).map fun x=>m.wds.getD x 0
theorem Rj (m:HM) (a n:Nat):KM m a (n+1)=m.wds.getD a 0::KM m (a+1) n:=by simp[KM,Af8]
theorem DH (m:HM) (a n:Nat):(KM m a n).length=n:=by simp[KM]
theorem CB.up {lo:Nat} {s:Bx} {l:List Int} (h:CB 0 J s l) (c:∀ a,s.1=some a->lo<=a.block):CB lo J s l:=by
 rcases h with h | ⟨b,_,rfl,h⟩
 ·exact .inl h
 ·exact .inr ⟨b,c _ rfl,rfl,h⟩
theorem Hf.behind {J J':Aa} {τ:Aa} {s s':Bx} (g:Hf (J++τ) s J' s') (hs:∀ a,s.1=some a->J.length<=a.block):(∃ d,J'=J++d) /\ ∀ a,s'.1=some a->J.length<=a.block:=by
 refine ⟨⟨J'.drop J.length, ?_⟩, ?_⟩
 ·have hlen:=g.len;simp at hlen;apply Ad8;intro q;by_cases c:q<J.length
  ·rw[AT c,g.same q (by simp; omega) (fun a b e=>by have:=hs a b; omega),AT c]
  ·rw[Acf (by omega),Ad0];congr 1; omega
 ·rcases g.new with rfl | hw
  ·exact hs
  ·intro a b;have:=hw a b;simp at this; omega
end
section
local instance qCZ:AJ:=Ao
variable {J:Aa} {i:Cs} {m:HM}
theorem eqW (a:Addr) (n c:Nat):Lq P FR (.slice (some a) n c) (.slice none 0 0)=some false:=by kernel_rfl
theorem nh {E:TypeId} {s by_:Nat} {z:Value} (hs:HV P E=some s) (hb:bytesOf P E=some by_) (i:FV P E=some z) (e:Gq z=false) (f:z.cells.size=s) (d:0<s) (a:0<by_) (b:by_<=1000)
  (J:Aa) (p:qOi) (n c:Nat) (m:0<n) (h:n<=100000) (row:List Value) (g:Da (J++[.cells [] E true]) s p n=some row):
  AH P E (some ⟨J.length,0,some 0⟩,0,0) (p,n,c) (J++[.cells [] E true])=some ((some ⟨J.length+1,0,none⟩,n,n),J++[Au.cells [] E true,.cells row E true]):=by
 unfold AH LH;have h1:(¬ (Gq z=false/\some s=some z.cells.size/\0<z.cells.size))=False:=by
  rw[e,f]; simp[d]
 have r:KF (0+n) by_/\0<by_:=by
  unfold KF;have:(0+n)*by_<=100000*1000:=Nat.mul_le_mul (by omega) b;refine ⟨⟨by omega,by omega⟩,a⟩
 have j:elemAt (J++[.cells [] E true]) J.length=some E:=by simp[elemAt]
 have k:Nm (J++[.cells [] E true]) J.length 0 (0*s)=some []:=by simp[Nm]
 have l:H6 (J++[.cells [] E true]) J.length=true:=by simp[H6]
 simp only[hs,hb,i,g,AI,h1,Aa5,show ¬ (0+n<=0) from by omega,r,Afz,Aat,HU,Ahu,IS,qJ];simp
theorem Np (J τ:Aa) {ρ:Type} (x:Option ρ):FQ J (J++τ) x=x:=iV J τ x
end
section
local instance qLB:AJ:=Ao
variable {J:Aa} {i:Cs} {m:HM}
def B0 (m:HM):Prop:=(m.bls.getD 0 (0,0)).1=0
def BK (m:HM) (r:Int × HM):Prop:=(r.2.bls.getD 0 (0,0)).1=(m.bls.getD 0 (0,0)).1
theorem IU {c:Prop} [Decidable c] {r a:Int × HM} (h:c->BK m r) (b:¬ c->BK m a):BK m (if c then r else a):=by
 split
 ·exact h ‹_›
 ·exact b ‹_›
theorem xp {r:Int × HM} (h:r.2.bls=m.bls):BK m r:=by unfold BK; rw[h]
theorem XV (m:HM) (b c x y a d:Int):BK m (BF m b c x y a d):=by
 unfold BF;refine IU (fun h1=>IU (fun _=>?_) fun _=>rfl) fun _=>rfl;unfold BK;rw[Aax,Aed,Aaz (by omega),<- Aax,bG _ _ _ _ _ _ (by omega)]
theorem zJ (m:HM) (x:ZD):BK m (doR m x):=by
 unfold doR;refine IU (fun _=>XV _ _ _ _ _ _ _) fun _=>IU (fun _=>XV _ _ _ _ _ _ _) fun _=>IU (fun _=>?_) fun _=>IU (fun _=>?_) fun _=>IU (fun _=>?_) fun _=>IU (fun _=>?_) fun _=>IU (fun _=>?_) fun _=>IU (fun _=>?_) fun _=>IU (fun _=>?_) fun _=>IU (fun _=>?_) fun _=>IU (fun _=>?_) fun _=>IU (fun _=>?_) fun _=>IU (fun _=>rfl) fun _=>rfl
 ·unfold CZ;refine IU (fun a=>IU (fun _=>?_) fun _=>rfl) fun _=>rfl;obtain ⟨n,e,h1,_⟩:=cw a;unfold BK;rw[Rd,Aaz (by omega)]
 ·unfold vF;exact IU (fun a=>gY _ _ _ _ _) fun _=>rfl
 ·apply xp;unfold CX;split
  ·split <;> rfl
  ·rfl
 ·unfold Hw; exact IU (fun _=>rfl) fun _=>rfl
 ·unfold yH; exact IU (fun _=>IU (fun _=>rfl) fun _=>rfl) fun _=>rfl
 ·unfold BU; exact IU (fun _=>IU (fun _=>rfl) fun _=>rfl) fun _=>rfl
 ·unfold GU; exact IU (fun _=>rfl) fun _=>rfl
 ·unfold yJ; refine IU (fun _=>?_) fun _=>rfl;split
  ·rfl
  ·exact IU (fun _=>rfl) fun _=>rfl
 ·unfold MM; exact IU (fun _=>rfl) fun _=>rfl
 ·unfold MM; exact IU (fun _=>rfl) fun _=>rfl
theorem B0.do (h:B0 m) (x:ZD):B0 (doR m x).2:=(zJ m x).trans h
theorem B0.run:∀ (l:List ZD) (m:HM),B0 m->B0 (runM m l)
 | [],m,h=>h
 | x::l,m,h=>B0.run l _ (h.do x)
theorem B0.new (n:Nat):B0 (JF n):=by
 unfold B0 JF;simp only[Aax,Aem];split <;> rfl
theorem yp (k:Nat) (h:Al J i m) {b:Nat} (hb:b<m.bls.length):Ft (k+3) (AU i) (b:Int) J=some (.bool (decide (1<=b/\(m.bls.getD b (0,0)).1=1)),J):=by
 rw[Ob];simp only[ay _ h,AI,An];by_cases h1:1<=b
 ·rw[Aak (show 1<=(b:Int)/\(b:Int)<((m.bls.length:Nat):Int) by omega)];simp only[IS,AI,IN,Aa0,h.H7];rw[Aay (by omega)];simp only[AI,IT,IN,(h.Vy hb).1,h1,true_and];rfl
 ·rw[Aaj (show ¬ (1<=(b:Int)/\(b:Int)<((m.bls.length:Nat):Int)) by omega)];simp[h1]
theorem ZA (a b:Nat):(a:Int).tdiv (b:Int)=((a/b:Nat):Int):=rfl
theorem Kx (a b:Nat):(a:Int).tmod (b:Int)=((a % b:Nat):Int):=rfl
theorem U7 {α:Type} {l:List α} {q:Nat} {x:α} (h:l[q]?=some x):l.set q x=l:=by
 apply Ad8;intro p;rw[Aed];split
 ·rename_i e;subst e;rw[Aay (Af h),h]
 ·rfl
theorem CB.ge {lo:Nat} {s:Bx} {l:List Int} (h:CB lo J s l):∀ a,s.1=some a->lo<=a.block/\a.block<J.length:=by
 rcases h with ⟨_,rfl⟩ | ⟨b,h1,rfl,_,c⟩
 ·intro a e; cases e
 ·intro a e; cases e; exact ⟨h1,Af c⟩
end
section
local instance qCE:AJ:=Ao
variable {J:Aa} {i:Cs} {m:HM}
def Ct (E:TypeId) (s:Nat) (J:Aa) (sl:Bx) (n:Nat) (row:List Value):Prop:=
 (n=0/\row=[]/\sl=(none,0,0)) \/ ∃ b,sl=(some ⟨b,0,none⟩,n,n)/\0<=n/\row.length=n*s/\J[b]?=some (.cells row E true)
theorem Ct.len {E:TypeId} {s n:Nat} {sl:Bx} {row:List Value} (h:Ct E s J sl n row):sl.2.1=n:=by
 rcases h with ⟨rfl,_,rfl⟩ | ⟨b,rfl,_⟩ <;> rfl
theorem Ct.form {E:TypeId} {s n:Nat} {sl:Bx} {row:List Value} (h:Ct E s J sl n row):sl=(sl.1,n,n):=by
 rcases h with ⟨rfl,_,rfl⟩ | ⟨b,rfl,_⟩ <;> rfl
theorem Ct.nil (E:TypeId) (s:Nat) (J:Aa):Ct E s J (none,0,0) 0 []:=.inl ⟨rfl,rfl,rfl⟩
theorem Ct.Ax {E:TypeId} {s n:Nat} {J':Aa} {sl:Bx} {row:List Value} (h:Ct E s J sl n row) (hs:∀ a,sl.1=some a->J'[a.block]?=J[a.block]?):Ct E s J' sl n row:=by
 rcases h with h | ⟨b,rfl,h1,c,d⟩
 ·exact .inl h
 ·exact .inr ⟨b,rfl,h1,c,by rw[hs _ rfl]; exact d⟩
theorem Ct.lt {E:TypeId} {s n:Nat} {sl:Bx} {row:List Value} (h:Ct E s J sl n row):∀ a,sl.1=some a->a.block<J.length:=by
 rcases h with ⟨_,_,rfl⟩ | ⟨b,rfl,h1,d,c⟩
 ·intro a e; cases e
 ·intro a e; cases e; exact Af c
theorem Ct.app {E:TypeId} {s n:Nat} {sl:Bx} {row:List Value} (h:Ct E s J sl n row) (τ:Aa):Ct E s (J++τ) sl n row:=
 h.Ax fun a b=>AT (h.lt a b)
theorem CB.sl {lo:Nat} {s:Bx} {l:List Int} (h:CB lo J s l):Ct Ak 1 J s l.length (Bl l):=by
 rcases h with ⟨rfl,rfl⟩ | ⟨b,h1,rfl,c,a⟩
 ·exact .inl ⟨rfl,rfl,rfl⟩
 ·exact .inr ⟨b,rfl,Ado _,by rw[Cm,Acg],a⟩
theorem VX {E:TypeId} {s by_:Nat} {z:Value} (hs:HV P E=some s) (hb:bytesOf P E=some by_) (B:FV P E=some z) (o:Gq z=false) (p:z.cells.size=s) (l:0<s) (g:0<by_) (h:by_<=1000)
  (J:Aa) (sl:Bx) (n:Nat) (row:List Value) (src:qOi) (n' c:Nat) (e:List Value) (j:n+n'<=1000000) (y:0<n') (t:e.length=n'*s) (m:Ct E s J sl n row) (A:Da J s src n'=some e):
  ∃ s' J',AH P E sl (src,n',c) J=some (s',J')/\Hf J sl J' s'/\Ct E s J' s' (n+n') (row++e):=by
 unfold AH LH;simp only[hs,hb,B,AI,A];have h1:(¬ (Gq z=false/\some s=some z.cells.size/\0<z.cells.size))=False:=by
  rw[o,p]; simp[l]
 simp only[h1,Aa5];have hm:(n+n')*by_<=1000000*1000:=Nat.mul_le_mul j h;have r:KF (n+n') by_/\0<by_:=⟨⟨by omega,by omega⟩,g⟩;rcases m with ⟨rfl,rfl,rfl⟩ | ⟨b,rfl,hp,i,d⟩
 ·simp only[show ¬ (0+n'<=0) from by omega,Aa5,r,Afz,Aat,HU,IS,qJ];refine ⟨_,_,rfl,⟨by simp,fun q k _=>AT k,.inr fun a f=>by cases f; exact Aa1 _⟩,.inr ⟨J.length,by simp,by omega,by simpa using t,by simp⟩⟩
 ·have x:=Af d;have u:elemAt J b=some E:=by simp[elemAt,d]
  have v:Nm J b 0 (n*s)=some row:=by
   simp only[Nm,d,i,IN,Aa1,Aat,Adf];rw[Ady (Aho i)]
  have w:H6 J b=true:=by simp[H6,d]
  simp only[show ¬ (n+n'<=n) from by omega,Aa5,r,Afz,Aat,HU,Aew,By,AI,u,v,w,IS,qJ];refine ⟨_,_,rfl,⟨by simp,fun q k j=>?_,.inr fun a f=>?_⟩,.inr ⟨J.length,rfl,by omega,by rw[Aaw,i,t,Af6],by simp⟩⟩
  ·rw[AT (by simpa using k),Aar (j _ rfl)]
  ·cases f; exact Aa1 _
theorem NM {E:TypeId} {s by_:Nat} {z:Value} (hs:HV P E=some s) (hb:bytesOf P E=some by_) (p:FV P E=some z) (l:Gq z=false) (m:z.cells.size=s) (j:0<s) (b:0<by_) (d:by_<=1000)
  (J:Aa) (sl:Bx) (n:Nat) (row:List Value) (n' c:Nat) (a:List Value) (T:TypeId) (o:n+n'<=1000000) (f:0<n') (i:a.length=n'*s) (k:Ct E s J sl n row):
  ∃ s' J',AH P E sl (some ⟨J.length,0,none⟩,n',c) (J++[.cells a T true])=some (s',J')/\Hf J sl J' s'/\Ct E s J' s' (n+n') (row++a):=by
 obtain ⟨s',J',e,g,h⟩:=VX hs hb p l m j b d (J++[.cells a T true]) sl n row (some ⟨J.length,0,none⟩) n' c a o f i (k.app _) (by
  simp only[Da,Nm,Ab5,i,IN,Aa1,Aat,Adf];rw[Ady (Aho i)]);exact ⟨s',J',e,(Hf.app _ _ _).trans g,h⟩
theorem ints_at {lo:Nat} {s:Bx} {l:List Int} (h:CB lo J s l) {x:Nat} (a:x<l.length):∃ b,s=(some ⟨b,0,none⟩,l.length,l.length)/\lo<=b/\J[b]?=some (.cells (Bl l) Ak true)/\Aj .i64 J b x=some (l.getD x 0):=by
 rcases h with ⟨he,_⟩ | ⟨b,h1,e,f,c⟩
 ·rw[he] at a; simp at a
 ·refine ⟨b,e,h1,c, ?_⟩;have d:CB lo J (some ⟨b,0,none⟩,l.length,l.length) l:=.inr ⟨b,h1,rfl,f,c⟩;exact d.ld a
theorem nZ {b x:Nat} {l:List Int} {T:TypeId} {a:Bool} (h:J[b]?=some (.cells (Bl l) T a)) (c:x<l.length):Aj .i64 J b x=some (l.getD x 0):=by
 simp only[Aj,CW,h];simp[Bl,Aeg,Aau c,Aax,Bk]
theorem oO {b x:Nat} {l:List Int} {T:TypeId} (h:J[b]?=some (.cells (Bl l) T true)) (a:x<l.length) (v:Int):CY J b x (qIi v)=some (J.set b (.cells (Bl (l.set x v)) T true)):=by
 simp only[CY,h];rw[Aay (by rw[Cm]; exact a),gh]
theorem Nc (f:Inv m) {j:Nat} (hs:Start m j):m.wds.getD (2*j+1) 0=Av m j+16*Bp m j+4096*CC m j/\0<=Av m j/\Av m j<=15/\0<=Bp m j/\Bp m j<=200/\0<=CC m j/\CC m j<=3/\words (Av m j) (Bp m j) (CC m j)=(sz m j:Int):=by
 obtain ⟨r,d,k,a,he⟩:=f.good j hs;obtain ⟨g,h,i,_⟩:=Kk a;have b:Av m j=r:=by unfold Av; rw[he,g]
 have c:Bp m j=d:=by unfold Bp; rw[he,h]
 have e:CC m j=k:=by unfold CC; rw[he,i]
 have hw:words (Av m j) (Bp m j) (CC m j)=(sz m j:Int):=by
  unfold sz;rw[jo]; rfl
 rw[b,c,e] at *;refine ⟨he, ?_⟩;simp[valid] at a;refine ⟨a.1,a.2.1,a.2.2.1,a.2.2.2.1,a.2.2.2.2.1,a.2.2.2.2.2.1,hw⟩
theorem UP {m m':HM}:∀ (n a b:Nat),(∀ q,q<n->m'.wds.getD (b+q) 0=m.wds.getD (a+q) 0)->KM m' b n=KM m a n
 | 0,a,b,h=>rfl
 | n+1,a,b,h=>by
   rw[Rj,Rj,UP n (a+1) (b+1) (fun q c=>by have:=h (q+1) (by omega); rw[show b+1+q=b+(q+1) from by omega,show a+1+q=a+(q+1) from by omega]; exact this)];have:=h 0 (by omega);rw[Aa0,Aa0] at this;rw[this]
theorem U4 (m:HM):∀ (n a q:Nat),q<n->(KM m a n)[q]?=some (m.wds.getD (a+q) 0)
 | 0,a,q,h=>by omega
 | n+1,a,0,h=>by rw[Rj]; rfl
 | n+1,a,q+1,h=>by rw[Rj,Ace,U4 m n (a+1) q (by omega),show a+1+q=a+(q+1) from by omega]
end
end
end Go.Proofs.YtjbledomkmdkmaaGreat
