/- Part 7. -/
import Derived.Test.YtjbledomkmdkmaaGreatP6
set_option linter.unusedVariables false
set_option linter.unusedSimpArgs false
set_option linter.unusedSectionVars false
namespace Go.Proofs.YtjbledomkmdkmaaGreat
open Go Go.AX
noncomputable section
section
set_option maxRecDepth 100000
section
variable [AH]
theorem UW (k h a J):D5 (k+1) h a J =
 h.bind fun c=>(Bd J c.block (c.off+1)).bind fun e=>if 0<=(Ar (a+1))/\(Ar (a+1))<(e.2.1:Nat) then e.1.bind fun d=>(Aj .i64 J d.block (d.off+(Ar (a+1)).toNat*1)).bind fun i=>(Hi k i J).bind fun f=>Ms f.1 fun j l m=>(Hh k j l m f.2).bind fun g=>(Bl .i64 g.1).bind fun b=>some (qIi b,g.2) else none:=by
 simp only[D5,Hh,Hi,Ac]; kernel_rfl
theorem KV (k n i0 a c J):Ep k (n+1) i0 a c J =
 bif decide (c<16) then (Ae J (.cells [qIi 0,qIi i0,qIi c] Am true) fun h5 d=>(AG P Am (a.1,a.2.1,a.2.2) (some ⟨h5,0,none⟩,1,1) d).bind fun b=>Ep k n i0 (b.1.1,b.1.2.1,b.1.2.2) (Ar (c+1)) b.2) else (some (.exit 2,[.slice a.1 a.2.1 a.2.2],J)):=by
 simp only[Ep,Ac]; kernel_rfl
theorem KU (k n d a b J):Eo k (n+1) d a b J =
 d.bind fun f=>(Bd J f.block (f.off+0)).bind fun g=>bif decide (b<((g.2.1:Nat):Int)) then ((Ep k k b (a.1,a.2.1,a.2.2) (0:Int) J).bind fun e=>if e.1 = .exit 2 then (Sc e.2.1 fun c=>Eo k n d (c.1,c.2.1,c.2.2) (Ar (b+1)) e.2.2) else none) else (some (.exit 0,[.slice a.1 a.2.1 a.2.2],J)):=by
 simp only[Eo,Ep,Ac]; kernel_rfl
theorem KW (k n b c J):Er k (n+1) b c J =
 bif decide (c<16) then (Ae J (.cells [qIi 1,qIi 0,qIi c] Am true) fun d e=>(AG P Am (b.1,b.2.1,b.2.2) (some ⟨d,0,none⟩,1,1) e).bind fun a=>Er k n  (a.1.1,a.1.2.1,a.1.2.2) (Ar (c+1)) a.2) else (some (.exit 4,[.slice b.1 b.2.1 b.2.2],J)):=by
 simp only[Er,Ac]; kernel_rfl
theorem KX (k n g b d J):Es k (n+1) g b d J =
 g.bind fun c=>(Bd J c.block (c.off+2)).bind fun f=>bif decide (d<((f.2.1:Nat):Int)) then (Ae J (.cells [qIi 2,qIi 0,qIi d] Am true) fun e h=>(AG P Am (b.1,b.2.1,b.2.2) (some ⟨e,0,none⟩,1,1) h).bind fun a=>Es k n g (a.1.1,a.1.2.1,a.1.2.2) (Ar (d+1)) a.2) else (some (.exit 6,[.slice b.1 b.2.1 b.2.2],J)):=by
 simp only[Es,Ac]; kernel_rfl
theorem R4 (k g J):Hd (k+1) g J =
 (AW k g J).bind fun h=>(Dk h.1).bind fun i=>bif !i then (some (.slice none 0 0,h.2)) else ((Eo k k g (none,0,0) (0:Int) h.2).bind fun d=>if d.1 = .exit 0 then (Sc d.2.1 fun a=>(Er k k  (a.1,a.2.1,a.2.2) (0:Int) d.2.2).bind fun e=>if e.1 = .exit 4 then (Sc e.2.1 fun b=>(Es k k g (b.1,b.2.1,b.2.2) (0:Int) e.2.2).bind fun f=>if f.1 = .exit 6 then (Sc f.2.1 fun c=>some (.slice c.1 c.2.1 c.2.2,f.2.2)) else none) else none) else none):=by
 simp only[Hd,Eo,Er,Es,AW,Ac]; kernel_rfl
theorem TJ (k v d e f J):FH (k+1) v d e f J =
 Ae J (.cells [qIi d,qIi e,qIi f] Am true) fun h1 s2=>(Aj .i64 s2 h1 (0+0)).bind fun u=>bif u == 0 then ((Aj .i64 s2 h1 (0+1)).bind fun y=>(bif decide (y>=0) then (Aj .i64 s2 h1 (0+1)).bind fun z=>v.bind fun w=>(Bd s2 w.block (w.off+0)).bind fun x=>some (decide (z<((x.2.1:Nat):Int)),s2) else some (false,s2)).bind fun l=>(bif l.1 then (Aj .i64 l.2 h1 (0+2)).bind fun A=>some (decide (A>=0),l.2) else some (false,l.2)).bind fun b=>(bif b.1 then (Aj .i64 b.2 h1 (0+2)).bind fun n=>some (decide (n<16),b.2) else some (false,b.2)).bind fun h=>some (.bool h.1,h.2)) else (bif u == 1 then ((Aj .i64 s2 h1 (0+1)).bind fun o=>(bif o == 0 then (Aj .i64 s2 h1 (0+2)).bind fun p=>some (decide (p>=0),s2) else some (false,s2)).bind fun c=>(bif c.1 then (Aj .i64 c.2 h1 (0+2)).bind fun q=>some (decide (q<16),c.2) else some (false,c.2)).bind fun i=>some (.bool i.1,i.2)) else (bif u == 2 then ((Aj .i64 s2 h1 (0+1)).bind fun r=>(bif r == 0 then (Aj .i64 s2 h1 (0+2)).bind fun s=>some (decide (s>=0),s2) else some (false,s2)).bind fun a=>(bif a.1 then (Aj .i64 a.2 h1 (0+2)).bind fun t=>v.bind fun g=>(Bd a.2 g.block (g.off+2)).bind fun m=>some (decide (t<((m.2.1:Nat):Int)),a.2) else some (false,a.2)).bind fun j=>some (.bool j.1,j.2)) else (some (.bool false,s2)))):=by
 simp only[FH,Ac]; kernel_rfl
theorem NA (k a J):GV (k+1) a J =
 Ae J (.cells [qVi a] FM true) fun h1 s2=>some (.func (.func 244) #[] #[qVi (some ⟨h1,0,none⟩)],s2):=by
 simp only[GV,Ac]; kernel_rfl
theorem TK (k p a b c q J):Iu (k+1) p a b c q J =
 Ae J (.cells [qIi a,qIi b,qIi c] Am true) fun h1 s2=>(Aj .i64 s2 h1 (0+0)).bind fun A=>(bif A == 0 then (p.bind fun w=>(Bd s2 w.block (w.off+0)).bind fun y=>(Aj .i64 s2 h1 (0+1)).bind fun r=>if 0<=r/\r<(y.2.1:Nat) then y.1.bind fun x=>(Bd s2 x.block (x.off+r.toNat*1)).bind fun z=>(Aj .i64 s2 h1 (0+2)).bind fun s=>if 0<=s/\s<(z.2.1:Nat) then z.1.bind fun f=>(CX s2 f.block (f.off+s.toNat*1) (qIi q)).bind fun t=>some (.normal,[],t) else none else none) else ((bif A == 1 then (p.bind fun g=>(Bd s2 g.block (g.off+1)).bind fun l=>(Aj .i64 s2 h1 (0+2)).bind fun d=>if 0<=d/\d<(l.2.1:Nat) then l.1.bind fun h=>(CX s2 h.block (h.off+d.toNat*1) (qIi q)).bind fun u=>some (.normal,[],u) else none) else (p.bind fun i=>(Bd s2 i.block (i.off+2)).bind fun m=>(Aj .i64 s2 h1 (0+2)).bind fun e=>if 0<=e/\e<(m.2.1:Nat) then m.1.bind fun j=>(CX s2 j.block (j.off+e.toNat*1) (qIi q)).bind fun v=>some (.normal,[],v) else none):Option Bq).bind fun n=>if n.1 = .normal then (some (.normal,[],n.2.2)) else none):Option Bq).bind fun o=>if o.1 = .normal then (some (.tuple #[],o.2.2)) else none:=by
 simp only[Iu,Ac]; kernel_rfl
theorem Yc (k j b c d p J):JZ (k+1) j b c d p J =
 Ae J (.cells [qIi b,qIi c,qIi d] Ad true) fun h1 s2=>(Aj .i64 s2 h1 0).bind fun z=>(Aj .i64 s2 h1 (0+1)).bind fun A=>(Aj .i64 s2 h1 (0+1+1)).bind fun B=>(EP k z A B s2).bind fun a=>(Dk a.1).bind fun y=>bif y then ((Aj .i64 a.2 h1 0).bind fun C=>(Aj .i64 a.2 h1 (0+1)).bind fun D=>(Aj .i64 a.2 h1 (0+1+1)).bind fun r=>(EU k C D r a.2).bind fun m=>(Bl .i64 m.1).bind fun l=>(Iv k j l m.2).bind fun g=>(Bl .i64 g.1).bind fun e=>bif e == 0 then (some (.tuple #[qIi 0,.bool false],g.2)) else ((DT k j e l p g.2).bind fun n=>(Bl .i64 n.1).bind fun s=>some (.tuple #[qIi (Ar (e*64)),.bool (s == 0)],n.2))) else ((Aj .i64 a.2 h1 0).bind fun t=>(Aj .i64 a.2 h1 (0+1)).bind fun u=>(Aj .i64 a.2 h1 (0+1+1)).bind fun v=>(N8 k j t u v p a.2).bind fun h=>sA h.1 fun w q=>bif q then (some (.tuple #[qIi w,.bool true],h.2)) else ((Iv k j (1:Int) h.2).bind fun i=>(Bl .i64 i.1).bind fun f=>bif f == 0 then (some (.tuple #[qIi 0,.bool false],i.2)) else ((Gu k j f p i.2).bind fun o=>(Bl .i64 o.1).bind fun x=>some (.tuple #[qIi (Ar (f*64)),.bool (x == 0)],o.2)))):=by
 simp only[Gu,DT,EP,EU,Iv,JZ,N8,Ac]; kernel_rfl
theorem XW (k a b c J):EP (k+1) a b c J =
 Ae J (.cells [qIi a,qIi b,qIi c] Ad true) fun h1 s2=>(Aj .i64 s2 h1 0).bind fun e=>(Aj .i64 s2 h1 (0+1)).bind fun f=>(Aj .i64 s2 h1 (0+1+1)).bind fun g=>(Ck k e f g s2).bind fun d=>(Bl .i64 d.1).bind fun h=>some (.bool (decide (h>32)),d.2):=by
 simp only[EP,Ck,Ac]; kernel_rfl
theorem Pp (k c d e a J):Cf (k+1) c d e a J =
 (FC k c d e (2:Int) a (3:Int) a J).bind fun b=>(Bl .i64 b.1).bind fun f=>some (qIi f,b.2):=by
 simp only[Cf,FC,Ac]; kernel_rfl
theorem ZI (k a b c J):EU (k+1) a b c J =
 Ae J (.cells [qIi a,qIi b,qIi c] Ad true) fun h1 s2=>(Aj .i64 s2 h1 0).bind fun e=>(Aj .i64 s2 h1 (0+1)).bind fun f=>(Aj .i64 s2 h1 (0+1+1)).bind fun g=>(Ck k e f g s2).bind fun d=>(Bl .i64 d.1).bind fun h=>if (64:Int)=0 then none else some (qIi (Ar ((Ar ((Ar (h+64))-(1:Int))).tdiv (64:Int))),d.2):=by
 simp only[EU,Ck,Ac]; kernel_rfl
theorem To (k b c d J):DG (k+1) b c d J =
 (FC k b c (1:Int) (1:Int) d (0:Int) (0:Int) J).bind fun a=>(Bl .i64 a.1).bind fun e=>some (qIi e,a.2):=by
 simp only[DG,FC,Ac]; kernel_rfl
theorem SJ (k e E f g h J):EZ (k+1) e E f g h J =
 Ae J (.cells [qIi f,qIi g,qIi h] Ad true) fun h1 s2=>(Az k e s2).bind fun j=>(Dk j.1).bind fun F=>bif !F then (some (.tuple #[qIi 0,qIi 5],j.2)) else ((Aj .i64 j.2 h1 0).bind fun H=>(Aj .i64 j.2 h1 (0+1)).bind fun I=>(Aj .i64 j.2 h1 (0+1+1)).bind fun K=>(IG k H I K j.2).bind fun l=>(Dk l.1).bind fun G=>bif !G then (some (.tuple #[qIi 0,qIi 2],l.2)) else ((Aj .i64 l.2 h1 0).bind fun u=>(Aj .i64 l.2 h1 (0+1)).bind fun v=>(Aj .i64 l.2 h1 (0+1+1)).bind fun w=>(Is k e E u v w (0:Int) l.2).bind fun d=>(Bl .i64 d.1).bind fun q=>bif q != 0 then (some (.tuple #[qIi 0,qIi q],d.2)) else (e.bind fun m=>(Aj .i64 d.2 m.block (m.off+3)).bind fun x=>e.bind fun n=>(CX d.2 n.block (n.off+3) (qIi (Ar (x+1)))).bind fun c=>e.bind fun o=>(Aj .i64 c o.block (o.off+3)).bind fun y=>(Aj .i64 c h1 0).bind fun z=>(Aj .i64 c h1 (0+1)).bind fun A=>(Aj .i64 c h1 (0+1+1)).bind fun B=>(Aj .i64 c h1 (0+0)).bind fun a=>if 0<=a/\a<=a/\a*(8:Nat)<=2 ^ 40/\a<=2 ^ 40 then Ae c (.cells (rep a.toNat [qIi 0]) Ak true) fun s r=>(Aj .i64 r h1 (0+1)).bind fun b=>if 0<=b/\b<=b/\b*(8:Nat)<=2 ^ 40/\b<=2 ^ 40 then Ae r (.cells (rep b.toNat [qIi 0]) Ak true) fun t D=>(Hx k e E y z A B (some ⟨s,0,none⟩,a.toNat,a.toNat) (some ⟨t,0,none⟩,b.toNat,b.toNat) false D).bind fun i=>Wz i.1 (e.bind fun p=>(Aj .i64 i.2 p.block (p.off+3)).bind fun C=>some (.tuple #[qIi C,qIi 0],i.2)) else none else none))):=by
 simp only[Az,EZ,Is,Hx,IG,Ac]; kernel_rfl
theorem Tq (k c d g h i J):FB (k+1) c d g h i J =
 Ae J (.cells [qIi g,qIi h,qIi i] Ad true) fun h1 s2=>(AR k c s2).bind fun l=>(Dk l.1).bind fun V=>bif !V then (some (.tuple #[qIi 0,qIi 5],l.2)) else ((Aj .i64 l.2 h1 0).bind fun Y=>(Aj .i64 l.2 h1 (0+1)).bind fun Z=>(Aj .i64 l.2 h1 (0+1+1)).bind fun n7=>(ES k Y Z n7 l.2).bind fun m=>(Dk m.1).bind fun W=>bif !W then (some (.tuple #[qIi 0,qIi 2],m.2)) else ((Aj .i64 m.2 h1 0).bind fun G=>(Aj .i64 m.2 h1 (0+1)).bind fun H=>(Aj .i64 m.2 h1 (0+1+1)).bind fun I=>(Hh k G H I m.2).bind fun C=>(Bl .i64 C.1).bind fun K=>(Jc k c d K (-1:Int) C.2).bind fun e=>(Bl .i64 e.1).bind fun A=>bif A != 0 then (some (.tuple #[qIi 0,qIi A],e.2)) else (c.bind fun n=>(Aj .i64 e.2 n.block (n.off+6)).bind fun L=>c.bind fun o=>(CX e.2 o.block (o.off+6) (qIi (Ar (L+1)))).bind fun a=>c.bind fun p=>(Bd a p.block (p.off+1)).bind fun y=>c.bind fun q=>(Bd a q.block (q.off+1)).bind fun z=>c.bind fun r=>(Aj .i64 a r.block (r.off+6)).bind fun M=>(Aj .i64 a h1 0).bind fun N=>(Aj .i64 a h1 (0+1)).bind fun O=>(Aj .i64 a h1 (0+1+1)).bind fun P=>(Ln k N O P a).bind fun D=>(Bl .i64 D.1).bind fun Q=>if 0<=d/\d<(y.2.1:Nat) then y.1.bind fun s=>(CX D.2 s.block (s.off+d.toNat*1) (qIi M)).bind fun U=>if 0<=(Ar (d+1))/\(Ar (d+1))<(z.2.1:Nat) then z.1.bind fun t=>(CX U t.block (t.off+(Ar (d+1)).toNat*1) (qIi Q)).bind fun E=>c.bind fun u=>(B7 E u.block (u.off+2)).bind fun T=>if (2:Int)=0 then none else (BG k T (Ar (d.tdiv (2:Int))) (1:Int) E).bind fun b=>(Bl .i64 b.1).bind fun X=>c.bind fun v=>(xh b.2 v.block (v.off+4)).bind fun F=>c.bind fun w=>(Aj .i64 b.2 w.block (w.off+6)).bind fun B=>F.bind fun j=>(Uh b.2 j).bind fun f=>c.bind fun x=>(Aj .i64 (List.set b.2 j (.map (NR B (qIi d) f))) x.block (x.off+6)).bind fun S=>some (.tuple #[qIi S,qIi 0],(List.set b.2 j (.map (NR B (qIi d) f)))) else none else none))):=by
 simp only[FB,Jc,AR,ES,Hh,Ln,BG,Ac]; kernel_rfl
theorem SP (k c d J):B5 (k+1) c d J =
 (Az k c J).bind fun a=>(Dk a.1).bind fun e=>bif !e then (some (qIi 5,a.2)) else ((Ay k c d a.2).bind fun b=>(Bl .i64 b.1).bind fun f=>bif decide (f<0) then (some (qIi 4,b.2)) else (some (qIi 0,b.2))):=by
 simp only[Ay,Az,B5,Ac]; kernel_rfl
theorem Ve (k c i J):Jh (k+1) c i J =
 c.bind fun j=>(Bd J j.block (j.off+1)).bind fun d=>(Gh Ab 8 (d.1,d.2.1,d.2.2) none (some (qIi i)) none J).bind fun e=>(AG P Ab (none,0,0) (e.1,e.2.1,e.2.2) J).bind fun a=>c.bind fun l=>(Bd a.2 l.block (l.off+1)).bind fun f=>(Gh Ab 8 (f.1,f.2.1,f.2.2) (some (qIi (Ar (i+1)))) none none a.2).bind fun g=>(AG P Ab (a.1.1,a.1.2.1,a.1.2.2) (g.1,g.2.1,g.2.2) a.2).bind fun b=>c.bind fun m=>(CX b.2 m.block (m.off+1) (.slice b.1.1 b.1.2.1 b.1.2.2)).bind fun h=>some (.tuple #[],h):=by
 simp only[Jh,Ac]; kernel_rfl
theorem Vk (k b c d J):BG (k+1) b c d J =
 Ae J (.cells [qIi d] Ak true) fun h1 s2=>(Fc k b c (some ⟨h1,0,none⟩,1,1) s2).bind fun a=>(Bl .i64 a.1).bind fun e=>bif e != 0 then (some (qIi e,a.2)) else ((G4 k b c d a.2).bind fun f=>Wz f.1 (some (qIi 0,f.2))):=by
 simp only[BG,Fc,G4,Ac]; kernel_rfl
theorem UY (k f c g J):Je (k+1) f c g J =
 f.bind fun d=>(Bd J d.block (d.off+1)).bind fun a=>(Gh Ak 1 (a.1,a.2.1,a.2.2) (some (qIi c)) (some (qIi (Ar (c+g)))) none J).bind fun b=>(if b.2.1=0 then some J else b.1.bind fun e=>H0 J e.block e.off (rep b.2.1 [qIi 0])).bind fun h=>some (.tuple #[],h):=by
 simp only[Je,Ac]; kernel_rfl
theorem R3 (k c s d o J):FX (k+1) c s d o J =
 (B5 k c s J).bind fun q=>(Bl .i64 q.1).bind fun w=>bif w != 0 then (some (qIi w,q.2)) else ((Ay k c s q.2).bind fun m=>(Bl .i64 m.1).bind fun b=>(bif decide (d<0) then some (true,m.2) else c.bind fun t=>(Bd m.2 t.block (t.off+1)).bind fun v=>if 0<=b/\b<(v.2.1:Nat) then v.1.bind fun u=>(Bd m.2 u.block (u.off+b.toNat*8+5)).bind fun x=>some (decide (d>=((x.2.1:Nat):Int)),m.2) else none).bind fun n=>(bif n.1 then some (true,n.2) else (bif o != 0 then (CL k c o n.2).bind fun j=>(Dk j.1).bind fun p=>some (!p,j.2) else some (false,n.2)).bind fun l=>some (l.1,l.2)).bind fun a=>bif a.1 then (some (qIi 1,a.2)) else (c.bind fun e=>(Bd a.2 e.block (e.off+1)).bind fun h=>if 0<=b/\b<(h.2.1:Nat) then h.1.bind fun f=>(Bd a.2 f.block (f.off+b.toNat*8+5)).bind fun i=>if 0<=d/\d<(i.2.1:Nat) then i.1.bind fun g=>(CX a.2 g.block (g.off+d.toNat*1) (qIi o)).bind fun r=>some (qIi 0,r) else none else none)):=by
 simp only[CL,Ay,FX,B5,Ac]; kernel_rfl
theorem R6 (k d J):EB (k+1) d J =
 (AW k d J).bind fun c=>(Dk c.1).bind fun g=>bif !g then (some (.slice none 0 0,c.2)) else (Ae c.2 (.cells [] Ak true) fun h f=>d.bind fun e=>(Bd f e.block (e.off+2)).bind fun b=>(AG P Ak (some ⟨h,0,some 0⟩,0,0) (b.1,b.2.1,b.2.2) f).bind fun a=>some (.slice a.1.1 a.1.2.1 a.1.2.2,a.2)):=by
 simp only[AW,EB,Ac]; kernel_rfl
theorem SR (k c g J):Gy (k+1) c g J =
 (AW k c J).bind fun a=>(Dk a.1).bind fun j=>bif !j then (some (qIi 5,a.2)) else (bif decide (g<=0) then (some (qIi 1,a.2)) else (c.bind fun h=>(Bd a.2 h.block (h.off+2)).bind fun m=>bif decide (((m.2.1:Nat):Int)>=(64:Int)) then (some (qIi 6,a.2)) else (c.bind fun i=>(Bd a.2 i.block (i.off+2)).bind fun e=>Ae a.2 (.cells [qIi g] Ak true) fun l n=>(AG P Ak (e.1,e.2.1,e.2.2) (some ⟨l,0,none⟩,1,1) n).bind fun d=>c.bind fun b=>(CX d.2 b.block (b.off+2) (.slice d.1.1 d.1.2.1 d.1.2.2)).bind fun f=>some (qIi 0,f)))):=by
 simp only[AW,Gy,Ac]; kernel_rfl
theorem SS (k c g J):G3 (k+1) c g J =
 (Bi k c J).bind fun a=>(Dk a.1).bind fun j=>bif !j then (some (qIi 5,a.2)) else (bif decide (g<=0) then (some (qIi 1,a.2)) else (c.bind fun h=>(Bd a.2 h.block (h.off+3)).bind fun m=>bif ((m.2.1:Nat):Int) == (64:Int) then (some (qIi 6,a.2)) else (c.bind fun i=>(Bd a.2 i.block (i.off+3)).bind fun e=>Ae a.2 (.cells [qIi g] Ak true) fun l n=>(AG P Ak (e.1,e.2.1,e.2.2) (some ⟨l,0,none⟩,1,1) n).bind fun d=>c.bind fun b=>(CX d.2 b.block (b.off+3) (.slice d.1.1 d.1.2.1 d.1.2.2)).bind fun f=>some (qIi 0,f)))):=by
 simp only[G3,Bi,Ac]; kernel_rfl
theorem Vf (k b d j J):Ji (k+1) b d j J =
 (B5 k b d J).bind fun a=>(Bl .i64 a.1).bind fun h=>bif h != 0 then (some (qIi h,a.2)) else (b.bind fun e=>(Bd a.2 e.block (e.off+1)).bind fun g=>(Ay k b d a.2).bind fun i=>(Bl .i64 i.1).bind fun c=>if 0<=c/\c<(g.2.1:Nat) then g.1.bind fun f=>(CX i.2 f.block (f.off+c.toNat*8+7) (.bool j)).bind fun l=>some (qIi 0,l) else none):=by
 simp only[Ay,B5,Ji,Ac]; kernel_rfl
theorem Wa (k b c g J):JN (k+1) b c g J =
 (BF k b c J).bind fun a=>(Bl .i64 a.1).bind fun e=>bif e != 0 then (some (qIi e,a.2)) else (b.bind fun d=>(B7 a.2 d.block (d.off+3)).bind fun h=>if (2:Int)=0 then none else (BG k h (Ar (c.tdiv (2:Int))) g a.2).bind fun f=>(Bl .i64 f.1).bind fun i=>some (qIi 0,f.2)):=by
 simp only[BF,JN,BG,Ac]; kernel_rfl
theorem Rz (k b J):CC (k+1) b J =
 (Az k b J).bind fun a=>(Dk a.1).bind fun d=>bif !d then (some (qIi 0,a.2)) else (b.bind fun c=>(Bd a.2 c.block (c.off+0)).bind fun e=>some (qIi ((e.2.1:Nat):Int),a.2)):=by
 simp only[CC,Az,Ac]; kernel_rfl
theorem Vc (k b c J):CL (k+1) b c J =
 (Ay k b c J).bind fun a=>(Bl .i64 a.1).bind fun d=>some (.bool (decide (d>=0)),a.2):=by
 simp only[CL,Ay,Ac]; kernel_rfl
theorem XX (k c d e J):IG (k+1) c d e J =
 Ae J (.cells [qIi c,qIi d,qIi e] Ad true) fun h1 s2=>(Aj .i64 s2 h1 (0+0)).bind fun m=>(bif decide (m<0) then some (true,s2) else (Aj .i64 s2 h1 (0+0)).bind fun n=>some (decide (n>15),s2)).bind fun f=>(bif f.1 then some (true,f.2) else (Aj .i64 f.2 h1 (0+1)).bind fun o=>some (decide (o<0),f.2)).bind fun g=>(bif g.1 then some (true,g.2) else (Aj .i64 g.2 h1 (0+1)).bind fun p=>some (decide (p>200),g.2)).bind fun b=>bif b.1 then (some (.bool false,b.2)) else ((Aj .i64 b.2 h1 (0+2)).bind fun a=>bif a == 0 then (bif a == 0 then (some (.bool true,b.2)) else (bif a == 1 then ((Aj .i64 b.2 h1 (0+0)).bind fun h=>some (.bool (decide (h>=1)),b.2)) else (bif a == 2 then ((Aj .i64 b.2 h1 (0+0)).bind fun i=>some (.bool (decide (i>=2)),b.2)) else (some (.bool false,b.2))))) else (bif a == 3 then (some (.bool true,b.2)) else (bif a == 1 then ((Aj .i64 b.2 h1 (0+0)).bind fun j=>some (.bool (decide (j>=1)),b.2)) else (bif a == 2 then ((Aj .i64 b.2 h1 (0+0)).bind fun l=>some (.bool (decide (l>=2)),b.2)) else (some (.bool false,b.2)))))):=by
 simp only[IG,Ac]; kernel_rfl
theorem Vq (k c f J):BV (k+1) c f J =
 c.bind fun n=>(B7 J n.block (n.off+0)).bind fun s=>(Bc k s f J).bind fun h=>(Dk h.1).bind fun q=>(bif q then (CE k c f h.2).bind fun p=>(Bl .i64 p.1).bind fun r=>some (r == 0,p.2) else some (false,h.2)).bind fun i=>(bif i.1 then ((CM k c f (1:Int) i.2).bind fun j=>Wz j.1 (c.bind fun o=>(Bd j.2 o.block (o.off+6)).bind fun b=>Ae j.2 (.cells [qIi f] Ak true) fun g l=>(AG P Ak (b.1,b.2.1,b.2.2) (some ⟨g,0,none⟩,1,1) l).bind fun a=>c.bind fun d=>(CX a.2 d.block (d.off+6) (.slice a.1.1 a.1.2.1 a.1.2.2)).bind fun m=>some (.normal,[],m))) else (some (.normal,[],i.2)):Option Bq).bind fun e=>if e.1 = .normal then (some (.tuple #[],e.2.2)) else none:=by
 simp only[Bc,BV,CE,CM,Ac]; kernel_rfl
theorem MD (k n d p l s i4 a J):ED k (n+1) d p l s i4 a J =
 bif decide (a<i4) then (if 0<=a/\a<l then p.bind fun e=>(Aj .i64 J e.block (e.off+a.toNat*1)).bind fun i=>(CE k d i J).bind fun b=>(Bl .i64 b.1).bind fun m=>(bif m == 0 then (d.bind fun f=>(B7 b.2 f.block (f.off+0)).bind fun q=>(Fk k q i b.2).bind fun c=>(Bl .i64 c.1).bind fun t=>d.bind fun g=>(Aj .i64 c.2 g.block (g.off+8)).bind fun o=>d.bind fun h=>(CX c.2 h.block (h.off+8) (qIi (Ar (o+1)))).bind fun r=>some (.normal,[],r)) else (some (.normal,[],b.2)):Option Bq).bind fun j=>if j.1 = .normal then (ED k n d p l s i4 (Ar (a+1)) j.2.2) else none else none) else (some (.exit 0,[],J)):=by
 simp only[Fk,CE,ED,Ac]; kernel_rfl
theorem Vt (k b J):Jr (k+1) b J =
 b.bind fun D=>(Bd J D.block (D.off+7)).bind fun K=>(bif decide (((K.2.1:Nat):Int)>(0:Int)) then (b.bind fun E=>(Bd J E.block (E.off+7)).bind fun H=>if 0<=(0:Int)/\(0:Int)<(H.2.1:Nat) then H.1.bind fun F=>(Aj .i64 J F.block (F.off+(0:Int).toNat*1)).bind fun I=>b.bind fun G=>(Bd J G.block (G.off+7)).bind fun v=>(Gh Ak 1 (v.1,v.2.1,v.2.2) (some (qIi 1)) none none J).bind fun w=>(BH k (w.1,w.2.1,w.2.2) J).bind fun n=>(Ej n.1).bind fun d=>b.bind fun f=>(CX n.2 f.block (f.off+7) (.slice d.1 d.2.1 d.2.2)).bind fun t=>b.bind fun g=>(B7 t g.block (g.off+0)).bind fun y=>(Cd k y I t).bind fun o=>(Ej o.1).bind fun c=>(ED k k b c.1 c.2.1 c.2.2 ((c.2.1:Nat):Int) (0:Int) o.2).bind fun e=>if e.1 = .exit 0 then (b.bind fun h=>(B7 e.2.2 h.block (h.off+0)).bind fun z=>(FT k z I e.2.2).bind fun p=>(Bl .i64 p.1).bind fun L=>some (.normal,[],p.2)) else none else none) else (some (.normal,[],J)):Option Bq).bind fun a=>if a.1 = .normal then (b.bind fun i=>(Bd a.2.2 i.block (i.off+7)).bind fun u=>(bif ((u.2.1:Nat):Int) == (0:Int) then (b.bind fun j=>(B7 a.2.2 j.block (j.off+5)).bind fun A=>b.bind fun l=>(B7 a.2.2 l.block (l.off+5)).bind fun B=>(Ea k B a.2.2).bind fun q=>(Bl .i64 q.1).bind fun x=>(FJ k A (0:Int) x (0:Int) q.2).bind fun r=>(Bl .i64 r.1).bind fun M=>b.bind fun m=>(CX r.2 m.block (m.off+4) (qIi 0)).bind fun C=>some (.normal,[],C)) else (some (.normal,[],a.2.2)):Option Bq).bind fun s=>if s.1 = .normal then (some (.tuple #[],s.2.2)) else none) else none:=by
 simp only[Cd,FT,Ea,FJ,BH,Jr,ED,Ac]; kernel_rfl
theorem N7 (k n h0 p l r i4 b a J):FF k (n+1) h0 p l r i4 b a J =
 bif decide (a<i4) then (if 0<=a/\a<l then p.bind fun g=>(Aj .i64 J g.block (g.off+a.toNat*1)).bind fun h=>(bif h != 0 then (Aj .i64 J h0 (0+2)).bind fun o=>(FE k o a J).bind fun i=>(Dk i.1).bind fun j=>some (!j,i.2) else some (false,J)).bind fun e=>(bif e.1 then (Ae e.2 (.cells [qIi h] Ak true) fun m q=>(AG P Ak (b.1,b.2.1,b.2.2) (some ⟨m,0,none⟩,1,1) q).bind fun c=>some (.normal,[.slice c.1.1 c.1.2.1 c.1.2.2],c.2)) else (some (.normal,[.slice b.1 b.2.1 b.2.2],e.2)):Option Bq).bind fun f=>if f.1 = .normal then (Sc f.2.1 fun d=>FF k n h0 p l r i4 (d.1,d.2.1,d.2.2) (Ar (a+1)) f.2.2) else none else none) else (some (.exit 0,[.slice b.1 b.2.1 b.2.2],J)):=by
 simp only[FE,FF,Ac]; kernel_rfl
theorem WV (k h i J):Jg (k+1) h i J =
 (AK k h i J).bind fun l=>(an l.1).bind fun e=>if e.length=2 then e.head?.bind fun p=>Ms p fun m n o=>e.tail.head?.bind fun q=>(Bl .i64 q).bind fun r=>Ae l.2 (.cells [qIi 0,qIi 0,qIi 0] Ad true) fun j f=>(H0 f j 0 [qIi m,qIi n,qIi o]).bind fun g=>(KL k h i g).bind fun d=>(Ej d.1).bind fun a=>(FF k k j a.1 a.2.1 a.2.2 ((a.2.1:Nat):Int) (none,0,0) (0:Int) d.2).bind fun c=>if c.1 = .exit 0 then (Sc c.2.1 fun b=>some (.slice b.1 b.2.1 b.2.2,c.2.2)) else none else none:=by
 simp only[AK,KL,Jg,FF,Ac]; kernel_rfl
theorem Vs (k c d e J):CM (k+1) c d e J =
 c.bind fun a=>(B7 J a.block (a.off+5)).bind fun f=>if (2:Int)=0 then none else (BG k f (Ar (d.tdiv (2:Int))) e J).bind fun b=>(Bl .i64 b.1).bind fun g=>some (.tuple #[],b.2):=by
 simp only[BG,CM,Ac]; kernel_rfl
theorem MS (k n f l j o i4 a J):G6 k (n+1) f l j o i4 a J =
 bif decide (a<i4) then (if 0<=a/\a<j then l.bind fun c=>(Aj .i64 J c.block (c.off+a.toNat*1)).bind fun e=>(CN k f e J).bind fun b=>(Dk b.1).bind fun i=>(bif i then (f.bind fun d=>(B7 b.2 d.block (d.off+0)).bind fun m=>(JX k m e (.func (.func 266) #[qVi f] #[]) b.2).bind fun g=>(Dk g.1).bind fun p=>some (.normal,[],g.2)) else (some (.normal,[],b.2)):Option Bq).bind fun h=>if h.1 = .normal then (G6 k n f l j o i4 (Ar (a+1)) h.2.2) else none else none) else (some (.exit 0,[],J)):=by
 simp only[JX,G6,CN,Ac]; kernel_rfl
theorem MT (k n j i1 a J):G7 k (n+1) j i1 a J =
 bif decide (a<i1) then (j.bind fun f=>(B7 J f.block (f.off+0)).bind fun o=>(Bn k o a J).bind fun e=>(Bl .i64 e.1).bind fun i=>(bif i == 1 then some (true,e.2) else some (i == 2,e.2)).bind fun b=>(bif b.1 then (j.bind fun g=>(Bd b.2 g.block (g.off+7)).bind fun d=>Ae b.2 (.cells [qIi a] Ak true) fun m p=>(AG P Ak (d.1,d.2.1,d.2.2) (some ⟨m,0,none⟩,1,1) p).bind fun c=>j.bind fun h=>(CX c.2 h.block (h.off+7) (.slice c.1.1 c.1.2.1 c.1.2.2)).bind fun q=>some (.normal,[],q)) else (some (.normal,[],b.2)):Option Bq).bind fun l=>if l.1 = .normal then (G7 k n j i1 (Ar (a+1)) l.2.2) else none) else (some (.exit 2,[],J)):=by
 simp only[Bn,G7,Ac]; kernel_rfl
theorem Wj (k a J):Ig (k+1) a J =
 a.bind fun n=>(Vu J n.block (n.off+2)).bind fun s=>(bif s then ((EI k a J).bind fun q=>Wz q.1 (some (.normal,[],q.2))) else (some (.normal,[],J)):Option Bq).bind fun r=>if r.1 = .normal then ((Gk k a r.2.2).bind fun i=>Wz i.1 (a.bind fun o=>(Bd i.2 o.block (o.off+6)).bind fun t=>bif decide (((t.2.1:Nat):Int)>(0:Int)) then (some (.tuple #[],i.2)) else (a.bind fun p=>(B7 i.2 p.block (p.off+0)).bind fun u=>(Ca k u i.2).bind fun f=>(Ej f.1).bind fun b=>(G6 k k a b.1 b.2.1 b.2.2 ((b.2.1:Nat):Int) (0:Int) f.2).bind fun c=>if c.1 = .exit 0 then (a.bind fun d=>(B7 c.2.2 d.block (d.off+0)).bind fun l=>(AE k l c.2.2).bind fun g=>(Bl .i64 g.1).bind fun j=>(G7 k k a j (0:Int) g.2).bind fun h=>if h.1 = .exit 2 then (a.bind fun e=>(CX h.2.2 e.block (e.off+4) (qIi 2)).bind fun m=>some (.tuple #[],m)) else none) else none))) else none:=by
 simp only[Ca,AE,Gk,Ig,G6,G7,EI,Ac]; kernel_rfl
theorem SW (k c d J):Fe (k+1) c d J =
 (BS k c J).bind fun b=>(Dk b.1).bind fun g=>(bif g then some (decide (d>=0),b.2) else some (false,b.2)).bind fun a=>(bif a.1 then c.bind fun e=>(Aj .i64 a.2 e.block (e.off+0)).bind fun h=>some (decide (d<h),a.2) else some (false,a.2)).bind fun f=>some (.bool f.1,f.2):=by
 simp only[BS,Fe,Ac]; kernel_rfl
theorem Vl (k c a J):Ew (k+1) c a J =
 c.bind fun d=>(Aj .i64 J d.block (d.off+1)).bind fun b=>c.bind fun e=>(Bd J e.block (e.off+2)).bind fun g=>if (64:Int)=0 then none else if 0<=(Ar ((Ar (a*b)).tdiv (64:Int)))/\(Ar ((Ar (a*b)).tdiv (64:Int)))<(g.2.1:Nat) then g.1.bind fun f=>(Aj .u64 J f.block (f.off+(Ar ((Ar (a*b)).tdiv (64:Int))).toNat*1)).bind fun i=>if (64:Int)=0 then none else if ((Ar (a*b)).tmod (64:Int))<0 then none else (DL k c J).bind fun h=>(Bl .i64 h.1).bind fun j=>some (qIi (Ar ((BitVec.ofInt 64 (Ar (i.fdiv (2 ^ (min ((Ar (a*b)).tmod (64:Int)).toNat 64)))) &&& BitVec.ofInt 64 j).toNat)),h.2) else none:=by
 simp only[Ew,DL,Ac]; kernel_rfl
theorem L5 (k a c J):C5 (k+1) a c J =
 (J8 k (a.1,a.2.1,a.2.2) c J).bind fun b=>(Bl .i64 b.1).bind fun d=>some (.bool (decide (d>=0)),b.2):=by
 simp only[C5,J8,Ac]; kernel_rfl
theorem Z9 (k d e f J):ES (k+1) d e f J =
 Ae J (.cells [qIi d,qIi e,qIi f] Ad true) fun h1 s2=>(Aj .i64 s2 h1 (0+0)).bind fun t=>(bif decide (t>=0) then (Aj .i64 s2 h1 (0+0)).bind fun u=>some (decide (u<=15),s2) else some (false,s2)).bind fun j=>(bif j.1 then (Aj .i64 j.2 h1 (0+1)).bind fun v=>some (decide (v>=0),j.2) else some (false,j.2)).bind fun l=>(bif l.1 then (Aj .i64 l.2 h1 (0+1)).bind fun w=>some (decide (w<=200),l.2) else some (false,l.2)).bind fun m=>(bif m.1 then (Aj .i64 m.2 h1 (0+2)).bind fun n=>some (decide (n>=0),m.2) else some (false,m.2)).bind fun c=>(bif c.1 then (Aj .i64 c.2 h1 (0+2)).bind fun o=>some (decide (o<=3),c.2) else some (false,c.2)).bind fun a=>(bif a.1 then (Aj .i64 a.2 h1 (0+2)).bind fun p=>(bif p != 1 then some (true,a.2) else (Aj .i64 a.2 h1 (0+0)).bind fun q=>some (decide (q>=1),a.2)).bind fun g=>some (g.1,g.2) else some (false,a.2)).bind fun b=>(bif b.1 then (Aj .i64 b.2 h1 (0+2)).bind fun r=>(bif r != 2 then some (true,b.2) else (Aj .i64 b.2 h1 (0+0)).bind fun s=>some (decide (s>=2),b.2)).bind fun h=>some (h.1,h.2) else some (false,b.2)).bind fun i=>some (.bool i.1,i.2):=by
 simp only[ES,Ac]; kernel_rfl
theorem bD (k i a b J):LP (k+1) i a b J =
 (AE k i J).bind fun c=>(Bl .i64 c.1).bind fun n=>(bif n == 0 then some (true,c.2) else some (decide (a<0),c.2)).bind fun d=>(bif d.1 then some (true,d.2) else some (decide (a>=8),d.2)).bind fun e=>(bif e.1 then some (true,e.2) else some (decide (b<0),e.2)).bind fun f=>(bif f.1 then some (true,f.2) else (Fj k f.2).bind fun j=>(Ej j.1).bind fun m=>some (decide (b>=((m.2.1:Nat):Int)),j.2)).bind fun g=>bif g.1 then (some (.tuple #[qVi none,qIi 1],g.2)) else (Ae g.2 (.cells [qVi i,qIi a,qIi b,qIi 0,qIi 0,qIi 0,qIi 0] Cw true) fun l h=>some (.tuple #[qVi (some ⟨l,0,none⟩),qIi 0],h)):=by
 simp only[LP,Fj,AE,Ac]; kernel_rfl
theorem OB (k h i j l J):Dd (k+1) h i j l J =
 Ae J (.cells [qIi i,qIi j,qIi l] Ad true) fun h1 s2=>(FA k h s2).bind fun o=>(Dk o.1).bind fun b4=>bif !b4 then (some (.tuple #[qIi 0,qIi 5],o.2)) else ((Aj .i64 o.2 h1 0).bind fun n5=>(Aj .i64 o.2 h1 (0+1)).bind fun n6=>(Aj .i64 o.2 h1 (0+1+1)).bind fun n7=>(ES k n5 n6 n7 o.2).bind fun p=>(Dk p.1).bind fun b9=>bif !b9 then (some (.tuple #[qIi 0,qIi 2],p.2)) else ((Aj .i64 p.2 h1 0).bind fun B=>(Aj .i64 p.2 h1 (0+1)).bind fun C=>(Aj .i64 p.2 h1 (0+1+1)).bind fun D=>(Hh k B C D p.2).bind fun y=>(Bl .i64 y.1).bind fun x=>(Fj k y.2).bind fun f=>(Ej f.1).bind fun w=>h.bind fun q=>(Aj .i64 f.2 q.block (q.off+2)).bind fun m=>if 0<=m/\m<(w.2.1:Nat) then w.1.bind fun r=>(CV f.2 r.block (r.off+m.toNat*1)).bind fun v20=>nQ v20 fun ag=>(bif decide (x>32) then (some (.normal,[.func (.func 272) #[] #[]],f.2)) else (some (.normal,[(.func (.method "dustcart/alloc.place") #[ag] #[])],f.2)):Option Bq).bind fun c=>if c.1 = .normal then (u_f c.2.1 fun f23=>h.bind fun a=>(B7 c.2.2 a.block a.off).bind fun Z=>(Aj .i64 c.2.2 a.block (a.off+1)).bind fun E=>(Aj .i64 c.2.2 a.block (a.off+1+1)).bind fun F=>(Aj .i64 c.2.2 a.block (a.off+1+1+1)).bind fun G=>(Aj .i64 c.2.2 a.block (a.off+1+1+1+1)).bind fun H=>(Aj .i64 c.2.2 a.block (a.off+1+1+1+1+1)).bind fun I=>(Aj .i64 c.2.2 a.block (a.off+1+1+1+1+1+1)).bind fun K=>Ae c.2.2 (.cells [qVi none,qIi 0,qIi 0,qIi 0,qIi 0,qIi 0,qIi 0] Cw true) fun d ad=>(H0 ad d 0 [qVi Z,qIi E,qIi F,qIi G,qIi H,qIi I,qIi K]).bind fun ae=>(IF k f23 [qVi h,qIi x] ae).bind fun g=>sA g.1 fun n A=>bif !A then (some (.tuple #[qIi 0,qIi 6],g.2)) else (h.bind fun s=>(B7 g.2 s.block (s.off+0)).bind fun aa=>if (64:Int)=0 then none else (BE k aa (Ar (n.tdiv (64:Int))) g.2).bind fun e=>(Bl .i64 e.1).bind fun L=>h.bind fun t=>(Aj .i64 e.2 t.block (t.off+1)).bind fun M=>(bif L == M then (h.bind fun u=>(B7 e.2 u.block (u.off+0)).bind fun ab=>(Aj .i64 e.2 h1 0).bind fun N=>(Aj .i64 e.2 h1 (0+1)).bind fun O=>(Aj .i64 e.2 h1 (0+1+1)).bind fun P=>(FB k ab n N O P e.2).bind fun z=>He z.1 fun ah Q=>some (.normal,[qIi Q],z.2)) else (some (.normal,[qIi 5],e.2)):Option Bq).bind fun b=>if b.1 = .normal then (ZS b.2.1 fun S=>bif S != 0 then ((B7 b.2.2 d 0).bind fun ac=>(Aj .i64 b.2.2 d (0+1)).bind fun T=>(Aj .i64 b.2.2 d (0+1+1)).bind fun U=>(Aj .i64 b.2.2 d (0+1+1+1)).bind fun V=>(Aj .i64 b.2.2 d (0+1+1+1+1)).bind fun W=>(Aj .i64 b.2.2 d (0+1+1+1+1+1)).bind fun X=>(Aj .i64 b.2.2 d (0+1+1+1+1+1+1)).bind fun Y=>h.bind fun v=>(H0 b.2.2 v.block v.off [qVi ac,qIi T,qIi U,qIi V,qIi W,qIi X,qIi Y]).bind fun af=>some (.tuple #[qIi 0,qIi 6],af)) else (some (.tuple #[qIi n,qIi 0],b.2.2))) else none)) else none else none)):=by
 simp only[Dd,FA,Fj,IF,FB,BE,ES,Hh,Ac]; kernel_rfl
theorem Yh (k c d J):CE (k+1) c d J =
 c.bind fun a=>(B7 J a.block (a.off+5)).bind fun f=>if (2:Int)=0 then none else (D7 k f (Ar (d.tdiv (2:Int))) J).bind fun b=>(Bl .i64 b.1).bind fun e=>some (qIi e,b.2):=by
 simp only[D7,CE,Ac]; kernel_rfl
theorem PD (k n c b f i3 a J):Jl k (n+1) c b f i3 a J =
 (bif decide (a<(b:Int)) then if 0<=a/\a<b then c.bind fun e=>(Aj .i64 J e.block (e.off+a.toNat*1)).bind fun g=>some (decide (g<i3),J) else none else some (false,J)).bind fun d=>bif d.1 then (Jl k n c b f i3 (Ar (a+1)) d.2) else (some (.exit 0,[qIi a],d.2)):=by
 simp only[Jl,Ac]; kernel_rfl
theorem bI (k a l J):LY (k+1) a l J =
 (Jl k k a.1 a.2.1 a.2.2 l (0:Int) J).bind fun i=>if i.1 = .exit 0 then (ZS i.2.1 fun h=>(bif decide (h<((a.2.1:Nat):Int)) then if 0<=h/\h<(a.2.1:Nat) then a.1.bind fun o=>(Aj .i64 i.2.2 o.block (o.off+h.toNat*1)).bind fun q=>some (q == l,i.2.2) else none else some (false,i.2.2)).bind fun n=>bif n.1 then (some (.slice a.1 a.2.1 a.2.2,n.2)) else (Ae n.2 (.cells [] Ak true) fun p g=>(Gh Ak 1 (a.1,a.2.1,a.2.2) none (some (qIi h)) none g).bind fun e=>(AG P Ak (some ⟨p,0,some 0⟩,0,0) (e.1,e.2.1,e.2.2) g).bind fun c=>FO g c.2 (Ae c.2 (.cells [qIi l] Ak true) fun m j=>(AG P Ak (c.1.1,c.1.2.1,c.1.2.2) (some ⟨m,0,none⟩,1,1) j).bind fun b=>fS a.1 j b.2 ((Gh Ak 1 (a.1,a.2.1,a.2.2) (some (qIi h)) none none b.2).bind fun f=>(AG P Ak (b.1.1,b.1.2.1,b.1.2.2) (f.1,f.2.1,f.2.2) b.2).bind fun d=>some (.slice d.1.1 d.1.2.1 d.1.2.2,d.2))))) else none:=by
 simp only[LY,Jl,Ac]; kernel_rfl
theorem RA (k c a J):EC (k+1) c a J =
 a.bind fun e=>(Aj .i64 J e.block (e.off+2)).bind fun i=>(bif decide (i<0) then some (true,J) else a.bind fun f=>(Aj .i64 J f.block (f.off+2)).bind fun j=>some (decide (j>=((c.2.1:Nat):Int)),J)).bind fun b=>bif b.1 then (some (qVi none,b.2)) else (a.bind fun g=>(Aj .i64 b.2 g.block (g.off+2)).bind fun d=>if 0<=d/\d<(c.2.1:Nat) then c.1.bind fun h=>some (qVi (some ⟨h.block,h.off+d.toNat*1,none⟩),b.2) else none):=by
 simp only[EC,Ac]; kernel_rfl
theorem SH (k b e J):H9 (k+1) b e J =
 (B5 k b e J).bind fun a=>(Bl .i64 a.1).bind fun i=>bif i != 0 then (some (.tuple #[qIi 0,qIi i],a.2)) else (b.bind fun f=>(Bd a.2 f.block (f.off+1)).bind fun h=>(Ay k b e a.2).bind fun d=>(Bl .i64 d.1).bind fun c=>if 0<=c/\c<(h.2.1:Nat) then h.1.bind fun g=>(Aj .i64 d.2 g.block (g.off+c.toNat*8+1)).bind fun j=>some (.tuple #[qIi j,qIi 0],d.2) else none):=by
 simp only[H9,Ay,B5,Ac]; kernel_rfl
theorem TQ (k a J):BS (k+1) a J =
 (Ll P L8 (qVi a) (qVi none)).bind fun d=>(bif !d then a.bind fun b=>(Aj .i64 J b.block (b.off+0)).bind fun e=>some (decide (e>0),J) else some (false,J)).bind fun c=>some (.bool c.1,c.2):=by
 simp only[BS,Ac]; kernel_rfl
theorem EW (k n c b g e i4 a J):Dq k (n+1) c b g e i4 a J =
 bif decide (a<i4) then (if 0<=a/\a<b then c.bind fun f=>(Aj .i64 J f.block (f.off+a.toNat*1)).bind fun i=>(GI k e [qIi i] J).bind fun d=>(Dk d.1).bind fun h=>bif h then (some (.ret,[qIi a],d.2)) else (Dq k n c b g e i4 (Ar (a+1)) d.2) else none) else (some (.exit 0,[],J)):=by
 simp only[GI,Dq,Ac]; kernel_rfl
theorem La (k b c J):Hk (k+1) b c J =
 (Dq k k b.1 b.2.1 b.2.2 c ((b.2.1:Nat):Int) (0:Int) J).bind fun a=>if a.1 = .exit 0 then (some (qIi (-1:Int),a.2.2)) else if a.1 = .ret then (ZS a.2.1 fun d=>some (qIi d,a.2.2)) else none:=by
 simp only[Hk,Dq,Ac]; kernel_rfl
theorem QD (k b J):Ea (k+1) b J =
 (BS k b J).bind fun a=>(Dk a.1).bind fun d=>bif !d then (some (qIi 0,a.2)) else (b.bind fun c=>(Aj .i64 a.2 c.block (c.off+0)).bind fun e=>some (qIi e,a.2)):=by
 simp only[Ea,BS,Ac]; kernel_rfl
theorem UT (k g b o J):Jd (k+1) g b o J =
 (AR k g J).bind fun i=>(Dk i.1).bind fun p=>bif !p then (some (qIi 5,i.2)) else ((DH k g b i.2).bind fun j=>(Dk j.1).bind fun q=>(bif !q then some (true,j.2) else some (!o,j.2)).bind fun a=>bif a.1 then (some (qIi 1,a.2)) else (g.bind fun l=>(Bd a.2 l.block (l.off+0)).bind fun n=>if 0<=b/\b<(n.2.1:Nat) then n.1.bind fun m=>(Aj .i64 a.2 m.block (m.off+b.toNat*2+0)).bind fun r=>(bif r != 1 then g.bind fun d=>(Bd a.2 d.block (d.off+0)).bind fun f=>if 0<=b/\b<(f.2.1:Nat) then f.1.bind fun e=>(Aj .i64 a.2 e.block (e.off+b.toNat*2+0)).bind fun h=>some (h != 2,a.2) else none else some (false,a.2)).bind fun c=>bif c.1 then (some (qIi 5,c.2)) else (some (qIi 0,c.2)) else none)):=by
 simp only[Jd,AR,DH,Ac]; kernel_rfl
theorem M7 (k n d i1 b J):FU k (n+1) d i1 b J =
 d.bind fun g=>(Bd J g.block (g.off+0)).bind fun l=>if 0<=i1/\i1<(l.2.1:Nat) then l.1.bind fun h=>(Aj .i64 J h.block (h.off+i1.toNat*2+0)).bind fun p=>(bif p == 2 then d.bind fun i=>(Bd J i.block (i.off+0)).bind fun o=>some (decide ((Ar (i1+b))<((o.2.1:Nat):Int)),J) else some (false,J)).bind fun e=>(bif e.1 then d.bind fun j=>(Bd e.2 j.block (j.off+0)).bind fun m=>if 0<=(Ar (i1+b))/\(Ar (i1+b))<(m.2.1:Nat) then m.1.bind fun c=>(Aj .i64 e.2 c.block (c.off+(Ar (i1+b)).toNat*2+0)).bind fun f=>some (f == 3,e.2) else none else some (false,e.2)).bind fun a=>bif a.1 then (FU k n d i1 (Ar (b+1)) a.2) else (some (.exit 0,[qIi b],a.2)) else none:=by
 simp only[FU,Ac]; kernel_rfl
theorem UX (k c d J):Gs (k+1) c d J =
 (FU k k c d (1:Int) J).bind fun a=>if a.1 = .exit 0 then (ZS a.2.1 fun b=>some (qIi b,a.2.2)) else none:=by
 simp only[Gs,FU,Ac]; kernel_rfl
theorem FI (k n v0 i1 j i u i5 a J):Dh k (n+1) v0 i1 j i u i5 a J =
 bif decide (a<i5) then (Ae J (.cells [qIi 0,qIi 0,qIi 0] Am true) fun c r=>(H0 r c 0 [qIi i1,qIi 0,qIi a]).bind fun h=>(bif i1 == 0 then (if (16:Int)=0 then none else if (16:Int)=0 then none else (CX h c (0+1) (qIi (Ar (a.tdiv (16:Int))))).bind fun s=>(CX s c (0+2) (qIi (a.tmod (16:Int)))).bind fun t=>some (.normal,[],t)) else (some (.normal,[],h)):Option Bq).bind fun b=>if b.1 = .normal then (if 0<=a/\a<i then j.bind fun e=>(Aj .i64 b.2.2 e.block (e.off+a.toNat*1)).bind fun m=>(bif m != 0 then (Aj .i64 b.2.2 c 0).bind fun o=>(Aj .i64 b.2.2 c (0+1)).bind fun p=>(Aj .i64 b.2.2 c (0+1+1)).bind fun q=>if 0<=a/\a<i then j.bind fun f=>(Ja k v0 [.agg #[qIi o,qIi p,qIi q],qVi (some ⟨f.block,f.off+a.toNat*1,none⟩)] b.2.2).bind fun g=>(Dk g.1).bind fun l=>some (!l,g.2) else none else some (false,b.2.2)).bind fun d=>bif d.1 then (some (.ret,[],d.2)) else (Dh k n v0 i1 j i u i5 (Ar (a+1)) d.2) else none) else none) else (some (.exit 2,[],J)):=by
 simp only[Ja,Dh,Ac]; kernel_rfl
theorem BO (k n v0 h1 i2 a J):Dg k (n+1) v0 h1 i2 a J =
 bif decide (a<i2) then (if 0<=a/\a<(3:Nat) then (Bd J h1 (0+a.toNat*1)).bind fun b=>(Dh k k v0 a b.1 b.2.1 b.2.2 ((b.2.1:Nat):Int) (0:Int) J).bind fun c=>if c.1 = .exit 2 then (Dg k n v0 h1 i2 (Ar (a+1)) c.2.2) else if c.1 = .ret then (some (.ret,[],c.2.2)) else none else none) else (some (.exit 0,[],J)):=by
 simp only[Dg,Dh,Ac]; kernel_rfl
theorem LZ (k p d J):I0 (k+1) p d J =
 d.bind fun j=>(B7 J j.block j.off).bind fun q=>q.bind fun l=>(Bd J l.block (l.off+1)).bind fun f=>d.bind fun m=>(B7 J m.block m.off).bind fun r=>r.bind fun n=>(Bd J n.block (n.off+2)).bind fun g=>d.bind fun o=>(B7 J o.block o.off).bind fun h=>h.bind fun c=>(Bd J c.block (c.off+3)).bind fun b=>Ae J (.cells [.slice f.1 f.2.1 f.2.2,.slice g.1 g.2.1 g.2.2,.slice b.1 b.2.1 b.2.2] FP true) fun e i=>(Dg k k p e ((3:Nat):Int) (0:Int) i).bind fun a=>if a.1 = .exit 0 then (some (.tuple #[],a.2.2)) else if a.1 = .ret then (some (.tuple #[],a.2.2)) else none:=by
 simp only[I0,Dg,Ac]; kernel_rfl
theorem ON (k n b i1 i2 a J):Ic k (n+1) b i1 i2 a J =
 (bif decide (a<i1) then (Ct k b (Ar (i2+a)) J).bind fun d=>(Bl .i64 d.1).bind fun e=>some (e == 0,d.2) else some (false,J)).bind fun c=>bif c.1 then (Ic k n b i1 i2 (Ar (a+1)) c.2) else (some (.exit 2,[qIi a],c.2)):=by
 simp only[Ct,Ic,Ac]; kernel_rfl
theorem Wd (k n b i1 a J):Ib k (n+1) b i1 a J =
 (CC k b J).bind fun d=>(Bl .i64 d.1).bind fun e=>bif decide ((Ar (a+i1))<=e) then ((Ic k k b i1 a (0:Int) d.2).bind fun c=>if c.1 = .exit 2 then (ZS c.2.1 fun f=>bif f == i1 then (some (.ret,[qIi a],c.2.2)) else (Ib k n b i1 (Ar (a+1)) c.2.2)) else none) else (some (.exit 0,[],d.2)):=by
 simp only[CC,Ib,Ic,Ac]; kernel_rfl
theorem ZJ (k b c J):Iv (k+1) b c J =
 (Ib k k b c (1:Int) J).bind fun a=>if a.1 = .exit 0 then (some (qIi 0,a.2.2)) else if a.1 = .ret then (ZS a.2.1 fun d=>some (qIi d,a.2.2)) else none:=by
 simp only[Iv,Ib,Ac]; kernel_rfl
theorem Jy (k n f i1 i2 a J):Cr k (n+1) f i1 i2 a J =
 bif decide (a<(Ar (i1+i2))) then (f.bind fun b=>(Bd J b.block (b.off+0)).bind fun d=>if 0<=a/\a<(d.2.1:Nat) then d.1.bind fun c=>(Aj .i64 J c.block (c.off+a.toNat*2+0)).bind fun e=>bif e != 0 then (some (.ret,[qIi 8],J)) else (Cr k n f i1 i2 (Ar (a+1)) J) else none) else (some (.exit 0,[],J)):=by
 simp only[Cr,Ac]; kernel_rfl
theorem Jz (k n e i1 i2 i3 a J):Cs k (n+1) e i1 i2 i3 a J =
 bif decide (a<(Ar (i1+i2))) then (e.bind fun b=>(Bd J b.block (b.off+0)).bind fun d=>if 0<=a/\a<(d.2.1:Nat) then d.1.bind fun c=>(H0 J c.block (c.off+a.toNat*2) [qIi 3,qIi i3]).bind fun f=>Cs k n e i1 i2 i3 (Ar (a+1)) f else none) else (some (.exit 2,[],J)):=by
 simp only[Cs,Ac]; kernel_rfl
theorem OM (k e b i r J):DT (k+1) e b i r J =
 (Az k e J).bind fun n=>(Dk n.1).bind fun u=>bif !u then (some (qIi 5,n.2)) else ((Fb k e b n.2).bind fun o=>(Dk o.1).bind fun v=>(bif !v then some (true,o.2) else some (decide (i<1),o.2)).bind fun j=>(bif j.1 then some (true,j.2) else e.bind fun s=>(Bd j.2 s.block (s.off+0)).bind fun w=>some (decide (i>(Ar (((w.2.1:Nat):Int)-b))),j.2)).bind fun p=>(bif p.1 then some (true,p.2) else (IH k r p.2).bind fun t=>(Dk t.1).bind fun l=>some (!l,t.2)).bind fun c=>bif c.1 then (some (qIi 1,c.2)) else ((Cr k k e b i b c.2).bind fun a=>if a.1 = .exit 0 then ((Cs k k e b i r b a.2.2).bind fun d=>if d.1 = .exit 2 then (e.bind fun f=>(Bd d.2.2 f.block (f.off+0)).bind fun h=>if 0<=b/\b<(h.2.1:Nat) then h.1.bind fun g=>(CX d.2.2 g.block (g.off+b.toNat*2+0) (qIi 2)).bind fun q=>some (qIi 0,q) else none) else none) else if a.1 = .ret then (ZS a.2.1 fun m=>some (qIi m,a.2.2)) else none)):=by
 simp only[DT,Cr,Cs,Az,Fb,IH,Ac]; kernel_rfl
theorem PC (k n h0 f e o a J):Jk k (n+1) h0 f e o a J =
 bif decide (a<(e:Int)) then (if 0<=a/\a<e then f.bind fun c=>(Aj .i64 J c.block (c.off+a.toNat*2+1)).bind fun g=>(Aj .i64 J h0 0).bind fun h=>(Aj .i64 J h0 (0+1)).bind fun i=>(Aj .i64 J h0 (0+1+1)).bind fun j=>(Ck k h i j J).bind fun b=>(Bl .i64 b.1).bind fun l=>bif decide (g>=l) then (if 0<=a/\a<e then f.bind fun d=>(Aj .i64 b.2 d.block (d.off+a.toNat*2+0)).bind fun m=>some (.ret,[qIi m,.bool true],b.2) else none) else (Jk k n h0 f e o (Ar (a+1)) b.2) else none) else (some (.exit 2,[],J)):=by
 simp only[Ck,Jk,Ac]; kernel_rfl
theorem PB (k n c i1 f d J):GO k (n+1) c i1 f d J =
 (CC k c J).bind fun i=>(Bl .i64 i.1).bind fun o=>bif decide (d<o) then ((Ct k c d i.2).bind fun j=>(Bl .i64 j.1).bind fun p=>(bif p != 1 then some (true,j.2) else (Fa k c d j.2).bind fun m=>(Bl .i64 m.1).bind fun q=>some (q != i1,m.2)).bind fun l=>bif l.1 then (GO k n c i1 f (Ar (d+1)) l.2) else ((Ir k c d l.2).bind fun e=>(Ej e.1).bind fun b=>(Jk k k f b.1 b.2.1 b.2.2 (0:Int) e.2).bind fun a=>if a.1 = .exit 2 then (GO k n c i1 f (Ar (d+1)) a.2.2) else if a.1 = .ret then (vI a.2.1 fun h g=>some (.ret,[qIi h,.bool g],a.2.2)) else none)) else (some (.exit 0,[],i.2)):=by
 simp only[CC,Ir,Fa,Ct,GO,Jk,Ac]; kernel_rfl
theorem bG (k g b c d h J):N8 (k+1) g b c d h J =
 Ae J (.cells [qIi b,qIi c,qIi d] Ad true) fun h1 s2=>(GO k k g h h1 (1:Int) s2).bind fun a=>if a.1 = .exit 0 then (some (.tuple #[qIi 0,.bool false],a.2.2)) else if a.1 = .ret then (vI a.2.1 fun f e=>some (.tuple #[qIi f,.bool e],a.2.2)) else none:=by
 simp only[N8,GO,Ac]; kernel_rfl
theorem SF (k g a m J):Gu (k+1) g a m J =
 (Az k g J).bind fun i=>(Dk i.1).bind fun q=>bif !q then (some (qIi 5,i.2)) else ((Fb k g a i.2).bind fun j=>(Dk j.1).bind fun r=>(bif !r then some (true,j.2) else (IH k m j.2).bind fun p=>(Dk p.1).bind fun s=>some (!s,p.2)).bind fun b=>bif b.1 then (some (qIi 1,b.2)) else (g.bind fun n=>(Bd b.2 n.block (n.off+0)).bind fun o=>if 0<=a/\a<(o.2.1:Nat) then o.1.bind fun c=>(Aj .i64 b.2 c.block (c.off+a.toNat*2+0)).bind fun h=>bif h != 0 then (some (qIi 8,b.2)) else (g.bind fun d=>(Bd b.2 d.block (d.off+0)).bind fun f=>if 0<=a/\a<(f.2.1:Nat) then f.1.bind fun e=>(H0 b.2 e.block (e.off+a.toNat*2) [qIi 1,qIi m]).bind fun l=>some (qIi 0,l) else none) else none)):=by
 simp only[Gu,Az,Fb,IH,Ac]; kernel_rfl
theorem XY (k a b c J):Ck (k+1) a b c J =
 Ae J (.cells [qIi a,qIi b,qIi c] Ad true) fun h1 s2=>(Aj .i64 s2 h1 0).bind fun h=>(Aj .i64 s2 h1 (0+1)).bind fun i=>(Aj .i64 s2 h1 (0+1+1)).bind fun j=>(IG k h i j s2).bind fun d=>(Dk d.1).bind fun g=>bif !g then (some (qIi 0,d.2)) else ((Aj .i64 d.2 h1 (0+0)).bind fun e=>(Aj .i64 d.2 h1 (0+1)).bind fun f=>if (2:Int)=0 then none else some (qIi (Ar ((Ar ((Ar ((2:Int)+e))+f))+((Ar ((Ar ((2:Int)+e))+f)).tmod (2:Int)))),d.2)):=by
 simp only[IG,Ck,Ac]; kernel_rfl
theorem LR (k n h i1 e i3 a J):Fl k (n+1) h i1 e i3 a J =
 bif decide (a<i3) then (h.bind fun b=>(Bd J b.block (b.off+0)).bind fun d=>(Aj .i64 J e 0).bind fun f=>(Aj .i64 J e (0+1)).bind fun g=>if 0<=(Ar (i1+a))/\(Ar (i1+a))<(d.2.1:Nat) then d.1.bind fun c=>(H0 J c.block (c.off+(Ar (i1+a)).toNat*2) [qIi f,qIi g]).bind fun i=>Fl k n h i1 e i3 (Ar (a+1)) i else none) else (some (.exit 1,[],J)):=by
 simp only[Fl,Ac]; kernel_rfl
theorem Tt (k m d t e f g h J):FC (k+1) m d t e f g h J =
 Ae J (.cells [qIi e,qIi f] Bj true) fun h1 s2=>Ae s2 (.cells [qIi g,qIi h] Bj true) fun G H=>(AR k m H).bind fun B=>(Dk B.1).bind fun E=>bif !E then (some (qIi 5,B.2)) else ((DH k m d B.2).bind fun C=>(Dk C.1).bind fun F=>(bif !F then some (true,C.2) else some (decide (t<1),C.2)).bind fun u=>(bif u.1 then some (true,u.2) else m.bind fun n=>(Bd u.2 n.block (n.off+0)).bind fun x=>some (decide (t>(Ar (((x.2.1:Nat):Int)-d))),u.2)).bind fun c=>(bif c.1 then some (true,c.2) else (Aj .i64 c.2 h1 (0+1)).bind fun y=>(M8 k y c.2).bind fun s=>(Dk s.1).bind fun v=>some (!v,s.2)).bind fun a=>bif a.1 then (some (qIi 1,a.2)) else (m.bind fun o=>(Bd a.2 o.block (o.off+0)).bind fun i=>(Gh Bj 2 (i.1,i.2.1,i.2.2) (some (qIi d)) (some (qIi (Ar (d+t)))) none a.2).bind fun j=>(DM k (j.1,j.2.1,j.2.2) (.func (.func 285) #[] #[]) a.2).bind fun l=>(Dk l.1).bind fun w=>bif w then (some (qIi 8,l.2)) else ((Fl k k m d G t (0:Int) l.2).bind fun b=>if b.1 = .exit 1 then (m.bind fun p=>(Bd b.2.2 p.block (p.off+0)).bind fun r=>(Aj .i64 b.2.2 h1 0).bind fun z=>(Aj .i64 b.2.2 h1 (0+1)).bind fun A=>if 0<=d/\d<(r.2.1:Nat) then r.1.bind fun q=>(H0 b.2.2 q.block (q.off+d.toNat*2) [qIi z,qIi A]).bind fun D=>some (qIi 0,D) else none) else none))):=by
 simp only[FC,Fl,AR,DH,M8,DM,Ac]; kernel_rfl
theorem LW (k n q i1 i2 l b J):Dn k (n+1) q i1 i2 l b J =
 q.bind fun i=>(Bd J i.block (i.off+1)).bind fun s=>bif decide (b<((s.2.1:Nat):Int)) then (q.bind fun j=>(Bd J j.block (j.off+1)).bind fun m=>if 0<=b/\b<(m.2.1:Nat) then m.1.bind fun a=>(Aj .i64 J a.block (a.off+b.toNat*8)).bind fun t=>(Aj .i64 J a.block (a.off+b.toNat*8+1)).bind fun u=>(Aj .i64 J a.block (a.off+b.toNat*8+1+1)).bind fun v=>(Aj .i64 J a.block (a.off+b.toNat*8+1+1+1)).bind fun w=>(Aj .i64 J a.block (a.off+b.toNat*8+1+1+1+1)).bind fun x=>(Bd J a.block (a.off+b.toNat*8+1+1+1+1+1)).bind fun f=>(Bd J a.block (a.off+b.toNat*8+1+1+1+1+1+1)).bind fun g=>(Vu J a.block (a.off+b.toNat*8+1+1+1+1+1+1+1)).bind fun r=>Ae J (.cells [qIi 0,qIi 0,qIi 0,qIi 0,qIi 0,.slice none 0 0,.slice none 0 0,.bool false] Ab true) fun c K=>(H0 K c 0 [qIi t,qIi u,qIi v,qIi w,qIi x,.slice f.1 f.2.1 f.2.2,.slice g.1 g.2.1 g.2.2,.bool r]).bind fun e=>(Aj .i64 e c (0+1)).bind fun y=>(bif y != i2 then (Aj .i64 e c (0+0)).bind fun z=>(Aj .i64 e l 0).bind fun A=>(Aj .i64 e l (0+1)).bind fun B=>(Aj .i64 e l (0+1+1)).bind fun C=>(Ck k A B C e).bind fun o=>(Bl .i64 o.1).bind fun D=>some (decide (z<(Ar (i1+D))),o.2) else some (false,e)).bind fun d=>(bif d.1 then (Aj .i64 d.2 c (0+0)).bind fun E=>(Aj .i64 d.2 c (0+2)).bind fun F=>(Aj .i64 d.2 c (0+2+1)).bind fun G=>(Aj .i64 d.2 c (0+2+1+1)).bind fun H=>(Ck k F G H d.2).bind fun p=>(Bl .i64 p.1).bind fun I=>some (decide (i1<(Ar (E+I))),p.2) else some (false,d.2)).bind fun h=>bif h.1 then (some (.ret,[qIi 8],h.2)) else (Dn k n q i1 i2 l (Ar (b+1)) h.2) else none) else (some (.exit 0,[],J)):=by
 simp only[Dn,Ck,Ac]; kernel_rfl
theorem TE (k n b f g h N J):Is (k+1) n b f g h N J =
 Ae J (.cells [qIi f,qIi g,qIi h] Ad true) fun h1 s2=>(bif decide (b<0) then some (true,s2) else if (2:Int)=0 then none else some ((b.tmod (2:Int)) != (0:Int),s2)).bind fun w=>(bif w.1 then some (true,w.2) else n.bind fun M=>(Bd w.2 M.block (M.off+0)).bind fun O=>some (decide (b>=(Ar (((O.2.1:Nat):Int)*(64:Int)))),w.2)).bind fun m=>bif m.1 then (some (qIi 1,m.2)) else (if (64:Int)=0 then none else (Aj .i64 m.2 h1 0).bind fun P=>(Aj .i64 m.2 h1 (0+1)).bind fun Q=>(Aj .i64 m.2 h1 (0+1+1)).bind fun S=>(EP k P Q S m.2).bind fun a=>(Dk a.1).bind fun x=>(bif x then (if (64:Int)=0 then none else (bif (b.tmod (64:Int)) != (0:Int) then some (true,a.2) else n.bind fun o=>(Bd a.2 o.block (o.off+0)).bind fun s=>if 0<=(Ar (b.tdiv (64:Int)))/\(Ar (b.tdiv (64:Int)))<(s.2.1:Nat) then s.1.bind fun p=>(Aj .i64 a.2 p.block (p.off+(Ar (b.tdiv (64:Int))).toNat*2+0)).bind fun y=>some (y != 2,a.2) else none).bind fun i=>(bif i.1 then some (true,i.2) else (Gx k n (Ar (b.tdiv (64:Int))) i.2).bind fun c=>(Bl .i64 c.1).bind fun z=>(Aj .i64 c.2 h1 0).bind fun A=>(Aj .i64 c.2 h1 (0+1)).bind fun B=>(Aj .i64 c.2 h1 (0+1+1)).bind fun C=>(EU k A B C c.2).bind fun u=>(Bl .i64 u.1).bind fun D=>some (z != D,u.2)).bind fun j=>bif j.1 then (some (.ret,[qIi 5],j.2)) else (some (.normal,[],j.2))) else (n.bind fun q=>(Bd a.2 q.block (q.off+0)).bind fun t=>if 0<=(Ar (b.tdiv (64:Int)))/\(Ar (b.tdiv (64:Int)))<(t.2.1:Nat) then t.1.bind fun r=>(Aj .i64 a.2 r.block (r.off+(Ar (b.tdiv (64:Int))).toNat*2+0)).bind fun E=>(bif E != 1 then some (true,a.2) else (Aj .i64 a.2 h1 0).bind fun F=>(Aj .i64 a.2 h1 (0+1)).bind fun G=>(Aj .i64 a.2 h1 (0+1+1)).bind fun H=>(Ck k F G H a.2).bind fun v=>(Bl .i64 v.1).bind fun I=>if (64:Int)=0 then none else some ((Ar ((Ar ((Ar (b+I))-(1:Int))).tdiv (64:Int))) != (Ar (b.tdiv (64:Int))),v.2)).bind fun l=>bif l.1 then (some (.ret,[qIi 5],l.2)) else (some (.normal,[],l.2)) else none):Option Bq).bind fun d=>if d.1 = .normal then ((Dn k k n b N h1 (0:Int) d.2.2).bind fun e=>if e.1 = .exit 0 then (some (qIi 0,e.2.2)) else if e.1 = .ret then (ZS e.2.1 fun K=>some (qIi K,e.2.2)) else none) else if d.1 = .ret then (ZS d.2.1 fun L=>some (qIi L,d.2.2)) else none):=by
 simp only[Gx,Is,Dn,EP,EU,Ck,Ac]; kernel_rfl
theorem MA (k n c h1 b J):EA k (n+1) c h1 b J =
 c.bind fun d=>(Bd J d.block (d.off+1)).bind fun h=>(bif decide (b<((h.2.1:Nat):Int)) then c.bind fun e=>(Bd J e.block (e.off+1)).bind fun g=>if 0<=b/\b<(g.2.1:Nat) then g.1.bind fun f=>(Aj .i64 J f.block (f.off+b.toNat*8+0)).bind fun i=>(Aj .i64 J h1 (0+0)).bind fun j=>some (decide (i<j),J) else none else some (false,J)).bind fun a=>bif a.1 then (EA k n c h1 (Ar (b+1)) a.2) else (some (.exit 0,[qIi b],a.2)):=by
 simp only[EA,Ac]; kernel_rfl
theorem Vg (k x g h i j l b c m J):Hx (k+1) x g h i j l b c m J =
 Ae J (.cells [qIi g,qIi h,qIi i,qIi j,qIi l,.slice b.1 b.2.1 b.2.2,.slice c.1 c.2.1 c.2.2,.bool m] Ab true) fun h1 s2=>(EA k k x h1 (0:Int) s2).bind fun e=>if e.1 = .exit 0 then (ZS e.2.1 fun w=>x.bind fun t=>(Bd e.2.2 t.block (t.off+1)).bind fun n=>(Gh Ab 8 (n.1,n.2.1,n.2.2) none (some (qIi w)) none e.2.2).bind fun o=>(AG P Ab (none,0,0) (o.1,o.2.1,o.2.2) e.2.2).bind fun a=>(Aj .i64 a.2 h1 0).bind fun A=>(Aj .i64 a.2 h1 (0+1)).bind fun B=>(Aj .i64 a.2 h1 (0+1+1)).bind fun C=>(Aj .i64 a.2 h1 (0+1+1+1)).bind fun D=>(Aj .i64 a.2 h1 (0+1+1+1+1)).bind fun E=>(Bd a.2 h1 (0+1+1+1+1+1)).bind fun p=>(Bd a.2 h1 (0+1+1+1+1+1+1)).bind fun q=>(Vu a.2 h1 (0+1+1+1+1+1+1+1)).bind fun y=>Ae a.2 (.cells [qIi A,qIi B,qIi C,qIi D,qIi E,.slice p.1 p.2.1 p.2.2,.slice q.1 q.2.1 q.2.2,.bool y] Ab true) fun z F=>(AG P Ab (a.1.1,a.1.2.1,a.1.2.2) (some ⟨z,0,none⟩,1,1) F).bind fun d=>x.bind fun u=>(Bd d.2 u.block (u.off+1)).bind fun r=>(Gh Ab 8 (r.1,r.2.1,r.2.2) (some (qIi w)) none none d.2).bind fun s=>(AG P Ab (d.1.1,d.1.2.1,d.1.2.2) (s.1,s.2.1,s.2.2) d.2).bind fun f=>x.bind fun v=>(CX f.2 v.block (v.off+1) (.slice f.1.1 f.1.2.1 f.1.2.2)).bind fun G=>some (.tuple #[],G)) else none:=by
 simp only[Hx,EA,Ac]; kernel_rfl
theorem Mz (k n f i1 i2 i3 a J):E8 k (n+1) f i1 i2 i3 a J =
 bif decide (a<(Ar (i1+i2))) then ((Jb k f a J).bind fun b=>He b.1 fun d e=>(bif e == 0 then some (d != i3,b.2) else some (false,b.2)).bind fun c=>bif c.1 then (some (.ret,[qIi 8],c.2)) else (E8 k n f i1 i2 i3 (Ar (a+2)) c.2)) else (some (.exit 0,[],J)):=by
 simp only[Jb,E8,Ac]; kernel_rfl
theorem US (k g a m x J):Jc (k+1) g a m x J =
 (bif decide (a<0) then some (true,J) else g.bind fun t=>(Bd J t.block (t.off+1)).bind fun y=>some (decide (a>=((y.2.1:Nat):Int)),J)).bind fun r=>(bif r.1 then some (true,r.2) else if (2:Int)=0 then none else some ((a.tmod (2:Int)) != (0:Int),r.2)).bind fun d=>bif d.1 then (some (qIi 1,d.2)) else (if (64:Int)=0 then none else (bif decide (m<=32) then (g.bind fun u=>(Bd d.2 u.block (u.off+0)).bind fun w=>if 0<=(Ar (a.tdiv (64:Int)))/\(Ar (a.tdiv (64:Int)))<(w.2.1:Nat) then w.1.bind fun v=>(Aj .i64 d.2 v.block (v.off+(Ar (a.tdiv (64:Int))).toNat*2+0)).bind fun z=>(bif z != 1 then some (true,d.2) else if (64:Int)=0 then none else some ((Ar ((Ar ((Ar (a+m))-(1:Int))).tdiv (64:Int))) != (Ar (a.tdiv (64:Int))),d.2)).bind fun s=>bif s.1 then (some (.ret,[qIi 5],s.2)) else (some (.normal,[],s.2)) else none) else (g.bind fun h=>(Bd d.2 h.block (h.off+0)).bind fun j=>if 0<=(Ar (a.tdiv (64:Int)))/\(Ar (a.tdiv (64:Int)))<(j.2.1:Nat) then j.1.bind fun i=>(Aj .i64 d.2 i.block (i.off+(Ar (a.tdiv (64:Int))).toNat*2+0)).bind fun n=>(bif n != 2 then some (true,d.2) else if (64:Int)=0 then none else some ((a.tmod (64:Int)) != (0:Int),d.2)).bind fun e=>(bif e.1 then some (true,e.2) else (Gs k g (Ar (a.tdiv (64:Int))) e.2).bind fun l=>(Bl .i64 l.1).bind fun o=>if (64:Int)=0 then none else some (o != (Ar ((Ar ((Ar (m+64))-(1:Int))).tdiv (64:Int))),l.2)).bind fun f=>bif f.1 then (some (.ret,[qIi 5],f.2)) else (some (.normal,[],f.2)) else none):Option Bq).bind fun b=>if b.1 = .normal then ((E8 k k g a m x a b.2.2).bind fun c=>if c.1 = .exit 0 then (some (qIi 0,c.2.2)) else if c.1 = .ret then (ZS c.2.1 fun p=>some (qIi p,c.2.2)) else none) else if b.1 = .ret then (ZS b.2.1 fun q=>some (qIi q,b.2.2)) else none):=by
 simp only[Jc,E8,Gs,Ac]; kernel_rfl
theorem XR (k a b c J):Ln (k+1) a b c J =
 Ae J (.cells [qIi a,qIi b,qIi c] Ad true) fun h1 s2=>(Aj .i64 s2 h1 (0+0)).bind fun d=>(Aj .i64 s2 h1 (0+1)).bind fun e=>(Aj .i64 s2 h1 (0+2)).bind fun f=>some (qIi (Ar ((Ar (d+(Ar ((16:Int)*e))))+(Ar ((4096:Int)*f)))),s2):=by
 simp only[Ln,Ac]; kernel_rfl
theorem SV (k g h c J):Fc (k+1) g h c J =
 Ae J (.cells [qVi g] L8 true) fun h1 s2=>(B7 s2 h1 0).bind fun l=>(BS k l s2).bind fun b=>(Dk b.1).bind fun i=>bif !i then (some (qIi 5,b.2)) else ((B7 b.2 h1 0).bind fun m=>(Fe k m h b.2).bind fun e=>(Dk e.1).bind fun j=>(bif !j then some (true,e.2) else (CK k (c.1,c.2.1,c.2.2) (.func (.func 288) #[] #[qVi (some ⟨h1,0,none⟩)]) e.2).bind fun f=>(Dk f.1).bind fun d=>some (d,f.2)).bind fun a=>bif a.1 then (some (qIi 1,a.2)) else (some (qIi 0,a.2))):=by
 simp only[Fc,BS,Fe,CK,Ac]; kernel_rfl
theorem Vm (k d a i J):G4 (k+1) d a i J =
 d.bind fun e=>(Aj .i64 J e.block (e.off+1)).bind fun b=>d.bind fun f=>(Bd J f.block (f.off+2)).bind fun g=>if (64:Int)=0 then none else if 0<=(Ar ((Ar (a*b)).tdiv (64:Int)))/\(Ar ((Ar (a*b)).tdiv (64:Int)))<(g.2.1:Nat) then g.1.bind fun c=>(Aj .u64 J c.block (c.off+(Ar ((Ar (a*b)).tdiv (64:Int))).toNat*1)).bind fun j=>(DL k d J).bind fun h=>(Bl .i64 h.1).bind fun l=>if (64:Int)=0 then none else if ((Ar (a*b)).tmod (64:Int))<0 then none else if (64:Int)=0 then none else if ((Ar (a*b)).tmod (64:Int))<0 then none else (CX h.2 c.block (c.off+(Ar ((Ar (a*b)).tdiv (64:Int))).toNat*1) (.int .u64 (u64 ((BitVec.ofInt 64 (u64 ((BitVec.ofInt 64 j &&& ~~~ (BitVec.ofInt 64 (u64 ((u64 (l))*2 ^ (min ((Ar (a*b)).tmod (64:Int)).toNat 64))))).toNat)) ||| BitVec.ofInt 64 (u64 ((u64 (i))*2 ^ (min ((Ar (a*b)).tmod (64:Int)).toNat 64)))).toNat)))).bind fun m=>some (.tuple #[],m) else none:=by
 simp only[DL,G4,Ac]; kernel_rfl
theorem Ma (k n b i1 i2 i3 a J):Fu k (n+1) b i1 i2 i3 a J =
 bif decide (a<i3) then ((G4 k b (Ar (i1+a)) i2 J).bind fun c=>Wz c.1 (Fu k n b i1 i2 i3 (Ar (a+1)) c.2)) else (some (.exit 0,[],J)):=by
 simp only[Fu,G4,Ac]; kernel_rfl
theorem TN (k b c d f J):FJ (k+1) b c d f J =
 Ae J (.cells [qIi f] Ak true) fun h1 s2=>(Fc k b c (some ⟨h1,0,none⟩,1,1) s2).bind fun a=>(Bl .i64 a.1).bind fun h=>bif h != 0 then (some (qIi h,a.2)) else ((bif decide (d<1) then some (true,a.2) else b.bind fun g=>(Aj .i64 a.2 g.block (g.off+0)).bind fun j=>some (decide (d>(Ar (j-c))),a.2)).bind fun e=>bif e.1 then (some (qIi 1,e.2)) else ((Fu k k b c f d (0:Int) e.2).bind fun i=>if i.1 = .exit 0 then (some (qIi 0,i.2.2)) else none)):=by
 simp only[FJ,Fu,Fc,Ac]; kernel_rfl
theorem OL (k n g i1 i2 c b J):HZ k (n+1) g i1 i2 c b J =
 bif decide (b<i2) then ((AL k g i1 b J).bind fun d=>He d.1 fun f i=>Ae d.2 (.cells [qIi f] Ak true) fun e h=>(AG P Ak (c.1,c.2.1,c.2.2) (some ⟨e,0,none⟩,1,1) h).bind fun a=>HZ k n g i1 i2 (a.1.1,a.1.2.1,a.1.2.2) (Ar (b+1)) a.2) else (some (.exit 0,[.slice c.1 c.2.1 c.2.2],J)):=by
 simp only[AL,HZ,Ac]; kernel_rfl
theorem ZG (k l m J):KL (k+1) l m J =
 (AK k l m J).bind fun n=>(an n.1).bind fun i=>if i.length=2 then i.head?.bind fun r=>Ms r fun o p q=>i.tail.head?.bind fun s=>(Bl .i64 s).bind fun t=>Ae n.2 (.cells [qIi 0,qIi 0,qIi 0] Ad true) fun g j=>(H0 j g 0 [qIi o,qIi p,qIi q]).bind fun d=>(Aj .i64 d g (0+0)).bind fun a=>if 0<=(0:Int)/\(0:Int)<=a/\a*(8:Nat)<=2 ^ 40/\a<=2 ^ 40 then Ae d (.cells (rep a.toNat [qIi 0]) Ak true) fun f e=>(Aj .i64 e g (0+0)).bind fun h=>(HZ k k l m h (some ⟨f,0,none⟩,(0:Int).toNat,a.toNat) (0:Int) e).bind fun c=>if c.1 = .exit 0 then (Sc c.2.1 fun b=>some (.slice b.1 b.2.1 b.2.2,c.2.2)) else none else none else none:=by
 simp only[AK,KL,HZ,Ac]; kernel_rfl
theorem Kl (k n f r p u i4 b a J):Cm k (n+1) f r p u i4 b a J =
 bif decide (a<i4) then (if 0<=a/\a<p then r.bind fun D=>(Aj .i64 J D.block (D.off+a.toNat*1)).bind fun q=>(CN k f q J).bind fun s=>(Dk s.1).bind fun F=>(bif !F then some (true,s.2) else f.bind fun E=>(B7 s.2 E.block (E.off+0)).bind fun z=>(ET k z q s.2).bind fun l=>(Bl .i64 l.1).bind fun w=>some (w != 2,l.2)).bind fun c=>bif c.1 then (Cm k n f r p u i4 (b.1,b.2.1,b.2.2) (Ar (a+1)) c.2) else (f.bind fun i=>(B7 c.2 i.block (i.off+0)).bind fun A=>(AL k A q (0:Int) c.2).bind fun m=>He m.1 fun x G=>(CN k f x m.2).bind fun d=>(Dk d.1).bind fun t=>(bif t then (f.bind fun j=>(B7 d.2 j.block (j.off+0)).bind fun B=>(AL k B q (1:Int) d.2).bind fun o=>He o.1 fun y H=>Ae o.2 (.cells [qIi y] Ak true) fun v C=>(AG P Ak (b.1,b.2.1,b.2.2) (some ⟨v,0,none⟩,1,1) C).bind fun e=>some (.normal,[.slice e.1.1 e.1.2.1 e.1.2.2],e.2)) else (some (.normal,[.slice b.1 b.2.1 b.2.2],d.2)):Option Bq).bind fun h=>if h.1 = .normal then (Sc h.2.1 fun g=>Cm k n f r p u i4 (g.1,g.2.1,g.2.2) (Ar (a+1)) h.2.2) else none) else none) else (some (.exit 0,[.slice b.1 b.2.1 b.2.2],J)):=by
 simp only[AL,ET,Cm,CN,Ac]; kernel_rfl
theorem Km (k n f g d h i4 a J):D8 k (n+1) f g d h i4 a J =
 bif decide (a<i4) then (if 0<=a/\a<d then g.bind fun b=>(Aj .i64 J b.block (b.off+a.toNat*1)).bind fun e=>(BV k f e J).bind fun c=>Wz c.1 (D8 k n f g d h i4 (Ar (a+1)) c.2) else none) else (some (.exit 2,[],J)):=by
 simp only[BV,D8,Ac]; kernel_rfl
theorem Qj (k e J):Gk (k+1) e J =
 e.bind fun f=>(B7 J f.block (f.off+0)).bind fun h=>(Ca k h J).bind fun g=>(Ej g.1).bind fun d=>(Cm k k e d.1 d.2.1 d.2.2 ((d.2.1:Nat):Int) (none,0,0) (0:Int) g.2).bind fun b=>if b.1 = .exit 0 then (Sc b.2.1 fun a=>(D8 k k e a.1 a.2.1 a.2.2 ((a.2.1:Nat):Int) (0:Int) b.2.2).bind fun c=>if c.1 = .exit 2 then (some (.tuple #[],c.2.2)) else none) else none:=by
 simp only[Ca,Gk,Cm,D8,Ac]; kernel_rfl
theorem Wk (k b c J):CN (k+1) b c J =
 b.bind fun d=>(B7 J d.block (d.off+0)).bind fun i=>(Bc k i c J).bind fun a=>(Dk a.1).bind fun g=>(bif g then (CE k b c a.2).bind fun e=>(Bl .i64 e.1).bind fun h=>some (h != 0,e.2) else some (false,a.2)).bind fun f=>some (.bool f.1,f.2):=by
 simp only[Bc,CE,CN,Ac]; kernel_rfl
theorem XV (k b c d J):JX (k+1) b c d J =
 (JO k b c (d) J).bind fun a=>(Bl .i64 a.1).bind fun e=>some (.bool (decide (e>0)),a.2):=by
 simp only[JX,JO,Ac]; kernel_rfl
theorem TR (k c J):DL (k+1) c J =
 c.bind fun a=>(Aj .i64 J a.block (a.off+1)).bind fun b=>if b<0 then none else some (qIi (Ar ((Ar ((1:Int)*2 ^ (min b.toNat 64)))-(1:Int))),J):=by
 simp only[DL,Ac]; kernel_rfl
theorem II (k n c b e i3 i4 a J):EN k (n+1) c b e i3 i4 a J =
 bif decide (a<i4) then (if 0<=a/\a<b then c.bind fun d=>(Aj .i64 J d.block (d.off+a.toNat*1)).bind fun f=>bif i3 == f then (some (.ret,[qIi a],J)) else (EN k n c b e i3 i4 (Ar (a+1)) J) else none) else (some (.exit 0,[],J)):=by
 simp only[EN,Ac]; kernel_rfl
theorem MQ (k b c J):J8 (k+1) b c J =
 (EN k k b.1 b.2.1 b.2.2 c ((b.2.1:Nat):Int) (0:Int) J).bind fun a=>if a.1 = .exit 0 then (some (qIi (-1:Int),a.2.2)) else if a.1 = .ret then (ZS a.2.1 fun d=>some (qIi d,a.2.2)) else none:=by
 simp only[J8,EN,Ac]; kernel_rfl
theorem UO (k J):Fj (k+1)  J =
 Ae J (.cells [.iface 268 (.agg #[]),.iface 269 (.agg #[]),.iface 270 (.agg #[]),.iface 271 (.agg #[]),.iface 272 (.agg #[])] St true) fun h1 s2=>some (.slice (some ⟨h1,0,none⟩) 5 5,s2):=by
 simp only[Fj,Ac]; kernel_rfl
theorem Po (k a J):FA (k+1) a J =
 (Ll P JC (qVi a) (qVi none)).bind fun d=>(bif !d then a.bind fun b=>(B7 J b.block (b.off+0)).bind fun f=>(Ll P EY (qVi f) (qVi none)).bind fun e=>some (!e,J) else some (false,J)).bind fun c=>some (.bool c.1,c.2):=by
 simp only[FA,Ac]; kernel_rfl
theorem N4 (k n a i1 c J):Df k (n+1) a i1 c J =
 a.bind fun f=>(B7 J f.block (f.off+0)).bind fun l=>(AE k l J).bind fun b=>(Bl .i64 b.1).bind fun i=>bif decide ((Ar (c+i1))<=i) then (a.bind fun g=>(B7 b.2 g.block (g.off+0)).bind fun m=>a.bind fun h=>(Aj .i64 b.2 h.block (h.off+1)).bind fun j=>(Cf k m c i1 j b.2).bind fun e=>(Bl .i64 e.1).bind fun d=>bif d == 0 then (some (.ret,[qIi (Ar (c*64)),.bool true],e.2)) else (Df k n a i1 (Ar (c+1)) e.2)) else (some (.exit 0,[],b.2)):=by
 simp only[Df,AE,Cf,Ac]; kernel_rfl
theorem OD (k d e J):Fi (k+1) d e J =
 if (64:Int)=0 then none else (Df k k d (Ar ((Ar ((Ar (e+64))-(1:Int))).tdiv (64:Int))) (1:Int) J).bind fun a=>if a.1 = .exit 0 then (some (.tuple #[qIi 0,.bool false],a.2.2)) else if a.1 = .ret then (vI a.2.1 fun c b=>some (.tuple #[qIi c,.bool b],a.2.2)) else none:=by
 simp only[Fi,Df,Ac]; kernel_rfl
theorem Tv (k c d J):DH (k+1) c d J =
 (AR k c J).bind fun b=>(Dk b.1).bind fun g=>(bif g then some (decide (d>=1),b.2) else some (false,b.2)).bind fun a=>(bif a.1 then c.bind fun e=>(Bd a.2 e.block (e.off+0)).bind fun h=>some (decide (d<((h.2.1:Nat):Int)),a.2) else some (false,a.2)).bind fun f=>some (.bool f.1,f.2):=by
 simp only[AR,DH,Ac]; kernel_rfl
theorem SM (k d a J):Ct (k+1) d a J =
 (Az k d J).bind fun f=>(Dk f.1).bind fun l=>(bif !l then some (true,f.2) else some (decide (a<0),f.2)).bind fun c=>(bif c.1 then some (true,c.2) else d.bind fun g=>(Bd c.2 g.block (g.off+0)).bind fun m=>some (decide (a>=((m.2.1:Nat):Int)),c.2)).bind fun b=>bif b.1 then (some (qIi (-1:Int),b.2)) else (d.bind fun h=>(Bd b.2 h.block (h.off+0)).bind fun j=>if 0<=a/\a<(j.2.1:Nat) then j.1.bind fun i=>(Aj .i64 b.2 i.block (i.off+a.toNat*2+0)).bind fun e=>some (qIi e,b.2) else none):=by
 simp only[Az,Ct,Ac]; kernel_rfl
theorem SO (k d a J):Fb (k+1) d a J =
 (bif decide (a>=1) then d.bind fun b=>(Bd J b.block (b.off+0)).bind fun e=>some (decide (a<((e.2.1:Nat):Int)),J) else some (false,J)).bind fun c=>some (.bool c.1,c.2):=by
 simp only[Fb,Ac]; kernel_rfl
theorem XZ (k a J):IH (k+1) a J =
 (bif decide (a>=0) then some (decide (a<8),J) else some (false,J)).bind fun b=>some (.bool b.1,b.2):=by
 simp only[IH,Ac]; kernel_rfl
theorem SL (k d a J):Fa (k+1) d a J =
 (Az k d J).bind fun f=>(Dk f.1).bind fun l=>(bif !l then some (true,f.2) else some (decide (a<0),f.2)).bind fun c=>(bif c.1 then some (true,c.2) else d.bind fun g=>(Bd c.2 g.block (g.off+0)).bind fun m=>some (decide (a>=((m.2.1:Nat):Int)),c.2)).bind fun b=>bif b.1 then (some (qIi (-1:Int),b.2)) else (d.bind fun h=>(Bd b.2 h.block (h.off+0)).bind fun j=>if 0<=a/\a<(j.2.1:Nat) then j.1.bind fun i=>(Aj .i64 b.2 i.block (i.off+a.toNat*2+1)).bind fun e=>some (qIi e,b.2) else none):=by
 simp only[Az,Fa,Ac]; kernel_rfl
theorem LV (k n s j h C f r a J):Dm k (n+1) s j h C f r a J =
 bif decide (a<(h:Int)) then (if 0<=a/\a<h then j.bind fun A=>(Aj .i64 J A.block (A.off+a.toNat*1)).bind fun E=>(bif decide (E>r) then (if 0<=a/\a<h then j.bind fun B=>(Aj .i64 J B.block (B.off+a.toNat*1)).bind fun F=>Ae J (.cells [qIi r,qIi (Ar (F-r))] AF true) fun D z=>(AG P AF (f.1,f.2.1,f.2.2) (some ⟨D,0,none⟩,1,1) z).bind fun g=>some (.normal,[.slice g.1.1 g.1.2.1 g.1.2.2],g.2) else none) else (some (.normal,[.slice f.1 f.2.1 f.2.2],J)):Option Bq).bind fun c=>if c.1 = .normal then (Sc c.2.1 fun i=>if 0<=a/\a<h then j.bind fun l=>(Aj .i64 c.2.2 l.block (l.off+a.toNat*1)).bind fun t=>s.bind fun m=>(Bd c.2.2 m.block (m.off+1)).bind fun p=>if 0<=a/\a<h then j.bind fun o=>(Aj .i64 c.2.2 o.block (o.off+a.toNat*1)).bind fun u=>(Ay k s u c.2.2).bind fun e=>(Bl .i64 e.1).bind fun d=>if 0<=d/\d<(p.2.1:Nat) then p.1.bind fun b=>(Aj .i64 e.2 b.block (b.off+d.toNat*8+2)).bind fun v=>(Aj .i64 e.2 b.block (b.off+d.toNat*8+2+1)).bind fun w=>(Aj .i64 e.2 b.block (b.off+d.toNat*8+2+1+1)).bind fun x=>(Ck k v w x e.2).bind fun q=>(Bl .i64 q.1).bind fun y=>Dm k n s j h C (i.1,i.2.1,i.2.2) (Ar (t+y)) (Ar (a+1)) q.2 else none else none else none) else none else none) else (some (.exit 0,[.slice f.1 f.2.1 f.2.2,qIi r],J)):=by
 simp only[Dm,Ay,Ck,Ac]; kernel_rfl
theorem TA (k h g J):Ir (k+1) h g J =
 (Ct k h g J).bind fun l=>(Bl .i64 l.1).bind fun o=>bif o != 1 then (some (.slice none 0 0,l.2)) else ((GM k h g l.2).bind fun n=>(Ej n.1).bind fun j=>(Dm k k h j.1 j.2.1 j.2.2 (none,0,0) (Ar (g*64)) (0:Int) n.2).bind fun b=>if b.1 = .exit 0 then (zS b.2.1 fun a e=>(bif decide (e<(Ar ((Ar (g+1))*(64:Int)))) then (Ae b.2.2 (.cells [qIi e,qIi (Ar ((Ar ((Ar (g+1))*(64:Int)))-e))] AF true) fun i m=>(AG P AF (a.1,a.2.1,a.2.2) (some ⟨i,0,none⟩,1,1) m).bind fun c=>some (.normal,[.slice c.1.1 c.1.2.1 c.1.2.2],c.2)) else (some (.normal,[.slice a.1 a.2.1 a.2.2],b.2.2)):Option Bq).bind fun f=>if f.1 = .normal then (Sc f.2.1 fun d=>some (.slice d.1 d.2.1 d.2.2,f.2.2)) else none) else none):=by
 simp only[Ir,Dm,GM,Ct,Ac]; kernel_rfl
theorem ZC (k a J):M8 (k+1) a J =
 (bif decide (a>=0) then some (decide (a<8),J) else some (false,J)).bind fun b=>some (.bool b.1,b.2):=by
 simp only[M8,Ac]; kernel_rfl
theorem Lz (k a c J):DM (k+1) a c J =
 (EH k (a.1,a.2.1,a.2.2) (c) J).bind fun b=>(Bl .i64 b.1).bind fun d=>some (.bool (decide (d>=0)),b.2):=by
 simp only[DM,EH,Ac]; kernel_rfl
theorem Q0 (k a b J):GJ (k+1) a b J =
 Ae J (.cells [qIi a,qIi b] Bj true) fun h1 s2=>(Aj .i64 s2 h1 0).bind fun d=>(Aj .i64 s2 h1 (0+1)).bind fun e=>(Ll P Bj (.agg #[qIi d,qIi e]) (.agg #[qIi 0,qIi 0])).bind fun c=>some (.bool (!c),s2):=by
 simp only[GJ,Ac]; kernel_rfl
theorem Lx (k n f i1 b J):DD k (n+1) f i1 b J =
 f.bind fun i=>(Bd J i.block (i.off+0)).bind fun g=>(bif decide ((Ar (i1+b))<((g.2.1:Nat):Int)) then f.bind fun c=>(Bd J c.block (c.off+0)).bind fun e=>if 0<=(Ar (i1+b))/\(Ar (i1+b))<(e.2.1:Nat) then e.1.bind fun d=>(Aj .i64 J d.block (d.off+(Ar (i1+b)).toNat*2+0)).bind fun h=>some (h == 3,J) else none else some (false,J)).bind fun a=>bif a.1 then (DD k n f i1 (Ar (b+1)) a.2) else (some (.exit 0,[qIi b],a.2)):=by
 simp only[DD,Ac]; kernel_rfl
theorem SN (k c a J):Gx (k+1) c a J =
 c.bind fun e=>(Bd J e.block (e.off+0)).bind fun i=>if 0<=a/\a<(i.2.1:Nat) then i.1.bind fun f=>(Aj .i64 J f.block (f.off+a.toNat*2+0)).bind fun l=>bif l == 1 then (some (qIi 1,J)) else (c.bind fun g=>(Bd J g.block (g.off+0)).bind fun j=>if 0<=a/\a<(j.2.1:Nat) then j.1.bind fun h=>(Aj .i64 J h.block (h.off+a.toNat*2+0)).bind fun m=>bif m != 2 then (some (qIi 0,J)) else ((DD k k c a (1:Int) J).bind fun b=>if b.1 = .exit 0 then (ZS b.2.1 fun d=>some (qIi d,b.2.2)) else none) else none) else none:=by
 simp only[Gx,DD,Ac]; kernel_rfl
theorem UQ (k d e J):Jb (k+1) d e J =
 (AR k d J).bind fun b=>(Dk b.1).bind fun n=>bif !n then (some (.tuple #[qIi 0,qIi 5],b.2)) else ((bif decide (e<0) then some (true,b.2) else d.bind fun l=>(Bd b.2 l.block (l.off+1)).bind fun o=>some (decide (e>=((o.2.1:Nat):Int)),b.2)).bind fun f=>bif f.1 then (some (.tuple #[qIi 0,qIi 4],f.2)) else (d.bind fun m=>(B7 f.2 m.block (m.off+2)).bind fun p=>if (2:Int)=0 then none else (I6 k p (Ar ((Ar (e.tdiv (2:Int)))+(1:Int))) (1:Int) f.2).bind fun j=>He j.1 fun i g=>(bif g != 0 then some (true,j.2) else (D5 k d (Ar ((2:Int)*i)) j.2).bind fun c=>(Bl .i64 c.1).bind fun h=>some (decide (e>=(Ar ((Ar ((2:Int)*i))+h))),c.2)).bind fun a=>bif a.1 then (some (.tuple #[qIi 0,qIi 4],a.2)) else (some (.tuple #[qIi (Ar ((2:Int)*i)),qIi 0],a.2)))):=by
 simp only[Jb,AR,D5,I6,Ac]; kernel_rfl
theorem Qf (k d b J):Gj (k+1) d b J =
 b.bind fun a=>(B7 J a.block a.off).bind fun f=>(HB k f d J).bind fun c=>(Dk c.1).bind fun e=>some (.bool (!e),c.2):=by
 simp only[Gj,HB,Ac]; kernel_rfl
theorem SX (k d a J):HB (k+1) d a J =
 (bif decide (a>=0) then (DL k d J).bind fun b=>(Bl .i64 b.1).bind fun e=>some (decide (a<=e),b.2) else some (false,J)).bind fun c=>some (.bool c.1,c.2):=by
 simp only[DL,HB,Ac]; kernel_rfl
theorem HA (k n g i1 a c J):DU k (n+1) g i1 a c J =
 (Az k g J).bind fun l=>(Dk l.1).bind fun u=>(bif u then g.bind fun q=>(Bd l.2 q.block (q.off+1)).bind fun v=>some (decide (c<((v.2.1:Nat):Int)),l.2) else some (false,l.2)).bind fun d=>bif d.1 then (g.bind fun r=>(Bd d.2 r.block (r.off+1)).bind fun t=>if 0<=c/\c<(t.2.1:Nat) then t.1.bind fun s=>(Aj .i64 d.2 s.block (s.off+c.toNat*8+0)).bind fun w=>if (64:Int)=0 then none else (bif (Ar (w.tdiv (64:Int))) == i1 then (g.bind fun h=>(Bd d.2 h.block (h.off+1)).bind fun j=>if 0<=c/\c<(j.2.1:Nat) then j.1.bind fun i=>(Aj .i64 d.2 i.block (i.off+c.toNat*8+0)).bind fun o=>Ae d.2 (.cells [qIi o] Ak true) fun m p=>(AG P Ak (a.1,a.2.1,a.2.2) (some ⟨m,0,none⟩,1,1) p).bind fun b=>some (.normal,[.slice b.1.1 b.1.2.1 b.1.2.2],b.2) else none) else (some (.normal,[.slice a.1 a.2.1 a.2.2],d.2)):Option Bq).bind fun f=>if f.1 = .normal then (Sc f.2.1 fun e=>DU k n g i1 (e.1,e.2.1,e.2.2) (Ar (c+1)) f.2.2) else none else none) else (some (.exit 0,[.slice a.1 a.2.1 a.2.2],d.2)):=by
 simp only[Az,DU,Ac]; kernel_rfl
theorem Q9 (k c d J):GM (k+1) c d J =
 (DU k k c d (none,0,0) (0:Int) J).bind fun b=>if b.1 = .exit 0 then (Sc b.2.1 fun a=>some (.slice a.1 a.2.1 a.2.2,b.2.2)) else none:=by
 simp only[GM,DU,Ac]; kernel_rfl
theorem MO (k n h i1 j i3 c a J):DZ k (n+1) h i1 j i3 c a J =
 bif decide (a<i3) then ((AL k h i1 a J).bind fun b=>He b.1 fun l p=>(bif l != 0 then (Aj .i64 b.2 j (0+2)).bind fun m=>(FE k m a b.2).bind fun f=>(Dk f.1).bind fun i=>some (i,f.2) else some (false,b.2)).bind fun d=>(bif d.1 then ((CT k h i1 a (0:Int) d.2).bind fun g=>(Bl .i64 g.1).bind fun q=>some (.normal,[qIi (Ar (c+1))],g.2)) else (some (.normal,[qIi c],d.2)):Option Bq).bind fun e=>if e.1 = .normal then (ZS e.2.1 fun o=>DZ k n h i1 j i3 o (Ar (a+1)) e.2.2) else none) else (some (.exit 0,[qIi c],J)):=by
 simp only[AL,CT,DZ,FE,Ac]; kernel_rfl
theorem Wb (k i j t J):JO (k+1) i j t J =
 (AK k i j J).bind fun s=>(an s.1).bind fun q=>if q.length=2 then q.head?.bind fun y=>Ms y fun v w x=>q.tail.head?.bind fun z=>(Bl .i64 z).bind fun A=>Ae s.2 (.cells [qIi 0,qIi 0,qIi 0] Ad true) fun f r=>(H0 r f 0 [qIi v,qIi w,qIi x]).bind fun b=>(Aj .i64 b f (0+2)).bind fun m=>(bif m != 1 then (Aj .i64 b f (0+2)).bind fun n=>some (n != 2,b) else some (false,b)).bind fun c=>bif c.1 then (some (qIi 0,c.2)) else ((AL k i j (0:Int) c.2).bind fun d=>He d.1 fun g u=>(bif g != 0 then (GI k t [qIi g] d.2).bind fun h=>(Dk h.1).bind fun l=>some (l,h.2) else some (false,d.2)).bind fun a=>bif a.1 then (some (qIi 0,a.2)) else ((Aj .i64 a.2 f (0+0)).bind fun o=>(DZ k k i j f o (0:Int) (0:Int) a.2).bind fun e=>if e.1 = .exit 0 then (ZS e.2.1 fun p=>some (qIi p,e.2.2)) else none)) else none:=by
 simp only[GI,AL,AK,JO,DZ,Ac]; kernel_rfl
theorem Hq (k n d c g f i4 a J):BU k (n+1) d c g f i4 a J =
 bif decide (a<i4) then (if 0<=a/\a<c then d.bind fun b=>(Aj .i64 J b.block (b.off+a.toNat*2)).bind fun i=>(Aj .i64 J b.block (b.off+a.toNat*2+1)).bind fun j=>(KK k f [.agg #[qIi i,qIi j]] J).bind fun e=>(Dk e.1).bind fun h=>bif h then (some (.ret,[qIi a],e.2)) else (BU k n d c g f i4 (Ar (a+1)) e.2) else none) else (some (.exit 0,[],J)):=by
 simp only[KK,BU,Ac]; kernel_rfl
theorem MC (k b c J):EH (k+1) b c J =
 (BU k k b.1 b.2.1 b.2.2 c ((b.2.1:Nat):Int) (0:Int) J).bind fun a=>if a.1 = .exit 0 then (some (qIi (-1:Int),a.2.2)) else if a.1 = .ret then (ZS a.2.1 fun d=>some (qIi d,a.2.2)) else none:=by
 simp only[EH,BU,Ac]; kernel_rfl
theorem Mb (k n b i1 a J):Fv k (n+1) b i1 a J =
 bif decide (a>=0) then ((Ew k b a J).bind fun c=>(Bl .i64 c.1).bind fun d=>bif d == i1 then (some (.ret,[qIi a,qIi 0],c.2)) else (Fv k n b i1 (Ar (a-1)) c.2)) else (some (.exit 0,[],J)):=by
 simp only[Fv,Ew,Ac]; kernel_rfl
theorem TO (k d b g J):I6 (k+1) d b g J =
 (BS k d J).bind fun c=>(Dk c.1).bind fun h=>bif !h then (some (.tuple #[qIi 0,qIi 5],c.2)) else (d.bind fun e=>(Aj .i64 c.2 e.block (e.off+0)).bind fun f=>(Fv k k d g (Ar ((if f<(if (0:Int)>b then (0:Int) else b) then f else (if (0:Int)>b then (0:Int) else b))-(1:Int))) c.2).bind fun a=>if a.1 = .exit 0 then (some (.tuple #[qIi 0,qIi 4],a.2.2)) else if a.1 = .ret then (jf a.2.1 fun i j=>some (.tuple #[qIi i,qIi j],a.2.2)) else none):=by
 simp only[I6,Fv,BS,Ac]; kernel_rfl
theorem Rs (k b e J):Hb (k+1) b e J =
 Ae J (.cells [] Ju true) fun h1 s2=>(Ek k b (0:Int) e s2).bind fun c=>(Ej c.1).bind fun a=>(DS k b (a.1,a.2.1,a.2.2) c.2).bind fun d=>sA d.1 fun g f=>some (.tuple #[qIi g,.bool f],d.2):=by
 simp only[Ek,DS,Hb,Ac]; kernel_rfl
theorem OE (k i c J):DS (k+1) i c J =
 bif decide (((c.2.1:Nat):Int)>(0:Int)) then (if 0<=(0:Int)/\(0:Int)<(c.2.1:Nat) then c.1.bind fun g=>(Aj .i64 J g.block (g.off+(0:Int).toNat*2+0)).bind fun l=>some (.tuple #[qIi l,.bool true],J) else none) else ((Fh k i J).bind fun h=>(an h.1).bind fun e=>if e.length=2 then e.head?.bind fun o=>yY o fun m n=>e.tail.head?.bind fun p=>(Dk p).bind fun j=>Ae h.2 (.cells [qIi 0,qIi 0] Nz true) fun a f=>(H0 f a 0 [qIi m,qIi n]).bind fun b=>(Aj .i64 b a (0+0)).bind fun d=>some (.tuple #[qIi d,.bool j],b) else none):=by
 simp only[Fh,DS,Ac]; kernel_rfl
theorem JM (k n i0 i1 u l z i5 d b J):CJ k (n+1) i0 i1 u l z i5 d b J =
 bif decide (b<i5) then (if 0<=b/\b<l then u.bind fun j=>(Aj .i64 J j.block (j.off+b.toNat*2)).bind fun o=>(Aj .i64 J j.block (j.off+b.toNat*2+1)).bind fun p=>Ae J (.cells [qIi 0,qIi 0] AF true) fun a v=>(H0 v a 0 [qIi o,qIi p]).bind fun f=>(Aj .i64 f a (0+0)).bind fun i=>(bif decide ((Ar (i0-i))>(0:Int)) then ((Aj .i64 f a (0+1)).bind fun q=>(CX f a (0+0) (qIi i0)).bind fun w=>(CX w a (0+1) (qIi (Ar (q-(Ar (i0-i)))))).bind fun x=>some (.normal,[],x)) else (some (.normal,[],f)):Option Bq).bind fun c=>if c.1 = .normal then ((Aj .i64 c.2.2 a (0+1)).bind fun r=>(bif decide (r>=i1) then ((Aj .i64 c.2.2 a 0).bind fun s=>(Aj .i64 c.2.2 a (0+1)).bind fun t=>Ae c.2.2 (.cells [qIi s,qIi t] AF true) fun m y=>(AG P AF (d.1,d.2.1,d.2.2) (some ⟨m,0,none⟩,1,1) y).bind fun e=>some (.normal,[.slice e.1.1 e.1.2.1 e.1.2.2],e.2)) else (some (.normal,[.slice d.1 d.2.1 d.2.2],c.2.2)):Option Bq).bind fun h=>if h.1 = .normal then (Sc h.2.1 fun g=>CJ k n i0 i1 u l z i5 (g.1,g.2.1,g.2.2) (Ar (b+1)) h.2.2) else none) else none else none) else (some (.exit 2,[.slice d.1 d.2.1 d.2.2],J)):=by
 simp only[CJ,Ac]; kernel_rfl
theorem JL (k n g i1 i2 h f l i6 d a J):CH k (n+1) g i1 i2 h f l i6 d a J =
 bif decide (a<i6) then (if 0<=a/\a<f then h.bind fun i=>(Aj .i64 J i.block (i.off+a.toNat*1)).bind fun o=>g.bind fun j=>(B7 J j.block (j.off+0)).bind fun p=>(Hw k p o J).bind fun m=>(Ej m.1).bind fun e=>(CJ k k i1 i2 e.1 e.2.1 e.2.2 ((e.2.1:Nat):Int) (d.1,d.2.1,d.2.2) (0:Int) m.2).bind fun c=>if c.1 = .exit 2 then (Sc c.2.1 fun b=>CH k n g i1 i2 h f l i6 (b.1,b.2.1,b.2.2) (Ar (a+1)) c.2.2) else none else none) else (some (.exit 0,[.slice d.1 d.2.1 d.2.2],J)):=by
 simp only[CH,CJ,Hw,Ac]; kernel_rfl
theorem Pn (k d f g J):Ek (k+1) d f g J =
 (D4 k d J).bind fun e=>(Ej e.1).bind fun c=>(CH k k d f g c.1 c.2.1 c.2.2 ((c.2.1:Nat):Int) (none,0,0) (0:Int) e.2).bind fun b=>if b.1 = .exit 0 then (Sc b.2.1 fun a=>some (.slice a.1 a.2.1 a.2.2,b.2.2)) else none:=by
 simp only[D4,Ek,CH,Ac]; kernel_rfl
theorem Jx (k n c h1 b J):De k (n+1) c h1 b J =
 c.bind fun h=>(B7 J h.block (h.off+0)).bind fun m=>(AE k m J).bind fun d=>(Bl .i64 d.1).bind fun l=>bif decide (b<l) then (c.bind fun i=>(B7 d.2 i.block (i.off+0)).bind fun o=>c.bind fun j=>(Aj .i64 d.2 j.block (j.off+1)).bind fun e=>(DG k o b e d.2).bind fun a=>(Bl .i64 a.1).bind fun f=>bif f == 0 then ((H0 a.2 h1 0 [qIi (Ar (b*64)),qIi (Ar ((Ar (b+1))*(64:Int)))]).bind fun g=>some (.ret,[.bool true],g)) else (De k n c h1 (Ar (b+1)) a.2)) else (some (.exit 0,[],d.2)):=by
 simp only[De,AE,DG,Ac]; kernel_rfl
theorem OC (k i J):Fh (k+1) i J =
 Ae J (.cells [qIi 0,qIi 0] Nz true) fun h1 s2=>(De k k i h1 (1:Int) s2).bind fun a=>if a.1 = .exit 0 then ((H0 a.2.2 h1 0 [qIi 0,qIi 0]).bind fun b=>(((Nh b h1 0 2).bind fun f=>some (.agg f.toArray)).bind fun g=>some [g,.bool false]).bind fun c=>some (Lb c,b)) else if a.1 = .ret then (oE a.2.1 fun e=>(((Nh a.2.2 h1 0 2).bind fun v20=>some (.agg v20.toArray)).bind fun h=>some [h,.bool e]).bind fun d=>some (Lb d,a.2.2)) else none:=by
 simp only[Fh,De,Ac]; kernel_rfl
theorem IZ (k n i i1 b a J):Ce k (n+1) i i1 b a J =
 bif decide (a<i1) then (i.bind fun r=>(B7 J r.block (r.off+0)).bind fun u=>(Bn k u a J).bind fun j=>(Bl .i64 j.1).bind fun t=>(bif t == 1 then i.bind fun s=>(B7 j.2 s.block (s.off+0)).bind fun p=>(BE k p a j.2).bind fun e=>(Bl .i64 e.1).bind fun m=>i.bind fun h=>(Aj .i64 e.2 h.block (h.off+1)).bind fun o=>some (m == o,e.2) else some (false,j.2)).bind fun f=>(bif f.1 then (Ae f.2 (.cells [qIi a] Ak true) fun l q=>(AG P Ak (b.1,b.2.1,b.2.2) (some ⟨l,0,none⟩,1,1) q).bind fun c=>some (.normal,[.slice c.1.1 c.1.2.1 c.1.2.2],c.2)) else (some (.normal,[.slice b.1 b.2.1 b.2.2],f.2)):Option Bq).bind fun g=>if g.1 = .normal then (Sc g.2.1 fun d=>Ce k n i i1 (d.1,d.2.1,d.2.2) (Ar (a+1)) g.2.2) else none) else (some (.exit 0,[.slice b.1 b.2.1 b.2.2],J)):=by
 simp only[Ce,BE,Bn,Ac]; kernel_rfl
theorem Oj (k c J):D4 (k+1) c J =
 c.bind fun d=>(B7 J d.block (d.off+0)).bind fun g=>(AE k g J).bind fun e=>(Bl .i64 e.1).bind fun f=>(Ce k k c f (none,0,0) (0:Int) e.2).bind fun b=>if b.1 = .exit 0 then (Sc b.2.1 fun a=>some (.slice a.1 a.2.1 a.2.2,b.2.2)) else none:=by
 simp only[D4,Ce,AE,Ac]; kernel_rfl
theorem Mx (k n i h1 g j f m i6 a J):E6 k (n+1) i h1 g j f m i6 a J =
 bif decide (a<i6) then (if 0<=a/\a<f then j.bind fun c=>(Aj .i64 J c.block (c.off+a.toNat*1)).bind fun b=>(D9 k b (some ⟨h1,0,none⟩) (some ⟨g,0,none⟩) J).bind fun d=>Wz d.1 ((D5 k i b d.2).bind fun e=>(Bl .i64 e.1).bind fun h=>(CX e.2 h1 0 (qIi (Ar (b+h)))).bind fun l=>E6 k n i h1 g j f m i6 (Ar (a+1)) l) else none) else (some (.exit 0,[],J)):=by
 simp only[D9,E6,D5,Ac]; kernel_rfl
theorem Le (k f d J):Hw (k+1) f d J =
 (Fm k f d J).bind fun h=>(Dk h.1).bind fun j=>bif !j then (some (.slice none 0 0,h.2)) else (Ae h.2 (.cells [.slice none 0 0] Sa true) fun g l=>Ae l (.cells [qIi 0] Ak true) fun h5 m=>(CX m h5 0 (qIi (Ar (d*64)))).bind fun n=>(Cd k f d n).bind fun i=>(Ej i.1).bind fun e=>(E6 k k f h5 g e.1 e.2.1 e.2.2 ((e.2.1:Nat):Int) (0:Int) i.2).bind fun c=>if c.1 = .exit 0 then ((D9 k (Ar ((Ar (d+1))*(64:Int))) (some ⟨h5,0,none⟩) (some ⟨g,0,none⟩) c.2.2).bind fun b=>Wz b.1 ((Bd b.2 g 0).bind fun a=>some (.slice a.1 a.2.1 a.2.2,b.2))) else none):=by
 simp only[Hw,D9,E6,Cd,Fm,Ac]; kernel_rfl
theorem NU (k c b J):Fm (k+1) c b J =
 (DH k c b J).bind fun a=>(Dk a.1).bind fun h=>(bif h then c.bind fun d=>(Bd a.2 d.block (d.off+0)).bind fun f=>if 0<=b/\b<(f.2.1:Nat) then f.1.bind fun e=>(Aj .i64 a.2 e.block (e.off+b.toNat*2+0)).bind fun i=>some (i == 1,a.2) else none else some (false,a.2)).bind fun g=>some (.bool g.1,g.2):=by
 simp only[DH,Fm,Ac]; kernel_rfl
theorem Mw (k i d e J):D9 (k+1) i d e J =
 d.bind fun j=>(Aj .i64 J j.block j.off).bind fun p=>(bif decide (i>p) then (e.bind fun l=>(Bd J l.block l.off).bind fun f=>d.bind fun m=>(Aj .i64 J m.block m.off).bind fun q=>d.bind fun n=>(Aj .i64 J n.block n.off).bind fun r=>Ae J (.cells [qIi q,qIi (Ar (i-r))] AF true) fun o g=>(AG P AF (f.1,f.2.1,f.2.2) (some ⟨o,0,none⟩,1,1) g).bind fun a=>e.bind fun b=>(CX a.2 b.block b.off (.slice a.1.1 a.1.2.1 a.1.2.2)).bind fun h=>some (.normal,[],h)) else (some (.normal,[],J)):Option Bq).bind fun c=>if c.1 = .normal then (some (.tuple #[],c.2.2)) else none:=by
 simp only[D9,Ac]; kernel_rfl
theorem Xg (k:Nat) (f:Int) (g:Int) (a:qSi) (b:qSi) (c:qSi) (d:qSi) (e:qSi) (x1:qSi) (J:Aa):fn P X H k 5 [.agg #[.int .u8 f,.int .u8 g,.slice a.1 a.2.1 a.2.2,.slice b.1 b.2.1 b.2.2,.slice c.1 c.2.1 c.2.2,.slice d.1 d.2.1 d.2.2,.slice e.1 e.2.1 e.2.2],.slice x1.1 x1.2.1 x1.2.2] J=Jf k f g a b c d e x1 J:=by
 simp only[Jf,Ac]
theorem MM (k:Nat) (a:Int) (b:Int) (c:Int) (d:qOi) (J:Aa):H6 k (.func (.func 76) #[] #[qVi d]) [.agg #[qIi a,qIi b,qIi c]] J=Io k a b c d J:=by
 simp only[H6,Io,Ac]; kernel_rfl
theorem Nc (k:Nat) (d:Int) (e:Int) (f:Int) (a:qOi) (b:qOi) (c:qOi) (J:Aa):IE k (.func (.func 77) #[] #[qVi a,qVi b,qVi c]) [qIi d,qIi e,qIi f] J=Ip k d e f a b c J:=by
 simp only[IE,Ip,Ac]; kernel_rfl
theorem Nb (k:Nat) (c:Int) (d:Int) (a:qOi) (b:qOi) (J:Aa):ID k (.func (.func 78) #[] #[qVi a,qVi b]) [qIi c,qIi d] J=Iq k c d a b J:=by
 simp only[ID,Iq,Ac]; kernel_rfl
theorem Jw (k:Nat) (b:Int) (c:Int) (a:qOi) (J:Aa):Ik k (.func (.func 73) #[] #[qVi a]) [qIi b,qIi c] J=GK k b c a J:=by
 simp only[Ik,GK,Ac]; kernel_rfl
theorem Jv (k:Nat) (c:Int) (d:Int) (a:qOi) (b:qOi) (J:Aa):Ij k (.func (.func 75) #[] #[qVi a,qVi b]) [qIi c,qIi d] J=GL k c d a b J:=by
 simp only[Ij,GL,Ac]; kernel_rfl
theorem JK (k:Nat) (b:Value) (a:qOi) (J:Aa):LQ k (.func (.func 244) #[] #[qVi a]) [b] J=I0 k b a J:=by
 simp only[LQ,I0,Ac]; kernel_rfl
theorem Mm (k:Nat) (a:qOi) (b:Int) (J:Aa):IF k (.func (.func 272) #[] #[]) [qVi a,qIi b] J=Fi k a b J:=by
 simp only[IF,Fi,Ac]; kernel_rfl
theorem Sw (k:Nat) (b:Int) (a:qOi) (J:Aa):GI k (.func (.func 166) #[] #[qVi a]) [qIi b] J=Hr k b a J:=by
 simp only[GI,Hr,Ac]; kernel_rfl
theorem N2 (k:Nat) (b:Int) (a:qOi) (J:Aa):GI k (.func (.func 288) #[] #[qVi a]) [qIi b] J=Gj k b a J:=by
 simp only[GI,Gj,Ac]; kernel_rfl
theorem N3 (k:Nat) (a:Int) (b:Int) (J:Aa):KK k (.func (.func 285) #[] #[]) [.agg #[qIi a,qIi b]] J=GJ k a b J:=by
 simp only[KK,GJ,Ac]; kernel_rfl
def Hg (k:Nat)  (h:Nat) (b:Nat) (d:Int) (e:Int) (f:Int) (r:qOi) (J:Aa):P5:=
 Ae J (.cells [qIi 0,qIi 0,qIi 0] Am true) fun h1 s2=>(H0 s2 h1 0 [qIi d,qIi e,qIi f]).bind fun q=>Kn h q .ready .busy fun _ _ c=>(Bd c b 0).bind fun g=>(Aj .i64 c h1 0).bind fun n=>(Aj .i64 c h1 (0+1)).bind fun o=>(Aj .i64 c h1 (0+1+1)).bind fun p=>Ae c (.cells [qIi n,qIi o,qIi p] Am true) fun m i=>(AG P Am (g.1,g.2.1,g.2.2) (some ⟨m,0,none⟩,1,1) i).bind fun a=>(CX a.2 b 0 (.slice a.1.1 a.1.2.1 a.1.2.2)).bind fun j=>Kn h j .busy .ready fun _ _ l=>some (.bool true,l)
theorem Ml (k:Nat) (h:Nat) (e:Nat) (a:Int) (b:Int) (d:Int) (f:qOi) (J:Aa) (g:J[h]?=some (.loop 96 .ready (Hf 0 17 [(3,qVi (some ⟨e,0,none⟩))]))):Ja (k+1) (.func (.yield h) #[] #[]) [.agg #[qIi a,qIi b,qIi d],qVi f] J=Hg k  h e a b d f J:=by
 simp only[Ja,Ac,Hg];exact (lu (F:=Tryz.f96) (c:=Bs Tryz.f96) (x:=(Cv (Bs Tryz.f96)).getD default) g (by kernel_rfl) (by kernel_rfl) (by kernel_rfl) (by kernel_rfl) (by kernel_rfl) (by kernel_rfl)).trans (by kernel_rfl)
def HH (k:Nat) (a:qL) (h:Nat) (c:Nat) (p:Int) (q:Int) (r:Int) (s:qOi) (J:Aa):P5:=
 Kn h J .ready .busy fun _ _ s1=>(Bd s1 c 0).bind fun g=>s.bind fun n=>(Aj .i64 s1 n.block n.off).bind fun u=>(a (g.1,g.2.1,g.2.2) u s1).bind fun e=>(Dk e.1).bind fun t=>(bif !t then ((Bd e.2 c 0).bind fun i=>s.bind fun o=>(Aj .i64 e.2 o.block o.off).bind fun v=>Ae e.2 (.cells [qIi v] Ak true) fun f j=>(AG P Ak (i.1,i.2.1,i.2.2) (some ⟨f,0,none⟩,1,1) j).bind fun b=>(CX b.2 c 0 (.slice b.1.1 b.1.2.1 b.1.2.2)).bind fun l=>some (.normal,[],l)) else (some (.normal,[],e.2)):Option Bq).bind fun d=>if d.1 = .normal then (Kn h d.2.2 .busy .ready fun _ _ m=>some (.bool true,m)) else none
theorem Mt (k:Nat) (h:Nat) (e:Nat) (a:Int) (b:Int) (d:Int) (f:qOi) (J:Aa) (g:J[h]?=some (.loop 168 .ready (Hf 0 26 [(3,qVi (some ⟨e,0,none⟩))]))):Ja (k+1) (.func (.yield h) #[] #[]) [.agg #[qIi a,qIi b,qIi d],qVi f] J=HH k (C5 k) h e a b d f J:=by
 simp only[Ja,C5,Ac,HH];exact (lu (F:=Tryz.f168) (c:=Bs Tryz.f168) (x:=(Cv (Bs Tryz.f168)).getD default) g (by kernel_rfl) (by kernel_rfl) (by kernel_rfl) (by kernel_rfl) (by kernel_rfl) (by kernel_rfl)).trans (by kernel_rfl)
end
end
section
set_option maxRecDepth 100000
section
variable [AH]
end
theorem bL (a:Addr):Ll P Ed (qVi (some a)) (qVi none)=some false/\Ll P Ed (qVi none) (qVi none)=some true/\Ll P Hl (qVi (some a)) (qVi none)=some false/\Ll P Hl (qVi none) (qVi none)=some true/\Ll P DQ (qVi (some a)) (qVi none)=some false/\Ll P DQ (qVi none) (qVi none)=some true/\Ll P Ki (qVi (some a)) (qVi none)=some false/\Ll P Ki (qVi none) (qVi none)=some true/\Ll P EY (qVi (some a)) (qVi none)=some false/\Ll P EY (qVi none) (qVi none)=some true/\Ll P FM (qVi (some a)) (qVi none)=some false/\Ll P FM (qVi none) (qVi none)=some true/\Ll P Hm (qVi (some a)) (qVi none)=some false/\Ll P Hm (qVi none) (qVi none)=some true/\Ll P PS (qVi (some a)) (qVi none)=some false/\Ll P PS (qVi none) (qVi none)=some true/\Ll P iH (qVi (some a)) (qVi none)=some false/\Ll P iH (qVi none) (qVi none)=some true/\Ll P L8 (qVi (some a)) (qVi none)=some false/\Ll P L8 (qVi none) (qVi none)=some true/\Ll P JC (qVi (some a)) (qVi none)=some false/\Ll P JC (qVi none) (qVi none)=some true:=by
 refine ⟨?_, ?_, ?_, ?_, ?_, ?_, ?_, ?_, ?_, ?_, ?_, ?_, ?_, ?_, ?_, ?_, ?_, ?_, ?_, ?_, ?_, ?_⟩ <;> kernel_rfl
abbrev Gl:FuncId:=73
abbrev Gm:FuncId:=75
abbrev SZ:FuncId:=76
abbrev Ta:FuncId:=77
abbrev Tb:FuncId:=78
abbrev L7:FuncId:=272
abbrev MV:FuncId:=285
end
section
local instance qCT:AH:=Ao
def rowOf (ws:List (BitVec 64)):List Value:=ws.map fun x=>.int .u64 (x.toNat:Int)
structure DF (J:Aa) (tb wb e w:Nat) (ws:List (BitVec 64)):Prop where
 tab:J[tb]?=some (.cells [qIi (e:Int),qIi (w:Int),.slice (some ⟨wb,0,none⟩) ws.length ws.length] N0 true)
 row:J[wb]?=some (.cells (rowOf ws) B8 true)
 len:ws.length=(e*w+63)/64
 pos:0<e
 top:e<=4096
 okw:okW w
variable {J:Aa} {tb wb e w:Nat} {ws:List (BitVec 64)}
theorem DF.ldE (h:DF J tb wb e w ws):Aj .i64 J tb 0=some (e:Int):=by
 simp[Aj,CV,h.tab,Bl]
theorem DF.uB (h:DF J tb wb e w ws):Aj .i64 J tb 1=some (w:Int):=by
 simp[Aj,CV,h.tab,Bl]
theorem DF.ldR (h:DF J tb wb e w ws):Bd J tb 2=some (some ⟨wb,0,none⟩,ws.length,ws.length):=by
 simp[Bd,CV,h.tab,Ej]
theorem DF.ldX (h:DF J tb wb e w ws) {j:Nat} (a:j<ws.length):Aj .u64 J wb j=some ((ws.getD j 0).toNat:Int):=by
 simp[Aj,CV,h.row,rowOf,Bl,Aaj a]
theorem DF.same {J':Aa} (h:DF J tb wb e w ws) (h1:J'[tb]?=J[tb]?) (h2:J'[wb]?=J[wb]?):DF J' tb wb e w ws:=
 ⟨by rw[h1]; exact h.tab,by rw[h2]; exact h.row,h.len,h.pos,h.top,h.okw⟩
theorem Af {α:Type} {l:List α} {i:Nat} {x:α} (h:l[i]?=some x):i<l.length:=by
 rcases Aeb i l.length with a | a
 ·exact a
 ·rw[Adh a] at h; cases h
theorem DF.lt (h:DF J tb wb e w ws):tb<J.length/\wb<J.length:=by
 exact ⟨Af h.tab,Af h.row⟩
theorem DF.app (τ:Aa) (h:DF J tb wb e w ws):DF (J++τ) tb wb e w ws:=
 h.same (AT h.lt.1) (AT h.lt.2)
theorem Xk (k:Nat) (h:DF J tb wb e w ws):BS (k+1) (some ⟨tb,0,none⟩) J=some (.bool true,J):=by
 have hp:=h.pos;rw[TQ];simp only[bL,AI,h.ldE,Abn,IN,Option.isNone_some,Ac7,IS];simp only[show decide ((e:Int)>0)=true from by simp; omega]
theorem mf (k:Nat) (h:DF J tb wb e w ws) (i:Int):Fe (k+2) (some ⟨tb,0,none⟩) i J=some (.bool (decide (0<=i/\i<(e:Int))),J):=by
 rw[SW,Xk _ h];simp only[AI,An,IS,h.ldE,Abn];by_cases h0:0<=i
 ·simp[h0]
 ·simp[h0]
theorem iA (k:Nat) (h:DF J tb wb e w ws):DL (k+1) (some ⟨tb,0,none⟩) J=some (qIi ((2 ^ w-1:Nat):Int),J):=by
 rw[TR];simp only[AI,h.uB,IN];rcases h.okw with rfl | rfl | rfl | rfl <;> rfl
theorem DF.fit (h:DF J tb wb e w ws) {j:Nat} (a:j<e):j*w/64<ws.length/\j*w<32768:=by
 have b:=h.len; have c:=h.top;rcases h.okw with rfl | rfl | rfl | rfl <;> omega
theorem nA (k:Nat) (h:DF J tb wb e w ws) {j:Nat} (f:j<e):Ew (k+2) (some ⟨tb,0,none⟩) (j:Int) J=some (qIi (CG w ws j:Int),J):=by
 obtain ⟨h1,g⟩:=h.fit f;have a:Ar ((j:Int)*(w:Int))=((j*w:Nat):Int):=by rw[<- Ah5]; exact XB (by omega)
 have b:((j*w:Nat):Int).tdiv 64=((j*w/64:Nat):Int):=rfl;have c:((j*w:Nat):Int).tmod 64=((j*w % 64:Nat):Int):=rfl;have d:Ar ((j*w/64:Nat):Int)=((j*w/64:Nat):Int):=XB (by omega);rw[Vl];simp only[AI,IN,h.uB,h.ldR,a,b,c,d,IT,Acu];rw[Abo (by decide),Abm (by omega)];simp only[h.ldX h1,AI];rw[Abo (by decide),Abo (by omega)];simp only[AI,iA _ h,Ah,uj _ _ _ (Ael _ (by decide:0<64)) h.okw];rfl
theorem mB (k:Nat) (h:DF J tb wb e w ws) (i:Int):D7 (k+3) (some ⟨tb,0,none⟩) i J=some (qIi (if 0<=i/\i<(e:Int) then (CG w ws i.toNat:Int) else -1),J):=by
 rw[Vj,mf _ h];simp only[AI,An];by_cases hi:0<=i/\i<(e:Int)
 ·obtain ⟨j,rfl⟩:∃ j:Nat,i=(j:Int):=⟨i.toNat,by omega⟩;simp only[hi,Ag5,Afp,Abr,By,Aah,nA _ h (show j<e by omega),AI,Ah,IT]
 ·simp only[hi,Ah1,Ac7,IS,Abs]
theorem uS (k:Nat) (h:DF J tb wb e w ws) {j v:Nat} (g:j<e):G4 (k+2) (some ⟨tb,0,none⟩) (j:Int) (v:Int) J=some (.tuple #[],J.set wb (.cells (rowOf (F9 w ws j v)) B8 true)):=by
 obtain ⟨h1,i⟩:=h.fit g;have a:=h.row;have b:Ar ((j:Int)*(w:Int))=((j*w:Nat):Int):=by rw[<- Ah5]; exact XB (by omega)
 have c:((j*w:Nat):Int).tdiv 64=((j*w/64:Nat):Int):=rfl;have d:((j*w:Nat):Int).tmod 64=((j*w % 64:Nat):Int):=rfl;have f:Ar ((j*w/64:Nat):Int)=((j*w/64:Nat):Int):=XB (by omega);rw[Vm];simp only[AI,IN,h.uB,h.ldR,b,c,d,f,IT,Acu];rw[Abo (by decide),Abm (by omega)];simp only[h.ldX h1,AI,iA _ h,Ah];rw[Abo (by decide),Abo (by omega),Abo (by decide),Abo (by omega),uT _ _ _ _ (Ael _ (by decide:0<64))];simp only[CX,a];rw[Abm (by simpa [rowOf] using h1)];simp only[AI,rowOf,F9,List.map_set]
theorem DF.put (h:DF J tb wb e w ws) (a:tb≠wb) (j v:Nat):DF (J.set wb (.cells (rowOf (F9 w ws j v)) B8 true)) tb wb e w (F9 w ws j v) where
 tab:=by
  rw[Aaf (Ac9 a),h.tab,Eg]
 row:=by rw[Abq h.lt.2]
 len:=by rw[Eg]; exact h.len
 pos:=h.pos
 top:=h.top
 okw:=h.okw
theorem aF (k:Nat) (h:DF J tb wb e w ws) (v:Nat):∀ (n j:Nat),e<n+j->0<n->Fw (k+2) n (some ⟨tb,0,none⟩) (v:Int) (j:Int) J =
  some (match QR (CG w ws) e v j with | some i=>(.ret,[qIi (i:Int),qIi 0],J) | none=>(.exit 0,[],J))
 | 0,j,f,h0=>by omega
 | n+1,j,f,h0=>by
   rw[QE,QR];simp only[AI,h.ldE,IN,Abn];by_cases a:j<e
   ·have g:=h.top;simp only[show decide ((j:Int)<(e:Int))=true from by simpa using a,IS,nA _ h a,AI,Ah,a,dif_pos];by_cases c:CG w ws j=v
    ·simp[c]
    ·have b:((CG w ws j:Int) == (v:Int))=false:=by simp; omega
     have d:=wSu j (by omega);simp only[b,By,c,Abs,d];exact aF k h v n (j+1) (by omega) (by omega)
   ·simp only[show decide ((j:Int)<(e:Int))=false from by simpa using a,By,a,dif_neg,not_false_iff]
theorem oQ (k:Nat) (b:5000<=k) (h:DF J tb wb e w ws) (i:Int) (v:Nat) (hi:i<4294967296):DK (k+3) (some ⟨tb,0,none⟩) i (v:Int) J =
  some (match QR (CG w ws) e v i.toNat with | some j=>.tuple #[qIi (j:Int),qIi 0] | none=>.tuple #[qIi 0,qIi 4],J):=by
 have c:=h.top;have a:(if (0:Int)>i then (0:Int) else i)=(i.toNat:Int):=by split <;> omega
 rw[TP,Xk _ h];simp only[AI,An,Abr,By,a];rw[aF k h v (k+2) i.toNat (by omega) (by omega)];cases QR (CG w ws) e v i.toNat with
 | none=>simp
 | some j=>simp[UL]
theorem aB (k:Nat) (h:DF J tb wb e w ws) (v:Nat):∀ (n j:Nat),j<=e->j<n->Fv (k+2) n (some ⟨tb,0,none⟩) (v:Int) ((j:Int)-1) J =
  some (match QO (CG w ws) v j with | some i=>(.ret,[qIi (i:Int),qIi 0],J) | none=>(.exit 0,[],J))
 | 0,j,b,c=>by omega
 | n+1,0,b,c=>by
   rw[Mb,QO];rfl
 | n+1,j+1,b,c=>by
   have l:=h.top;rw[Mb,QO];have f:((j+1:Nat):Int)-1=(j:Int):=by omega
   simp only[f,show decide ((j:Int)>=0)=true from by simp,IS,nA _ h (show j<e by omega),AI,Ah];by_cases d:CG w ws j=v
   ·simp[d]
   ·have a:((CG w ws j:Int) == (v:Int))=false:=by simp; omega
    have g:Ar ((j:Int)-1)=(j:Int)-1:=Ai (by unfold AO; omega);simp only[a,By,d,Abs,g];exact aB k h v n j (by omega) (by omega)
theorem wx (k:Nat) (b:5000<=k) (h:DF J tb wb e w ws) (i:Int) (v:Nat):I6 (k+3) (some ⟨tb,0,none⟩) i (v:Int) J =
  some (match QO (CG w ws) v (min i.toNat e) with | some j=>.tuple #[qIi (j:Int),qIi 0] | none=>.tuple #[qIi 0,qIi 4],J):=by
 have c:=h.top;have a:Ar ((if (e:Int)<(if (0:Int)>i then (0:Int) else i) then (e:Int) else (if (0:Int)>i then (0:Int) else i))-1)=((min i.toNat e:Nat):Int)-1:=by
  rw[Ai (by unfold AO; split <;> split <;> omega)];split <;> split <;> omega
 rw[TO,Xk _ h];simp only[AI,An,Abr,By,IN,h.ldE,Abn,a];rw[aB k h v (k+2) (min i.toNat e) (Nat.min_le_right _ _) (by omega)];cases QO (CG w ws) v (min i.toNat e) with
 | none=>simp
 | some j=>simp[UL]
theorem vM (k:Nat) (h:DF J tb wb e w ws) (v:Int):HB (k+2) (some ⟨tb,0,none⟩) v J=some (.bool (decide (0<=v/\v<=((2 ^ w-1:Nat):Int))),J):=by
 rw[SX];by_cases h0:0<=v
 ·simp only[show decide (v>=0)=true from by simpa using h0,IS,iA _ h,AI,Ah];simp[h0]
 ·simp only[show decide (v>=0)=false from by simpa using h0,By,AI];simp[h0]
theorem jQ (k:Nat) (h:DF J tb wb e w ws) (v:Int) (c:Nat) (a:B7 J c 0=some (some ⟨tb,0,none⟩)):Gj (k+3) v (some ⟨c,0,none⟩) J=some (.bool (!decide (0<=v/\v<=((2 ^ w-1:Nat):Int))),J):=by
 rw[Qf];simp only[AI,a,vM _ h,An]
theorem jR (k:Nat) (h:DF J tb wb e w ws) (i v:Int) (b:Nat) (g:Aj .i64 J b 0=some v) (c:b<J.length):∃ τ,Fc (k+8) (some ⟨tb,0,none⟩) i (some ⟨b,0,none⟩,1,1) J =
  some (qIi (if (0<=i/\i<(e:Int))/\(0<=v/\v<=((2 ^ w-1:Nat):Int)) then 0 else 1),J++τ):=by
 rw[SV];simp only[Ae];refine ⟨[.cells [qVi (some ⟨tb,0,none⟩)] L8 true], ?_⟩
 ·have d:∀ T,B7 (J++[.cells [qVi (some ⟨tb,0,none⟩)] T true]) J.length 0=some (some ⟨tb,0,none⟩):=by intro T; simp[B7,CV,HO]
  have h1:=fun o=>h.app [o];have f:∀ o,Aj .i64 (J++[o]) b 0=some v:=by intro o; rw[HJ _ _ _ c,g]
  simp only[d,AI,Xk _ (h1 _),mf _ (h1 _),An,Abr,By];by_cases hi:0<=i/\i<(e:Int)
  ·simp only[hi,Ag5,Afp,true_and,Abr,By];rw[JP,La,EW];simp only[show decide ((0:Int)<((1:Nat):Int))=true from rfl,IS,show ((0:Int)<=0/\(0:Int)<((1:Nat):Int))=True from by simp,Aah,AI,Afc,Adw,Abn,f];simp only[N2,Aah,jQ _ (h1 _) v J.length (d _),AI,An];by_cases a:0<=v/\v<=((2 ^ w-1:Nat):Int)
   ·simp only[a,Ag5,Afp,Abr,By,Aah];rw[EW];rfl
   ·simp only[a,Ah1,Ac7,IS,Abs];rfl
  ·simp only[hi,Ah1,Ac7,IS,false_and,Abs,AI]
theorem aT (k:Nat) (h:DF J tb wb e w ws) {j v:Nat} (b:j<e) (c:v<2 ^ w):∃ τ,BG (k+9) (some ⟨tb,0,none⟩) (j:Int) (v:Int) J =
  some (qIi 0,(J++τ).set wb (.cells (rowOf (F9 w ws j v)) B8 true)):=by
 have h1:=h.app [.cells [qIi (v:Int)] Ak true];obtain ⟨τ,a⟩:=jR k h1 (j:Int) (v:Int) J.length (by simp[Aj,CV,Bl]) (by simp);refine ⟨[.cells [qIi (v:Int)] Ak true]++τ, ?_⟩;rw[Vk];simp only[Ae];rw[a,Abm (by have:=Ag8 w; omega)];simp only[AI,Ah];rw[uS (k+6) (h1.app τ) b];simp only[Abt,By,AI,Gg,Aae]
end
section
local instance qHV:AH:=Ao
def valid (a b c:Int):Bool:=decide (0<=a/\a<=15/\0<=b/\b<=200/\0<=c/\c<=3/\(c=1->1<=a)/\(c=2->2<=a))
def words (a b c:Int):Int:=bif valid a b c then (2+a+b+1)/2*2 else 0
theorem Nt (k:Nat) (a b c:Int) (J:Aa):Z6 (ES (k+1) a b c J) J (.bool (valid a b c)):=by
 simp only[Z6,Z9,Ae,Bt,IN,Ach,Acj,AI,Ah,kQ];refine ⟨_,Ad1 some (Ahj ?_ rfl)⟩;refine Ad1 Value.bool ?_;unfold valid;rw[Ag9];simp[Ahw];omega
theorem Ql (k:Nat) (a b c:Int) (J:Aa):Z6 (Hh (k+2) a b c J) J (qIi (words a b c)):=by
 unfold Z6;rw[ZA];simp only[Ae,Bt,IN,Ach,Acj,AI,Ah];rw[(Nt _ _ _ _ _).eq];simp only[AI,An,G9,Ach,Acj,Ah];unfold words;rcases Bool.eq_false_or_eq_true (valid a b c) with d | d
 rotate_left
 ·simp only[d,Ac7,IS,By,Aae];exact ⟨_,rfl⟩
 ·simp only[d,Abr,IS,By,Aae];simp[valid] at d;simp only[show ((2:Int)=0)=False from by simp,Abs];refine ⟨_,Ad1 some (Ahj (Ad1 (Value.int .i64) ?_) rfl)⟩;have hi:=d;simp only[Ar];have e:IntKind.i64.wrap (2+a)=2+a:=by rw[Afa]; omega
  have f:IntKind.i64.wrap (2+a+b)=2+a+b:=by rw[Afa]; omega
  have g:IntKind.i64.wrap (2+a+b+1)=2+a+b+1:=by rw[Afa]; omega
  rw[e,f,g,Afd (by omega),Afa,Afa];omega
end
section
local instance qCH:AH:=Ao
structure Cp where
 hb:Nat
 bl:Nat
 wd:Nat
 st:Nat
 sw:Nat
 pn:Nat
 pw:Nat
 pl:Nat
 fw:Nat
def Cp.l (i:Cp):List Nat:=[i.hb,i.bl,i.wd,i.st,i.sw,i.pn,i.pw,i.pl,i.fw]
structure HM where
 bls:List (Int × Int)
 wds:List Int
 stw:List (BitVec 64)
 pnw:List (BitVec 64)
 pl:List (Int × Int)
 fw:List (Int × Int)
 births:Int
def CS:List (Int × Int)->List Value
 | []=>[]
 | b::l=>qIi b.1 :: qIi b.2::CS l
def Bm (l:List Int):List Value:=l.map fun n=>qIi n
def Sq (l:List (Int × Int)):List (Int × Value):=l.map fun p=>(p.1,qIi p.2)
structure Al (J:Aa) (i:Cp) (m:HM):Prop where
 hp:J[i.hb]?=some (.cells [.slice (some ⟨i.bl,0,none⟩) m.bls.length m.bls.length,.slice (some ⟨i.wd,0,none⟩) m.wds.length m.wds.length,qVi (some ⟨i.st,0,none⟩),qVi (some ⟨i.pn,0,none⟩),.map (some i.pl),.map (some i.fw),qIi m.births] FQ true)
 bl:J[i.bl]?=some (.cells (CS m.bls) Ga true)
 wd:J[i.wd]?=some (.cells (Bm m.wds) Dt true)
 st:DF J i.st i.sw (32*m.bls.length) 1 m.stw
 pn:DF J i.pn i.pw (32*m.bls.length) 1 m.pnw
 pl:J[i.pl]?=some (.map (Sq m.pl))
 fw:J[i.fw]?=some (.map (Sq m.fw))
 nb:2<=m.bls.length
 nt:m.bls.length<=64
 wl:m.wds.length=64*m.bls.length
 nd:i.l.Nodup
 wi:∀ a,AO (m.wds.getD a 0)
structure Br (i:Cp) (J J':Aa):Prop where
 len:J.length<=J'.length
 same:∀ j,j<J.length->j ∉ i.l->J'[j]?=J[j]?
theorem Br.refl (i:Cp) (J:Aa):Br i J J:=⟨Abp _,fun _ _ _=>rfl⟩
theorem Br.trans {i:Cp} {a b c:Aa} (h:Br i a b) (g:Br i b c):Br i a c:=
 ⟨Adj h.len g.len,fun j h1 d=>(g.same j (Acz h1 h.len) d).trans (h.same j h1 d)⟩
theorem Br.app (i:Cp) (J τ:Aa):Br i J (J++τ):=⟨by simp,fun j h _=>AT h⟩
theorem Br.set {i:Cp} {b:Nat} (J:Aa) (o:Au) (h:b ∈ i.l):Br i J (J.set b o):=
 ⟨by simp,fun j _ a=>Aaf (fun e=>a (by rw[<- e]; exact h))⟩
variable {J:Aa} {i:Cp} {m:HM}
theorem Al.lt (h:Al J i m):∀ j ∈ i.l,j<J.length:=by
 intro j a;simp only[Cp.l,Acv,Ad3,Afz] at a;rcases a with rfl | rfl | rfl | rfl | rfl | rfl | rfl | rfl | rfl
 ·exact Af h.hp
 ·exact Af h.bl
 ·exact Af h.wd
 ·exact h.st.lt.1
 ·exact h.st.lt.2
 ·exact h.pn.lt.1
 ·exact h.pn.lt.2
 ·exact Af h.pl
 ·exact Af h.fw
theorem Al.Aw {J':Aa} (h:Al J i m) (hs:∀ j ∈ i.l,J'[j]?=J[j]?):Al J' i m where
 hp:=by rw[hs _ (by simp[Cp.l])]; exact h.hp
 bl:=by rw[hs _ (by simp[Cp.l])]; exact h.bl
 wd:=by rw[hs _ (by simp[Cp.l])]; exact h.wd
 st:=h.st.same (hs _ (by simp[Cp.l])) (hs _ (by simp[Cp.l]))
 pn:=h.pn.same (hs _ (by simp[Cp.l])) (hs _ (by simp[Cp.l]))
 pl:=by rw[hs _ (by simp[Cp.l])]; exact h.pl
 fw:=by rw[hs _ (by simp[Cp.l])]; exact h.fw
 nb:=h.nb
 nt:=h.nt
 wl:=h.wl
 nd:=h.nd
 wi:=h.wi
theorem Al.app (τ:Aa) (h:Al J i m):Al (J++τ) i m:=h.Aw fun j a=>AT (h.lt j a)
theorem Al.HI (h:Al J i m):Bd J i.hb 0=some (some ⟨i.bl,0,none⟩,m.bls.length,m.bls.length):=by simp[Bd,CV,h.hp,Ej]
theorem Al.EX (h:Al J i m):Bd J i.hb 1=some (some ⟨i.wd,0,none⟩,m.wds.length,m.wds.length):=by simp[Bd,CV,h.hp,Ej]
theorem Al.UH (h:Al J i m):B7 J i.hb 2=some (some ⟨i.st,0,none⟩):=by simp[B7,CV,h.hp,HO]
theorem Al.cq (h:Al J i m):B7 J i.hb 3=some (some ⟨i.pn,0,none⟩):=by simp[B7,CV,h.hp,HO]
theorem Al.dW (h:Al J i m):xh J i.hb 4=some (some i.pl):=by simp[xh,CV,h.hp,eD]
theorem Al.ld5 (h:Al J i m):xh J i.hb 5=some (some i.fw):=by simp[xh,CV,h.hp,eD]
theorem Al.ux (h:Al J i m):Aj .i64 J i.hb 6=some m.births:=by simp[Aj,CV,h.hp,Bl]
theorem Al.uB (h:Al J i m) {a:Nat} (b:a<m.wds.length):Aj .i64 J i.wd a=some (m.wds.getD a 0):=by
 simp[Aj,CV,h.wd,Bm,Bl,Aaj b]
theorem J2:∀ l:List (Int × Int),(CS l).length=2*l.length
 | []=>rfl
 | b::l=>by simp[CS,J2 l]; omega
theorem U7:∀ (l:List (Int × Int)) (b:Nat),b<l.length->(CS l)[2*b]?=some (qIi (l.getD b (0,0)).1)/\(CS l)[2*b+1]?=some (qIi (l.getD b (0,0)).2)
 | [],b,h=>by simp at h
 | x::l,0,h=>by simp[CS]
 | x::l,b+1,h=>by
   have:=U7 l b (by simpa using h);have a:2*(b+1)=2*b+1+1:=by omega
   simp only[CS,a,Acj,List.getD_cons_succ];exact this
theorem Al.Vu (h:Al J i m) {b:Nat} (hb:b<m.bls.length):Aj .i64 J i.bl (b*2)=some (m.bls.getD b (0,0)).1/\Aj .i64 J i.bl (b*2+1)=some (m.bls.getD b (0,0)).2:=by
 obtain ⟨h1,a⟩:=U7 m.bls b hb;rw[Af8] at h1 a;simp[Aj,CV,h.bl,Bl,h1,a]
abbrev AU (i:Cp):qOi:=some ⟨i.hb,0,none⟩
theorem JT (k:Nat) (h:Al J i m):AR (k+1) (AU i) J=some (.bool true,J):=by
 have:=h.nb;rw[UU];simp only[bL,AI,Ac7,IS,IN,Abn,h.HI];simp only[show decide (((m.bls.length:Nat):Int)>0)=true from by simp; omega]
theorem eR (k:Nat) (h:Al J i m):Dr (k+2) (AU i) J=some (qIi m.births,J):=by
 rw[Sz,JT _ h];simp only[AI,An,Abr,By,IN,h.ux]
def Start (m:HM) (j:Nat):Prop:=j<32*m.bls.length/\CG 1 m.stw j=1
instance (m:HM) (j:Nat):Decidable (Start m j):=inferInstanceAs (Decidable (_/\_))
def Ax (m:HM) (a:Int):Bool:=decide (0<=a/\a.toNat % 2=0/\Start m (a.toNat/2))
theorem Te (k:Nat) (h:Al J i m) (a:Int) (e:AO a):Bc (k+4) (AU i) a J=some (.bool (Ax m a),J):=by
 rw[VX,JT _ h];simp only[AI,An,IS];unfold Ax;by_cases h0:0<=a
 ·obtain ⟨n,rfl⟩:∃ n:Nat,a=(n:Int):=⟨a.toNat,by omega⟩;simp only[show decide ((n:Int)>=0)=true from by simp,IS];rw[Abo (by decide)];simp only[AI];have t1:(n:Int).tmod 2=((n % 2:Nat):Int):=rfl;have t2:(n:Int).tdiv 2=((n/2:Nat):Int):=rfl;rw[t1,t2];by_cases h1:n % 2=0
  ·have b:(((n % 2:Nat):Int) == 0)=true:=by simp; omega
   simp only[b,IS,IN,h.UH,AI];have d:Ar ((n/2:Nat):Int)=((n/2:Nat):Int):=Ai (by unfold AO at *; omega);rw[Abo (by decide)];simp only[d,mB _ h.st,AI,Ah];congr 3;by_cases c:n/2<32*m.bls.length
   ·rw[Abm (by omega)];simp[Start,h1,c];rw[Ag9]; simp;rw[show ((n:Int)/2).toNat=n/2 from by omega]; omega
   ·rw[Abo (by omega)];simp[Start,c]
  ·have b:(((n % 2:Nat):Int) == 0)=false:=by simp; omega
   simp only[b,By,AI];simp[h1]
 ·simp[show decide (a>=0)=false from by simpa using h0,h0]
theorem AV {a:Int} (h:Ax m a=true):∃ j,a=((2*j:Nat):Int)/\Start m j:=by
 unfold Ax at h;rw[Adu] at h;exact ⟨a.toNat/2,by omega,h.2.2⟩
theorem RJ {j:Nat} (h:Start m j):Ax m ((2*j:Nat):Int)=true:=by
 unfold Ax;rw[Adu];refine ⟨by omega,by omega, ?_⟩;rw[show (((2*j:Nat):Int)).toNat/2=j from by omega]; exact h
theorem Ov (k:Nat) (h:Al J i m) (a:Int) (b:AO a):BF (k+5) (AU i) a J=some (qIi (if Ax m a then 0 else 4),J):=by
 rw[SB,JT _ h];simp only[AI,An,Abr,By,Te _ h a b];cases Ax m a <;> rfl
def Pk (n:Int):Nat:=(words (n.tmod 16) ((n.tmod 4096).tdiv 16) (n.tdiv 4096)).toNat
def sz (m:HM) (j:Nat):Nat:=Pk (m.wds.getD (2*j+1) 0)
theorem Oo (a b c:Int):0<=words a b c/\words a b c<=218:=by
 unfold words;cases d:valid a b c with
 | false=>simp
 | true=>
   simp[valid] at d;simp only[IS];omega
theorem YD (n:Int):Pk n<=218:=by
 have:=Oo (n.tmod 16) ((n.tmod 4096).tdiv 16) (n.tdiv 4096);unfold Pk; omega
theorem jc (n:Int):(Pk n:Int)=words (n.tmod 16) ((n.tmod 4096).tdiv 16) (n.tdiv 4096):=by
 have:=Oo (n.tmod 16) ((n.tmod 4096).tdiv 16) (n.tdiv 4096);unfold Pk; omega
theorem dw (k:Nat) (n:Int) (e:AO n) (J:Aa):∃ τ,Hi (k+1) n J=some (.agg #[qIi (n.tmod 16),qIi ((n.tmod 4096).tdiv 16),qIi (n.tdiv 4096)],J++τ):=by
 rw[ZB];simp only[Ae];have a:Ar ((n.tmod 4096).tdiv 16)=(n.tmod 4096).tdiv 16:=Ai (by unfold AO at *; have:=Afj n (show (0:Int)<4096 by decide); have c:=Int.lt_tmod_of_pos n (show (0:Int)<4096 by decide); rw[show (n.tmod 4096).tdiv 16=(n.tmod 4096).tdiv 16 from rfl]; have:=Int.natAbs_tdiv_le_natAbs (n.tmod 4096) 16; omega);have b:Ar (n.tdiv 4096)=n.tdiv 4096:=Ai (by unfold AO at *; have d:(n.tdiv 4096).natAbs=n.natAbs/4096:=Int.natAbs_tdiv n 4096; omega);rw[Abo (by decide),Abo (by decide),Abo (by decide),Abo (by decide),a,b];simp[H0,Nh,Ba,Lb]
theorem iY (k:Nat) (h:Al J i m) {j:Nat} (e:j<32*m.bls.length):∃ τ,D5 (k+3) (AU i) ((2*j:Nat):Int) J=some (qIi (sz m j:Int),J++τ):=by
 have hw:=h.wl;have f:=h.nt;have b:=h.wi (2*j+1);obtain ⟨τ,hs⟩:=dw (k+1) (m.wds.getD (2*j+1) 0) b J;obtain ⟨d,c⟩:=Ql k ((m.wds.getD (2*j+1) 0).tmod 16) (((m.wds.getD (2*j+1) 0).tmod 4096).tdiv 16) ((m.wds.getD (2*j+1) 0).tdiv 4096) (J++τ);refine ⟨τ++d, ?_⟩;have a:Ar (((2*j:Nat):Int)+1)=((2*j+1:Nat):Int):=Ai (by unfold AO; omega);rw[UW];simp only[AI,IN,h.EX,a,IT,Acu];rw[Abm (by omega)];simp only[AI,h.uB (show 2*j+1<m.wds.length by omega),hs,H5,c,Ah,Aae];unfold sz;rw[jc]
def bQ (m:HM) (n:Nat):Option Nat:=
 match QO (CG 1 m.stw) 1 (min (n/2+1) (32*m.bls.length)) with
 | none=>none
 | some j=>if 2*j+sz m j<=n then none else some j
def QM (m:HM) (a:Int):Option Nat:=if 0<=a/\a<(m.wds.length:Int) then bQ m a.toNat else none
theorem vV (k:Nat) (o:5000<=k) (h:Al J i m) (a:Int):∃ τ,Jb (k+10) (AU i) a J =
  some (match QM m a with | some j=>.tuple #[qIi ((2*j:Nat):Int),qIi 0] | none=>.tuple #[qIi 0,qIi 4],J++τ):=by
 have hw:=h.wl;have p:=h.nt;rw[UQ];simp only[JT _ h,AI,An,Abr,By];by_cases h0:0<=a;rotate_left
 ·refine ⟨[], ?_⟩;have:¬ (0<=a/\a<(m.wds.length:Int)):=by omega
  simp only[show decide (a<0)=true from by simp; omega,IS,AI,QM,this,Abs,Abu]
 simp only[show decide (a<0)=false from by simp; omega,By,IN,h.EX,AI];by_cases h1:a<(m.wds.length:Int);rotate_left
 ·refine ⟨[], ?_⟩;have:¬ (0<=a/\a<(m.wds.length:Int)):=by omega
  simp only[show decide (a>=((m.wds.length:Nat):Int))=true from by simp; omega,IS,QM,this,Abs,Abu]
 obtain ⟨n,rfl⟩:∃ n:Nat,a=(n:Int):=⟨a.toNat,by omega⟩;have t2:(n:Int).tdiv 2=((n/2:Nat):Int):=rfl;have d:Ar ((n/2:Nat):Int)=((n/2:Nat):Int):=Ai (by unfold AO; omega);have e:Ar (((n/2:Nat):Int)+1)=((n/2+1:Nat):Int):=Ai (by unfold AO; omega);simp only[show decide ((n:Int)>=((m.wds.length:Nat):Int))=false from by simp; omega,By,h.UH,AI,t2,d,e];rw[Abo (by decide)];have c:=wx (k+6) (by omega) h.st ((n/2+1:Nat):Int) 1;rw[show ((1:Nat):Int)=1 from rfl,IT] at c;rw[c];simp only[QM,bQ,show (0<=(n:Int)/\(n:Int)<(m.wds.length:Int)) from ⟨h0,h1⟩,Afp,Aah,IT,AI];cases l:QO (CG 1 m.stw) 1 (min (n/2+1) (32*m.bls.length)) with
 | none=>
   refine ⟨[], ?_⟩;simp[B9]
 | some j=>
   obtain ⟨r,s,_⟩:=RL l;obtain ⟨τ,hs⟩:=iY (k+6) h (show j<32*m.bls.length by omega);refine ⟨τ, ?_⟩;have f:Ar (2*(j:Int))=((2*j:Nat):Int):=Ai (by unfold AO; omega);have q:=YD (m.wds.getD (2*j+1) 0);have g:Ar (((2*j:Nat):Int)+(sz m j:Int))=((2*j+sz m j:Nat):Int):=Ai (by unfold AO; unfold sz; omega);simp only[B9,Abt,By,f,hs,AI,Ah,g];by_cases b:2*j+sz m j<=n
   ·simp only[show decide ((n:Int)>=((2*j+sz m j:Nat):Int))=true from by simp; omega,IS,b,Aah]
   ·simp only[show decide ((n:Int)>=((2*j+sz m j:Nat):Int))=false from by simp; omega,By,b,Abs]
def getM (l:List (Int × Int)) (k:Int):Option Int:=(l.find? fun e=>k == e.1).map (·.2)
theorem jr (k:Nat) (h:Al J i m) (a:Int) (b:AO a):Di (k+6) (AU i) a J=some (if Ax m a then .tuple #[qIi (m.wds.getD a.toNat 0),qIi 0] else .tuple #[qIi 0,qIi 4],J):=by
 have hw:=h.wl;rw[Tp];simp only[Ov _ h a b,AI,Ah];cases c:Ax m a with
 | false=>rfl
 | true=>
   obtain ⟨j,rfl,e,_⟩:=AV c;have d:((2*j:Nat):Int).toNat<m.wds.length:=by omega
   simp only[Aah,Abt,By,IN,h.EX,AI];rw[Abm (by omega)];simp only[AI,Acu,IN,h.uB d]
def JV (m:HM) (b:Nat):Nat->Nat->Nat
 | 0,n=>n
 | f+1,n=>if (m.bls.getD b (0,0)).1=2/\b+n<m.bls.length/\(m.bls.getD (b+n) (0,0)).1=3 then JV m b f (n+1) else n
theorem o8 (k:Nat) (h:Al J i m) {b:Nat} (hb:b<m.bls.length):∀ (f n:Nat),m.bls.length<=b+n+f->n<=m.bls.length->FU k (f+1) (AU i) (b:Int) (n:Int) J=some (.exit 0,[qIi (JV m b f n:Int)],J):=by
 intro f;have s:=h.nt
 induction f with
 | zero=>
   intro n p j;rw[M7];simp only[AI,IN,Abn,h.HI,IT];rw[Abm (by omega)];have e:Ar ((b:Int)+(n:Int))=((b+n:Nat):Int):=Ai (by unfold AO; omega);simp only[AI,(h.Vu hb).1,e,JV];by_cases a:(m.bls.getD b (0,0)).1=2
   ·have c:((m.bls.getD b (0,0)).1 == 2)=true:=by simpa using a
    have r:decide (((b+n:Nat):Int)<((m.bls.length:Nat):Int))=false:=by simp; omega
    simp only[c,IS,r,By,AI]
   ·have:((m.bls.getD b (0,0)).1 == 2)=false:=by simpa using a
    simp only[this,By,AI]
 | succ f q=>
   intro n p j;rw[M7];simp only[AI,IN,Abn,h.HI,IT];rw[Abm (by omega)];have e:Ar ((b:Int)+(n:Int))=((b+n:Nat):Int):=Ai (by unfold AO; omega);have o:=wSu n (by omega);simp only[AI,(h.Vu hb).1,e,o,IT];by_cases a:(m.bls.getD b (0,0)).1=2
   ·have c:((m.bls.getD b (0,0)).1 == 2)=true:=by simpa using a
    simp only[c,IS,AI];by_cases g:b+n<m.bls.length
    ·simp only[show decide (((b+n:Nat):Int)<((m.bls.length:Nat):Int))=true from by simp; omega,IS,AI,h.HI];rw[Abm (by omega)];simp only[AI,IN,Abn,(h.Vu g).1];by_cases d:(m.bls.getD (b+n) (0,0)).1=3
     ·have l:((m.bls.getD (b+n) (0,0)).1 == 3)=true:=by simpa using d
      simp only[l,IS,AI];rw[JV,Abm ⟨a,g,d⟩];exact q (n+1) (by omega) (by omega)
     ·have l:((m.bls.getD (b+n) (0,0)).1 == 3)=false:=by simpa using d
      simp only[l,By,AI];rw[JV,Abo (by rintro ⟨_,_,h⟩; exact d h)]
    ·simp only[show decide (((b+n:Nat):Int)<((m.bls.length:Nat):Int))=false from by simp; omega,By,AI];rw[JV,Abo (by rintro ⟨_,h,_⟩; exact g h)]
   ·have c:((m.bls.getD b (0,0)).1 == 2)=false:=by simpa using a
    simp only[c,By,AI];rw[JV,Abo (by rintro ⟨h,_⟩; exact a h)]
theorem WC (m:HM) (b:Nat):∀ (f g n:Nat),m.bls.length<=b+n+f->m.bls.length<=b+n+g->JV m b f n=JV m b g n
 | 0,0,n,_,_=>rfl
 | 0,g+1,n,h1,a=>by
   rw[JV,JV,Abo (by rintro ⟨_,h,_⟩; omega)]
 | f+1,0,n,h1,a=>by
   rw[JV,JV,Abo (by rintro ⟨_,h,_⟩; omega)]
 | f+1,g+1,n,h1,a=>by
   rw[JV,JV];split
   ·exact WC m b f g (n+1) (by omega) (by omega)
   ·rfl
def LA (m:HM) (b:Nat):Nat:=JV m b m.bls.length 1
theorem qi (k:Nat) (a:100<=k) (h:Al J i m) {b:Nat} (hb:b<m.bls.length):Gs (k+1) (AU i) (b:Int) J=some (qIi (LA m b:Int),J):=by
 have d:=h.nt;have c:=h.nb;rw[UX];have:=o8 k h hb (k-1) 1 (by omega) (by omega);rw[show k-1+1=k from by omega] at this;rw[show (1:Int)=((1:Nat):Int) from rfl,this];simp only[AI,Aah,Ey];unfold LA;rw[WC m b (k-1) m.bls.length 1 (by omega) (by omega)]
def Mn (m:HM) (hi:Nat) (a:Int):Nat->Nat->Bool
 | 0,_=>true
 | f+1,x=>if x<hi then (match QM m (x:Int) with
   | some o=>if ((2*o:Nat):Int)=a then Mn m hi a f (x+2) else false
   | none=>Mn m hi a f (x+2)) else true
theorem nu (k:Nat) (t:5000<=k) (h:Al J i m) (a b:Nat) (c:Int) (w:a<4096) (u:b<=218):∀ (f x:Nat) (τ:Aa),a+b<=x+2*f->x<=5000 ->
  ∃ j,E8 (k+10) (f+1) (AU i) (a:Int) (b:Int) c (x:Int) (J++τ)=some (if Mn m (a+b) c f x then (.exit 0,[],J++j) else (.ret,[qIi 8],J++j)):=by
 intro f;have e:Ar ((a:Int)+(b:Int))=((a+b:Nat):Int):=Ai (by unfold AO; omega)
 induction f with
 | zero=>
   intro x τ h1 r;refine ⟨τ, ?_⟩;rw[Mz];have q:decide ((x:Int)<((a+b:Nat):Int))=false:=by simp; omega
   simp only[e,q,By,Mn,Aah]
 | succ f v=>
   intro x τ h1 r;rw[Mz];by_cases g:x<a+b
   ·have q:decide ((x:Int)<((a+b:Nat):Int))=true:=by simp; omega
    have p:Ar ((x:Int)+2)=((x+2:Nat):Int):=Ai (by unfold AO; omega);obtain ⟨l,s⟩:=vV k t (h.app τ) (x:Int);obtain ⟨n,d⟩:=v (x+2) (τ++l) (by omega) (by omega);rw[<- Aae] at d;simp only[e,p,q,IS,s,AI,Mn,g,Aah];cases y:QM m (x:Int) with
    | none=>
      refine ⟨n, ?_⟩;simp only[B9,show ((4:Int) == 0)=false from rfl,By,AI];exact d
    | some o=>
      simp only[B9,Ahy,IS,AI];by_cases hb:((2*o:Nat):Int)=c
      ·refine ⟨n, ?_⟩;subst hb;simp only[Abt,By,Aah];exact d
      ·refine ⟨τ++l, ?_⟩;have:(((2*o:Nat):Int) != c)=true:=by simpa using hb
       simp only[this,IS,hb,Abs,Aae,Abz]
   ·refine ⟨τ, ?_⟩;have q:decide ((x:Int)<((a+b:Nat):Int))=false:=by simp; omega
    simp only[e,q,By,Mn,g,Abs,Aah]
theorem fy (m:HM) (hi:Nat) (a:Int):∀ (f g x:Nat),hi<=x+2*f->hi<=x+2*g->Mn m hi a f x=Mn m hi a g x
 | 0,0,_,_,_=>rfl
 | 0,g+1,x,h1,b=>by rw[Mn,Mn,Abo (by omega)]
 | f+1,0,x,h1,b=>by rw[Mn,Mn,Abo (by omega)]
 | f+1,g+1,x,h1,b=>by
   rw[Mn,Mn];have:=fy m hi a f g (x+2) (by omega) (by omega);rw[this]
def Me (m:HM) (a:Int) (d:Nat) (c:Int):Int:=
 if ¬ (0<=a/\a<(m.wds.length:Int)/\a.toNat % 2=0) then 1 else
 let b:=a.toNat/64
 if d<=32 then (if (m.bls.getD b (0,0)).1≠1\/(a.toNat+d-1)/64≠b then 5 else if Mn m (a.toNat+d) c 200 a.toNat then 0 else 8)
 else if (m.bls.getD b (0,0)).1≠2\/a.toNat % 64≠0\/LA m b≠(d+63)/64 then 5 else if Mn m (a.toNat+d) c 200 a.toNat then 0 else 8
theorem wZ (k:Nat) (H:5000<=k) (h:Al J i m) (a:Int) (b:Nat) (d:Int) (h0:2<=b) (r:b<=218):∃ τ,Jc (k+11) (AU i) a (b:Int) d J=some (qIi (Me m a b d),J++τ):=by
 have hw:=h.wl;have O:=h.nt;rw[US];simp only[AI,IN,h.HI,h.EX];by_cases L:0<=a;rotate_left
 ·refine ⟨[], ?_⟩;simp only[show decide (a<0)=true from by simp; omega,IS,AI,Me,show ¬ (0<=a/\a<(m.wds.length:Int)/\a.toNat % 2=0) from by omega,Aef,Aah,Abu]
 by_cases M:a<(m.wds.length:Int);rotate_left
 ·refine ⟨[], ?_⟩;simp only[show decide (a<0)=false from by simp; omega,By,show decide (a>=((m.wds.length:Nat):Int))=true from by simp; omega,IS,AI,Me,show ¬ (0<=a/\a<(m.wds.length:Int)/\a.toNat % 2=0) from by omega,Aef,Aah,Abu]
 obtain ⟨n,rfl⟩:∃ n:Nat,a=(n:Int):=⟨a.toNat,by omega⟩;have t1:(n:Int).tmod 2=((n % 2:Nat):Int):=rfl;have t2:(n:Int).tdiv 64=((n/64:Nat):Int):=rfl;have t3:(n:Int).tmod 64=((n % 64:Nat):Int):=rfl;have A:Ar ((n/64:Nat):Int)=((n/64:Nat):Int):=Ai (by unfold AO; omega);have B:Ar ((n:Int)+(b:Int))=((n+b:Nat):Int):=Ai (by unfold AO; omega);have C:Ar (((n+b:Nat):Int)-1)=((n+b-1:Nat):Int):=by rw[Ai (by unfold AO; omega)]; omega
 have t4:(((n+b-1:Nat):Int)).tdiv 64=(((n+b-1)/64:Nat):Int):=rfl;have D:Ar (((n+b-1)/64:Nat):Int)=(((n+b-1)/64:Nat):Int):=Ai (by unfold AO; omega);have E:Ar ((b:Int)+64)=((b+64:Nat):Int):=Ai (by unfold AO; omega);have F:Ar (((b+64:Nat):Int)-1)=((b+63:Nat):Int):=by rw[Ai (by unfold AO; omega)]; omega
 have t5:((b+63:Nat):Int).tdiv 64=(((b+63)/64:Nat):Int):=rfl;have G:Ar (((b+63)/64:Nat):Int)=(((b+63)/64:Nat):Int):=Ai (by unfold AO; omega);simp only[show decide ((n:Int)<0)=false from by simp,By,show decide ((n:Int)>=((m.wds.length:Nat):Int))=false from by simp; omega,AI,t1,t2,t3,A,B,C,t4,D,E,F,t5,G];rw[Abo (by decide)];simp only[AI];by_cases N:n % 2=0;rotate_left
 ·refine ⟨[], ?_⟩;have q:(((n % 2:Nat):Int) != 0)=true:=by simp; omega
  simp only[q,IS,Me,show ¬ (0<=(n:Int)/\(n:Int)<(m.wds.length:Int)/\(n:Int).toNat % 2=0) from by omega,Aef,Aah,Abu]
 have q:(((n % 2:Nat):Int) != 0)=false:=by simp; omega
 have hb:n/64<m.bls.length:=by omega
 obtain ⟨τ,y⟩:=nu k H h n b d (by omega) r (k+9) n [] (by omega) (by omega);have hm:Mn m (n+b) d (k+9) n=Mn m (n+b) d 200 n:=fy m _ d _ _ n (by omega) (by omega);rw[Abu,hm] at y;have g:(¬ (0<=(n:Int)/\(n:Int)<(m.wds.length:Int)/\(n:Int).toNat % 2=0))=False:=Aig (by omega);simp only[q,By,Me,g,Abs];simp only[IT];have tail:∀ (c:Bool),∃ K,(if (C6.normal:C6) = .normal then (E8 (k+10) (k+10) (AU i) (n:Int) (b:Int) d (n:Int) J).bind fun e=>if e.1 = .exit 0 then some (Value.int .i64 (0:Int),e.2.2) else if e.1 = .ret then ZS e.2.1 fun s=>some (qIi s,e.2.2) else none else none)=some (qIi (if Mn m (n+b) d 200 n=true then 0 else 8),J++K):=by
  intro c;refine ⟨τ, ?_⟩;rw[y];cases Mn m (n+b) d 200 n <;> simp[Ey]
 obtain ⟨z,j⟩:=tail true;simp only[Aah] at j;have l:((64:Int)=0)=False:=by simp
 have v:(0<=((n/64:Nat):Int)/\((n/64:Nat):Int)<((m.bls.length:Nat):Int))=True:=Adk (by omega);by_cases w:b<=32
 ·have t:decide ((b:Int)<=32)=true:=by simp; omega
  simp only[l,Abs,t,IS,w,Aah,v,AI,IN,Abn,IT,(h.Vu hb).1,h.HI];by_cases f:(m.bls.getD (n/64) (0,0)).1=1
  ·simp only[f,Abt,By,ne_eq,Aez,Ahv,AI];by_cases o:(n+b-1)/64=n/64
   ·simp only[o,Abt,By,AI,Aah,Aez,Abs];exact ⟨z,j⟩
   ·have p:((((n+b-1)/64:Nat):Int) != ((n/64:Nat):Int))=true:=by simp; omega
    simp only[p,IS,o,Aef,Aah,AI];exact ⟨[],by simp[Ey]⟩
  ·have u:((m.bls.getD (n/64) (0,0)).1 != 1)=true:=Adp.2 f;simp only[u,IS,ne_eq,f,Aef,true_or,Aah,AI];exact ⟨[],by simp[Ey]⟩
 ·have t:decide ((b:Int)<=32)=false:=by simp; omega
  simp only[l,Abs,t,By,w,Aah,v,AI,IN,Abn,IT,(h.Vu hb).1,h.HI];by_cases f:(m.bls.getD (n/64) (0,0)).1=2
  ·simp only[f,Abt,By,ne_eq,Aez,Ahv,AI];by_cases o:n % 64=0
   ·have p:(((n % 64:Nat):Int) != 0)=false:=by simp; omega
    simp only[p,By,qi (k+9) (by omega) h hb,AI,Ah];simp only[o,Aez,Ahv];by_cases x:LA m (n/64)=(b+63)/64
    ·simp only[x,Abt,By,AI,Aah,Aez,Abs];exact ⟨z,j⟩
    ·have I:((LA m (n/64):Int) != (((b+63)/64:Nat):Int))=true:=by simp; omega
     simp only[I,IS,x,Aef,Aah,AI];exact ⟨[],by simp[Ey]⟩
   ·have p:(((n % 64:Nat):Int) != 0)=true:=by simp; omega
    simp only[p,IS,o,Aef,true_or,Aah,AI];exact ⟨[],by simp[Ey]⟩
  ·have u:((m.bls.getD (n/64) (0,0)).1 != 2)=true:=Adp.2 f;simp only[u,IS,ne_eq,f,Aef,true_or,Aah,AI];exact ⟨[],by simp[Ey]⟩
end
section
local instance qCB:AH:=Ao
theorem vE:HR P Ak=some 1:=by kernel_rfl
theorem ub:bytesOf P Ak=some 8:=by kernel_rfl
theorem ta:FR P Ak=some (qIi 0):=by kernel_rfl
def C8 (lo:Nat) (J:Aa) (s:Bv) (l:List Int):Prop:=
 (l=[]/\s=(none,0,0)) \/ ∃ b,lo<=b/\s=(some ⟨b,0,none⟩,l.length,l.length)/\l≠[]/\J[b]?=some (.cells (Bm l) Ak true)
theorem Cj (l:List Int):(Bm l).length=l.length:=by simp[Bm]
theorem KM (l a:List Int):Bm (l++a)=Bm l++Bm a:=by simp[Bm]
theorem C8.app {lo:Nat} {J:Aa} {s:Bv} {l:List Int} (τ:Aa) (h:C8 lo J s l):C8 lo (J++τ) s l:=by
 rcases h with h | ⟨b,h1,c,d,a⟩
 ·exact .inl h
 ·exact .inr ⟨b,h1,c,d,by rw[AT (Af a),a]⟩
theorem C8.ld {lo:Nat} {J:Aa} {b c c':Nat} {l:List Int} (h:C8 lo J (some ⟨b,0,none⟩,c,c') l) {j:Nat} (e:j<l.length):Aj .i64 J b j=some (l.getD j 0):=by
 rcases h with ⟨_,h⟩ | ⟨f,_,a,_,d⟩
 ·cases h
 ·cases a;simp[Aj,CV,d,Bm,Bl,Aaj e]
theorem C8.len {lo:Nat} {J:Aa} {s:Bv} {l:List Int} (h:C8 lo J s l):s.2.1=l.length:=by
 rcases h with ⟨rfl,rfl⟩ | ⟨a,_,rfl,_,_⟩ <;> rfl
theorem qP (J τ:Aa) (s:Bv) (l:List Int) (x:Int) (h:Nat) (p:l.length<=10000) (hs:C8 J.length (J++τ) s l) (d:∃ T rw,(J++τ)[h]?=some (.cells [qIi x] T rw)):
  ∃ s' e,AG P Ak s (some ⟨h,0,none⟩,1,1) (J++τ)=some (s',J++e)/\C8 J.length (J++e) s' (l++[x]):=by
 obtain ⟨T,o,d⟩:=d;have k:CZ (J++τ) 1 (some ⟨h,0,none⟩) 1=some [qIi x]:=by simp[CZ,Nh,d]
 unfold AG LB;simp only[vE,ub,ta,AI,k];have n:(¬ (Gn (qIi 0)=false/\some 1=some (Value.cells (qIi 0)).size/\0<(Value.cells (qIi 0)).size))=False:=by simp[Gn,Value.cells]
 simp only[n,Abs];rcases hs with ⟨rfl,rfl⟩ | ⟨b,hb,rfl,m,a⟩
 ·have r:K8 (0+1) 8/\0<8:=by unfold K8; decide
  simp only[show ¬ (0+1<=0) from by decide,Abs,r,Afp,Aah,HQ,IS,qh];refine ⟨_,τ++[.cells [qIi x] Ak true],by rw[<- Aae]; rfl,.inr ⟨(J++τ).length,by simp,rfl,by simp, ?_⟩⟩;rw[<- Aae]; simp[Bm]
 ·have r:K8 (l.length+1) 8/\0<8:=by
   unfold K8;refine ⟨⟨?_, ?_⟩,by decide⟩ <;> omega
  have j:=Af a;have f:elemAt (J++τ) b=some 3:=by simp[elemAt,a]
  have g:Nh (J++τ) b 0 (l.length*1)=some (Bm l):=by
   simp only[Nh,a,Cj,Acu,IN,Abp,Aah,Ac6];rw[Ado (by rw[Cj]; exact Abp _)]
  have i:H2 (J++τ) b=true:=by simp[H2,a]
  simp only[show ¬ (l.length+1<=l.length) from by omega,Abs,r,Afp,Aah,HQ,Aem,By,AI,f,g,i,IS,qh];have c:(J++τ).set b .dead=J++τ.set (b-J.length) .dead:=by
   rw[Ae1 _ _ hb]
  refine ⟨_,τ.set (b-J.length) .dead++[.cells (Bm l++[qIi x]) Ak true],by rw[c,<- Aae],.inr ⟨(J++τ).length,by simp,by simp,by simp, ?_⟩⟩;rw[<- Aae,KM];have:(J++τ).length=(J++τ.set (b-J.length) .dead).length:=by simp
  rw[this]; simp[Bm]
variable {J:Aa} {i:Cp} {m:HM}
def PL (m:HM) (hi:Nat):Nat->Nat->List Int
 | 0,_=>[]
 | f+1,j=>match QR (CG 1 m.stw) (32*m.bls.length) 1 j with
   | none=>[]
   | some j'=>if 2*j'<hi then ((2*j':Nat):Int)::PL m hi f (j'+1) else []
theorem V7 (k:Nat) (F:5000<=k) (h:Al J i m) (hi:Nat):∀ (f:Nat) (a:Option Nat) (τ:Aa) (s:Bv) (l:List Int),(match a with | none=>True | some j=>l.length<=j)->C8 J.length (J++τ) s l->(∀ j,a=some j->j<32*m.bls.length) ->
  (match a with | none=>0 | some j=>32*m.bls.length-j)<f+1 ->
  ∃ b s',CO (k+4) (f+1) (AU i) (hi:Int) s (match a with | none=>0 | some j=>(j:Int)) (match a with | none=>4 | some j=>0) (J++τ)=some (.exit 0,[.slice s'.1 s'.2.1 s'.2.2],J++b) /\
   C8 J.length (J++b) s' (l++(match a with | none=>[] | some j=>if 2*j<hi then ((2*j:Nat):Int)::PL m hi f (j+1) else [])):=by
 have G:=h.nt;intro f
 induction f with
 | zero=>
   intro a τ s l r hs p o;cases a with
   | none=>
     refine ⟨τ,s, ?_,by simpa using hs⟩;rw[HP];rfl
   | some j=>
     have:=p j rfl;simp only at o;omega
 | succ f x=>
   intro a τ s l r hs p o;cases a with
   | none=>
     refine ⟨τ,s, ?_,by simpa using hs⟩;rw[HP];rfl
   | some j=>
     have D:=p j rfl;obtain ⟨y,A,z⟩:=s;have B:Ar (2*(j:Int))=((2*j:Nat):Int):=Ai (by unfold AO; omega);have C:=wSu j (by omega);rw[HP];simp only[Ahy,IS,B,C,AI];by_cases c:2*j<hi
     ·have q:decide (((2*j:Nat):Int)<(hi:Int))=true:=by simp; omega
      obtain ⟨s1,e,v,d⟩:=qP J (τ++[.cells [qIi ((2*j:Nat):Int)] Ak true]) (y,A,z) l ((2*j:Nat):Int) (J++τ).length (by simp only at r; omega) (by rw[<- Aae]; exact hs.app _) ⟨3,true,by rw[<- Aae]; simp⟩;rw[<- Aae] at v;have w:=oQ (k+1) (by omega) (h.app e).st ((j+1:Nat):Int) 1 (by omega);rw[IT] at w;have t:DK (k+4) (some ⟨i.st,0,none⟩) ((j+1:Nat):Int) 1 (J++e)=_:=w;simp only[q,IS,Ae,v,AI,IN,(h.app e).UH,t,c,Aah];cases u:QR (CG 1 m.stw) (32*m.bls.length) 1 (j+1) with
      | none=>
        obtain ⟨b,s',g,n⟩:=x none e s1 (l++[((2*j:Nat):Int)]) trivial d (fun _ h=>by cases h) (by simp);refine ⟨b,s', ?_, ?_⟩
        ·simp only[B9]; exact g
        ·rw[PL,u]; simpa using n
      | some j'=>
        obtain ⟨H,E,_,_⟩:=RS u;obtain ⟨b,s',g,n⟩:=x (some j') e s1 (l++[((2*j:Nat):Int)]) (by simp only[Abe,Ada,Adn] at r ⊢; omega) d (fun _ h=>by cases h; exact E) (by simp only at o ⊢; omega);refine ⟨b,s', ?_, ?_⟩
        ·simp only[B9]; exact g
        ·rw[PL,u]; simpa using n
     ·have q:decide (((2*j:Nat):Int)<(hi:Int))=false:=by simp; omega
      refine ⟨τ,(y,A,z), ?_,by simpa [c] using hs⟩;simp only[q,By]
def DE (m:HM) (lo n:Nat):List Nat:=(List.range' lo n).filter fun j=>decide (CG 1 m.stw j=1)
def C7 (l:List Nat):List Int:=l.map fun j=>((2*j:Nat):Int)
theorem cw (m:HM) (H:Nat) (c:H<=32*m.bls.length):∀ (n f j:Nat),j+n=H->32*m.bls.length-j<=f->PL m (2*H) f j=C7 (DE m j n)
 | 0,0,j,h1,b=>rfl
 | 0,f+1,j,h1,b=>by
   rw[PL];cases g:QR (CG 1 m.stw) (32*m.bls.length) 1 j with
   | none=>rfl
   | some j'=>
     obtain ⟨h,_⟩:=RS g;simp only[show ¬ 2*j'<2*H from by omega,Abs];rfl
 | n+1,0,j,h1,b=>by omega
 | n+1,f+1,j,h1,b=>by
   have d:j<32*m.bls.length:=by omega
   unfold DE;rw[Afx,Aeq];by_cases a:CG 1 m.stw j=1
   ·rw[PL,QR,dif_pos d,Abm a];simp only[show 2*j<2*H from by omega,Aah,a,Ag5];rw[cw m H c n f (j+1) (by omega) (by omega)];rfl
   ·have e:PL m (2*H) (f+1) j=PL m (2*H) (f+1) (j+1):=by
     rw[PL,PL,QR,dif_pos d,Abo a]
    rw[e,cw m H c n (f+1) (j+1) (by omega) (by omega)];simp only[a,Ah1,Abz,Abs];rfl
theorem bt (k:Nat) (l:5000<=k) (h:Al J i m) (lo n:Nat) (p:lo+n<=32*m.bls.length):∃ τ s,E7 (k+5) (AU i) ((2*lo:Nat):Int) ((2*(lo+n):Nat):Int) J=some (.slice s.1 s.2.1 s.2.2,J++τ)/\C8 J.length (J++τ) s (C7 (DE m lo n)):=by
 have r:=h.nt;have t1:((2*lo:Nat):Int).tdiv 2=(lo:Int):=by
  rw[show ((2*lo:Nat):Int).tdiv 2=(((2*lo)/2:Nat):Int) from rfl]; omega
 have o:Ar (lo:Int)=(lo:Int):=Ai (by unfold AO; omega);have g:=oQ (k+1) (by omega) h.st (lo:Int) 1 (by omega);rw[IT] at g;have d:DK (k+4) (some ⟨i.st,0,none⟩) (lo:Int) 1 J=_:=g;rw[Rv];simp only[AI,IN,h.UH,t1,o,show ((2:Int)=0)=False from by simp,Abs,d];have a:PL m (2*(lo+n)) (k+4) lo=C7 (DE m lo n):=cw m (lo+n) p n (k+4) lo rfl (by omega);cases e:QR (CG 1 m.stw) (32*m.bls.length) 1 lo with
 | none=>
   obtain ⟨f,s',b,c⟩:=V7 k l h (2*(lo+n)) (k+3) none [] (none,0,0) [] trivial (.inl ⟨rfl,rfl⟩) (fun _ h=>by cases h) (by simp);rw[Abu] at b;refine ⟨f,s', ?_, ?_⟩
   ·simp only[B9];rw[show CO (k+4) (k+4) (AU i) ((2*(lo+n):Nat):Int) (none,0,0) 0 4 J=_ from b];simp only[AI,Aah,HS]
   ·rw[<- a,PL,e]; simpa using c
 | some j=>
   obtain ⟨t,q,_,_⟩:=RS e;obtain ⟨f,s',b,c⟩:=V7 k l h (2*(lo+n)) (k+3) (some j) [] (none,0,0) [] (by simp) (.inl ⟨rfl,rfl⟩) (fun _ h=>by cases h; exact q) (by simp only; omega);rw[Abu] at b;refine ⟨f,s', ?_, ?_⟩
   ·simp only[B9];rw[show CO (k+4) (k+4) (AU i) ((2*(lo+n):Nat):Int) (none,0,0) (j:Int) 0 J=_ from b];simp only[AI,Aah,HS]
   ·rw[<- a,PL,e]; simpa using c
theorem VS (k:Nat) (g:5000<=k) (h:Al J i m) {b:Nat} (hb:b<m.bls.length):∃ τ s,Cd (k+6) (AU i) (b:Int) J=some (.slice s.1 s.2.1 s.2.2,J++τ)/\C8 J.length (J++τ) s (C7 (DE m (32*b) 32)):=by
 have n:=h.nt;obtain ⟨τ,s,e,f⟩:=bt k g h (32*b) 32 (by omega);refine ⟨τ,s, ?_,f⟩;have a:Ar ((b:Int)*64)=((2*(32*b):Nat):Int):=by rw[Ai (by unfold AO; omega)]; omega
 have c:=wSu b (by omega);have d:Ar (((b+1:Nat):Int)*64)=((2*(32*b+32):Nat):Int):=by rw[Ai (by unfold AO; omega)]; omega
 rw[My];have j:decide ((b:Int)<0)=false:=by simp
 have l:decide ((b:Int)>=((m.bls.length:Nat):Int))=false:=by simp; omega
 simp only[JT _ h,AI,An,Abr,By,j,IN,h.HI,l,a,c,d,e,Ej]
theorem gV (k:Nat) (d:5000<=k) (h:Al J i m):∃ τ s,Ca (k+6) (AU i) J=some (.slice s.1 s.2.1 s.2.2,J++τ)/\C8 J.length (J++τ) s (C7 (DE m 0 (32*m.bls.length))):=by
 have e:=h.nt;have hw:=h.wl;obtain ⟨τ,s,b,c⟩:=bt k d h 0 (32*m.bls.length) (by omega);refine ⟨τ,s, ?_,c⟩;rw[VW];have a:((m.wds.length:Nat):Int)=((2*(0+32*m.bls.length):Nat):Int):=by omega
 simp only[JT _ h,AI,An,Abr,By,IN,h.EX,a];rw[show (0:Int)=((2*0:Nat):Int) from rfl,show (32*m.bls.length)=0+32*m.bls.length from by omega,b];simp only[AI,Ej]
end
section
def num (r d k:Int):Int:=r+16*d+4096*k
theorem Ke {r d k:Int} (h:valid r d k=true):(num r d k).tmod 16=r/\((num r d k).tmod 4096).tdiv 16=d/\(num r d k).tdiv 4096=k/\AO (num r d k):=by
 simp[valid] at h;unfold num AO;have h0:0<=r+16*d+4096*k:=by omega
 rw[Agj h0,Agj h0,Afd h0,Afd (by omega)];omega
theorem Ko {r d k:Int} (h:valid r d k=true):Pk (num r d k)=((2+r+d+1)/2*2).toNat:=by
 obtain ⟨h1,a,b,_⟩:=Ke h;unfold Pk words;rw[h1,a,b,h]; rfl
def Av (m:HM) (j:Nat):Int:=(m.wds.getD (2*j+1) 0).tmod 16
def Bp (m:HM) (j:Nat):Int:=((m.wds.getD (2*j+1) 0).tmod 4096).tdiv 16
def Py (k v:Int):List (Int × Int)->List (Int × Int)
 | []=>[(k,v)]
 | e::es=>if k == e.1 then (k,v)::es else e::Py k v es
def Yi (k:Int):List (Int × Int)->List (Int × Int)
 | []=>[]
 | e::es=>if k == e.1 then es else e::Yi k es
theorem gf (k v:Int):∀ l,NR k (qIi v) (Sq l)=Sq (Py k v l)
 | []=>rfl
 | e::es=>by
   have:=gf k v es;simp only[Sq,Aea,NR,Py] at this ⊢;split
   ·rfl
   ·rw[this]; rfl
theorem fZ (k:Int):∀ l,MG k (Sq l)=Sq (Yi k l)
 | []=>rfl
 | e::es=>by
   have:=fZ k es;simp only[Sq,Aea,MG,Yi] at this ⊢;split
   ·rfl
   ·rw[this]; rfl
theorem OW (k v k':Int):∀ l,getM (Py k v l) k'=if k'=k then some v else getM l k'
 | []=>by simp[getM,Py]
 | e::es=>by
   have c:=OW k v k' es;unfold Py;by_cases h:k=e.1
   ·have hb:(k == e.1)=true:=by simpa using h
    simp only[hb,Aah,getM,Afr];by_cases a:k'=k
    ·simp[a]
    ·have h1:(k' == k)=false:=by simpa using a
     have b:(k' == e.1)=false:=by rw[<- h]; exact h1
     simp[h1,b,a]
   ·have hb:(k == e.1)=false:=by simpa using h
    simp only[hb,Abz,Abs,getM,Afr] at c ⊢;by_cases a:k'=e.1
    ·have h1:(k' == e.1)=true:=by simpa using a
     have b:¬ k'=k:=by rw[a]; exact fun e=>h e.symm
     simp[h1,b]
    ·have h1:(k' == e.1)=false:=by simpa using a
     simp only[h1];exact c
def Sv:List (Int × Int)->Prop
 | []=>True
 | e::es=>getM es e.1=none/\Sv es
theorem Um (k v:Int):∀ l,Sv l->Sv (Py k v l)
 | [],_=>⟨rfl,trivial⟩
 | e::es,h=>by
   unfold Py;by_cases a:k=e.1
   ·have hb:(k == e.1)=true:=by simpa using a
    simp only[hb,Aah];exact ⟨by simp only; rw[a]; exact h.1,h.2⟩
   ·have hb:(k == e.1)=false:=by simpa using a
    simp only[hb,Abz,Abs];refine ⟨?_,Um k v es h.2⟩;rw[OW,Abo (fun e=>a e.symm)];exact h.1
theorem Ub (k k':Int):∀ l,Sv l->getM (Yi k l) k'=if k'=k then none else getM l k'
 | [],_=>by simp[getM,Yi]
 | e::es,h=>by
   have d:=Ub k k' es h.2;unfold Yi;by_cases b:k=e.1
   ·have hb:(k == e.1)=true:=by simpa using b
    simp only[hb,Aah];by_cases a:k'=k
    ·rw[Abm a,a,b]; exact h.1
    ·have c:(k' == e.1)=false:=by rw[<- b]; simpa using a
     rw[Abo a];simp only[getM,Afr,c]
   ·have hb:(k == e.1)=false:=by simpa using b
    simp only[hb,Abz,Abs,getM,Afr] at d ⊢;by_cases a:k'=e.1
    ·have h1:(k' == e.1)=true:=by simpa using a
     have c:¬ k'=k:=by rw[a]; exact fun e=>b e.symm
     simp[h1,c]
    ·have h1:(k' == e.1)=false:=by simpa using a
     simp only[h1];exact d
theorem kL (k:Int):∀ l,Sv l->Sv (Yi k l)
 | [],_=>trivial
 | e::es,h=>by
   unfold Yi;by_cases a:k=e.1
   ·have hb:(k == e.1)=true:=by simpa using a
    simp only[hb,Aah];exact h.2
   ·have hb:(k == e.1)=false:=by simpa using a
    simp only[hb,Abz,Abs];refine ⟨?_,kL k es h.2⟩;rw[Ub k _ es h.2,Abo (fun e=>a e.symm)];exact h.1
structure Inv (m:HM):Prop where
 good:∀ j,Start m j -> ∃ r d k,valid r d k=true/\m.wds.getD (2*j+1) 0=num r d k
 fit:∀ j,Start m j->2*j+sz m j<=m.wds.length
 apart:∀ j j',Start m j->Start m j'->j<j'->2*j+sz m j<=2*j'
 idn:∀ j,Start m j->1<=m.wds.getD (2*j) 0/\m.wds.getD (2*j) 0<=m.births/\getM m.pl (m.wds.getD (2*j) 0)=some ((2*j:Nat):Int)
 plc:∀ id a,getM m.pl id=some a -> ∃ j,a=((2*j:Nat):Int)/\Start m j/\m.wds.getD (2*j) 0=id
 brt:0<=m.births
 onc:Sv m.pl
variable {m:HM}
theorem Inv.size (h:Inv m) {j:Nat} (hs:Start m j):2<=sz m j/\sz m j<=218/\sz m j % 2=0/\0<=Av m j/\0<=Bp m j/\2+Av m j+Bp m j<=(sz m j:Int):=by
 obtain ⟨r,d,k,a,b⟩:=h.good j hs;have h1:=Ko a;obtain ⟨c,e,_,_⟩:=Ke a;unfold Av Bp sz;rw[b,h1,c,e];simp[valid] at a;omega
theorem Inv.UC (h:Inv m) {n j:Nat} (hs:Start m j) (h1:2*j<=n) (h2:n<2*j+sz m j):bQ m n=some j:=by
 unfold bQ;have f:=hs.1;cases c:QO (CG 1 m.stw) 1 (min (n/2+1) (32*m.bls.length)) with
 | none=>exact absurd hs.2 (cp c j (by omega))
 | some j'=>
   obtain ⟨g,d,e⟩:=RL c;have b:Start m j':=⟨by omega,d⟩;have:j'=j:=by
    rcases Aes j' j with a | rfl | a
    ·exact absurd hs.2 (e j a (by omega))
    ·rfl
    ·have:=h.apart j j' hs b a;omega
   subst this;simp only[show ¬ 2*j'+sz m j'<=n from by omega,Abs]
theorem ni {n j:Nat} (h:bQ m n=some j):Start m j/\2*j<=n+1/\n<2*j+sz m j/\2*j<=n:=by
 unfold bQ at h;split at h
 ·cases h
 ·rename_i j' a;split at h
  ·cases h
  ·cases h;obtain ⟨c,b,d⟩:=RL a;exact ⟨⟨by omega,b⟩,by omega,by omega,by omega⟩
theorem UD {hi:Nat} {a:Int}:∀ {f x:Nat},Mn m hi a f x=true->hi<=x+2*f -> ∀ t,x+2*t<hi -> ∀ o,QM m ((x+2*t:Nat):Int)=some o->((2*o:Nat):Int)=a
 | 0,x,_,d,t,e=>by omega
 | f+1,x,h,d,t,e=>by
   intro o b;rw[Mn,Abm (by omega)] at h;cases t with
   | zero=>
     rw[show x+2*0=x from by omega] at b;rw[b] at h;simp only at h;split at h
     ·assumption
     ·cases h
   | succ t=>
     have c:Mn m hi a f (x+2)=true:=by
      split at h
      ·split at h
       ·exact h
       ·cases h
      ·exact h
     exact UD c (by omega) t (by omega) o (by rw[show x+2+2*t=x+2*(t+1) from by omega]; exact b)
theorem dy (m:HM) (b:Nat):∀ (f n:Nat),b+n<=m.bls.length->b+JV m b f n<=m.bls.length
 | 0,n,h=>h
 | f+1,n,h=>by
   rw[JV];split
   ·rename_i a;exact dy m b f (n+1) (by omega)
   ·exact h
theorem Inv.fits (h:Inv m) (hw:m.wds.length=64*m.bls.length) {a:Int} {d:Nat} {f:Int} (u:d<=218) (h2:2<=d) (b:Me m a d f=0):
  ∃ j,a=((2*j:Nat):Int)/\j<32*m.bls.length/\2*j+d<=m.wds.length /\ ∀ o,Start m o->((2*o:Nat):Int)≠f->2*o+sz m o<=2*j\/2*j+d<=2*o:=by
 unfold Me at b;split at b
 ·cases b
 rename_i h0;have r:0<=a/\a<(m.wds.length:Int)/\a.toNat % 2=0:=Agd.1 h0;obtain ⟨n,rfl⟩:∃ n:Nat,a=(n:Int):=⟨a.toNat,by omega⟩;rw[IT] at b r;have g:Mn m (n+d) f 200 n=true/\n+d<=m.wds.length:=by
  simp only at b;split at b
  ·split at b
   ·cases b
   ·rename_i p;split at b
    ·rename_i k;refine ⟨k, ?_⟩;have:(n+d-1)/64=n/64:=by
      apply Adl;intro i; exact p (.inr i)
     omega
    ·cases b
  ·split at b
   ·cases b
   ·rename_i p;split at b
    ·rename_i k;refine ⟨k, ?_⟩;have h1:n % 64=0:=by
      apply Adl;intro i; exact p (.inr (.inl i))
     have h2:LA m (n/64)=(d+63)/64:=by
      apply Adl;intro i; exact p (.inr (.inr i))
     have s:=dy m (n/64) m.bls.length 1 (by omega);rw[show JV m (n/64) m.bls.length 1=LA m (n/64) from rfl,h2] at s;omega
    ·cases b
 obtain ⟨k,hlen⟩:=g;refine ⟨n/2,by omega,by omega,by omega,fun o q l=>?_⟩;apply Adl;intro i;have c:=UD k (by omega);have t:=q.1;by_cases hle:2*o<=n
 ·refine l (c 0 (by omega) o ?_);unfold QM;rw[Abm (by omega),IT];exact h.UC q (by omega) (by omega)
 ·refine l (c (o-n/2) (by omega) o ?_);have e:n+2*(o-n/2)=2*o:=by omega
  have v:=h.size q;unfold QM;rw[Abm (by omega),e,IT];exact h.UC q (by omega) (by omega)
end
section
local instance qCM:AH:=Ao
variable {J:Aa} {i:Cp} {m:HM}
theorem Cp.ne (h:i.l.Nodup):i.hb≠i.bl/\i.hb≠i.wd/\i.hb≠i.st/\i.hb≠i.sw/\i.hb≠i.pn/\i.hb≠i.pw/\i.hb≠i.pl/\i.hb≠i.fw /\
  i.bl≠i.wd/\i.bl≠i.st/\i.bl≠i.sw/\i.bl≠i.pn/\i.bl≠i.pw/\i.bl≠i.pl/\i.bl≠i.fw /\
  i.wd≠i.st/\i.wd≠i.sw/\i.wd≠i.pn/\i.wd≠i.pw/\i.wd≠i.pl/\i.wd≠i.fw /\
  i.st≠i.sw/\i.st≠i.pn/\i.st≠i.pw/\i.st≠i.pl/\i.st≠i.fw/\i.sw≠i.pn/\i.sw≠i.pw/\i.sw≠i.pl/\i.sw≠i.fw /\
  i.pn≠i.pw/\i.pn≠i.pl/\i.pn≠i.fw/\i.pw≠i.pl/\i.pw≠i.fw/\i.pl≠i.fw:=by
 simp[Cp.l,and_assoc] at h;simp only[ne_eq];exact h
theorem Al.yw (h:Al J i m) (l:List Int) (b:l.length=m.wds.length) (hi:∀ a,AO (l.getD a 0)):Al (J.set i.wd (.cells (Bm l) Dt true)) i { m with wds:=l }:=by
 obtain ⟨L,M,N,O,P,Q,S,T,U,d,e,f,k,n,o,p,q,r,s,t,u,v,w,x,y,z,A,B,C,D,E,F,G,H,I,K⟩:=Cp.ne h.nd;have g:∀ {j},j≠i.wd->(J.set i.wd (.cells (Bm l) Dt true))[j]?=J[j]?:=fun c=>Aaf (Ac9 c);exact ⟨by rw[g (by first | assumption | (apply Ac9; assumption)),h.hp]; simp only[b],by rw[g (by first | assumption | (apply Ac9; assumption))]; exact h.bl,by rw[Abq (Af h.wd)],h.st.same (g (by first | assumption | (apply Ac9; assumption))) (g (by first | assumption | (apply Ac9; assumption))),h.pn.same (g (by first | assumption | (apply Ac9; assumption))) (g (by first | assumption | (apply Ac9; assumption))),by rw[g (by first | assumption | (apply Ac9; assumption))]; exact h.pl,by rw[g (by first | assumption | (apply Ac9; assumption))]; exact h.fw,h.nb,h.nt,by rw[b]; exact h.wl,h.nd,hi⟩
theorem Al.qa (h:Al J i m) (l:List (Int × Int)) (a:l.length=m.bls.length):Al (J.set i.bl (.cells (CS l) Ga true)) i { m with bls:=l }:=by
 obtain ⟨K,L,M,N,O,P,Q,S,T,c,d,e,f,k,n,o,p,q,r,s,t,u,v,w,x,y,z,A,B,C,D,E,F,G,H,I⟩:=Cp.ne h.nd;have g:∀ {j},j≠i.bl->(J.set i.bl (.cells (CS l) Ga true))[j]?=J[j]?:=fun b=>Aaf (Ac9 b);exact ⟨by rw[g (by first | assumption | (apply Ac9; assumption)),h.hp]; simp only[a],by rw[Abq (Af h.bl)],by rw[g (by first | assumption | (apply Ac9; assumption))]; exact h.wd,by rw[a]; exact h.st.same (g (by first | assumption | (apply Ac9; assumption))) (g (by first | assumption | (apply Ac9; assumption))),by rw[a]; exact h.pn.same (g (by first | assumption | (apply Ac9; assumption))) (g (by first | assumption | (apply Ac9; assumption))),by rw[g (by first | assumption | (apply Ac9; assumption))]; exact h.pl,by rw[g (by first | assumption | (apply Ac9; assumption))]; exact h.fw,by rw[a]; exact h.nb,by rw[a]; exact h.nt,by rw[a]; exact h.wl,h.nd,h.wi⟩
theorem Al.yv (h:Al J i m) (j v:Nat):Al (J.set i.sw (.cells (rowOf (F9 1 m.stw j v)) B8 true)) i { m with stw:=F9 1 m.stw j v }:=by
 obtain ⟨I,K,L,M,N,O,P,Q,S,b,c,d,e,f,k,l,n,o,p,q,r,s,t,u,w,x,y,z,A,B,C,D,E,F,G,H⟩:=Cp.ne h.nd;have g:∀ {j'},j'≠i.sw->(J.set i.sw (.cells (rowOf (F9 1 m.stw j v)) B8 true))[j']?=J[j']?:=fun a=>Aaf (Ac9 a);exact ⟨by rw[g (by first | assumption | (apply Ac9; assumption)),h.hp],by rw[g (by first | assumption | (apply Ac9; assumption))]; exact h.bl,by rw[g (by first | assumption | (apply Ac9; assumption))]; exact h.wd,h.st.put (by first | assumption | (apply Ac9; assumption)) j v,h.pn.same (g (by first | assumption | (apply Ac9; assumption))) (g (by first | assumption | (apply Ac9; assumption))),by rw[g (by first | assumption | (apply Ac9; assumption))]; exact h.pl,by rw[g (by first | assumption | (apply Ac9; assumption))]; exact h.fw,h.nb,h.nt,h.wl,h.nd,h.wi⟩
theorem Al.yu (h:Al J i m) (j v:Nat):Al (J.set i.pw (.cells (rowOf (F9 1 m.pnw j v)) B8 true)) i { m with pnw:=F9 1 m.pnw j v }:=by
 obtain ⟨I,K,L,M,N,O,P,Q,S,b,c,d,e,f,k,l,n,o,p,q,r,s,t,u,w,x,y,z,A,B,C,D,E,F,G,H⟩:=Cp.ne h.nd;have g:∀ {j'},j'≠i.pw->(J.set i.pw (.cells (rowOf (F9 1 m.pnw j v)) B8 true))[j']?=J[j']?:=fun a=>Aaf (Ac9 a);exact ⟨by rw[g (by first | assumption | (apply Ac9; assumption)),h.hp],by rw[g (by first | assumption | (apply Ac9; assumption))]; exact h.bl,by rw[g (by first | assumption | (apply Ac9; assumption))]; exact h.wd,h.st.same (g (by first | assumption | (apply Ac9; assumption))) (g (by first | assumption | (apply Ac9; assumption))),h.pn.put (by first | assumption | (apply Ac9; assumption)) j v,by rw[g (by first | assumption | (apply Ac9; assumption))]; exact h.pl,by rw[g (by first | assumption | (apply Ac9; assumption))]; exact h.fw,h.nb,h.nt,h.wl,h.nd,h.wi⟩
theorem Al.yt (h:Al J i m) (l:List (Int × Int)):Al (J.set i.pl (.map (Sq l))) i { m with pl:=l }:=by
 obtain ⟨I,K,L,M,N,O,P,Q,S,b,c,d,e,f,k,n,o,p,q,r,s,t,u,v,w,x,y,z,A,B,C,D,E,F,G,H⟩:=Cp.ne h.nd;have g:∀ {j},j≠i.pl->(J.set i.pl (.map (Sq l)))[j]?=J[j]?:=fun a=>Aaf (Ac9 a);exact ⟨by rw[g (by first | assumption | (apply Ac9; assumption)),h.hp],by rw[g (by first | assumption | (apply Ac9; assumption))]; exact h.bl,by rw[g (by first | assumption | (apply Ac9; assumption))]; exact h.wd,h.st.same (g (by first | assumption | (apply Ac9; assumption))) (g (by first | assumption | (apply Ac9; assumption))),h.pn.same (g (by first | assumption | (apply Ac9; assumption))) (g (by first | assumption | (apply Ac9; assumption))),by rw[Abq (Af h.pl)],by rw[g (by first | assumption | (apply Ac9; assumption))]; exact h.fw,h.nb,h.nt,h.wl,h.nd,h.wi⟩
theorem Al.st6 (h:Al J i m) (b:Int):∃ J',CX J i.hb 6 (qIi b)=some J'/\Al J' i { m with births:=b }/\Br i J J':=by
 obtain ⟨K,L,M,N,O,P,Q,S,T,c,d,e,f,k,l,n,p,q,r,s,t,u,v,w,x,y,z,A,B,C,D,E,F,G,H,I⟩:=Cp.ne h.nd;simp only[CX,h.hp];refine ⟨_,rfl, ?_,Br.set J _ (by simp[Cp.l])⟩;have g:∀ {j o},j≠i.hb->(J.set i.hb o)[j]?=J[j]?:=fun a=>Aaf (Ac9 a);exact ⟨by rw[Abq (Af h.hp)]; rfl,by rw[g (by first | assumption | (apply Ac9; assumption))]; exact h.bl,by rw[g (by first | assumption | (apply Ac9; assumption))]; exact h.wd,h.st.same (g (by first | assumption | (apply Ac9; assumption))) (g (by first | assumption | (apply Ac9; assumption))),h.pn.same (g (by first | assumption | (apply Ac9; assumption))) (g (by first | assumption | (apply Ac9; assumption))),by rw[g (by first | assumption | (apply Ac9; assumption))]; exact h.pl,by rw[g (by first | assumption | (apply Ac9; assumption))]; exact h.fw,h.nb,h.nt,h.wl,h.nd,h.wi⟩
theorem fM (l:List Int) (a:Nat) (v:Int):Bm (l.set a v)=(Bm l).set a (qIi v):=by simp[Bm,List.map_set]
theorem Cn (l:List Int) (a b:Nat) (v:Int):(l.set a v).getD b 0=if a=b/\a<l.length then v else l.getD b 0:=by
 simp only[Abi,Ad2];split
 ·rename_i e; subst e;split
  ·rename_i h; simp[h]
  ·rename_i h; simp[h,Adh (Ahu h)]
 ·rename_i e; simp[e]
theorem Al.CX (h:Al J i m) {a:Nat} (c:a<m.wds.length) (v:Int) (d:AO v):AX.CX J i.wd a (qIi v)=some (J.set i.wd (.cells (Bm (m.wds.set a v)) Dt true))/\Al (J.set i.wd (.cells (Bm (m.wds.set a v)) Dt true)) i { m with wds:=m.wds.set a v }:=by
 refine ⟨?_,h.yw _ (by simp) fun b=>?_⟩
 ·simp only[AX.CX,h.wd,Cj,c,Aah,fM]
 ·rw[Cn];split
  ·exact d
  ·exact h.wi b
def BB (m:HM) (a x:Int) (data:Bool):Int × Int:=
 if Ax m a then
  let j:=a.toNat/2
  let first:=a+2+(if data then Av m j else 0)
  if 0<=x/\x<(if data then Bp m j else Av m j) then (first+x,0) else (0,1)
 else (0,4)
theorem Xd (k:Nat) (h:Al J i m) (p:Inv m) (a x:Int) (q:AO a) (data:Bool):∃ τ,CP (k+6) (AU i) a x data J=some (.tuple #[qIi (BB m a x data).1,qIi (BB m a x data).2],J++τ):=by
 have hw:=h.wl;have E:=h.nt;rw[Tu];simp only[Ov _ h a q,AI,Ah];cases d:Ax m a with
 | false=>exact ⟨[],by simp[BB,d]⟩
 | true=>
   obtain ⟨j,rfl,hs⟩:=AV d;obtain ⟨F,G,H,r,s,I⟩:=p.size hs;have D:=hs.1;have g:Ar (((2*j:Nat):Int)+1)=((2*j+1:Nat):Int):=Ai (by unfold AO; omega);have l:Ar (((2*j:Nat):Int)+2)=((2*j+2:Nat):Int):=Ai (by unfold AO; omega);obtain ⟨τ,e⟩:=dw (k+4) (m.wds.getD (2*j+1) 0) (h.wi _) J;simp only[Aah,Abt,By,IN,h.EX,g,IT,Acu,AI];rw[Abm (by omega)];simp only[AI,h.uB (show 2*j+1<m.wds.length by omega),e,H5,Ae];refine ⟨τ++[.cells [qIi (Av m j),qIi (Bp m j),qIi ((m.wds.getD (2*j+1) 0).tdiv 4096)] Ad true], ?_⟩;have f:∀ (Z:Aa) (x y z:Value) (u v w:Value) T,H0 (Z++[.cells [x,y,z] T true]) Z.length 0 [u,v,w]=some (Z++[.cells [u,v,w] T true]):=by
    intro Z x y z u v w T; simp[H0,Ba]
   simp only[f,AI,Bt,IN,Ach,Acj,Ah];rw[show ((m.wds.getD (2*j+1) 0).tmod 4096).tdiv 16=Bp m j from rfl,show (m.wds.getD (2*j+1) 0).tmod 16=Av m j from rfl];rw[Aae];have o:((2*j:Nat):Int).toNat/2=j:=by omega
   unfold BB;rw[d];simp only[Aah,o,l];have main:∀ (f0 many:Int),0<=many->many<=4000->0<=f0->f0<=5000 -> ∀ (Z:Aa),((bif decide (x<0) then some (true,Z) else some (decide (x>=many),Z)).bind fun b=>bif b.1 then (some (Value.tuple #[qIi (0:Int),qIi (1:Int)],b.2)) else (some (.tuple #[qIi (Ar (f0+x)),qIi (0:Int)],b.2))) =
     some (.tuple #[qIi (if 0<=x/\x<many then (f0+x,(0:Int)) else (0,1)).1,qIi (if 0<=x/\x<many then (f0+x,(0:Int)) else (0,1)).2],Z):=by
    intro f0 many h1 A B C Z;by_cases c:x<0
    ·simp only[show decide (x<0)=true from by simpa using c,IS,AI,show ¬ (0<=x/\x<many) from by omega,Abs]
    ·by_cases t:x<many
     ·simp only[show decide (x<0)=false from by simpa using c,By,AI,show decide (x>=many)=false from by simp; omega,show (0<=x/\x<many) from by omega,Afp,Aah];rw[Ai (by unfold AO; omega)]
     ·simp only[show decide (x<0)=false from by simpa using c,By,AI,show decide (x>=many)=true from by simp; omega,IS,show ¬ (0<=x/\x<many) from by omega,Abs]
   cases data with
   | false=>
     simp only[By,AI,Aah,UL,Abz,Abs,Int.add_zero];rw[main _ _ r (by omega) (by omega) (by omega)];rw[show ((2*j+2:Nat):Int)=((2*j:Nat):Int)+2 from by omega]
   | true=>
     have n:Ar (((2*j+2:Nat):Int)+Av m j)=((2*j:Nat):Int)+2+Av m j:=by rw[Ai (by unfold AO; omega)]; omega
     simp only[IS,AI,Aah,UL,n];rw[main _ _ s (by omega) (by omega) (by omega)]
theorem fq (h:Inv m) {a x:Int} {data:Bool} {w:Int} (b:BB m a x data=(w,0)):∃ j t:Nat,Start m j/\a=((2*j:Nat):Int)/\w=((2*j+2+t:Nat):Int)/\2+t<sz m j:=by
 unfold BB at b;split at b
 ·rename_i e;obtain ⟨j,rfl,hs⟩:=AV e;have c:((2*j:Nat):Int).toNat/2=j:=by omega
  obtain ⟨f,g,i,k,l,n⟩:=h.size hs;simp only[c] at b;cases data with
  | false=>
    simp only[Abz,Abs] at b;split at b
    ·rename_i d;have hw:=Ad1 Prod.fst b;simp only at hw;exact ⟨j,x.toNat,hs,rfl,by omega,by omega⟩
    ·have:=Ad1 Prod.snd b;simp at this
  | true=>
    simp only[Aah] at b;split at b
    ·rename_i d;have hw:=Ad1 Prod.fst b;simp only at hw;exact ⟨j,(Av m j+x).toNat,hs,rfl,by omega,by omega⟩
    ·have:=Ad1 Prod.snd b;simp at this
 ·have:=Ad1 Prod.snd b;simp at this
theorem Inv.xH (h:Inv m) {j t:Nat} (hs:Start m j) (x:2+t<sz m j) (v:Int):Inv { m with wds:=m.wds.set (2*j+2+t) v }:=by
 have f:∀ j',Start m j' -> ∀ c,c<2->(m.wds.set (2*j+2+t) v).getD (2*j'+c) 0=m.wds.getD (2*j'+c) 0:=by
  intro j' b c w;rw[Cn,Abo];rintro ⟨e,_⟩;have h1:=h.apart j j' hs b;have y:=h.size b;rcases Aes j j' with g | rfl | g
  ·have:=h1 g; omega
  ·omega
  ·omega
 have i:∀ j',Start m j'->(m.wds.set (2*j+2+t) v).getD (2*j') 0=m.wds.getD (2*j') 0:=fun j' b=>f j' b 0 (by decide);have l:∀ j',Start m j'->sz { m with wds:=m.wds.set (2*j+2+t) v } j'=sz m j':=fun j' b=>by
  unfold sz; rw[f j' b 1 (by decide)]
 refine ⟨fun j' b=>?_,fun j' b=>?_,fun n u h1 o g=>?_,fun j' b=>?_,fun id a p=>?_,h.brt,h.onc⟩
 ·obtain ⟨r,d,k,s,q⟩:=h.good j' b;exact ⟨r,d,k,s,by rw[f j' b 1 (by decide)]; exact q⟩
 ·rw[l j' b]; simpa using h.fit j' b
 ·rw[l n h1]; exact h.apart n u h1 o g
 ·have:=h.idn j' b;rw[<- i j' b] at this;exact this
 ·obtain ⟨j',rfl,b,he⟩:=h.plc id a p;exact ⟨j',rfl,b,(i j' b).trans he⟩
end
section
local instance qCN:AH:=Ao
variable {J:Aa} {i:Cp} {m:HM}
def Mp (mm:Option (Value × Aa)) (J:Aa) (i:Cp) (r:Int × HM):Prop:=
 ∃ J',mm=some (qIi r.1,J')/\Al J' i r.2/\Br i J J'
theorem Mp.same (h:Al J i m) (τ:Aa) {code:Int} {mm:Option (Value × Aa)} (he:mm=some (qIi code,J++τ)) {r:Int × HM} (a:r=(code,m)):Mp mm J i r:=
 ⟨J++τ,by rw[a]; exact he,by rw[a]; exact h.app τ,Br.app i J τ⟩
theorem Mp.to {mm mm':Option (Value × Aa)} {r:Int × HM} (h:Mp mm J i r) (f:∀ J',mm=some (qIi r.1,J')->mm'=some (qIi r.1,J')):Mp mm' J i r:=by
 obtain ⟨J',e,g⟩:=h;exact ⟨J',f J' e,g⟩
def GW (m:HM) (a:Nat) (v:Int):HM:={ m with wds:=m.wds.set a v }
theorem dD (h:Al J i m) (b:Inv m) (τ:Aa) {j t:Nat} (hs:Start m j) (f:2+t<sz m j) (v:Int) (c:AO v) {mm:Option (Value × Aa)}
  (he:mm=(AX.CX (J++τ) i.wd (2*j+2+t) (qIi v)).bind fun s=>some (qIi 0,s)):Mp mm J i (0,GW m (2*j+2+t) v):=by
 have d:=b.fit j hs;obtain ⟨e,a⟩:=(h.app τ).CX (show 2*j+2+t<m.wds.length by omega) v c;rw[e] at he;exact ⟨_,he,a,(Br.app i J τ).trans (Br.set _ _ (by simp[Cp.l]))⟩
def BP (m:HM) (a x v:Int):Int × HM:=
 if (BB m a x false).2=0 then (if v≠0/\Ax m v=false then (1,m) else (0,GW m (BB m a x false).1.toNat v)) else ((BB m a x false).2,m)
def GQ (m:HM) (a x v:Int):Int × HM:=
 if (BB m a x true).2=0 then (0,GW m (BB m a x true).1.toNat v) else ((BB m a x true).2,m)
def MH (m:HM) (a:Int) (v:Nat):Int × HM:=if Ax m a then (0,{ m with pnw:=F9 1 m.pnw (a.toNat/2) v }) else (4,m)
def yp (m:HM) (a v:Int):Int × HM:=
 if 0<=a/\a<(m.wds.length:Int) then (match bQ m a.toNat with
  | none=>(4,m)
  | some j=>if ((2*j+2:Nat):Int)<=a/\a<((2*j+2:Nat):Int)+Av m j+Bp m j then (0,GW m a.toNat v) else (4,m)) else (1,m)
theorem Ti (k:Nat) (h:Al J i m) (d:Inv m) (a x v:Int) (u:AO a) (r:AO v):Mp (CT (k+7) (AU i) a x v J) J i (BP m a x v):=by
 unfold BP;obtain ⟨τ,o⟩:=Xd k h d a x u false;rw[SA];simp only[o,AI,B9];generalize f:BB m a x false=w at o ⊢;obtain ⟨w,c⟩:=w;by_cases e:c=0
 ·subst e;obtain ⟨j,t,hs,rfl,rfl,y⟩:=fq d f;have p:=d.fit j hs;have tail:Mp ((AU i).bind fun l=>(Bd (J++τ) l.block (l.off+1)).bind fun s=>if 0<=((2*j+2+t:Nat):Int)/\((2*j+2+t:Nat):Int)<(s.2.1:Nat) then s.1.bind fun n=>(AX.CX (J++τ) n.block (n.off+((2*j+2+t:Nat):Int).toNat*1) (qIi v)).bind fun g=>some (qIi (0:Int),g) else none) J i (0,GW m (2*j+2+t) v):=by
   refine dD h d τ hs y v r ?_;simp only[AI,IN,(h.app τ).EX];rw[Abm (by omega)];simp only[AI,IN,IT,Acu]
  by_cases b:v=0
  ·subst b;simp only[Abt,By,AI,ne_eq,Aez,false_and,Abs,Aah,IT];exact tail
  ·have q:(v != 0)=true:=by simpa using b
   simp only[Abt,By,q,IS,Te (k+2) (h.app τ) v r,AI,An];cases Ax m v with
   | true=>
     simp only[Abr,By,Aah,Bool.true_eq_false,and_false,Abs,IT];exact tail
   | false=>exact Mp.same h τ rfl (by simp[b])
 ·have q:(c != 0)=true:=by simpa using e
  simp only[q,IS];exact Mp.same h τ rfl (by simp[e])
theorem hY (k:Nat) (h:Al J i m) (b:Inv m) (a x v:Int) (l:AO a) (o:AO v):Mp (DA (k+7) (AU i) a x v J) J i (GQ m a x v):=by
 unfold GQ;obtain ⟨τ,f⟩:=Xd k h b a x l true;rw[Ru];simp only[f,AI,B9];generalize e:BB m a x true=w at f ⊢;obtain ⟨w,c⟩:=w;by_cases d:c=0
 ·subst d;obtain ⟨j,t,hs,rfl,rfl,n⟩:=fq b e;have g:=b.fit j hs;simp only[Abt,By,Aah,IT];refine dD h b τ hs n v o ?_;simp only[AI,IN,(h.app τ).EX];rw[Abm (by omega)];simp only[AI,IN,IT,Acu]
 ·have q:(c != 0)=true:=by simpa using d
  simp only[q,IS];exact Mp.same h τ rfl (by simp[d])
theorem Inv.pins (h:Inv m) (l:List (BitVec 64)):Inv { m with pnw:=l }:=⟨h.good,h.fit,h.apart,h.idn,h.plc,h.brt,h.onc⟩
theorem Inv.kn (h:Inv m) (l:List (Int × Int)):Inv { m with fw:=l }:=⟨h.good,h.fit,h.apart,h.idn,h.plc,h.brt,h.onc⟩
theorem uO (k:Nat) (h:Al J i m) (a:Int) (f:AO a) (v:Nat) (n:v<2):Mp (JN (k+10) (AU i) a (v:Int) J) J i (MH m a v):=by
 rw[Wa];simp only[Ov _ h a f,AI,Ah];cases c:Ax m a with
 | false=>exact Mp.same h [] (code:=4) (by simp) (by simp[MH,c])
 | true=>
   obtain ⟨j,rfl,hs⟩:=AV c;have e:((2*j:Nat):Int).toNat/2=j:=by omega
   unfold MH;rw[c,e];have l:=h.nt;have g:=hs.1;have t1:((2*j:Nat):Int).tdiv 2=(j:Int):=by
    rw[show ((2*j:Nat):Int).tdiv 2=(((2*j)/2:Nat):Int) from rfl]; omega
   have d:Ar (j:Int)=(j:Int):=Ai (by unfold AO; omega);obtain ⟨τ,b⟩:=aT k h.pn g (show v<2 ^ 1 by omega);simp only[Aah,Abt,By,IN,h.cq,AI,t1,d,show ((2:Int)=0)=False from by simp,Abs,b,Ah];exact ⟨_,rfl,(h.app τ).yu j v,(Br.app i J τ).trans (Br.set _ _ (by simp[Cp.l]))⟩
theorem tA (k:Nat) (h:Al J i m) (a:Int) (b:AO a):Mp (HT (k+11) (AU i) a J) J i (MH m a 1):=by
 refine (uO k h a b 1 (by decide)).to fun J' e=>?_;rw[VY];simp only[show (1:Int)=((1:Nat):Int) from rfl,e,AI,Ah]
def CR (m:HM) (j:Nat) (n:Int):HM:=
 { m with wds:=(m.wds.set (2*j) (m.births+1)).set (2*j+1) n,stw:=F9 1 m.stw j 1,pl:=Py (m.births+1) ((2*j:Nat):Int) m.pl,births:=m.births+1 }
theorem J0 {n:Int} {j j':Nat} (c:32*m.bls.length<=64*m.stw.length) (b:j<32*m.bls.length):Start (CR m j n) j'↔j'=j\/Start m j':=by
 unfold Start CR;simp only;by_cases a:j'=j
 ·subst a;simp only[true_or,iff_true];exact ⟨b,ER (.inl rfl) (by decide) (by omega)⟩
 ·rw[Cc (.inl rfl) (by decide) (fun e=>a e.symm)];simp[a]
theorem Inv.place (h:Inv m) (hw:m.wds.length=64*m.bls.length) (J:32*m.bls.length<=64*m.stw.length) {j:Nat} {r d k:Int} (C:valid r d k=true) (I:j<32*m.bls.length)
  (q:2*j+Pk (num r d k)<=m.wds.length) (p:∀ o,Start m o->2*o+sz m o<=2*j\/2*j+Pk (num r d k)<=2*o):Inv (CR m j (num r d k)):=by
 have g:=fun j'=>J0 (m:=m) (n:=num r d k) (j:=j) (j':=j') J I;have B:¬ Start m j:=fun hs=>by
  have h1:=p j hs;have y:=h.size hs;have N:2<=Pk (num r d k):=by
   rw[Ko C];simp[valid] at C;omega
  omega
 have w0:(CR m j (num r d k)).wds.getD (2*j) 0=m.births+1:=by
  unfold CR; simp only;rw[Cn,Abo (by omega),Cn,Abm (by omega)]
 have G:(CR m j (num r d k)).wds.getD (2*j+1) 0=num r d k:=by
  unfold CR; simp only;rw[Cn,Abm ⟨rfl,by simp; omega⟩]
 have E:∀ j' c,j'≠j->c<2->(CR m j (num r d k)).wds.getD (2*j'+c) 0=m.wds.getD (2*j'+c) 0:=by
  intro j' c f O;unfold CR; simp only;rw[Cn,Abo (by omega),Cn,Abo (by omega)]
 have s1:sz (CR m j (num r d k)) j=Pk (num r d k):=by unfold sz; rw[G]
 have F:∀ j',j'≠j->sz (CR m j (num r d k)) j'=sz m j':=fun j' f=>by unfold sz; rw[E j' 1 f (by decide)]
 have wl:(CR m j (num r d k)).wds.length=m.wds.length:=by simp[CR]
 have u:∀ j',j'≠j->(CR m j (num r d k)).wds.getD (2*j') 0=m.wds.getD (2*j') 0:=fun j' f=>E j' 0 f (by decide);have s:∀ x,getM (CR m j (num r d k)).pl x=if x=m.births+1 then some ((2*j:Nat):Int) else getM m.pl x:=fun x=>OW _ _ _ _
 have f:∀ j',Start m j'->j'≠j:=fun j' hs e=>B (e ▸ hs);refine ⟨fun j' b=>?_,fun j' b=>?_,fun t w h1 y A=>?_,fun j' b=>?_,fun id a v=>?_, ?_, ?_⟩
 ·rcases (g j').1 b with rfl | b
  ·exact ⟨r,d,k,C,G⟩
  ·obtain ⟨M,H,L,D,K⟩:=h.good j' b;exact ⟨M,H,L,D,by rw[E j' 1 (f j' b) (by decide)]; exact K⟩
 ·rw[wl];rcases (g j').1 b with rfl | b
  ·rw[s1]; exact q
  ·rw[F j' (f j' b)]; exact h.fit j' b
 ·rcases (g t).1 h1 with rfl | l
  ·rcases (g w).1 y with rfl | i
   ·omega
   ·rw[s1];have:=p w i;have:=h.size i;omega
  ·rw[F t (f t l)];rcases (g w).1 y with rfl | i
   ·have:=p t l;omega
   ·exact h.apart t w l i A
 ·rw[s];rcases (g j').1 b with rfl | b
  ·rw[w0];have:=h.brt;refine ⟨by omega,by show _<=m.births+1; omega,Abm rfl⟩
  ·rw[u j' (f j' b)];obtain ⟨i1,i2,i3⟩:=h.idn j' b;refine ⟨i1,by show _<=m.births+1; omega, ?_⟩;rw[Abo (by omega)]; exact i3
 ·rw[s] at v;split at v
  ·rename_i z;cases v;exact ⟨j,rfl,(g j).2 (.inl rfl),by rw[w0,z]⟩
  ·obtain ⟨j',rfl,b,he⟩:=h.plc id a v;exact ⟨j',rfl,(g j').2 (.inr b),by rw[u j' (f j' b)]; exact he⟩
 ·have:=h.brt;show 0<=m.births+1;omega
 ·exact Um _ _ _ h.onc
theorem rS (k:Nat) {r d c:Int} (g:valid r d c=true) (J:Aa):∃ τ,Ln (k+1) r d c J=some (qIi (num r d c),J++τ):=by
 rw[XR];simp only[Ae,Bt,IN,Ach,Acj,AI,Ah];simp[valid] at g;have a:Ar (16*d)=16*d:=Ai (by unfold AO; omega);have b:Ar (r+16*d)=r+16*d:=Ai (by unfold AO; omega);have e:Ar (4096*c)=4096*c:=Ai (by unfold AO; omega);have f:Ar (r+16*d+4096*c)=r+16*d+4096*c:=Ai (by unfold AO; omega);simp only[a,b,e,f,num];exact ⟨_,rfl⟩
theorem gQ {l:List (BitVec 64)} {n:Nat} (h:l.length=(32*n*1+63)/64):32*n<=64*l.length:=by omega
def CW (m:HM) (a r d c:Int):Int × Int × HM:=
 if valid r d c then (if Me m a (Pk (num r d c)) (-1)=0 then (m.births+1,0,CR m (a.toNat/2) (num r d c)) else (0,Me m a (Pk (num r d c)) (-1),m)) else (0,2,m)
theorem aM (k:Nat) (K:5000<=k) (h:Al J i m) (W:Inv m) (hb:m.births<1000000) (a r d c:Int) (ha:AO a):∃ J',FB (k+12) (AU i) a r d c J=some (.tuple #[qIi (CW m a r d c).1,qIi (CW m a r d c).2.1],J')/\Al J' i (CW m a r d c).2.2/\Br i J J':=by
 have ht:=h.nt;have hw:=h.wl;rw[Tq];simp only[Ae];obtain ⟨Z0_,l⟩:∃ Z0_,J++[Au.cells [Value.int .i64 r,qIi d,qIi c] Ad true]=Z0_:=⟨_,rfl⟩;have h0:Al Z0_ i m:=l ▸ h.app _;have P:Br i J Z0_:=l ▸ Br.app i J _;have e:Z0_[J.length]?=some (Au.cells [Value.int .i64 r,qIi d,qIi c] Ad true):=by rw[<- l]; simp
 have E:∀ {Z:Aa},Z[J.length]?=some (Au.cells [Value.int .i64 r,qIi d,qIi c] Ad true)->Aj .i64 Z J.length 0=some r/\Aj .i64 Z J.length 1=some d/\Aj .i64 Z J.length 2=some c:=by
  intro Z hm; simp[Aj,CV,hm,Bl]
 have x:J.length ∉ i.l:=fun hm=>Aew _ (h.lt _ hm);have D:∀ {Z V:Aa},Br i Z V->Z[J.length]?=some (Au.cells [Value.int .i64 r,qIi d,qIi c] Ad true)->V[J.length]?=some (Au.cells [Value.int .i64 r,qIi d,qIi c] Ad true):=fun K hm=>(K.same _ (Af hm) x).trans hm;obtain ⟨u,hV⟩:=Nt (k+10) r d c Z0_;rw[l];obtain ⟨b0,b1,b2⟩:=E e;simp only[JT _ h0,AI,An,Abr,By,IN,Nat.reduceAdd,b0,b1,b2,hV];cases g:valid r d c with
 | false=>
   unfold CW;rw[g];exact ⟨Z0_++u,by simp,h0.app _,P.trans (Br.app i Z0_ u)⟩
 | true=>
   have M:=D (Br.app i Z0_ u) e;obtain ⟨c0,c1,c2⟩:=E M;obtain ⟨S,hW⟩:=Ql (k+9) r d c (Z0_++u);have L:words r d c=((Pk (num r d c):Nat):Int):=by
    rw[Ko g]; unfold words; rw[g]; simp only[IS];simp[valid] at g;omega
   have z:=YD (num r d c);have y:2<=Pk (num r d c):=by
    rw[Ko g];simp[valid] at g;omega
   have h1:Al (Z0_++u++S) i m:=(h0.app _).app _;obtain ⟨τ3,hF⟩:=wZ k K h1 a (Pk (num r d c)) (-1) y z;simp only[Abr,By,c0,c1,c2,hW,AI,Ah,L,hF];obtain ⟨Z1_,t⟩:∃ Z1_,Z0_++u++S++τ3=Z1_:=⟨_,rfl⟩;rw[t];have n:Al Z1_ i m:=t ▸ h1.app _;have Q:Br i Z0_ Z1_:=t ▸ (((Br.app i Z0_ u).trans (Br.app i _ S)).trans (Br.app i _ τ3));have N:=D Q e;by_cases w:Me m a (Pk (num r d c)) (-1)=0;rotate_left
   ·have q:(Me m a (Pk (num r d c)) (-1) != 0)=true:=by simpa using w
    simp only[q,IS];unfold CW;rw[g,Abm rfl,Abo w];exact ⟨Z1_,rfl,n,P.trans Q⟩
   obtain ⟨j,rfl,hj,Y,aa⟩:=W.fits hw z y w;have X:=W.brt;obtain ⟨Z2_,e2,o,k2⟩:=n.st6 (m.births+1);have O:=D k2 N;obtain ⟨d0,d1,d2⟩:=E O;obtain ⟨T,hN⟩:=rS (k+10) g Z2_;have e0:Ar (m.births+1)=m.births+1:=Ai (by unfold AO; omega);have q1:(0<=((2*j:Nat):Int)/\((2*j:Nat):Int)<((m.wds.length:Nat):Int))=True:=Adk (by omega);have ew:Ar (((2*j:Nat):Int)+1)=((2*j+1:Nat):Int):=Ai (by unfold AO; omega);have q2:(0<=((2*j+1:Nat):Int)/\((2*j+1:Nat):Int)<((m.wds.length:Nat):Int))=True:=Adk (by omega);obtain ⟨F,p⟩:=(o.app T).CX (a:=2*j) (by show 2*j<m.wds.length; omega) (m.births+1) (by unfold AO; omega);obtain ⟨Z4_,A⟩:∃ Z4_,(Z2_++T).set i.wd (.cells (Bm (m.wds.set (2*j) (m.births+1))) Dt true)=Z4_:=⟨_,rfl⟩;simp only at F p;rw[A] at F p;obtain ⟨G,f⟩:=p.CX (a:=2*j+1) (by simp; omega) (num r d c) (Ke g).2.2.2;simp only at G f;obtain ⟨Z5_,B⟩:∃ Z5_,Z4_.set i.wd (.cells (Bm ((m.wds.set (2*j) (m.births+1)).set (2*j+1) (num r d c))) Dt true)=Z5_:=⟨_,rfl⟩;rw[B] at G f;obtain ⟨U,H⟩:=aT (k+2) f.st (j:=j) (v:=1) hj (by decide);have t1:((2*j:Nat):Int).tdiv 2=(j:Int):=by
    rw[show ((2*j:Nat):Int).tdiv 2=(((2*j)/2:Nat):Int) from rfl]; omega
   have e6:Ar (j:Int)=(j:Int):=Ai (by unfold AO; omega);have b:=(f.app U).yv j 1;simp only at H b;obtain ⟨Z6_,C⟩:∃ Z6_,(Z5_++U).set i.sw (.cells (rowOf (F9 1 m.stw j 1)) B8 true)=Z6_:=⟨_,rfl⟩;rw[C] at H b;have s:=b.yt (Py (m.births+1) ((2*j:Nat):Int) m.pl);simp only at s;have k4:Br i Z2_ Z4_:=A ▸ (Br.app i Z2_ T).trans (Br.set _ _ (by simp[Cp.l]));have k5:Br i Z4_ Z5_:=B ▸ Br.set _ _ (by simp[Cp.l]);have k6:Br i Z5_ Z6_:=C ▸ (Br.app i Z5_ U).trans (Br.set _ _ (by simp[Cp.l]));unfold CW;rw[g,Abm rfl,Abm w,show ((2*j:Nat):Int).toNat/2=j from by omega];refine ⟨Z6_.set i.pl (.map (Sq (Py (m.births+1) ((2*j:Nat):Int) m.pl))), ?_,s,((((P.trans Q).trans k2).trans k4).trans k5).trans (k6.trans (Br.set _ _ (by simp[Cp.l])))⟩;simp only[w,Abt,By,n.ux,AI,e0,e2,o.EX,o.ux,d0,d1,d2,hN];simp only[Ah,AI,ew,IN,Acu,IT];rw[Abm (by omega)];simp only[F,AI];rw[Abm (by omega)];have I:BG (k+11) (some ⟨i.st,0,none⟩) (j:Int) 1 Z5_=some (qIi 0,Z6_):=H;simp only[G,AI,f.UH,t1,e6,show ((2:Int)=0)=False from by simp,Abs,I,Ah,b.dW,b.ux,Uh,b.pl,gf,s.ux]
def Pd (l:List Int) (a:Nat) (v:List Int):List Int:=l.take a++v++l.drop (a+v.length)
theorem Mg {l:List Int} {a:Nat} {v:List Int} (h:a+v.length<=l.length):(Pd l a v).length=l.length:=by
 simp[Pd]; omega
theorem Kf {l:List Int} {a:Nat} {v:List Int} (h:a+v.length<=l.length) (x:Nat):(Pd l a v).getD x 0=if a<=x/\x<a+v.length then v.getD (x-a) 0 else l.getD x 0:=by
 simp only[Pd,Abi];have b:(l.take a).length=a:=by simp; omega
 rcases Aeb x a with h1 | h1
 ·rw[Aae,AT (by rw[b]; exact h1),Ads,Abm h1,Abo (by omega)]
 ·rcases Aeb x (a+v.length) with c | c
  ·rw[Aae,Acr (by rw[b]; exact h1),b,AT (by omega),Abm ⟨h1,c⟩]
  ·rw[Acr (by simp; omega),Abo (by omega),Adq];congr 2;simp; omega
theorem rD (l:List Int) (a:Nat) (v:List Int):Bm (Pd l a v)=Ba (Bm l) a (Bm v):=by
 simp[Pd,Bm,Ba,List.map_take,List.map_drop]
theorem kZ (n:Nat):rep n [Value.int .i64 0]=Bm (List.replicate n 0):=by
 simp only[rep,Bm,List.map_replicate]
 induction n with
 | zero=>rfl
 | succ n a=>rw[Aek,Aho,a,Aek]; rfl
theorem lZ (h:Al J i m) {a b:Nat} (f:a<b) (hb:b<=m.wds.length):
  Gh Ak 1 (some ⟨i.wd,0,none⟩,m.wds.length,m.wds.length) (some (qIi (a:Int))) (some (qIi (b:Int))) none J=some (some ⟨i.wd,a,none⟩,b-a,m.wds.length-a):=by
 have e:elemAt J i.wd=some 3:=by simp only[elemAt,h.wd]
 have c:(0<=(b:Int)/\(b:Int)<=((m.wds.length:Nat):Int)):=by omega
 have d:(0<=(a:Int)/\(a:Int)<=(b:Int)):=by omega
 simp only[Gh,Aem,Ac7,Agu,IS,bound,IT];rw[Abm c,Abm d,Abo (by omega)];simp[e]
theorem xV (k:Nat) (h:Al J i m) {a n:Nat} (d:0<n) (b:a+n<=m.wds.length):
  Je (k+1) (AU i) (a:Int) (n:Int) J=some (.tuple #[],J.set i.wd (.cells (Bm (Pd m.wds a (List.replicate n 0))) Dt true)) /\
  Al (J.set i.wd (.cells (Bm (Pd m.wds a (List.replicate n 0))) Dt true)) i { m with wds:=Pd m.wds a (List.replicate n 0) }:=by
 have e:=h.nt;have hw:=h.wl;refine ⟨?_,h.yw _ (Mg (by simpa using b)) fun x=>?_⟩
 ·rw[UY];have c:Ar ((a:Int)+(n:Int))=((a+n:Nat):Int):=Ai (by unfold AO; omega);simp only[AI,IN,h.EX,c,lZ h (show a<a+n by omega) b];rw[Abo (by omega)];rw[show a+n-a=n from by omega];simp only[AI,H0,h.wd,kZ,Cj,Aej,b,Aah,rD]
 ·rw[Kf (by simpa using b)];split
  ·rw[Abi,Aec];split <;> (unfold AO; decide)
  ·exact h.wi x
def HN (m:HM) (j:Nat):HM:=
 { m with wds:=Pd m.wds (2*j) (List.replicate (sz m j) 0),stw:=F9 1 m.stw j 0,pnw:=F9 1 m.pnw j 0,pl:=Yi (m.wds.getD (2*j) 0) m.pl }
theorem JG {j j':Nat} (c:32*m.bls.length<=64*m.stw.length) (b:j<32*m.bls.length):Start (HN m j) j'↔j'≠j/\Start m j':=by
 unfold Start HN;simp only;by_cases a:j'=j
 ·subst a;rw[ER (.inl rfl) (by decide) (by omega)];simp
 ·rw[Cc (.inl rfl) (by decide) (fun e=>a e.symm)];simp[a]
theorem Inv.kill (h:Inv m) (D:32*m.bls.length<=64*m.stw.length) {j:Nat} (hs:Start m j):Inv (HN m j):=by
 have C:=hs.1;have w:=h.fit j hs;have g:=fun j'=>JG (m:=m) (j:=j) (j':=j') D C;have J:=h.size hs;have wl:(HN m j).wds.length=m.wds.length:=Mg (by simpa using w);have v:∀ j',j'≠j->Start m j' -> ∀ c,c<2->(HN m j).wds.getD (2*j'+c) 0=m.wds.getD (2*j'+c) 0:=by
  intro j' f b c I;have G:=h.size b;show (Pd _ _ _).getD _ 0=_;rw[Kf (by simpa using w),Abo];rintro ⟨K,H⟩;simp only[Aej] at H;rcases Aes j j' with i | rfl | i
  ·have:=h.apart j j' hs b i; omega
  ·exact f rfl
  ·have:=h.apart j' j b hs i; omega
 have q:∀ j',j'≠j->Start m j'->(HN m j).wds.getD (2*j') 0=m.wds.getD (2*j') 0:=fun j' f b=>v j' f b 0 (by decide);have A:∀ j',j'≠j->Start m j'->sz (HN m j) j'=sz m j':=fun j' f b=>by unfold sz; rw[v j' f b 1 (by decide)]
 have p:∀ x,getM (HN m j).pl x=if x=m.wds.getD (2*j) 0 then none else getM m.pl x:=fun x=>Ub _ _ _ h.onc
 refine ⟨fun j' b=>?_,fun j' b=>?_,fun u z h1 B i=>?_,fun j' b=>?_,fun id a s=>?_,h.brt,kL _ _ h.onc⟩
 ·obtain ⟨f,b⟩:=(g j').1 b;obtain ⟨r,d,k,F,E⟩:=h.good j' b;exact ⟨r,d,k,F,by rw[v j' f b 1 (by decide)]; exact E⟩
 ·obtain ⟨f,b⟩:=(g j').1 b;rw[wl,A j' f b]; exact h.fit j' b
 ·obtain ⟨o,l⟩:=(g u).1 h1;obtain ⟨y,t⟩:=(g z).1 B;rw[A u o l]; exact h.apart u z l t i
 ·obtain ⟨f,b⟩:=(g j').1 b;obtain ⟨i1,i2,i3⟩:=h.idn j' b;rw[q j' f b,p];refine ⟨i1,i2, ?_⟩;rw[Abo]
  ·exact i3
  ·intro e;rw[e,(h.idn j hs).2.2] at i3;simp at i3;omega
 ·rw[p] at s;split at s
  ·cases s
  ·rename_i f;obtain ⟨j',rfl,b,he⟩:=h.plc id a s;have n:j'≠j:=fun e=>f (by rw[<- he,e]);exact ⟨j',rfl,(g j').2 ⟨n,b⟩,by rw[q j' n b]; exact he⟩
def Hs (m:HM) (a:Int):Int × HM:=if Ax m a then (0,HN m (a.toNat/2)) else (4,m)
theorem eY (k:Nat) (h:Al J i m) (y:Inv m) (a:Int) (B:AO a):Mp (Fk (k+12) (AU i) a J) J i (Hs m a):=by
 have I:=h.nt;have hw:=h.wl;rw[UR];simp only[Ov _ h a B,AI,Ah];cases s:Ax m a with
 | false=>exact Mp.same h [] (code:=4) (by simp) (by simp[Hs,s])
 | true=>
   obtain ⟨j,rfl,hs⟩:=AV s;have D:Hs m ((2*j:Nat):Int)=(0,HN m j):=by unfold Hs; rw[s,Abm rfl,show ((2*j:Nat):Int).toNat/2=j from by omega]
   rw[D];have t:=hs.1;have C:=y.fit j hs;have K:=y.size hs;have t1:((2*j:Nat):Int).tdiv 2=(j:Int):=by
    rw[show ((2*j:Nat):Int).tdiv 2=(((2*j)/2:Nat):Int) from rfl]; omega
   have z:Ar (j:Int)=(j:Int):=Ai (by unfold AO; omega);have h1:=h.yt (Yi (m.wds.getD (2*j) 0) m.pl);obtain ⟨Z1_,d⟩:∃ Z1_,J.set i.pl (.map (Sq (Yi (m.wds.getD (2*j) 0) m.pl)))=Z1_:=⟨_,rfl⟩;rw[d] at h1;obtain ⟨u,b⟩:=aT (k+2) h1.st (j:=j) (v:=0) t (by decide);have e:=(h1.app u).yv j 0;simp only at b e;obtain ⟨Z2_,o⟩:∃ Z2_,(Z1_++u).set i.sw (.cells (rowOf (F9 1 m.stw j 0)) B8 true)=Z2_:=⟨_,rfl⟩;rw[o] at b e;obtain ⟨w,c⟩:=aT (k+2) e.pn (j:=j) (v:=0) t (by decide);have q:=(e.app w).yu j 0;simp only at c q;obtain ⟨Z3_,p⟩:∃ Z3_,(Z2_++w).set i.pw (.cells (rowOf (F9 1 m.pnw j 0)) B8 true)=Z3_:=⟨_,rfl⟩;rw[p] at c q;obtain ⟨x,A⟩:=iY (k+8) q t;have r:D5 (k+11) (AU i) ((2*j:Nat):Int) Z3_=some (qIi (sz m j:Int),Z3_++x):=A;obtain ⟨l,h5⟩:=xV (k+10) (q.app x) (a:=2*j) (n:=sz m j) (by omega) C;simp only at l h5;have E:Br i J Z1_:=d ▸ Br.set _ _ (by simp[Cp.l]);have F:Br i Z1_ Z2_:=o ▸ (Br.app i Z1_ u).trans (Br.set _ _ (by simp[Cp.l]));have G:Br i Z2_ Z3_:=p ▸ (Br.app i Z2_ w).trans (Br.set _ _ (by simp[Cp.l]));refine ⟨_, ?_,h5,((E.trans F).trans G).trans ((Br.app i Z3_ x).trans (Br.set _ _ (by simp[Cp.l])))⟩;have H:(0<=((2*j:Nat):Int)/\((2*j:Nat):Int)<((m.wds.length:Nat):Int)):=by omega
   simp only[Aah,Abt,By,IN,h.dW,h.EX,AI];rw[Abm H];have f:BG (k+11) (some ⟨i.st,0,none⟩) (j:Int) 0 Z1_=some (qIi 0,Z2_):=b;have g:BG (k+11) (some ⟨i.pn,0,none⟩) (j:Int) 0 Z2_=some (qIi 0,Z3_):=c;simp only[AI,IN,Acu,IT,h.uB (show 2*j<m.wds.length by omega),kC,Uh,h.pl,fZ,o9,d,h1.UH,show ((2:Int)=0)=False from by simp,Abs,t1,z,f,Ah,e.cq,g,r,l,Gg]
end
section
local instance qCV:AH:=Ao
variable {J:Aa} {i:Cp} {m:HM}
def ba (m:HM) (t:Nat) (id:Int) (held:List Int):HM:=
 { m with wds:=Pd m.wds (2*t) held,stw:=F9 1 m.stw t 1,pl:=Py id ((2*t:Nat):Int) m.pl }
theorem sR {t j':Nat} {id:Int} {held:List Int} (c:32*m.bls.length<=64*m.stw.length) (b:t<32*m.bls.length):Start (ba m t id held) j'↔j'=t\/Start m j':=by
 unfold Start ba;simp only;by_cases a:j'=t
 ·subst a;simp only[true_or,iff_true];exact ⟨b,ER (.inl rfl) (by decide) (by omega)⟩
 ·rw[Cc (.inl rfl) (by decide) (fun e=>a e.symm)];simp[a]
theorem Inv.add (h:Inv m) (J:32*m.bls.length<=64*m.stw.length) {t:Nat} {id:Int} {held:List Int} {r d k:Int} (B:valid r d k=true) (I:t<32*m.bls.length)
  (hlen:held.length=Pk (num r d k)) (h0:held.getD 0 0=id) (h1:held.getD 1 0=num r d k) (p:1<=id/\id<=m.births) (l:getM m.pl id=none)
  (n:2*t+Pk (num r d k)<=m.wds.length) (i:∀ o,Start m o->2*o+sz m o<=2*t\/2*t+Pk (num r d k)<=2*o):Inv (ba m t id held):=by
 have f:=fun j'=>sR (m:=m) (t:=t) (j':=j') (id:=id) (held:=held) J I;have O:2<=Pk (num r d k):=by
  rw[Ko B];simp[valid] at B;omega
 have L:¬ Start m t:=fun hs=>by
  have h1:=i t hs;have z:=h.size hs;omega
 have hle:2*t+held.length<=m.wds.length:=by omega
 have w0:(ba m t id held).wds.getD (2*t) 0=id:=by
  show (Pd _ _ _).getD _ 0=_;rw[Kf hle,Abm (by omega),Afb,h0]
 have G:(ba m t id held).wds.getD (2*t+1) 0=num r d k:=by
  show (Pd _ _ _).getD _ 0=_;rw[Kf hle,Abm (by omega),show 2*t+1-2*t=1 from by omega,h1]
 have E:∀ j',Start m j' -> ∀ c,c<2->(ba m t id held).wds.getD (2*j'+c) 0=m.wds.getD (2*j'+c) 0:=by
  intro j' b c P;have Q:=h.size b;have:=i j' b;show (Pd _ _ _).getD _ 0=_;rw[Kf hle,Abo (by omega)]
 have s1:sz (ba m t id held) t=Pk (num r d k):=by unfold sz; rw[G]
 have F:∀ j',Start m j'->sz (ba m t id held) j'=sz m j':=fun j' b=>by unfold sz; rw[E j' b 1 (by decide)]
 have wl:(ba m t id held).wds.length=m.wds.length:=Mg hle;have u:∀ j',Start m j'->(ba m t id held).wds.getD (2*j') 0=m.wds.getD (2*j') 0:=fun j' b=>E j' b 0 (by decide);have s:∀ x,getM (ba m t id held).pl x=if x=id then some ((2*t:Nat):Int) else getM m.pl x:=fun x=>OW _ _ _ _
 refine ⟨fun j' b=>?_,fun j' b=>?_,fun w y h1 z A=>?_,fun j' b=>?_,fun D a v=>?_,h.brt,Um _ _ _ h.onc⟩
 ·rcases (f j').1 b with rfl | b
  ·exact ⟨r,d,k,B,G⟩
  ·obtain ⟨N,H,M,C,K⟩:=h.good j' b;exact ⟨N,H,M,C,by rw[E j' b 1 (by decide)]; exact K⟩
 ·rw[wl];rcases (f j').1 b with rfl | b
  ·rw[s1]; exact n
  ·rw[F j' b]; exact h.fit j' b
 ·rcases (f w).1 h1 with rfl | j
  ·rcases (f y).1 z with rfl | g
   ·omega
   ·rw[s1];have:=i y g;have:=h.size g;omega
  ·rw[F w j];rcases (f y).1 z with rfl | g
   ·have:=i w j;omega
   ·exact h.apart w y j g A
 ·rw[s];rcases (f j').1 b with rfl | b
  ·rw[w0];exact ⟨p.1,p.2,Abm rfl⟩
  ·rw[u j' b];obtain ⟨i1,i2,i3⟩:=h.idn j' b;refine ⟨i1,i2, ?_⟩;rw[Abo (fun e=>by rw[e,l] at i3; cases i3)]; exact i3
 ·rw[s] at v;split at v
  ·rename_i q;cases v;exact ⟨t,rfl,(f t).2 (.inl rfl),by rw[w0,q]⟩
  ·obtain ⟨j',rfl,b,he⟩:=h.plc D a v;exact ⟨j',rfl,(f j').2 (.inr b),by rw[u j' b]; exact he⟩
theorem Inv.places (h:Inv m) (l:List (Int × Int)) (c:Sv l) (b:∀ x,getM l x=getM m.pl x):Inv { m with pl:=l }:=
 ⟨h.good,h.fit,h.apart,fun j hs=>by rw[b]; exact h.idn j hs,fun id a e=>h.plc id a (by rw[<- b]; exact e),h.brt,c⟩
def OZ (m:HM) (j t:Nat):HM:=
 { m with
   wds:=Pd (Pd m.wds (2*j) (List.replicate (sz m j) 0)) (2*t) ((m.wds.drop (2*j)).take (sz m j))
   stw:=F9 1 (F9 1 m.stw j 0) t 1
   pnw:=F9 1 (F9 1 m.pnw j 0) t (CG 1 m.pnw j)
   pl:=Py (m.wds.getD (2*j) 0) ((2*t:Nat):Int) m.pl
   fw:=Py ((2*j:Nat):Int) ((2*t:Nat):Int) m.fw }
theorem Inv.move (h:Inv m) (n:32*m.bls.length<=64*m.stw.length) {j t:Nat} (hs:Start m j) (z:t<32*m.bls.length) (f:2*t+sz m j<=m.wds.length)
  (l:∀ o,Start m o->o≠j->2*o+sz m o<=2*t\/2*t+sz m j<=2*o):Inv (OZ m j t):=by
 have w:=hs.1;have q:=h.fit j hs;have E:=h.size hs;have p:=fun j'=>JG (m:=m) (j:=j) (j':=j') n w;obtain ⟨r,d,k,A,s⟩:=h.good j hs;obtain ⟨i1,i2,i3⟩:=h.idn j hs;have e:sz m j=Pk (num r d k):=by unfold sz; rw[s]
 have y:=h.kill n hs;have held:∀ c,c<sz m j->((m.wds.drop (2*j)).take (sz m j)).getD c 0=m.wds.getD (2*j+c) 0:=by
  intro c v;simp only[Abi,Ads,v,Aah,Adq]
 have wl:(HN m j).wds.length=m.wds.length:=Mg (by simpa using q);have D:∀ o,Start m o->o≠j->sz (HN m j) o=sz m o:=by
  intro o g a;have B:=h.size g;unfold sz;congr 1;show (Pd _ _ _).getD _ 0=_;rw[Kf (by simpa using q),Abo];rintro ⟨F,C⟩;simp only[Aej] at C;rcases Aes j o with b | rfl | b
  ·have:=h.apart j o hs g b; omega
  ·exact a rfl
  ·have:=h.apart o j g hs b; omega
 have u:=y.add (t:=t) (id:=m.wds.getD (2*j) 0) (held:=(m.wds.drop (2*j)).take (sz m j)) (r:=r) (d:=d) (k:=k)
  (by show 32*m.bls.length<=64*(F9 _ _ _ _).length; rw[Eg]; exact n) A z (by rw[<- e]; simp; omega) (held 0 (by omega)) (by rw[held 1 (by omega),s]) ⟨i1,i2⟩
  (by show getM (Yi _ _) _=none; rw[Ub _ _ _ h.onc,Abm rfl]) (by rw[<- e,wl]; exact f)
  (fun o g=>by
   obtain ⟨a,i⟩:=(p o).1 g;rw[<- e,D o i a]; exact l o i a);have hp:=u.places (Py (m.wds.getD (2*j) 0) ((2*t:Nat):Int) m.pl) (Um _ _ _ h.onc) (fun x=>by
  show getM (Py _ _ _) x=getM (Py _ _ (Yi _ _)) x;rw[OW,OW,Ub _ _ _ h.onc];split <;> rfl);exact (hp.pins (F9 1 (F9 1 m.pnw j 0) t (CG 1 m.pnw j))).kn (Py ((2*j:Nat):Int) ((2*t:Nat):Int) m.fw)
def yn (m:HM) (a b:Int):Int × HM:=
 if Ax m a then (if Me m b (sz m (a.toNat/2)) a=0 then (0,OZ m (a.toNat/2) (b.toNat/2)) else (Me m b (sz m (a.toNat/2)) a,m)) else (4,m)
theorem Inv.blocks (h:Inv m) (l:List (Int × Int)) (i:l.length=m.bls.length):Inv { m with bls:=l }:=by
 have hs:∀ j,Start { m with bls:=l } j↔Start m j:=fun j=>by unfold Start; simp only[i]
 exact ⟨fun j b=>h.good j ((hs j).1 b),fun j b=>h.fit j ((hs j).1 b),fun j j' h1 g=>h.apart j j' ((hs j).1 h1) ((hs j').1 g),fun j b=>h.idn j ((hs j).1 b),fun id a e=>by
  obtain ⟨j,c,d,f⟩:=h.plc id a e;exact ⟨j,c,(hs j).2 d,f⟩,h.brt,h.onc⟩
theorem U8:∀ (l:List (Int × Int)) (b:Nat) (x y:Int),b<l.length->CS (l.set b (x,y))=Ba (CS l) (b*2) [qIi x,qIi y]
 | [],_,_,_,h=>by simp at h
 | e::l,0,x,y,h=>by simp[CS,Ba]
 | e::l,b+1,x,y,h=>by
   have c:=U8 l b x y (by simpa using h);have a:(b+1)*2=b*2+1+1:=by omega
   simp only[Aen,CS,c,a,Ba,Ahb,Agn,Agm,Ada,Adn]
theorem Al.stB (h:Al J i m) {b:Nat} (hb:b<m.bls.length) (x y:Int):H0 J i.bl (b*2) [qIi x,qIi y]=some (J.set i.bl (.cells (CS (m.bls.set b (x,y))) Ga true)) /\
  Al (J.set i.bl (.cells (CS (m.bls.set b (x,y))) Ga true)) i { m with bls:=m.bls.set b (x,y) }:=by
 refine ⟨?_,h.qa _ (by simp)⟩;have:b*2+2<=(CS m.bls).length:=by rw[J2]; omega
 simp only[H0,h.bl,Ada,Adn,IN,Nat.reduceAdd,this,Aah,U8 _ _ _ _ hb]
def cZ (l:List (Int × Int)) (b:Nat):Nat->List (Int × Int)
 | 0=>l
 | n+1=>cZ (l.set (b+n) (0,0)) b n
def xN (l:List (Int × Int)) (b:Nat) (y:Int):Nat->List (Int × Int)
 | 0=>l
 | n+1=>xN (l.set (b+n) ((l.getD (b+n) (0,0)).1,y)) b y n
theorem Zw (b:Nat):∀ (n:Nat) (l:List (Int × Int)),(cZ l b n).length=l.length
 | 0,l=>rfl
 | n+1,l=>by rw[cZ,Zw b n]; simp
theorem Vx (k:Nat) {b:Nat}:∀ (n f:Nat) (J:Aa) (m:HM),Al J i m->b+n<=m.bls.length->n<f -> ∃ J',Em k f (AU i) (b:Int) (n:Int) J=some (.exit 0,[],J')/\Al J' i { m with bls:=cZ m.bls b n }/\Br i J J'
 | 0,0,J,m,h,hb,a=>by omega
 | 0,f+1,J,m,h,hb,a=>by
   rw[KT];exact ⟨J,rfl,h,Br.refl _ _⟩
 | n+1,0,J,m,h,hb,a=>by omega
 | n+1,f+1,J,m,h,hb,a=>by
   have p:=h.nt;obtain ⟨c,h1⟩:=h.stB (b:=b+n) (by omega) 0 0;obtain ⟨J',d,e,g⟩:=Vx k n f _ _ h1 (by show b+n<=(m.bls.set _ _).length; rw[Ac8]; omega) (by omega);refine ⟨J', ?_,e,(Br.set _ _ (by simp[Cp.l])).trans g⟩;rw[KT];have q:decide (((n+1:Nat):Int)>0)=true:=Aad (by omega);have j:Ar ((b:Int)+((n+1:Nat):Int))=((b+n+1:Nat):Int):=by rw[Ai (by unfold AO; omega)]; omega
   have l:Ar (((b+n+1:Nat):Int)-1)=((b+n:Nat):Int):=by rw[Ai (by unfold AO; omega)]; omega
   have o:Ar (((n+1:Nat):Int)-1)=(n:Int):=by rw[Ai (by unfold AO; omega)]; omega
   simp only[q,IS,AI,Abn,h.HI,j,l,o];rw[Abm (by omega)];simp only[AI,IN,IT,c];exact d
theorem ak (k:Nat) (h:Al J i m) (b:Int):DH (k+2) (AU i) b J=some (.bool (decide (1<=b/\b<(m.bls.length:Int))),J):=by
 rw[Tv];simp only[JT _ h,AI,An,IS];by_cases h0:1<=b
 ·simp only[show decide (b>=1)=true from by simpa using h0,IS,IN,AI,h.HI];simp[h0]
 ·simp only[show decide (b>=1)=false from by simpa using h0,By,AI];simp[h0]
def So (m:HM) (b:Int) (ok:Bool):Int:=
 if ¬ (1<=b/\b<(m.bls.length:Int))\/ok=false then 1
 else if (m.bls.getD b.toNat (0,0)).1≠1/\(m.bls.getD b.toNat (0,0)).1≠2 then 5 else 0
theorem xc (k:Nat) (h:Al J i m) (b:Int) (ok:Bool):Jd (k+3) (AU i) b ok J=some (qIi (So m b ok),J):=by
 rw[UT];simp only[JT _ h,ak _ h,AI,An,Abr,By];unfold So;by_cases h0:1<=b/\b<(m.bls.length:Int);rotate_left
 ·simp[h0]
 obtain ⟨n,rfl⟩:∃ n:Nat,b=(n:Int):=⟨b.toNat,by omega⟩;have d:n<m.bls.length:=by omega
 have g:decide (1<=(n:Int)/\(n:Int)<(m.bls.length:Int))=true:=Aad h0;simp only[g,Abr,By,AI];cases ok with
 | false=>simp
 | true=>
   have j:(¬ (1<=(n:Int)/\(n:Int)<(m.bls.length:Int))\/true=false)=False:=Aig (by simp; omega);simp only[Abr,By,IN,Abn,h.HI,AI,j,Abs];rw[Abm (show 0<=(n:Int)/\(n:Int)<((m.bls.length:Nat):Int) by omega)];simp only[AI,IT,IN,(h.Vu d).1];by_cases a:(m.bls.getD n (0,0)).1=1
   ·simp only[a,Abt,By,AI,ne_eq,Aez,false_and,Abs]
   ·have e:((m.bls.getD n (0,0)).1 != 1)=true:=Adp.2 a;simp only[e,IS];rw[Abm (show 0<=(n:Int)/\(n:Int)<((m.bls.length:Nat):Int) by omega)];simp only[AI,(h.Vu d).1];by_cases c:(m.bls.getD n (0,0)).1=2
    ·simp only[c,Abt,By,ne_eq,Aez,and_false,Abs]
    ·have f:((m.bls.getD n (0,0)).1 != 2)=true:=Adp.2 c;simp only[f,IS,ne_eq,a,c,Aef,Afp,Aah]
theorem cg {b:Int} {ok:Bool} (h:So m b ok=0):∃ n:Nat,b=(n:Int)/\1<=n/\n<m.bls.length/\ok=true:=by
 unfold So at h;split at h
 ·cases h
 ·rename_i h0;refine ⟨b.toNat, ?_, ?_, ?_, ?_⟩
  ·omega
  ·omega
  ·omega
  ·cases ok <;> simp at h0 ⊢
theorem mb {b:Nat} (hb:b<m.bls.length):b+LA m b<=m.bls.length:=dy m b _ 1 (by omega)
def ZP (y:Int):Bool:=decide (0<=y/\y<8)
theorem vx (k:Nat) (y:Int) (J:Aa):M8 (k+1) y J=some (.bool (ZP y),J):=by
 rw[ZC];unfold ZP;by_cases h0:0<=y <;> simp[h0]
def vf (m:HM) (b y:Int):Int × HM:=
 if So m b (ZP y)=0 then (0,{ m with bls:=xN m.bls b.toNat y (LA m b.toNat) }) else (So m b (ZP y),m)
def CY (m:HM) (b:Int):Int × HM:=
 if So m b true=0 then (if DE m (32*b.toNat) 32=[] then (0,{ m with bls:=cZ m.bls b.toNat (LA m b.toNat) }) else (8,m)) else (So m b true,m)
theorem hJ (k:Nat) (o:5000<=k) (h:Al J i m) (b:Int):Mp (FT (k+7) (AU i) b J) J i (CY m b):=by
 unfold CY;have r:=h.nt;rw[Rt];simp only[xc (k+3) h b true,AI,Ah];by_cases a:So m b true=0;rotate_left
 ·have q:(So m b true != 0)=true:=Adp.2 a;simp only[q,IS];exact Mp.same h [] (by rw[Abu]) (Abo a)
 rw[Abm a];obtain ⟨n,rfl,h1,c,_⟩:=cg a;rw[IT];obtain ⟨τ,s,j,f⟩:=VS k o h c;simp only[a,Abt,By,j,AI,Ej];by_cases g:((s.2.1:Nat):Int)>0
 ·simp only[show decide (((s.2.1:Nat):Int)>0)=true from Aad g,IS];refine Mp.same h τ (code:=8) rfl (Abo fun he=>?_);have hlen:=f.len;rw[he] at hlen;simp[C7] at hlen;omega
 ·have d:DE m (32*n) 32=[]:=by
   have hlen:=f.len;simp[C7] at hlen;exact Ad6.1 (by omega)
  rw[Abm d];simp only[show decide (((s.2.1:Nat):Int)>0)=false from Aac g,By];obtain ⟨J',e,l,p⟩:=Vx (k+6) (b:=n) (LA m n) (k+6) (J++τ) m (h.app τ) (mb c) (by have:=mb c; omega);simp only[qi (k+5) (by omega) (h.app τ) c,AI,Ah,e,Aah];exact ⟨J',rfl,l,(Br.app i J τ).trans p⟩
theorem wY (x y:Int):Ll P Bj (.agg #[qIi x,qIi y]) (.agg #[qIi 0,qIi 0])=(bif x == 0 then some (y == 0) else some false):=by kernel_rfl
theorem jT (k:Nat) (x y:Int) (J:Aa):∃ τ,GJ (k+1) x y J=some (.bool (!(bif x == 0 then y == 0 else false)),J++τ):=by
 rw[Q0];simp only[Ae,Bt,IN,Ach,Acj,AI,Ah];rw[wY];cases x == 0 <;> exact ⟨_,rfl⟩
def KF (l:List (Int × Int)) (b:Nat):Nat->Nat->Option Nat
 | 0,_=>none
 | n+1,x=>if (l.getD (b+x) (0,0)).1=0/\(l.getD (b+x) (0,0)).2=0 then KF l b n (x+1) else some x
theorem YP (k:Nat) {b c:Nat} (p:Nat) (v:Value) (r:∀ x y J,∃ τ,KK k v [.agg #[qIi x,qIi y]] J=some (.bool (!(bif x == 0 then y == 0 else false)),J++τ)):∀ (n x f:Nat) (J:Aa),Al J i m->b+c<=m.bls.length->x+n=c->n<f ->
  ∃ τ,BU k f (some ⟨i.bl,b*2,none⟩) c p v (c:Int) (x:Int) J=some (match KF m.bls b n x with | some D=>(.ret,[qIi (D:Int)],J++τ) | none=>(.exit 0,[],J++τ))
 | 0,x,0,J,h,hb,o,j=>by omega
 | 0,x,f+1,J,h,hb,o,j=>by
   rw[Hq];have q:decide ((x:Int)<(c:Int))=false:=Aac (by omega);exact ⟨[],by simp only[q,By,KF,Abu]⟩
 | n+1,x,0,J,h,hb,o,j=>by omega
 | n+1,x,f+1,J,h,hb,o,j=>by
   have F:=h.nt;have q:decide ((x:Int)<(c:Int))=true:=Aad (by omega);have g:b+x<m.bls.length:=by omega
   obtain ⟨w,z⟩:=h.Vu g;have s:Aj .i64 J i.bl (b*2+x*2)=some (m.bls.getD (b+x) (0,0)).1:=by rw[<- w]; congr 1; omega
   have t:Aj .i64 J i.bl (b*2+x*2+1)=some (m.bls.getD (b+x) (0,0)).2:=by rw[<- z]; congr 1; omega
   obtain ⟨τ,a⟩:=r (m.bls.getD (b+x) (0,0)).1 (m.bls.getD (b+x) (0,0)).2 J;have C:=wSu x (by omega);obtain ⟨E,u⟩:=YP k p v r n (x+1) f (J++τ) (h.app τ) hb (by omega) (by omega);rw[Hq];simp only[q,IS];rw[Abm (by omega)];simp only[AI,IT,s,t,a,An,C];rw[KF];by_cases d:(m.bls.getD (b+x) (0,0)).1=0
   ·by_cases e:(m.bls.getD (b+x) (0,0)).2=0
    ·rw[Abm ⟨d,e⟩];simp only[d,e,Ahy,IS,Abr,By];refine ⟨τ++E, ?_⟩;rw[u,Aae]
    ·rw[Abo (fun l=>e l.2)];have B:((m.bls.getD (b+x) (0,0)).2 == 0)=false:=by simpa using e
     simp only[d,Ahy,IS,B,Ac7];exact ⟨τ,rfl⟩
   ·rw[Abo (fun l=>d l.1)];have A:((m.bls.getD (b+x) (0,0)).1 == 0)=false:=by simpa using d
    simp only[A,By,Ac7,IS];exact ⟨τ,rfl⟩
def VV (l:List (Int × Int)) (b:Nat) (e:Int × Int):Nat->Nat->List (Int × Int)
 | 0,_=>l
 | n+1,x=>VV (l.set (b+x) e) b e n (x+1)
theorem J4 (b:Nat) (e:Int × Int):∀ (n x:Nat) (l:List (Int × Int)),(VV l b e n x).length=l.length
 | 0,x,l=>rfl
 | n+1,x,l=>by rw[VV,J4 b e n]; simp
theorem Zh (k:Nat) {b c:Nat} (e:Int × Int) (d:Nat):∀ (n x f:Nat) (J:Aa) (m:HM),Al J i m->d ∉ i.l->(∃ T,J[d]?=some (.cells [qIi e.1,qIi e.2] T true))->b+c<=m.bls.length->x+n=c->n<f ->
  ∃ J',Fl k f (AU i) (b:Int) d (c:Int) (x:Int) J=some (.exit 1,[],J')/\Al J' i { m with bls:=VV m.bls b e n x }/\Br i J J'
 | 0,x,0,J,m,h,g,a,hb,l,j=>by omega
 | 0,x,f+1,J,m,h,g,a,hb,l,j=>by
   rw[LR];have q:decide ((x:Int)<(c:Int))=false:=Aac (by omega);exact ⟨J,by simp only[q,By],h,Br.refl _ _⟩
 | n+1,x,0,J,m,h,g,a,hb,l,j=>by omega
 | n+1,x,f+1,J,m,h,g,a,hb,l,j=>by
   have z:=h.nt;obtain ⟨T,a⟩:=a;have q:decide ((x:Int)<(c:Int))=true:=Aad (by omega);obtain ⟨p,h1⟩:=h.stB (b:=b+x) (by omega) e.1 e.2;have o:Br i J (J.set i.bl (.cells (CS (m.bls.set (b+x) (e.1,e.2))) Ga true)):=Br.set _ _ (by simp[Cp.l]);obtain ⟨J',r,s,t⟩:=Zh k e d n (x+1) f _ _ h1 g ⟨T,(o.same _ (Af a) g).trans a⟩ (by show b+c<=(m.bls.set _ _).length; rw[Ac8]; omega) (by omega) (by omega);refine ⟨J', ?_,s,o.trans t⟩;have w:=wSu x (by omega);have y:Ar ((b:Int)+(x:Int))=((b+x:Nat):Int):=Ai (by unfold AO; omega);have u:Aj .i64 J d 0=some e.1:=by simp[Aj,CV,a,Bl]
   have v:Aj .i64 J d 1=some e.2:=by simp[Aj,CV,a,Bl]
   rw[LR];simp only[q,IS,AI,Abn,IN,h.HI,u,v,w,y];rw[Abm (by omega)];simp only[AI,IT,p];exact r
theorem iZ (h:Al J i m) {a b:Nat} (f:a<b) (hb:b<=m.bls.length):
  Gh Bj 2 (some ⟨i.bl,0,none⟩,m.bls.length,m.bls.length) (some (qIi (a:Int))) (some (qIi (b:Int))) none J=some (some ⟨i.bl,a*2,none⟩,b-a,m.bls.length-a):=by
 have e:elemAt J i.bl=some Bj:=by simp only[elemAt,h.bl]
 have c:(0<=(b:Int)/\(b:Int)<=((m.bls.length:Nat):Int)):=by omega
 have d:(0<=(a:Int)/\(a:Int)<=(b:Int)):=by omega
 simp only[Gh,Aem,Ac7,Agu,IS,bound,IT];rw[Abm c,Abm d,Abo (by omega)];simp[e]
def BA (m:HM) (b c x y a d:Int):Int × HM:=
 if 1<=b/\b<(m.bls.length:Int)/\1<=c/\c<=(m.bls.length:Int)-b/\ZP y=true then
  (if KF m.bls b.toNat c.toNat 0=none then (0,{ m with bls:=(VV m.bls b.toNat (a,d) c.toNat 0).set b.toNat (x,y) }) else (8,m)) else (1,m)
theorem bB (k:Nat) (X:5000<=k) (h:Al J i m) (b c x y e f:Int) (hb:AO b) (W:AO c):Mp (FC (k+6) (AU i) b c x y e f J) J i (BA m b c x y e f):=by
 unfold BA;have Y:=h.nt;have O:=h.nb;rw[Tt];simp only[Ae];obtain ⟨Z0_,j⟩:∃ Z0_,J++[Au.cells [Value.int .i64 x,qIi y] Bj true]=Z0_:=⟨_,rfl⟩;rw[j];obtain ⟨Z1_,l⟩:∃ Z1_,Z0_++[Au.cells [Value.int .i64 e,qIi f] Bj true]=Z1_:=⟨_,rfl⟩;rw[l];have o:Z1_=J++[Au.cells [Value.int .i64 x,qIi y] Bj true,Au.cells [Value.int .i64 e,qIi f] Bj true]:=by rw[<- l,<- j]; simp
 have h1:Al Z1_ i m:=by rw[o]; exact h.app _
 have S:Br i J Z1_:=by rw[o]; exact Br.app i J _
 have N:Z0_.length=J.length+1:=by rw[<- j]; simp
 have d:Z1_[J.length]?=some (Au.cells [Value.int .i64 x,qIi y] Bj true):=by rw[o]; simp
 have t:Z1_[Z0_.length]?=some (Au.cells [Value.int .i64 e,qIi f] Bj true):=by rw[<- l]; simp
 have g:J.length ∉ i.l:=fun hm=>Aew _ (h.lt _ hm);have p:Z0_.length ∉ i.l:=fun hm=>by have:=h.lt _ hm; omega
 have G:Aj .i64 Z1_ J.length 1=some y:=by simp[Aj,CV,d,Bl]
 have fail:∀ {r},r=((1:Int),m)->Mp (some (Value.int .i64 1,Z1_)) J i r:=fun P=>Mp.same h [Au.cells [Value.int .i64 x,qIi y] Bj true,Au.cells [Value.int .i64 e,qIi f] Bj true] (by rw[o]) P;simp only[JT _ h1,ak _ h1,AI,An,Abr,By,IN,Abn,h1.HI,G];by_cases v:1<=b/\b<(m.bls.length:Int);rotate_left
 ·simp only[Aac v,Ac7,IS,AI];exact fail (Abo (by omega))
 obtain ⟨n,rfl⟩:∃ n:Nat,b=(n:Int):=⟨b.toNat,by omega⟩;simp only[Aad v,Abr,By,AI];by_cases C:c<1
 ·simp only[Aad C,IS,AI];exact fail (Abo (by omega))
 have H:Ar (((m.bls.length:Nat):Int)-(n:Int))=((m.bls.length-n:Nat):Int):=by rw[Ai (by unfold AO; omega)]; omega
 simp only[Aac C,By,AI,h1.HI,H];by_cases D:c>((m.bls.length-n:Nat):Int)
 ·simp only[Aad D,IS,AI];exact fail (Abo (by omega))
 obtain ⟨w,rfl⟩:∃ w:Nat,c=(w:Int):=⟨c.toNat,by omega⟩;have s:=vx (k+4) y Z1_;generalize ZP y=ok at s ⊢;simp only[Aac D,By,AI,G,s,An];cases ok with
 | false=>
   simp only[Ac7,IS];exact fail (Abo (by simp))
 | true=>
   rw[Abm ⟨v.1,v.2,by omega,by omega,rfl⟩,IT,IT];have I:Ar ((n:Int)+(w:Int))=((n+w:Nat):Int):=Ai (by unfold AO; omega);have hw:n+w<=m.bls.length:=by omega
   simp only[Abr,By,h1.HI,I,iZ h1 (show n<n+w by omega) hw,AI,Nat.add_sub_cancel_left];rw[Lz,MC];have Q:∀ x y J,∃ τ,KK (k+3) (.func (.func MV) #[] #[]) [.agg #[qIi x,qIi y]] J=some (.bool (!(bif x == 0 then y == 0 else false)),J++τ):=by
    intro x y J;rw[N3];exact jT (k+2) x y J
   obtain ⟨τ,a⟩:=YP (k+3) (b:=n) (c:=w) (m.bls.length-n) (.func (.func MV) #[] #[]) Q w 0 (k+3) Z1_ h1 hw (by omega) (by omega);rw[show ((0:Nat):Int)=0 from rfl] at a;cases hu:KF m.bls n w 0 with
   | some V=>
     rw[hu] at a;simp only[a,AI,Aah,Ey,Ah,An,reduceCtorEq,Abs];have q:decide ((V:Int)>=0)=true:=Aad (by omega);simp only[q,IS];exact Mp.same h ([Au.cells [Value.int .i64 x,qIi y] Bj true,Au.cells [Value.int .i64 e,qIi f] Bj true]++τ) (code:=8) (by rw[o,Aae]) rfl
   | none=>
     rw[hu] at a;have q:decide ((-1:Int)>=0)=false:=by decide
     simp only[a,AI,Aah,Ah,An,q,By];have L:=h1.app τ;have z:Br i Z1_ (Z1_++τ):=Br.app i Z1_ τ;have A:=(z.same _ (Af t) p).trans t;obtain ⟨J3_,B,E,F⟩:=Zh (k+5) (b:=n) (c:=w) (e,f) Z0_.length w 0 (k+5) (Z1_++τ) m L p ⟨_,A⟩ hw (by omega) (by omega);rw[show ((0:Nat):Int)=0 from rfl] at B;have u:=(F.same _ (Af ((z.same _ (Af d) g).trans d)) g).trans ((z.same _ (Af d) g).trans d);have T:Aj .i64 J3_ J.length 0=some x:=by simp[Aj,CV,u,Bl]
     have U:Aj .i64 J3_ J.length 1=some y:=by simp[Aj,CV,u,Bl]
     have hlen:(VV m.bls n (e,f) w 0).length=m.bls.length:=J4 _ _ _ _ _;obtain ⟨K,M⟩:=E.stB (b:=n) (by show n<(VV _ _ _ _ _).length; omega) x y;simp only[B,AI,Aah,E.HI,T,U];rw[Abm (by show 0<=(n:Int)/\(n:Int)<(((VV m.bls n (e,f) w 0).length:Nat):Int); omega)];simp only[AI,IN,IT,K];exact ⟨_,rfl,M,((S.trans z).trans F).trans (Br.set _ _ (by simp[Cp.l]))⟩
theorem aq (k:Nat) (a:5000<=k) (h:Al J i m) (b s:Int) (hb:AO b):Mp (DG (k+7) (AU i) b s J) J i (BA m b 1 1 s 0 0):=by
 refine (bB k a h b 1 1 s 0 0 hb (by unfold AO; decide)).to fun J' e=>?_;rw[To,e];simp only[AI,Ah]
theorem Sd (k:Nat) (d:5000<=k) (h:Al J i m) (b c s:Int) (hb:AO b) (a:AO c):Mp (Cf (k+7) (AU i) b c s J) J i (BA m b c 2 s 3 s):=by
 refine (bB k d h b c 2 s 3 s hb a).to fun J' e=>?_;rw[Pp,e];simp only[AI,Ah]
end
end
end Go.Proofs.YtjbledomkmdkmaaGreat
