/-
 PRINTED BY A PROGRAM OF THIS SESSION'S OWN (hlgen.py): how a beginning and slices of bytes are read.
-/
import Derived.OpenShut
import Derived.Test.YtjbledomkmdkmaaGreatP36
import Derived.Test.YtjbledomkmdkmaaGreatP33
set_option linter.unusedVariables false
set_option linter.unusedSimpArgs false
set_option maxRecDepth 100000
namespace Go.Proofs.YtjbledomkmdkmaaGreat
open Go Go.AX Go.RowKit Go.ChangeShapes Go.WideShapes Go.ChangeAt
variable {H:Type} {enc:TypeId × Value→H} {W:World} {base:Nat} {sp:Nat→Bool} {hd:Bool} {fuel:Nat} {cs:List Value} {x:DataW H × List MemPlace}
def IsU (v:Value):Prop:=∃ n,v = .int .u8 n∧0≤n∧n<256
def ux (T:TypeId) (z:Nat):Prop:=∀ {H:Type} {enc:TypeId × Value→H} {W:World} {base:Nat} {sp:Nat→Bool} {hd:Bool} {fuel:Nat} {cs:List Value} {x:DataW H × List MemPlace},cs.length=z→DataW.trod enc Tryz.prog W base sp hd fuel T cs=some x → ∀ v ∈ cs,IsU v
theorem sM {n:Int} (h:(Lit.int .u8 n).wf=true):0≤n∧n<256:=by
 rw[Lit.wf_int_iff] at h
 have h1:IntKind.u8.min=0:=by decide
 have h2:IntKind.u8.max=255:=by decide
 rw[h1,h2] at h
 omega
theorem Age {T:TypeId} (ht:Tryz.prog.underlying T=some (.int .u8)):ux T 1:=by
 intro H enc W base sp hd fuel cs x hl hf v hv
 obtain ⟨n,rfl,_,w⟩:=DataW.trod_int ht hf
 rw[List.mem_singleton.1 hv]
 exact ⟨n,rfl,sM w⟩
theorem oe {T e:TypeId} {n z:Nat} (ht:Tryz.prog.underlying T=some (.array n e)) (hz:Tryz.prog.cellsOf e=z) (h:ux e z) (h0:0<z):ux T (n*z):=by
 intro H enc W base sp hd fuel cs x hl hf v hv
 obtain ⟨xs,m,_,_,_,hn,hel⟩:=DataW.trod_array ht hf
 obtain ⟨q,hq,rfl⟩:=List.mem_iff_getElem.1 hv
 have h1:q/z<n:=by rw[hl] at hq; exact Nat.div_lt_of_lt_mul (by rw[Nat.mul_comm]; exact hq)
 have h2:=hel (q/z) h1
 have h3:q/z*z+z≤n*z:=by
  have:(q/z+1)*z≤n*z:=Nat.mul_le_mul_right _ h1
  rw[Nat.add_mul,Nat.one_mul] at this; exact this
 rw[hz,List.getElem?_eq_getElem (by omega)] at h2
 refine h (by rw[List.length_take,List.length_drop,hl]; omega) h2 _ ?_
 have h4:=Nat.div_add_mod q z
 have h5:=Nat.mod_lt q h0
 rw[Nat.mul_comm] at h4
 refine List.mem_iff_getElem.2 ⟨q % z,by rw[List.length_take,List.length_drop,hl]; omega, ?_⟩
 rw[List.getElem_take,List.getElem_drop]
 congr 1
def qc (T:TypeId) (z:Nat):El (Nat→Int):=⟨T,z,fun y=>(List.range z).map fun q=>.int .u8 (y q),fun y=>∀ q,q<z→0≤y q∧y q<256⟩
def Afg (v:Option Value):Int:=match v with | some (.int .u8 n)=>n | _=>0
theorem uo {T:TypeId} {z:Nat} (hz:Tryz.prog.cellsOf T=z) (z0:0<z) (h:ux T z):ql (qc T z) where
 zc:=hz
 z0:=z0
 len:=fun y=>by simp[qc]
 one:=fun y v hv=>by
  simp only[qc,List.mem_map] at hv
  obtain ⟨q,_,rfl⟩:=hv
  exact .inl ⟨_,_,rfl⟩
 rd:=fun {H enc W base sp hd fuel cs x} hl hf=>by
  have hl:cs.length=z:=hl
  have ha:=h hl hf
  have hg:∀ q,q<z → ∃ n,cs[q]?=some (.int .u8 n)∧0≤n∧n<256:=fun q hq=>by
   rw[List.getElem?_eq_getElem (by omega)]
   obtain ⟨n,h1,h2⟩:=ha _ (List.getElem_mem (by omega:q<cs.length))
   exact ⟨n,by rw[h1],h2⟩
  refine ⟨fun q=>Afg cs[q]?,fun q hq=>?_,List.ext_getElem? fun q=>?_⟩
  ·obtain ⟨n,h1,h2⟩:=hg q hq
   simp only[h1,Afg]
   exact h2
  ·by_cases hq:q<z
   ·obtain ⟨n,h1,_⟩:=hg q hq
    simp[qc,hq,h1,Afg]
   ·rw[List.getElem?_eq_none (by omega),List.getElem?_eq_none (by simp[qc]; omega)]
def ao (z:Nat) (l:List (Nat→Int)):List Int:=l.flatMap fun y=>(List.range z).map y
theorem rL (z:Nat):∀ l,(ao z l).length=l.length*z
 | []=>by simp[ao]
 | y::l=>by
   have:=rL z l
   unfold ao at this ⊢
   rw[List.flatMap_cons,List.length_append,this,List.length_map,List.length_range,List.length_cons,Nat.add_mul,Nat.one_mul,Nat.add_comm]
theorem rM (T:TypeId) (z:Nat):∀ l,zE (ao z l)=(qc T z).row l
 | []=>rfl
 | y::l=>by
   have:=rM T z l
   unfold ao zE at this ⊢
   rw[List.flatMap_cons,List.map_append,this]
   simp[El.row,qc]
theorem bD.u8 {T:TypeId} {z:Nat} {σ:Aa} {pt:Option Addr} {l:List (Nat→Int)} {W:World} {v:Value} (h:bD (qc T z) σ pt l) (ho:XU (qc T z) W v l) (c:Nat):Xm σ.length σ z ⟨pt,l.length,c,ao z l⟩:=by
 refine ⟨rL z l,fun v hv=>?_, ?_⟩
 ·simp only[ao,List.mem_flatMap,List.mem_map,List.mem_range] at hv
  obtain ⟨y,hy,q,hq,rfl⟩:=hv
  exact ho.1 y hy q hq
 ·rcases h with rfl | ⟨ab,h1,h2⟩
  ·exact .inl rfl
  ·exact .inr ⟨ab,T,false,h1,(List.getElem?_eq_some_iff.1 h2).1,by rw[h2,← rM T z]; rfl⟩
theorem yU:ux 5 1:=Age (by kernel_rfl)
theorem Aiy:ux 61 4:=oe Tryz.underlying61 (by kernel_rfl) yU (by decide)
theorem xK:ql (qc 61 4):=uo (by kernel_rfl) (by decide) Aiy
theorem Aix:ux 52 3:=oe Tryz.underlying52 (by kernel_rfl) yU (by decide)
theorem xJ:ql (qc 52 3):=uo (by kernel_rfl) (by decide) Aix
theorem Agf:ux 161 2:=oe Tryz.underlying161 (by kernel_rfl) yU (by decide)
theorem xI:ql (qc 161 2):=uo (by kernel_rfl) (by decide) Agf
theorem zi:ql (qc 5 1):=uo (by kernel_rfl) (by decide) yU
theorem xk {b0:Nat} {v:Value} {d:DataW H} {p:List MemPlace} (hval:Value.okWide Tryz.prog W .any b0 27 v) (h:DataW.Trod enc Tryz.prog W 0 (fun _=>true) true 27 v d p):
  ∃ b m o de li pl pi,v = .agg #[.int .u8 b,.int .u8 m,o,de,li,pl,pi]∧(0≤b∧b<256)∧(0≤m∧m<256)∧(∀ w ∈ [o,de,li,pl,pi],∃ a n c,w = .slice a n c)∧(∃ l,XU (qc 61 4) W o l)∧(∃ l,XU (qc 5 1) W de l)∧(∃ l,XU (qc 52 3) W li l)∧(∃ l,XU (qc 161 2) W pl l) ∧ ∃ l,XU (qc 5 1) W pi l:=by
 obtain ⟨cs,rfl,hsz⟩:=okWide_struct Tryz.underlying27 hval
 obtain ⟨fuel,hf⟩:=h
 have z:Tryz.prog.cellsOf 27=7:=by kernel_rfl
 have z1:Tryz.prog.cellsOf 5=1:=by kernel_rfl
 have zz2:Tryz.prog.cellsOf 22=1:=by kernel_rfl
 have zz3:Tryz.prog.cellsOf 23=1:=by kernel_rfl
 have zz4:Tryz.prog.cellsOf 24=1:=by kernel_rfl
 have zz5:Tryz.prog.cellsOf 25=1:=by kernel_rfl
 have zz6:Tryz.prog.cellsOf 23=1:=by kernel_rfl
 obtain ⟨c0,c1,c2,c3,c4,c5,c6,hcs⟩:=Ah7 cs.toList (by simpa [z] using hsz)
 have hcs':cs = #[c0,c1,c2,c3,c4,c5,c6]:=by apply Array.toList_inj.1; rw[hcs]
 subst hcs'
 have hf:DataW.trod enc Tryz.prog W 0 (fun _=>true) true fuel 27 [c0,c1,c2,c3,c4,c5,c6]=_:=hf
 obtain ⟨xs,n,_,_,_,hlen,hff⟩:=DataW.trod_struct Tryz.underlying27 hf
 obtain ⟨y0,y1,y2,y3,y4,y5,y6,rfl⟩:=Ah7 xs hlen
 have k0:=hff 0 _ rfl
 have k1:=hff 1 _ rfl
 have k2:=hff 2 _ rfl
 have k3:=hff 3 _ rfl
 have k4:=hff 4 _ rfl
 have k5:=hff 5 _ rfl
 have k6:=hff 6 _ rfl
 simp only[z1,zz2,zz3,zz4,zz5,zz6,List.drop_succ_cons,List.drop_zero,List.take_succ_cons,List.take_zero,List.getElem?_cons_zero,List.getElem?_cons_succ] at k0 k1 k2 k3 k4 k5 k6
 obtain ⟨a0,e0,_,w0⟩:=DataW.trod_int (k:=.u8) (by kernel_rfl) k0
 obtain ⟨a1,e1,_,w1⟩:=DataW.trod_int (k:=.u8) (by kernel_rfl) k1
 obtain ⟨v2,e2,q2,s2⟩:=di xK (ST:=22) Tryz.underlying22 k2
 obtain ⟨v3,e3,q3,s3⟩:=di zi (ST:=23) Tryz.underlying23 k3
 obtain ⟨v4,e4,q4,s4⟩:=di xJ (ST:=24) Tryz.underlying24 k4
 obtain ⟨v5,e5,q5,s5⟩:=di xI (ST:=25) Tryz.underlying25 k5
 obtain ⟨v6,e6,q6,s6⟩:=di zi (ST:=23) Tryz.underlying23 k6
 obtain ⟨rfl,_⟩:=List.cons.inj e0
 obtain ⟨rfl,_⟩:=List.cons.inj e1
 obtain ⟨rfl,_⟩:=List.cons.inj e2
 obtain ⟨rfl,_⟩:=List.cons.inj e3
 obtain ⟨rfl,_⟩:=List.cons.inj e4
 obtain ⟨rfl,_⟩:=List.cons.inj e5
 obtain ⟨rfl,_⟩:=List.cons.inj e6
 refine ⟨_,_,_,_,_,_,_,rfl,sM w0,sM w1,fun w hw=>?_,s2,s3,s4,s5,s6⟩
 simp only[List.mem_cons,List.not_mem_nil,or_false] at hw
 rcases hw with rfl | rfl | rfl | rfl | rfl <;> assumption
theorem Aae {σ:Aa} {μ:Mu} (O:Zb W σ μ) {b m:Int} {o de li pl pi:Value} (hb:0≤b∧b<256) (hm:0≤m∧m<256) (hw:∀ w ∈ [o,de,li,pl,pi],∃ a n c,w = .slice a n c)
  (s2:∃ l,XU (qc 61 4) W o l) (s3:∃ l,XU (qc 5 1) W de l) (s4:∃ l,XU (qc 52 3) W li l) (s5:∃ l,XU (qc 161 2) W pl l) (s6:∃ l,XU (qc 5 1) W pi l):
  ∃ (B:Bg) (τ:Aa) (μ':Mu),kS (σ++τ).length (σ++τ) B∧Zb W (σ++τ) μ'∧(∀ x y,RV μ x y→RV μ' x y)∧RV μ' (.agg #[.int .u8 B.bl,.int .u8 B.mu,.slice B.ob.p B.ob.n B.ob.c,.slice B.de.p B.de.n B.de.c,.slice B.li.p B.li.n B.li.c,.slice B.pl.p B.pl.n B.pl.c,.slice B.pi.p B.pi.n B.pi.c]) (.agg #[.int .u8 b,.int .u8 m,o,de,li,pl,pi]):=by
 obtain ⟨l2,s2⟩:=s2
 obtain ⟨l3,s3⟩:=s3
 obtain ⟨l4,s4⟩:=s4
 obtain ⟨l5,s5⟩:=s5
 obtain ⟨l6,s6⟩:=s6
 obtain ⟨p2,c2,τ2,μ2,O2,S2,V2,M2,_⟩:=O.add s2
 obtain ⟨p3,c3,τ3,μ3,O3,S3,V3,M3,_⟩:=O2.add s3
 obtain ⟨p4,c4,τ4,μ4,O4,S4,V4,M4,_⟩:=O3.add s4
 obtain ⟨p5,c5,τ5,μ5,O5,S5,V5,M5,_⟩:=O4.add s5
 obtain ⟨p6,c6,τ6,μ6,O6,S6,V6,M6,_⟩:=O5.add s6
 have S2:=(((S2.app τ3).app τ4).app τ5).app τ6
 have S3:=((S3.app τ4).app τ5).app τ6
 have S4:=(S4.app τ5).app τ6
 have S5:=S5.app τ6
 have V2:=M6 _ _ (M5 _ _ (M4 _ _ (M3 _ _ V2)))
 have V3:=M6 _ _ (M5 _ _ (M4 _ _ V3))
 have V4:=M6 _ _ (M5 _ _ V4)
 have V5:=M6 _ _ V5
 have ha:σ++τ2++τ3++τ4++τ5++τ6=σ++(τ2++τ3++τ4++τ5++τ6):=by simp[List.append_assoc]
 rw[ha] at O6 S2 S3 S4 S5 S6
 refine ⟨⟨b,m,⟨p2,l2.length,c2,ao 4 l2⟩,⟨p3,l3.length,c3,ao 1 l3⟩,⟨p4,l4.length,c4,ao 3 l4⟩,⟨p5,l5.length,c5,ao 2 l5⟩,⟨p6,l6.length,c6,ao 1 l6⟩⟩,_,_,⟨hb,hm,S2.u8 s2 c2,S3.u8 s3 c3,S4.u8 s4 c4,S5.u8 s5 c5,S6.u8 s6 c6⟩,O6,fun x y h=>M6 _ _ (M5 _ _ (M4 _ _ (M3 _ _ (M2 _ _ h)))), ?_⟩
 refine .agg (.cons (.int _ _) (.cons (.int _ _) (.cons V2 (.cons V3 (.cons V4 (.cons V5 (.cons V6 .nil))))))) ?_
 intro v hv
 simp at hv
 rcases hv with rfl | rfl | rfl | rfl | rfl | rfl | rfl <;> rfl
end Go.Proofs.YtjbledomkmdkmaaGreat
