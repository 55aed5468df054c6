/-
  A slice of calls, as it is handed in: read into the abstract memory.
-/
import Derived.Test.YtlaplcglpnlieaaGreatCX
import Derived.Test.YtlaplcglpnlieaaGreatAXR
import Derived.Test.YtlaplcglpnlieaaGreatRows
import Derived.Test.YtlaplcglpnlieaaGreatChecked
import Derived.Deep.Slices
import Derived.DataShut
import Derived.Lib.SmallJoins
set_option linter.unusedVariables false
namespace Go.Proofs.YtlaplcglpnlieaaGreat
open Go Go.AX Go.RowKit Go.ChangeShapes Go.WideShapes Go.ChangeAt
theorem own:ownKnob Tryz.prog.godebug=none:=by kernel_rfl
theorem laidOut:laidOutB Tryz.prog=true:=by kernel_rfl
theorem und3:Tryz.prog.underlying 3=some (.int .i64):=by kernel_rfl
theorem inI_of {n:Int} (h:(Lit.int .i64 n).wf=true):inI n:=by
  rw[Lit.wf_int_iff] at h
  have h1:IntKind.i64.min = -9223372036854775808:=by decide
  have h2:IntKind.i64.max=9223372036854775807:=by decide
  rw[h1,h2] at h
  unfold inI; omega
theorem list5 {α:Type}:∀ (l:List α),l.length=5 → ∃ a b c d e,l=[a,b,c,d,e]
  | [a,b,c,d,e],_=>⟨a,b,c,d,e,rfl⟩
theorem list3 {α:Type}:∀ (l:List α),l.length=3 → ∃ a b c,l=[a,b,c]
  | [a,b,c],_=>⟨a,b,c,rfl⟩
theorem list7 {α:Type}:∀ (l:List α),l.length=7 → ∃ a b c d e f g,l=[a,b,c,d,e,f,g]
  | [a,b,c,d,e,f,g],_=>⟨a,b,c,d,e,f,g,rfl⟩
set_option maxRecDepth 100000 in
theorem act_cells {H:Type} {enc:TypeId × Value→H} {W:World} {base:Nat} {sp:Nat→Bool} {hd:Bool} {fuel:Nat} {cs:List Value} {x:DataW H × List MemPlace} (hl:cs.length=7) (hf:DataW.trod enc Tryz.prog W base sp hd fuel ty_dustcartlaw02_Act cs=some x):
    ∃ y:ActV,y.ok∧cs=y.cells:=by
  obtain ⟨c0,c1,c2,c3,c4,c5,c6,rfl⟩:=list7 _ hl
  obtain ⟨xs,n,_,_,_,hlen,hff⟩:=DataW.trod_struct Tryz.underlying35 hf
  obtain ⟨y0,y1,y2,y3,y4,rfl⟩:=list5 xs hlen
  have z3:Tryz.prog.cellsOf 3=1:=by kernel_rfl
  have z23:Tryz.prog.cellsOf 33=3:=by kernel_rfl
  have k0:=hff 0 _ rfl
  have k1:=hff 1 _ rfl
  have k2:=hff 2 _ rfl
  have k3:=hff 3 _ rfl
  have k4:=hff 4 _ rfl
  simp[z3,z23] at k0 k1 k2 k3 k4
  obtain ⟨a0,e0,_,w0⟩:=DataW.trod_int und3 k0
  obtain ⟨a1,e1,_,w1⟩:=DataW.trod_int und3 k1
  obtain ⟨a2,e2,_,w2⟩:=DataW.trod_int und3 k2
  obtain ⟨a3,e3,_,w3⟩:=DataW.trod_int und3 k3
  obtain ⟨xs',n',_,_,_,hlen',hff'⟩:=DataW.trod_struct Tryz.underlying33 k4
  obtain ⟨u0,u1,u2,rfl⟩:=list3 xs' hlen'
  have j0:=hff' 0 _ rfl
  have j1:=hff' 1 _ rfl
  have j2:=hff' 2 _ rfl
  simp[z3] at j0 j1 j2
  obtain ⟨a4,e4,_,w4⟩:=DataW.trod_int und3 j0
  obtain ⟨a5,e5,_,w5⟩:=DataW.trod_int und3 j1
  obtain ⟨a6,e6,_,w6⟩:=DataW.trod_int und3 j2
  simp at e0 e1 e2 e3 e4 e5 e6
  subst e0 e1 e2 e3 e4 e5 e6
  exact ⟨⟨a0,a1,a2,a3,a4,a5,a6⟩,⟨inI_of w0,inI_of w1,inI_of w2,inI_of w3,inI_of w4,inI_of w5,inI_of w6⟩,rfl⟩
set_option maxRecDepth 100000 in
theorem act_open {H:Type} {enc:TypeId × Value→H} {W:World} {b0:Nat} {v:Value} {d:DataW H} {p:List MemPlace} (hval:Value.okWide Tryz.prog W .any b0 ty_dustcartlaw02_Act v) (h:DataW.Trod enc Tryz.prog W 0 (fun _=>true) true ty_dustcartlaw02_Act v d p):
    ∃ y:ActV,y.ok∧v = .agg #[.int .i64 y.k,.int .i64 y.a,.int .i64 y.b,.int .i64 y.c,.int .i64 y.r,.int .i64 y.d,.int .i64 y.s]:=by
  obtain ⟨cs,rfl,hsz⟩:=okWide_struct Tryz.underlying35 hval
  obtain ⟨fuel,hf⟩:=h
  have z:Tryz.prog.cellsOf ty_dustcartlaw02_Act=7:=by kernel_rfl
  obtain ⟨y,hy,he⟩:=act_cells (cs:=cs.toList) (by simpa [z] using hsz) hf
  refine ⟨y,hy, ?_⟩
  congr 1
  apply Array.toList_inj.1
  rw[he]; rfl
theorem rv_act (μ:Mu) (y:ActV):RV μ (.agg #[.int .i64 y.k,.int .i64 y.a,.int .i64 y.b,.int .i64 y.c,.int .i64 y.r,.int .i64 y.d,.int .i64 y.s]) (.agg #[.int .i64 y.k,.int .i64 y.a,.int .i64 y.b,.int .i64 y.c,.int .i64 y.r,.int .i64 y.d,.int .i64 y.s]):=
  .agg (.cons (.int _ _) (.cons (.int _ _) (.cons (.int _ _) (.cons (.int _ _) (.cons (.int _ _) (.cons (.int _ _) (.cons (.int _ _) .nil))))))) (by intro v hv; simp at hv; rcases hv with rfl | rfl | rfl | rfl | rfl | rfl | rfl <;> rfl)
theorem actRow_length:∀ l:List ActV,(actRow l).length=7*l.length
  | []=>rfl
  | x::l=>by simp[actRow,actRow_length l,ActV.cells]; omega
theorem int_rvs {μ:Mu}:∀ {l:List Value},(∀ v ∈ l,∃ n,v = .int .i64 n)→RVs μ l l
  | [],_=>.nil
  | v::l,h=>by
    obtain ⟨n,rfl⟩:=h v (by simp)
    exact .cons (.int _ _) (int_rvs fun v hv=>h v (by simp[hv]))
theorem actRow_ints:∀ (l:List ActV),∀ v ∈ actRow l,∃ n,v=Value.int .i64 n
  | [],v,h=>by simp[actRow] at h
  | x::l,v,h=>by
    simp only[actRow,List.mem_append] at h
    rcases h with h | h
    · simp[ActV.cells] at h
      rcases h with rfl | rfl | rfl | rfl | rfl | rfl | rfl <;> exact ⟨_,rfl⟩
    · exact actRow_ints l v h
theorem choose_list {α:Type} {p:Nat→α→Prop}:∀ (n:Nat),(∀ i,i<n → ∃ a,p i a) → ∃ l:List α,l.length=n ∧ ∀ i (h:i<l.length),p i l[i]
  | 0,_=>⟨[],rfl,fun i h=>by simp at h⟩
  | n+1,h=>by
    obtain ⟨l,hl,hp⟩:=choose_list n fun i hi=>h i (by omega)
    obtain ⟨a,ha⟩:=h n (by omega)
    refine ⟨l++[a],by simp[hl],fun i hi=>?_⟩
    by_cases hi':i<l.length
    · rw[List.getElem_append_left hi']; exact hp i hi'
    · have:i=l.length:=by simp at hi; omega
      subst this
      rw[List.getElem_append_right (Nat.le_refl _)]
      simp[hl]; exact ha
set_option maxRecDepth 100000 in
theorem acts_one {H:Type} {enc:TypeId × Value→H} {W:World} {b0:Nat} {v:Value} {d:DataW H} {p:List MemPlace} (ht:Tryz.prog.underlying 22=some (.slice ty_dustcartlaw02_Act)) (hval:Value.okWide Tryz.prog W .any b0 22 v) (h:DataW.Trod enc Tryz.prog W 0 (fun _=>true) true 22 v d p):
    ∃ (l:List ActV),(∀ x ∈ l,x.ok)∧((l=[] ∧ ∃ pt,∀ μ,RV μ (.slice pt 0 0) v) ∨
      ∃ k,(∀ μ,ObjR P μ (.cells (actRow l) ty_dustcartlaw02_Act false) k W.heap[k.b]?)∧k.b<W.heap.size ∧ ∀ μ h,μ h=some k→RV μ (.slice (some ⟨h,0,none⟩) l.length l.length) v):=by
  have z56:Tryz.prog.cellsOf ty_dustcartlaw02_Act=7:=by kernel_rfl
  obtain ⟨a0,len,cap,rfl⟩:=okWide_slice ht hval
  obtain ⟨fuel,hf⟩:=h
  rcases Go.Deep.open_slice ht hf with ⟨h1,_⟩ | ⟨a,len',cap',mm,n,D,Pl,h1,_,hlc,hcm,hmm,_,hel⟩
  · simp[Value.cells] at h1
    obtain ⟨rfl,rfl,rfl⟩:=h1
    exact ⟨[],(fun x hx=>by simp at hx),.inl ⟨rfl,none,fun _=>.sliceNil⟩⟩
  · simp[Value.cells] at h1
    obtain ⟨rfl,rfl,rfl⟩:=h1
    have hm:mm=cap:=by simpa using hmm
    subst hm
    by_cases hc0:mm=0
    · subst hc0
      obtain rfl:len=0:=by omega
      exact ⟨[],(fun x hx=>by simp at hx),.inl ⟨rfl,some ⟨0,0,some 0⟩,fun _=>.sliceZ a rfl⟩⟩
    have hcells:∀ q,q<mm → ∃ cs',W.cells? 0 (a.add (q*7)) 7=some cs' ∧ ∃ y:ActV,y.ok∧cs'=y.cells:=by
      intro q hq
      obtain ⟨cs',g1,g2⟩:=hel q hq
      rw[z56] at g1
      obtain ⟨_,g3,_⟩:=World.cells?_some g1
      exact ⟨cs',g1,act_cells g3 g2⟩
    obtain ⟨cs0,f1,_,_⟩:=hcells 0 (by omega)
    obtain ⟨_,f2,f3⟩:=World.cells?_some f1
    have f4:=f3 0 (by decide)
    have hz:(a.add (0*7)).add 0=a:=by simp[Addr.add]
    rw[hz] at f4
    have hc0':∃ v0,W.cell? a=some v0:=by
      rw[f4]; exact ⟨_,List.getElem?_eq_getElem (by omega)⟩
    obtain ⟨v0,hc0'⟩:=hc0'
    have hblk:∃ c T fz,W.heap[a.block]?=some (.cells c T fz)∧a.spot=none:=by
      unfold World.cell? at hc0'
      split at hc0'
      · rename_i c T fz hb
        split at hc0'
        · cases hc0'
        · rename_i hsp
          exact ⟨c,T,fz,hb,by simpa using hsp⟩
      · cases hc0'
    obtain ⟨c,T,fz,hb,hsp⟩:=hblk
    have hcell:∀ o,W.cell? ⟨a.block,a.off+o,none⟩=c[a.off+o]?:=by
      intro o; simp[World.cell?,hb]
    have hadd:∀ q r,(a.add (q*7)).add r=⟨a.block,a.off+(q*7+r),none⟩:=by
      intro q r
      obtain ⟨b,o,s⟩:=a
      simp only at hsp
      subst hsp
      unfold Addr.add
      by_cases h1:q*7=0 <;> by_cases h2:r=0 <;> simp[h1,h2] <;> omega
    obtain ⟨l,hl,hlp⟩:=choose_list (α:=ActV) (p:=fun q y=>y.ok∧W.cells? 0 (a.add (q*7)) 7=some y.cells) mm (fun q hq=>by
      obtain ⟨cs',g1,y,g2,g3⟩:=hcells q hq
      exact ⟨y,g2,by rw[← g3]; exact g1⟩)
    have hget:∀ q (hq:q<l.length) r,r<7→c[a.off+(q*7+r)]?=(l[q]).cells[r]?:=by
      intro q hq r hr
      obtain ⟨_,g2⟩:=hlp q hq
      obtain ⟨_,_,g4⟩:=World.cells?_some g2
      rw[← hcell,← hadd,g4 r hr]
    have hlast:=hget (mm-1) (by omega) 6 (by decide)
    have hsize:a.off+mm*7≤c.size:=by
      have:c[a.off+((mm-1)*7+6)]?=some (.int .i64 (l[mm-1]'(by omega)).s):=by rw[hlast]; rfl
      have:=(Array.getElem?_eq_some_iff.1 this).1
      omega
    have hlt:(l.take len).length=len:=by simp; omega
    have hrow:((c.toList.drop a.off).take (7*len))=actRow (l.take len):=by
      apply List.ext_getElem?
      intro x
      by_cases hx:x<7*len
      · rw[List.getElem?_take,if_pos hx,List.getElem?_drop,Array.getElem?_toList]
        have h1:=actRow_get (l.take len) (x/7) (by omega) (x % 7) (by omega)
        rw[show x/7*7+x % 7=x from by omega] at h1
        rw[h1,List.getElem_take]
        have h2:=hget (x/7) (by omega) (x % 7) (by omega)
        rw[show x/7*7+x % 7=x from by omega] at h2
        exact h2
      · rw[List.getElem?_take,if_neg hx,List.getElem?_eq_none]
        rw[actRow_length]; omega
    refine ⟨l.take len, ?_,.inr ⟨⟨a.block,a.off,7,7*len,7*mm⟩,fun μ=>?_,(Array.getElem?_eq_some_iff.1 hb).1,fun μ h hk=>?_⟩⟩
    · intro x hx
      obtain ⟨q,hq,rfl⟩:=List.mem_iff_getElem.1 hx
      rw[List.getElem_take]
      exact (hlp q (by simp at hq; omega)).1
    · refine ⟨c,T,fz,hb,by rw[actRow_length,hlt],by dsimp only; omega,by dsimp only; omega,by rw[← z56],(fun h=>by cases h), ?_, ?_⟩
      · intro v hv
        obtain ⟨n,rfl⟩:=actRow_ints _ v hv
        rfl
      · rw[hrow]
        exact int_rvs (actRow_ints _)
    · rw[hlt]
      have:=RV.slice (μ:=μ) (a:=⟨h,0,none⟩) (k:=⟨a.block,a.off,7,7*len,7*mm⟩) (l:=len) (c:=len) (c':=mm) hk rfl (Nat.le_refl _) hlc (by simp; omega)
      have ha:(⟨a.block,a.off+0,none⟩:Addr)=a:=by
        obtain ⟨b,o,s⟩:=a
        simp only at hsp
        subst hsp; rfl
      simp only[ha] at this
      exact this
theorem nil_R (W:World):R P (fun _=>none) [] W:=⟨fun h o k h1 _=>by simp at h1,fun h k h1=>(by cases h1),fun h h' k k' h1=>(by cases h1)⟩
set_option maxRecDepth 100000 in
theorem acts_open {H:Type} {enc:TypeId × Value→H} {W:World} {b0:Nat} {v:Value} {d:DataW H} {p:List MemPlace} (ht:Tryz.prog.underlying 22=some (.slice ty_dustcartlaw02_Act)) (hval:Value.okWide Tryz.prog W .any b0 22 v) (h:DataW.Trod enc Tryz.prog W 0 (fun _=>true) true 22 v d p):
    ∃ (l:List ActV) (pt:Option Addr) (c2:Nat) (σ:AMem) (μ:Mu),(∀ x ∈ l,x.ok)∧ActsAt σ pt l∧(l≠[] → ∀ a,pt=some a→a.block<σ.length)∧R P μ σ W∧(∀ b,b<σ.length→¬ writable σ b)∧(∀ hi,Fresh μ σ.length hi)∧RV μ (.slice pt l.length c2) v:=by
  obtain ⟨l,hok,⟨rfl,pt,hrv⟩ | ⟨k,ho,hk,hrv⟩⟩:=acts_one ht hval h
  · exact ⟨[],pt,0,[],fun _=>none,hok,.inl rfl,(fun hh=>absurd rfl hh),nil_R W,(fun b hb=>absurd hb (Nat.not_lt_zero _)),(fun _ _ _ _=>rfl),hrv _⟩
  · refine ⟨l,some ⟨0,0,none⟩,l.length,[.cells (actRow l) ty_dustcartlaw02_Act false],fun h=>if h=0 then some k else none,hok,.inr ⟨0,_,_,rfl,rfl⟩,(fun _ a' ha'=>by cases ha'; simp),⟨fun h o k' h1 h2=>?_,fun h k' h1=>?_,fun h h' k' k'' h1 h2 _ _ _ _=>?_⟩, ?_, ?_,hrv _ 0 rfl⟩
    · split at h2
      · rename_i h0; subst h0
        cases h2
        simp at h1; subst h1
        exact ho _
      · cases h2
    · split at h1
      · cases h1; exact hk
      · cases h1
    · split at h1
      · split at h2
        · omega
        · cases h2
      · cases h1
    · intro b hb'
      have:b=0:=by simp at hb'; omega
      subst this
      simp[writable]
    · intro hi h h1 h2
      simp at h1
      simp only
      rw[if_neg (by omega)]
theorem true_calls {f:Nat} {k:Nat} {args gs:List Value} {σ:AMem} {μ:Mu} {w:World}
    (h:∃ σ',@fn fullQuiet P X2 H k f args σ=some (.bool true,σ'))
    (hR:R P μ σ w) (hW:∀ b,b<σ.length→¬ writable σ b) (hF:∀ hi,Fresh μ σ.length hi) (hV:RVs μ args gs):
    Calls Tryz.prog f gs.toArray w fun x w'=>x = .returned (.bool true)∧Below w.heap.size w w':=by
  obtain ⟨σ',h⟩:=h
  obtain ⟨hlen,_,_,hc⟩:=@fn_ok P fullQuiet Tryz.checked.mixed X2 (x2_ok Tryz.checked.mixed) x2_adds H k _ _ _ _ _ h
  refine (hc μ w gs.toArray hR (hF _) (by simpa using hV)).mono ?_
  rintro x w' ⟨μ',v',rfl,hv,hR',hS⟩
  cases hv
  exact ⟨rfl,below_of_step hS hW⟩
end Go.Proofs.YtlaplcglpnlieaaGreat
