/- Functions: the executor is sound.; Words in which the printed functions are written.; The same words, that leave nothing unevaluated behind: for runs  -/
import Derived.RangeFuncLeaves
import Derived.Test.YtjbledomkmdkmaaGreatP7
set_option linter.unusedVariables false
set_option linter.unusedSimpArgs false
set_option linter.unusedSectionVars false
section
namespace Go.AX
open Go
variable {ρ:Type} {P:Program} [A9]
def yd (tmps:Array Value) (r:ResultVar):Sem Value:=
 match r with
 | .tmp t=>pure (tmps.getD t undef)
 | .cell a t=>do loadVar t (← asAddr (tmps.getD a undef))
theorem vX {μ:Mu} {σ:Aa} {w:World} {regs:AZ} {tmps:Array Value} (hR:R P μ σ w) (hreg:OJ μ regs tmps) {r:ResultVar} {v:Value} (h:tV P regs σ r=some v):
  ∃ v',RV μ v v'∧(yd tmps r).run P w = .ok v' w:=by
 cases r with
 | tmp t=>
   simp only[tV] at h
   obtain ⟨v',h1,h2⟩:=hreg.2 t v h
   refine ⟨v',h2, ?_⟩
   simp[yd,Array.getD_eq_getD_getElem?,h1]
 | cell t T=>
   simp only[tV,Option.bind_eq_some_iff] at h
   obtain ⟨u,hu,h⟩:=h
   obtain ⟨u',h1,h2⟩:=hreg.2 t u hu
   split at h
   ·rename_i a
    obtain ⟨k,hk,hv⟩:=pG h2
    have hget:tmps.getD t undef = .pointer (some ⟨k.b,k.o+a.off,none⟩):=by simp[Array.getD_eq_getD_getElem?,h1,hv]
    cases hb:NB P T with
    | true=>
      rw[hb] at h
      simp only[cond_true,Option.bind_eq_some_iff] at h
      obtain ⟨s,hs,vs,hvs,h⟩:=h
      cases h
      obtain ⟨hl,hld⟩:=QC hvs
      obtain ⟨vs',hr,hrun,hleaf⟩:=Nd hR hk hl hld
      obtain ⟨d,hd⟩:∃ d,P.underlying T=some d:=by
       unfold NB at hb; cases hq:P.underlying T with
       | none=>simp[hq] at hb
       | some d=>exact ⟨d,rfl⟩
      refine ⟨.agg vs'.toArray,.agg (by simpa using hr) (by simpa using hleaf), ?_⟩
      simp only[yd,hget,asAddr,Sem.run_bind,Sem.run_pure,Result.andThen_ok,loadVar,PL hd,hb,if_true,run_sizeOf hs,hrun]
    | false=>
      rw[hb] at h
      simp only[cond_false,Option.bind_eq_some_iff] at h
      obtain ⟨d,hd,h⟩:=h
      obtain ⟨v',hc,hr,_⟩:=cell_of hR h hk
      refine ⟨v',hr, ?_⟩
      simp only[yd,hget,asAddr,Sem.run_bind,Sem.run_pure,Result.andThen_ok,loadVar,PL hd,hb,Bool.false_eq_true,if_false,run_load,hc]
   ·cases h
theorem lX {μ:Mu} {σ:Aa} {w:World} {regs:AZ} {tmps:Array Value} (hR:R P μ σ w) (hreg:OJ μ regs tmps):∀ {rs:List ResultVar} {vs:List Value},kG P regs σ rs=some vs →
  ∃ vs',KE μ vs vs'∧(rs.mapM (yd tmps)).run P w = .ok vs' w
 | [],vs,h=>by simp[kG] at h; subst h; exact ⟨[],.nil,by simp⟩
 | r::rs,vs,h=>by
   simp only[kG,Option.bind_eq_some_iff] at h
   obtain ⟨v,hv,us,hus,h⟩:=h
   cases h
   obtain ⟨v',h1,h2⟩:=vX hR hreg hv
   obtain ⟨us',g1,g2⟩:=lX hR hreg hus
   refine ⟨v'::us',.cons h1 g1, ?_⟩
   simp only[List.mapM_cons,Sem.run_bind,h2,Result.andThen_ok,g2,Sem.run_pure]
theorem vo {μ:Mu} {σ σ':Aa} {w:World} {regs:AZ} {tmps:Array Value} {F:Func} {x:Dh} {v:Value} (hR:R P μ σ w) (hreg:OJ μ regs tmps) (h:fin P F x regs σ=some (v,σ')):
  σ'=σ∧(x = .normal∨x = .ret) ∧ ∃ v',RV μ v v'∧(results F tmps).run P w = .ok v' w:=by
 have main:(kG P regs σ F.results.toList).bind (fun vs=>some (Og vs,σ))=some (v,σ')→σ'=σ ∧ ∃ v',RV μ v v'∧(results F tmps).run P w = .ok v' w:=by
  intro h
  simp only[Option.bind_eq_some_iff] at h
  obtain ⟨vs,hvs,h⟩:=h
  cases h
  refine ⟨rfl, ?_⟩
  obtain ⟨vs',h1,h2⟩:=lX hR hreg hvs
  have hrun:(F.results.mapM (yd tmps)).run P w = .ok vs'.toArray w:=by
   rw[Array.mapM_eq_mapM_toList]
   simp only[Sem.run_map,h2,Result.andThen_ok]
  have hres:results F tmps=(do
    let vs ← F.results.mapM (yd tmps)
    pure (if h:vs.size=1 then vs[0] else .tuple vs)):=rfl
  rw[hres]
  simp only[Sem.run_bind,hrun,Result.andThen_ok,Sem.run_pure]
  cases h1 with
  | nil=>exact ⟨_,.tuple .nil,rfl⟩
  | cons h1 t=>
    cases t with
    | nil=>exact ⟨_,h1,rfl⟩
    | cons h3 t=>exact ⟨_,.tuple (.cons h1 (.cons h3 t)),rfl⟩
 unfold fin at h
 cases x with
 | exit id=>cases h
 | normal=>obtain ⟨h1,h2⟩:=main h; exact ⟨h1,.inl rfl,h2⟩
 | ret=>obtain ⟨h1,h2⟩:=main h; exact ⟨h1,.inr rfl,h2⟩
theorem zb {σ σ':Aa} {regs:AZ} {F:Func} {x:Dh} {v:Value} (h:fin P F x regs σ=some (v,σ')):σ'=σ:=by
 unfold fin at h
 cases x <;> simp only at h
 ·simp only[Option.bind_eq_some_iff] at h; obtain ⟨_,_,h⟩:=h; cases h; rfl
 ·cases h
 ·simp only[Option.bind_eq_some_iff] at h; obtain ⟨_,_,h⟩:=h; cases h; rfl
def yz (P:Program) (X:Ext):Prop:=∀ f g,X f=some g→Xj P (fun f' args σ=>if f'=f then g args σ else none)
theorem Abs {μ:Mu} {args:List Value} {cargs:Array Value} (h:KE μ args cargs.toList) (n:Nat):OJ μ (args.map some++List.replicate (n-args.length) (some undef)) (cargs++Array.replicate (n-cargs.size) undef):=by
 have hl:=h.length
 simp only[Array.length_toList] at hl
 refine ⟨by simp; omega,fun t v hv=>?_⟩
 rw[List.getD_eq_getElem?_getD] at hv
 by_cases ht:t<args.length
 ·rw[List.getElem?_append_left (by simpa using ht),List.getElem?_map,List.getElem?_eq_getElem ht] at hv
  simp at hv
  subst hv
  obtain ⟨v',h1,h2⟩:=h.get t _ (List.getElem?_eq_getElem ht)
  refine ⟨v', ?_,h2⟩
  rw[Array.getElem?_append_left (by omega)]
  simpa using h1
 ·rw[List.getElem?_append_right (by simp; omega)] at hv
  simp only[List.length_map,List.getElem?_replicate] at hv
  split at hv
  ·simp at hv; subst hv
   refine ⟨undef, ?_,Y8⟩
   rw[Array.getElem?_append_right (by omega)]
   simp only[Array.getElem?_replicate]
   rw[if_pos (by omega)]
  ·cases hv
theorem R.off {μ:Mu} {σ:Aa} {w:World} (h:R P μ σ w) {b:Nat} (hb:∀ h k,μ h=some k→k.b≠b) (x:Obj):R P μ σ (w.putObj b x):=
 ⟨fun i o k ho hk=>by rw[World.putObj_heap_other (hb i k hk)]; exact h.obj i o k ho hk,fun i k hk=>by rw[World.putObj_size]; exact h.lt i k hk,h.inj⟩
theorem Step.off {μ0 μ:Mu} {σ0 σ:Aa} {w0 w:World} (h:Step μ0 σ0 w0 μ σ w) {b:Nat} (hb:w0.heap.size≤b) (x:Obj):Step μ0 σ0 w0 μ σ (w.putObj b x):=
 ⟨h.len,h.mu,h.wr,h.new,by rw[World.putObj_size]; exact h.size,h.tape,h.os,h.output,fun i hi hn=>by rw[World.putObj_heap_other (by omega)]; exact h.frame i hi hn⟩
theorem iY {F:Fence} {n:Nat} {fd:Func} {tmps:Array Value} {Q:Ending→World→Prop} {μ0 μ:Mu} {σ0 σ:Aa} {w0:World} (hQ:∀ w,R P μ σ w→Step μ0 σ0 w0 μ σ w→LeavesIn F n P fd tmps Q [] .returning w):
  ∀ (ds:List Deferred) (w:World),W2 w0.heap.size μ w ds→R P μ σ w→Step μ0 σ0 w0 μ σ w→LeavesInM F n P fd tmps Q ds .returning w
 | [],w,_,hR,hS=>hQ w hR hS
 | d::ds,w,hm,hR,hS=>by
   obtain ⟨b,rfl,h1,h2,h3,h4⟩:=hm.1 d (by simp)
   have hnd:=List.nodup_cons.1 hm.2
   refine ⟨fun hq=>(by cases hq),.inl ⟨b,_,rfl,run_takeDeferred h3, ?_⟩⟩
   refine iY hQ ds _ ⟨fun d hd=>?_,hnd.2⟩ (hR.off h4 _) (hS.off h1 _)
   obtain ⟨b',hb,g1,g2,g3,g4⟩:=hm.1 d (by simp[hd])
   refine ⟨b',hb,g1,by rw[World.putObj_size]; exact g2, ?_,g4⟩
   rw[World.putObj_heap_other]
   ·exact g3
   ·rintro rfl; rw[hb] at hd; exact hnd.1 hd
theorem Re {h:Nat} {σ:Aa} {SB new:LSt} {K:FuncId→AZ→Aa→Option ρ} {r:ρ} (hh:Ni h σ SB new K=some r):
  ∃ f regs,σ[h]?=some (.loop f SB regs)∧K f regs (σ.set h (.loop f new regs))=some r:=by
 unfold Ni at hh
 split at hh
 ·rename_i hs
  split at hh
  ·rename_i he; subst he; exact ⟨_,_,hs,hh⟩
  ·cases hh
 ·cases hh
theorem pv {μ:Mu}:∀ {ts:List Tmp} {vs vs':List Value} {regs:AZ} {tmps:Array Value},KE μ vs vs'→OJ μ regs tmps →
  OJ μ (pM ts vs regs) ((ts.zip vs').foldl (fun tmps (x:Tmp × Value)=>tmps.setIfInBounds x.1 x.2) tmps)
 | [],_,_,_,_,_,hr=>by simpa [pM] using hr
 | _::_,_,_,_,_,.nil,hr=>by simpa [pM] using hr
 | t::ts,_,_,regs,tmps,.cons (v:=v) (v':=v') h1 h2,hr=>by
   simp only[pM,List.zip_cons_cons,List.foldl_cons]
   refine pv h2 ?_
   have:=OJ.put (a:={ tmps:=tmps,defers:=[] }) hr (some t) h1
   simpa [M7,Act.put] using this
theorem yg {l:Nat} {Q:Ending→World→Prop} {e:Exit} {a:Act} {w:World} {y:Dh} (he:hY y e) (h:∃ v w',(Instr.endRound l (g8 y)).run P w = .ok v w'∧Q (.returned v) w'):roundPost P l Q e a w:=by
 cases he <;> exact h
theorem Abv (hmix:P.follows .mixedOrders=true) {call:GM} (hcall:Xj P call) {H:FuncId→Hints} {n:Nat} {args:List Value} {σ:Aa} {v:Value} {σ':Aa} (h:tY P call H n args σ=some (v,σ')):
  σ.length≤σ'.length∧yR P args σ v σ':=by
 unfold tY at h
 split at h
 rotate_left
 ·cases h
 rename_i a vs
 obtain ⟨f,regs,hs,h⟩:=Re h
 obtain ⟨F,hF,h⟩:=Option.bind_eq_some_iff.1 h
 obtain ⟨c,hc,h⟩:=Option.bind_eq_some_iff.1 h
 obtain ⟨x,hx,h⟩:=Option.bind_eq_some_iff.1 h
 split at h
 rotate_left
 ·cases h
 rename_i hone
 have hin:=wH hx
 have leaf:∀ z σ3,Y5 a.block z σ3=some (v,σ')→σ3.length≤σ'.length ∧
   ∃ f3 regs4,σ3[a.block]?=some (.loop f3 .busy regs4)∧v = .bool (g8 z).isNone∧σ'=σ3.set a.block (.loop f3 (if (g8 z).isNone then .ready else .done z) regs4):=by
  intro z σ3 hz
  cases z with
  | normal=>simp only[Y5] at hz; obtain ⟨f3,regs4,hs3,hz⟩:=Re hz; cases hz; exact ⟨by simp,f3,regs4,hs3,rfl,rfl⟩
  | exit id=>simp only[Y5] at hz; obtain ⟨f3,regs4,hs3,hz⟩:=Re hz; cases hz; exact ⟨by simp,f3,regs4,hs3,rfl,rfl⟩
  | ret=>simp only[Y5] at hz; obtain ⟨f3,regs4,hs3,hz⟩:=Re hz; cases hz; exact ⟨by simp,f3,regs4,hs3,rfl,rfl⟩
 have body:∀ (y:Dh) (regs1:AZ) (σ1:Aa),cU P call f (H f) n a.block x.2.2 y regs1 σ1=some (v,σ')→y = .normal ∧
   ∃ f1 regs0,σ1[a.block]?=some (.loop f1 .ready regs0)∧σ1.length≤σ'.length ∧ ∀ ro,jC ro 0 P x.2.2 regs1 (σ1.set a.block (.loop f1 .busy regs0)) (fun z _ σ3=>Y5 a.block z σ3) (v,σ'):=by
  intro y regs1 σ1 hb
  cases y with
  | exit id=>cases hb
  | ret=>cases hb
  | normal=>
  simp only[cU] at hb
  obtain ⟨f1,regs0,hs1,hb⟩:=Re hb
  have ok:=fun ro=>tC (ro:=ro) (nn:=0) hmix hcall (fid:=f) x.2.2 (Rg.zero (by omega)) hb
  obtain ⟨⟨z,r3,σ3,hk,hl⟩,_⟩:=ok none
  have:=(leaf z σ3 hk).1
  exact ⟨rfl,f1,regs0,hs1,by simp at hl; omega,ok⟩
 have asg:=fun ro=>tC (ro:=ro) (nn:=0) hmix hcall (fid:=f) x.2.1 (Rg.zero (by omega)) h
 have hK:∀ (y:Dh) (regs1:AZ) (σ1:Aa),cU P call f (H f) n a.block x.2.2 y regs1 σ1=some (v,σ')→σ1.length≤σ'.length:=fun y regs1 σ1 hy=>let ⟨_,_,_,_,hl,_⟩:=body y regs1 σ1 hy; hl
 refine ⟨?_,a,vs,rfl,fun μ w k cargs hR hfr hk hargs=>?_⟩
 ·obtain ⟨⟨y,r1,σ1,hk,hl⟩,_⟩:=asg none
  exact Nat.le_trans hl (hK y r1 σ1 hk)
 obtain ⟨r,hr,⟨F',c',hF',hc',hth⟩,hreg,hst⟩:=hR.obj _ _ _ hs hk
 rw[hF] at hF'; cases hF'
 rw[hc] at hc'; cases hc'
 rw[hx] at hth; cases hth
 have hsz:cargs.size=r.params.size:=by
  have:=hargs.length
  simp only[Array.length_toList] at this
  have h2:=hone.2
  simp only[Array.length_toList] at h2
  omega
 refine ⟨_,_,_,_,run_yield hr hsz,fun ro nn=>?_⟩
 have htm:(r.params.zip cargs).foldl (fun tmps (x:Tmp × Value)=>tmps.setIfInBounds x.1 x.2) r.tmps=(r.params.toList.zip cargs.toList).foldl (fun tmps (x:Tmp × Value)=>tmps.setIfInBounds x.1 x.2) r.tmps:=by
  rw[← Array.foldl_toList,Array.toList_zip]
 have hfin:RoundIn (FW none) 0 P k.b r.fn ((r.params.zip cargs).foldl (fun tmps (x:Tmp × Value)=>tmps.setIfInBounds x.1 x.2) r.tmps) r.assign r.body w (Afx P μ σ w v σ'):=by
  rw[htm]
  refine roundIn_of_wpIn trivial ?_
  have hwp:=(asg (some k.b)).2 σ'.length hK 0 { tmps:=(r.params.toList.zip cargs.toList).foldl (fun tmps (x:Tmp × Value)=>tmps.setIfInBounds x.1 x.2) r.tmps,defers:=[] } μ w (Nat.zero_le _) hR hfr (pv hargs hreg) (W2.nil _ _ _)
  refine wpIn_mono hwp ?_
  rintro e a1 w1 ⟨y,regs1,σ1,μ1,hy,hq,g1,g2,g3,g4,g5,g6⟩
  obtain ⟨rfl,f1,regs0,hs1,hl1,hok⟩:=body _ _ _ hq
  cases hy
  have hk1:μ1 a.block=some k:=by
   have hlt:a.block<σ.length:=(List.getElem?_eq_some_iff.1 hs).1
   rw[g2.mu _ (.inl hlt)]; exact hk
  obtain ⟨r1,hr1,hl1',hreg1,hst1⟩:=g1.obj _ _ _ hs1 hk1
  obtain ⟨hR2,hS2⟩:=g1.record hk1 hs1 (o:=.loop f1 .busy regs0) (x:=.loop { r1 with state:=.busy }) ⟨_,rfl,hl1',hreg1,rfl⟩
  have hfr2:Ia μ1 (σ1.set a.block (.loop f1 .busy regs0)).length σ'.length:=by rw[List.length_set]; exact hfr.step g2
  refine ⟨_,run_beginRound hr1 hst1.1, ?_⟩
  refine wpIn_mono ((hok (some k.b)).2 σ'.length (fun z r3 σ3 hz=>(leaf z σ3 hz).1) 0 a1 μ1 _ (Nat.zero_le _) hR2 hfr2 g3 (g4.step hS2)) ?_
  rintro e a3 w3 ⟨z,regs3,σ3,μ3,hz,hq3,k1,k2,k3,k4,k5,k6⟩
  obtain ⟨_,f3,regs4,hs3,rfl,rfl⟩:=leaf z σ3 hq3
  have hk3:μ3 a.block=some k:=by
   have hlt:a.block<(σ1.set a.block (.loop f1 .busy regs0)).length:=by rw[List.length_set]; exact (List.getElem?_eq_some_iff.1 hs1).1
   rw[k2.mu _ (.inl hlt)]; exact hk1
  obtain ⟨r3,hr3,hl3,hreg3,hst3⟩:=k1.obj _ _ _ hs3 hk3
  refine yg hz ⟨_,_,run_endRound _ hr3, ?_⟩
  obtain ⟨hR4,hS4⟩:=k1.record hk3 hs3 (o:=.loop f3 (if (g8 z).isNone then .ready else .done z) regs4) (x:=.loop { r3 with state:=if (g8 z).isNone then .ready else .done,pending:=g8 z }) ⟨_,rfl,hl3,hreg3,by
   cases z <;> exact ⟨rfl,rfl⟩⟩
  exact ⟨μ3,_,rfl,.bool _,hR4,((g2.trans hS2).trans k2).trans hS4⟩
 exact ⟨trivial,fun c cs _=>hfin.2 c cs (room_wide _)⟩
theorem Ady (hmix:P.follows .mixedOrders=true) {X:Ext} (hX:yz P X) (hXa:ia X) {H:FuncId→Hints}:∀ k,Xj P (fn P X H k)
 | 0=>⟨fun f args σ v σ' _ h=>(by cases h),fun args σ v σ' h=>(by cases h)⟩
 | k+1=>by
   have ih:=Ady hmix hX hXa (H:=H) k
   refine ⟨?_, ?_⟩
   ·intro f args σ v σ' hny h
    have hcalm:va P f=true→σ <+: σ':=fun hf=>zd hXa 6 (k+1) f args σ v σ' hf h
    simp only[fn] at h
    split at h
    ·rename_i g hg
     have:=(hX f g hg).fn f args σ v σ' hny (by simp only[if_true]; exact h)
     exact this
    ·rename_i hXn
     have hb0:Nat.beq f YF=false:=by
      cases hb:Nat.beq f YF with
      | true=>exact absurd (Nat.eq_of_beq_eq_true hb) hny
      | false=>rfl
     rw[hb0,cond_false] at h
     split at h
     ·cases h
     ·rename_i F hF
      split at h
      ·cases h
      ·rename_i c hb
       split at h
       ·cases h
       ·rename_i hname
        have hrg:Rg P none f c:=by
         cases hth:CH c with
         | none=>exact ⟨default,US hth,fun hn=>by
           exfalso
           exact absurd hth (by
            intro hq
            exact hn (by
             have:ranges c=0:=vU hq
             exact this))⟩
         | some x=>exact ⟨x,Ae0 (by omega) hth,fun _=>⟨rfl,F,c,hF,hb,hth⟩⟩
        obtain ⟨⟨x,regs',σ1,hK,hl⟩,hwp⟩:=tC (ro:=none) (nn:=0) hmix ih c hrg h
        have hs:=zb hK
        subst hs
        refine ⟨hl,hcalm,⟨F,hF,by rw[hb]; rfl,by simp only[not_or] at hname; simpa using hname.1⟩,fun μ w cargs hR hfr hargs=>?_⟩
        refine callsIn_wide.1 (callsIn_of_wp_marks (n:=0) hF hb trivial ?_)
        have hinit:=Abs hargs F.ntmps
        refine wpIn_mono (hwp σ'.length (fun x regs σ2 hq=>by rw[zb hq]; exact Nat.le_refl _) w.heap.size { tmps:=cargs++Array.replicate (F.ntmps-cargs.size) undef,defers:=[] } μ w (Nat.le_refl _) hR hfr hinit (W2.nil _ _ _)) ?_
        rintro e a' w' ⟨x',regs2,σ2,μ',hx,hq,g1,g2,g3,g4,g5,g6⟩
        obtain ⟨h1,h2,v',h3,h4⟩:=vo g1 g3 hq
        subst h1
        have post:LeavesInM Fence.wide 0 P F a'.tmps (Afx P μ σ w v σ') a'.defers .returning w':=
         iY (fun w2 hR2 hS2=>by
          obtain ⟨_,_,v2,q1,q2⟩:=vo hR2 g3 hq
          exact ⟨v2,q2,μ',v2,rfl,q1,hR2,hS2⟩) _ _ g4 g1 g2
        rcases h2 with rfl | rfl
        ·cases hx; exact post
        ·cases hx; exact post
   ·intro args σ v σ' h
    simp only[fn] at h
    split at h
    ·rename_i g hg
     exact (hX YF g hg).yld args σ v σ' (by simp only[if_true]; exact h)
    ·rw[show Nat.beq YF YF=true from rfl,cond_true] at h
     exact Abv hmix ih h
end Go.AX
end
section
namespace Go.AX
open Go
variable {ρ:Type}
abbrev Cf (n:Int):Int:=IntKind.i64.wrap n
abbrev u64 (n:Int):Int:=IntKind.u64.wrap n
def AM (σ:Aa) (o:A6) (K:Nat→Aa→Option ρ):Option ρ:=K σ.length (σ++[o])
def tx (args:List Value) (σ:Aa):Option (Value × Aa):=
 match args with
 | [.map none]=>some (.map none,σ)
 | [.map (some r)]=>(Yt σ r).bind fun es=>some (.map (some σ.length),σ++[.map es])
 | _=>none
def dG (x:Option (Value × Aa)):Bool:=match x with
 | some (.bool b,_)=>b
 | _=>false
theorem tI {x:Option (Value × Aa)} (h:dG x=true):∃ σ,x=some (.bool true,σ):=by
 unfold dG at h
 split at h
 ·subst h; exact ⟨_,rfl⟩
 ·cases h
def sL (args:List Value) (σ:Aa):Option (Value × Aa):=
 match args with
 | []=>some (.bool true,σ)
 | _=>none
theorem xO {P:Program} {a:FuncId} {call:GM} (hc:Xj P call) (ha:a≠YF) (h:dG (call a [] [])=true):Xj P (fun f args σ=>if f=a then sL args σ else none):=by
 refine ⟨?_,fun args σ v σ' hh=>(by rw[if_neg (Ne.symm ha)] at hh; cases hh)⟩
 intro f args σ v σ' _ hh
 split at hh
 rotate_left
 ·cases hh
 rename_i hf
 subst hf
 unfold sL at hh
 split at hh
 rotate_left
 ·cases hh
 cases hh
 obtain ⟨σ0,hrun⟩:=tI h
 obtain ⟨_,_,hF,hcall⟩:=hc.fn _ _ _ _ _ ha hrun
 refine ⟨Nat.le_refl _,fun _=>List.prefix_rfl,hF,fun μ w cargs hR hfr ha=>?_⟩
 have h0:R P (fun _=>none) [] w:=⟨fun h o k h1 _=>by simp at h1,fun h k h1=>(by cases h1),fun h h' k k' h1=>(by cases h1)⟩
 refine (hcall (fun _=>none) w cargs h0 (fun _ _ _=>rfl) (by obtain ⟨c⟩:=cargs; cases ha; exact .nil)).mono ?_
 rintro e w' ⟨μ',v',rfl,hv,hR',hS⟩
 cases hv
 have hfr:∀ b,b<w.heap.size→w'.heap[b]?=w.heap[b]?:=fun b hb=>hS.frame b hb fun h k _ h1=>(by cases h1)
 refine ⟨μ,_,rfl,.bool _,⟨?_, ?_,hR.inj⟩,⟨Nat.le_refl _,fun _ _=>rfl,fun _ _ h=>h,fun h k h1 h2=>absurd h2 (by omega),hS.size,hS.tape,hS.os,hS.output,fun b hb _=>hfr b hb⟩⟩
 ·intro h o k h1 h2
  rw[hfr _ (hR.lt _ _ h2)]
  exact hR.obj h o k h1 h2
 ·intro h k h2
  exact Nat.lt_of_lt_of_le (hR.lt _ _ h2) hS.size
theorem Ae2 [A9] {P:Program} {X:Ext} {H:FuncId→Hints} {k h:Nat} {f:FuncId} {regs:AZ} {vs:List Value} {σ:Aa} {F:Func} {c:Code} {x:Array Tmp × Code × Code} (hs:σ[h]?=some (.loop f .ready regs)) (hX:X YF=none)
  (hF:P.funcs[f]?=some F) (hc:F.body=some c) (hx:CH c=some x) (hr:ranges c=1) (hl:vs.length=x.1.toList.length):
  ID P (fn P X H (k+1)) (.func (.yield h) #[] #[]) vs σ =
   exec P (fn P X H k) f (H f) k x.2.1 (Value × Aa) (pM x.1.toList vs regs) σ fun y r s=>cU P (fn P X H k) f (H f) k h x.2.2 y r s:=by
 simp only[ID,fn,hX]
 rw[show Nat.beq YF YF=true from rfl,cond_true]
 simp only[tY,Ni,hs,if_true,hF,hc,hx,Option.bind_some,hr,hl,and_self]
def Ev {β:Type} (g:Nat→Nat→Option β) (Q:β→Prop):Prop:=∃ k0 n0 r,Q r ∧ ∀ k n,k0≤k→n0≤n→g k n=some r
theorem Ev.mono {β:Type} {g:Nat→Nat→Option β} {Q Q':β→Prop} (h:Ev g Q) (hq:∀ r,Q r→Q' r):Ev g Q':=
 let ⟨k0,n0,r,h1,h2⟩:=h; ⟨k0,n0,r,hq r h1,h2⟩
theorem Ev.pure {β:Type} {r:β} {Q:β→Prop} (h:Q r):Ev (fun _ _=>some r) Q:=⟨0,0,r,h,fun _ _ _ _=>rfl⟩
theorem Ev.bind {β γ:Type} {g:Nat→Nat→Option β} {f:Nat→Nat→β→Option γ} {Q:γ→Prop} {Q1:β→Prop} (h:Ev g Q1) (hf:∀ r,Q1 r→Ev (fun k n=>f k n r) Q):Ev (fun k n=>(g k n).bind (f k n)) Q:=by
 obtain ⟨k0,n0,r,h1,h2⟩:=h
 obtain ⟨k1,n1,r',g1,g2⟩:=hf r h1
 exact ⟨max k0 k1,max n0 n1,r',g1,fun k n hk hn=>by
  show (g k n).bind (f k n)=some r'
  rw[h2 k n (by omega) (by omega)]; exact g2 k n (by omega) (by omega)⟩
theorem Ev.call {β:Type} {g:Nat→Option β} {f:Nat→Nat→Option β} {Q:β→Prop} (he:∀ k,g (k+1)=f k k) (h:Ev f Q):Ev (fun k _=>g k) Q:=by
 obtain ⟨k0,n0,r,h1,h2⟩:=h
 refine ⟨max k0 n0+1,0,r,h1,fun k n hk _=>?_⟩
 obtain ⟨k',rfl⟩:∃ m,k=m+1:=⟨k-1,by omega⟩
 show g (k'+1)=some r
 rw[he]; exact h2 k' k' (by omega) (by omega)
theorem Ev.round {β:Type} {g f:Nat→Nat→Option β} {Q:β→Prop} (he:∀ k n,g k (n+1)=f k n) (h:Ev f Q):Ev g Q:=by
 obtain ⟨k0,n0,r,h1,h2⟩:=h
 refine ⟨k0,n0+1,r,h1,fun k n hk hn=>?_⟩
 obtain ⟨n',rfl⟩:∃ m,n=m+1:=⟨n-1,by omega⟩
 rw[he]; exact h2 k n' hk (by omega)
def cL:Code→Code | .seq a _=>a | c=>c
def cR:Code→Code | .seq _ b=>b | c=>c
def cB:Code→Code | .block _ b=>b | .loop b=>b | .scope b=>b | c=>c
def cT:Code→Code | .cond _ a _=>a | c=>c
def cE:Code→Code | .cond _ _ b=>b | c=>c
def BM (f:Func):Code:=f.body.getD .skip
end Go.AX
end
section
namespace Go.AX
open Go
variable {α:Type}
def fN (n:Nat) (K:Nat→α):α:=Nat.casesOn n (K 0) fun m=>K (Nat.succ m)
theorem iK (n:Nat) (K:Nat→α):fN n K=K n:=by cases n <;> rfl
def fI (n:Int) (K:Int→α):α:=Int.casesOn n (fun m=>fN m fun m=>K (.ofNat m)) (fun m=>fN m fun m=>K (.negSucc m))
theorem Adu (n:Int) (K:Int→α):fI n K=K n:=by
 cases n with
 | ofNat m=>exact iK m fun m=>K (.ofNat m)
 | negSucc m=>exact iK m fun m=>K (.negSucc m)
def fB (b:Bool) (K:Bool→α):α:=Bool.casesOn b (K false) (K true)
theorem Ah1 (b:Bool) (K:Bool→α):fB b K=K b:=by cases b <;> rfl
def fA (a:Addr) (K:Addr→α):α:=match a with
 | ⟨b,o,none⟩=>fN b fun b=>fN o fun o=>K ⟨b,o,none⟩
 | ⟨b,o,some z⟩=>fN b fun b=>fN o fun o=>fN z fun z=>K ⟨b,o,some z⟩
theorem Ah0 (a:Addr) (K:Addr→α):fA a K=K a:=by
 obtain ⟨b,o,s⟩:=a
 cases s <;> simp[fA,iK]
def fP (a:Option Addr) (K:Option Addr→α):α:=match a with
 | none=>K none
 | some a=>fA a fun a=>K (some a)
theorem Adx (a:Option Addr) (K:Option Addr→α):fP a K=K a:=by cases a <;> simp[fP,Ah0]
def fO (m:Option Nat) (K:Option Nat→α):α:=match m with
 | none=>K none
 | some a=>fN a fun a=>K (some a)
theorem Ah2 (a:Option Nat) (K:Option Nat→α):fO a K=K a:=by cases a <;> simp[fO,iK]
def fS (x:Option Addr × Nat × Nat) (K:Option Addr × Nat × Nat→α):α:=match x with
 | (a,l,c)=>fP a fun a=>fN l fun l=>fN c fun c=>K (a,l,c)
theorem Ah3 (x:Option Addr × Nat × Nat) (K:Option Addr × Nat × Nat→α):fS x K=K x:=by
 obtain ⟨a,l,c⟩:=x
 simp[fS,Adx,iK]
def fV (v:Value) (K:Value→α):α:=match v with
 | .int k n=>fI n fun n=>K (.int k n)
 | .bool b=>fB b fun b=>K (.bool b)
 | .pointer a=>fP a fun a=>K (.pointer a)
 | .slice a l c=>fP a fun a=>fN l fun l=>fN c fun c=>K (.slice a l c)
 | .map m=>fO m fun m=>K (.map m)
 | v=>K v
theorem vm (v:Value) (K:Value→α):fV v K=K v:=by
 unfold fV
 split <;> simp[Adu,Ah1,Adx,iK,Ah2]
def fVs:List Value→(List Value→α)→α
 | [],K=>K []
 | v::vs,K=>fV v fun v=>fVs vs fun vs=>K (v::vs)
theorem tF:∀ (vs:List Value) (K:List Value→α),fVs vs K=K vs
 | [],K=>rfl
 | v::vs,K=>by simp[fVs,vm,tF vs]
def fEs:List (Int × Value)→(List (Int × Value)→α)→α
 | [],K=>K []
 | e::es,K=>fI e.1 fun i=>fV e.2 fun v=>fEs es fun es=>K ((i,v)::es)
theorem xv:∀ (vs:List (Int × Value)) (K:List (Int × Value)→α),fEs vs K=K vs
 | [],K=>rfl
 | v::vs,K=>by simp[fEs,vm,Adu,xv vs]
def fRs:List (Option Value)→(List (Option Value)→α)→α
 | [],K=>K []
 | none::vs,K=>fRs vs fun vs=>K (none::vs)
 | some v::vs,K=>fV v fun v=>fRs vs fun vs=>K (some v::vs)
theorem xw:∀ (vs:List (Option Value)) (K:List (Option Value)→α),fRs vs K=K vs
 | [],K=>rfl
 | none::vs,K=>by simp[fRs,xw vs]
 | some v::vs,K=>by simp[fRs,vm,xw vs]
def Adw (o:A6) (K:A6→α):α:=match o with
 | .cells vs T rw=>fVs vs fun vs=>K (.cells vs T rw)
 | .map es=>fEs es fun es=>K (.map es)
 | .loop f st regs=>fRs regs fun regs=>K (.loop f st regs)
 | .dead=>K .dead
theorem tE (o:A6) (K:A6→α):Adw o K=K o:=by cases o <;> simp[Adw,tF,xv,xw]
noncomputable def nth {β:Type} (l:List β):Nat→Option β:=List.rec (fun _=>none) (fun x _ ih n=>Nat.rec (some x) (fun m _=>ih m) n) l
theorem X6 {β:Type}:∀ (l:List β) (n:Nat),nth l n=l[n]?
 | [],_=>by simp[nth]
 | _::_,0=>rfl
 | x::xs,n+1=>by
   show nth xs n=_
   rw[X6 xs]; simp
def eqK (k k':IntKind):Bool:=Nat.beq k.ctorIdx k'.ctorIdx
theorem Ai6 (k k':IntKind):eqK k k'=decide (k=k'):=by cases k <;> cases k' <;> rfl
def AO (k:IntKind) (v:Value):Option Int:=match v with
 | .int k' n=>bif eqK k' k then some n else none
 | _=>none
theorem zD (k:IntKind) (v:Value):AO k v=Ml k v:=by
 cases v with
 | int k' n=>
   simp only[AO,Ml,Ai6]
   by_cases h:k'=k <;> simp[h]
 | _=>rfl
noncomputable def qJ (σ:Aa) (b o:Nat):Option Value:=match nth σ b with
 | some (.cells vs _ _)=>nth vs o
 | _=>none
theorem Z9 (σ:Aa) (b o:Nat):qJ σ b o=Gi σ b o:=by unfold qJ Gi; rw[X6]; split <;> simp_all [X6]
noncomputable def Ah (k:IntKind) (σ:Aa) (b o:Nat):Option Int:=(qJ σ b o).bind (AO k)
theorem Agt (k:IntKind) (σ:Aa) (b o:Nat):Ah k σ b o=Dg k σ b o:=by
 have:AO k=Ml k:=funext (zD k)
 rw[Ah,Dg,Z9,this]
noncomputable def mM (σ:Aa) (b o:Nat):Option Bool:=(qJ σ b o).bind Ez
theorem Ags (σ:Aa) (b o:Nat):mM σ b o=lO σ b o:=by rw[mM,lO,Z9]
noncomputable def xP (σ:Aa) (b o:Nat):Option ByteArray:=(qJ σ b o).bind toStr
theorem Aa7 (σ:Aa) (b o:Nat):xP σ b o=rS σ b o:=by rw[xP,rS,Z9]
noncomputable def B7 (σ:Aa) (b o:Nat):Option (Option Addr):=(qJ σ b o).bind NJ
theorem Agv (σ:Aa) (b o:Nat):B7 σ b o=L8 σ b o:=by rw[B7,L8,Z9]
noncomputable def AH (σ:Aa) (b o:Nat):Option (Option Addr × Nat × Nat):=(qJ σ b o).bind H7
theorem Agw (σ:Aa) (b o:Nat):AH σ b o=Hx σ b o:=by rw[AH,Hx,Z9]
noncomputable def Aec (σ:Aa) (b o:Nat):Option (Option Nat):=(qJ σ b o).bind uv
theorem Agu (σ:Aa) (b o:Nat):Aec σ b o=ldM σ b o:=by rw[Aec,ldM,Z9]
noncomputable def cA (σ:Aa) (b o n:Nat):Option (List Value):=match nth σ b with
 | some (.cells vs _ _)=>if o+n≤vs.length then some ((vs.drop o).take n) else none
 | _=>none
theorem zm (σ:Aa) (b o n:Nat):cA σ b o n=ZA σ b o n:=by unfold cA ZA; rw[X6]; rfl
noncomputable def oX (σ:Aa) (r:Nat):Option (List (Int × Value)):=match nth σ r with
 | some (.map es)=>some es
 | _=>none
theorem rR (σ:Aa) (r:Nat):oX σ r=Yt σ r:=by unfold oX Yt; rw[X6]; rfl
noncomputable def zl (σ:Aa) (r:Option Nat):Option (List (Int × Value)):=match r with
 | none=>some []
 | some r=>oX σ r
theorem Aeb (σ:Aa) (r:Option Nat):zl σ r=qK σ r:=by unfold zl qK; split <;> simp[rR]
noncomputable def mZ (σ:Aa) (s:Nat) (x:Option Addr) (n:Nat):Option (List Value):=match x with
 | some a=>cA σ a.block a.off (n*s)
 | none=>if n=0 then some [] else none
theorem oL (σ:Aa) (s:Nat) (x:Option Addr) (n:Nat):mZ σ s x n=Ds σ s x n:=by unfold mZ Ds; split <;> simp[zm]
def gR:Aa→Nat→A6→(Aa→α)→α
 | [],_,_,K=>K []
 | _::xs,0,o,K=>K (o::xs)
 | x::xs,i+1,o,K=>gR xs i o fun l=>K (x::l)
theorem dN:∀ (σ:Aa) (i:Nat) (o:A6) (K:Aa→α),gR σ i o K=K (σ.set i o)
 | [],_,_,_=>rfl
 | _::_,0,_,_=>rfl
 | x::xs,i+1,o,K=>by simp[gR,dN xs]
def Aau:Aa→(Aa→α)→α
 | [],K=>K []
 | x::xs,K=>(match xs with | []=>Adw x fun x=>K [x] | _::_=>Aau xs fun l=>K (x::l))
theorem tD:∀ (σ:Aa) (K:Aa→α),Aau σ K=K σ
 | [],_=>rfl
 | [x],K=>by simp[Aau,tE]
 | x::y::xs,K=>by rw[Aau,tD (y::xs)]
def fL (σ:Aa) (K:Aa→α):α:=match σ with
 | []=>K []
 | x::xs=>K (x::xs)
theorem Akl (σ:Aa) (K:Aa→α):fL σ K=K σ:=by cases σ <;> rfl
variable {ρ:Type}
noncomputable def iH (h:Nat) (σ:Aa) (K:Dh→Aa→Option ρ):Option ρ:=
 match nth σ h with
 | some (.loop _ .ready _)=>gR σ h .dead fun σ=>K .normal σ
 | some (.loop _ (.done x) _)=>match x with
   | .normal=>none
   | x=>gR σ h .dead fun σ=>K x σ
 | _=>none
theorem vj (h:Nat) (σ:Aa) (K:Dh→Aa→Option ρ):iH h σ K=VD h σ K:=by simp only[iH,VD,dN,X6]; rfl
noncomputable def dg (h:Nat) (σ:Aa) (SB new:LSt) (K:FuncId→AZ→Aa→Option ρ):Option ρ:=
 match nth σ h with
 | some (.loop f st regs)=>if st=SB then gR σ h (.loop f new regs) fun σ=>K f regs σ else none
 | _=>none
theorem w7 (h:Nat) (σ:Aa) (SB new:LSt) (K:FuncId→AZ→Aa→Option ρ):dg h σ SB new K=Ni h σ SB new K:=by simp only[dg,Ni,dN,X6]; rfl
noncomputable def ap2 {α:Type} (σ:Aa):Nat→A6→(Nat→Aa→α)→α:=
 List.rec (fun i o K=>K i [o]) (fun x _ ih i o K=>ih (Nat.succ i) o fun h l=>K h (x::l)) σ
theorem tp {α:Type}:∀ (σ:Aa) (i:Nat) (o:A6) (K:Nat→Aa→α),ap2 σ i o K=K (i+σ.length) (σ++[o])
 | [],_,_,_=>rfl
 | x::xs,i,o,K=>by
   show ap2 xs (Nat.succ i) o (fun h l=>K h (x::l))=_
   rw[tp xs]; simp[Nat.succ_add,Nat.add_assoc]
noncomputable def Ad0 {α:Type} (σ:Aa):Nat→Nat→A6→(Nat→Aa→α)→α:=
 List.rec (fun i _ o K=>K i [o]) (fun x xs ih i b o K=>Nat.rec (ap2 xs (Nat.succ i) o fun h l=>K h (.dead::l)) (fun b _=>ih (Nat.succ i) b o fun h l=>K h (x::l)) b) σ
theorem vw {α:Type}:∀ (σ:Aa) (i b:Nat) (o:A6) (K:Nat→Aa→α),Ad0 σ i b o K=K (i+σ.length) (σ.set b .dead++[o])
 | [],_,_,_,_=>rfl
 | x::xs,i,0,o,K=>by
   show ap2 xs (Nat.succ i) o (fun h l=>K h (.dead::l))=_
   rw[tp]; simp[Nat.succ_add,Nat.add_assoc]
 | x::xs,i,b+1,o,K=>by
   show Ad0 xs (Nat.succ i) b o (fun h l=>K h (x::l))=_
   rw[vw xs]; simp[Nat.succ_add,Nat.add_assoc]
noncomputable def Aq (σ:Aa) (o:A6) (K:Nat→Aa→Option ρ):Option ρ:=Adw o fun o=>ap2 σ 0 o fun h σ=>fN h fun h=>K h σ
theorem Aab (σ:Aa) (o:A6) (K:Nat→Aa→Option ρ):Aq σ o K=AM σ o K:=by simp[Aq,AM,tE,iK,tp]
def srS:List Value→Nat→List Value→(List Value→α)→α
 | cs,0,[],K=>K cs
 | _::cs,0,v::vs,K=>srS cs 0 vs fun l=>K (v::l)
 | [],0,v::vs,K=>K (v::vs)
 | x::cs,o+1,vs,K=>srS cs o vs fun l=>K (x::l)
 | [],_+1,vs,K=>K vs
theorem ug:∀ (cs:List Value) (o:Nat) (vs:List Value) (K:List Value→α),o+vs.length≤cs.length→srS cs o vs K=K (AL cs o vs)
 | cs,0,[],K,h=>by simp[srS,AL]
 | _::cs,0,v::vs,K,h=>by
   rw[srS,ug cs 0 vs _ (by simpa using h)]
   simp[AL,Nat.add_comm]
 | [],0,v::vs,K,h=>by simp at h
 | x::cs,o+1,vs,K,h=>by
   rw[srS,ug cs o vs _ (by simp at h; omega)]
   simp[AL,Nat.add_right_comm]
 | [],_+1,vs,K,h=>by simp at h
noncomputable def HZ (σ:Aa) (b o:Nat) (vs:List Value) (K:Aa→Option ρ):Option ρ:=
 match nth σ b with
 | some (.cells cs T true)=>if o+vs.length≤cs.length then fVs vs fun vs=>srS cs o vs fun cs=>gR σ b (.cells cs T true) K else none
 | _=>none
theorem zB (σ:Aa) (b o:Nat) (vs:List Value) (K:Aa→Option ρ):HZ σ b o vs K=(XJ σ b o vs).bind K:=by
 unfold HZ XJ
 rw[X6]
 rcases σ[b]? with _ | o'
 ·rfl
 ·cases o' with
  | dead=>rfl
  | loop _ _ _=>rfl
  | map es=>rfl
  | cells cs T rw=>
    cases rw with
    | false=>rfl
    | true=>
      by_cases h:o+vs.length≤cs.length
      ·simp only[if_pos h,Option.bind_some,tF,dN,ug _ _ _ _ h]
      ·simp only[if_neg h,Option.bind_none]
noncomputable def Gn (σ:Aa) (b o:Nat) (v:Value) (K:Aa→Option ρ):Option ρ:=
 match nth σ b with
 | some (.cells cs T true)=>if o<cs.length then fV v fun v=>srS cs o [v] fun cs=>gR σ b (.cells cs T true) K else none
 | _=>none
theorem ZO:∀ (cs:List Value) (o:Nat) (v:Value),o<cs.length→AL cs o [v]=cs.set o v
 | [],_,_,h=>by simp at h
 | x::cs,0,v,h=>by simp[AL]
 | x::cs,o+1,v,h=>by
   have:=ZO cs o v (by simpa using h)
   simp only[AL,List.length_cons,List.length_nil] at this ⊢
   simp[← this]
theorem Ahf (σ:Aa) (b o:Nat) (v:Value) (K:Aa→Option ρ):Gn σ b o v K=(K3 σ b o v).bind K:=by
 unfold Gn K3
 rw[X6]
 rcases σ[b]? with _ | o'
 ·rfl
 ·cases o' with
  | dead=>rfl
  | loop _ _ _=>rfl
  | map es=>rfl
  | cells cs T rw=>
    cases rw with
    | false=>rfl
    | true=>
      by_cases h:o<cs.length
      ·have h':o+[v].length≤cs.length:=by simp; omega
       simp only[if_pos h,Option.bind_some,vm,dN,ug _ _ _ _ h',ZO _ _ _ h]
      ·simp only[if_neg h,Option.bind_none]
noncomputable def CJ (E s by_:Nat) (dst src:Ce) (σ:Aa) (K:Ce × Aa→Option ρ):Option ρ:=
 (mZ σ s src.1 src.2.1).bind fun new=>fN (dst.2.1+src.2.1) fun m=>
 if m≤dst.2.2 then
  bif Is dst.1 then (if m=0 then K ((dst.1,0,0),σ) else none)
  else dst.1.bind fun a=>HZ σ a.block (a.off+dst.2.1*s) new fun σ'=>K ((some a,m,dst.2.2),σ')
 else if QG m by_∧0<by_ then
  bif Is dst.1 then (if dst.2.1=0 then fVs new fun new=>ap2 σ 0 (.cells new E true) fun h σ'=>fN h fun h=>K ((some ⟨h,0,none⟩,src.2.1,src.2.1),σ') else none)
  else dst.1.bind fun a=>match nth σ a.block with
   | some (.cells vs T rw)=>if T=E then (if a.off+dst.2.1*s≤vs.length then some ((vs.drop a.off).take (dst.2.1*s)) else none).bind fun SB=>
     bif rw then fVs (SB++new) fun cs=>Ad0 σ 0 a.block (.cells cs E true) fun h σ'=>fN h fun h=>K ((some ⟨h,0,none⟩,m,m),σ')
     else none else none
   | _=>none
 else none
theorem RD {P:Program} {E s by_:Nat} {z:Value} {dst src:Ce} {σ:Aa} {K:Ce × Aa→Option ρ} (hs:IW P E=some s) (hb:bytesOf P E=some by_) (hz:FT P E=some z) (h1:Hb z=false) (h2:s=z.cells.size) (h3:0<z.cells.size):
  CJ E s by_ dst src σ K=(B9 P E dst src σ).bind K:=by
 obtain ⟨da,dl,dc⟩:=dst
 obtain ⟨sa,sl,sc⟩:=src
 simp only[CJ,B9,Qf,oL,X6,elemAt,ZA,Jg,hs,hb,hz,Option.bind_some,iK,tF,tp,vw,zB,Nat.zero_add]
 cases Ds σ s sa sl with
 | none=>rfl
 | some new=>
   simp only[Option.bind_some]
   have hq:(¬ (Hb z=false∧some s=some z.cells.size∧0<z.cells.size))=False:=by simp[h1,h2,h3]
   simp only[hq,if_false]
   split
   ·cases Is da with
    | true=>simp only[cond_true]; split <;> rfl
    | false=>
      cases da with
      | none=>rfl
      | some a=>simp only[cond_false,Option.bind_some]; cases XJ σ a.block (a.off+dl*s) new <;> rfl
   ·split
    ·cases Is da with
     | true=>simp only[cond_true]; split <;> rfl
     | false=>
       cases da with
       | none=>rfl
       | some a=>
         simp only[cond_false,Option.bind_some]
         rcases σ[a.block]? with _ | o
         ·rfl
         ·cases o with
          | cells vs T rw=>
            by_cases hT:T=E
            ·subst hT
             simp only[if_true]
             by_cases hl:a.off+dl*s≤vs.length
             ·simp only[if_pos hl,Option.bind_some]
              cases rw <;> rfl
             ·simp only[if_neg hl,Option.bind_none]
            ·have hT':¬ (some T=some E):=fun h=>hT (by cases h; rfl)
             simp only[if_neg hT,if_neg hT',Option.bind_none]
          | map es=>rfl
          | loop _ _ _=>rfl
          | dead=>rfl
    ·rfl
def Ai (n:Int):Int:=match n with
 | .ofNat m=>bif Nat.ble m 9223372036854775807 then .ofNat m else Cf (.ofNat m)
 | .negSucc m=>Cf (.negSucc m)
theorem Ahp (n:Int):Ai n=Cf n:=by
 unfold Ai
 split
 ·rename_i m
  cases hb:Nat.ble m 9223372036854775807 with
  | false=>rfl
  | true=>
    have:=Nat.le_of_ble_eq_true hb
    simp only[cond_true,Cf,IntKind.wrap_i64,Int.ofNat_eq_natCast]
    omega
 ·rfl
def fR (r:Ce × Aa) (K:Ce × Aa→Option ρ):Option ρ:=match r with
 | (s,σ)=>fS s fun s=>Aau σ fun σ=>K (s,σ)
theorem Akm (r:Ce × Aa) (K:Ce × Aa→Option ρ):fR r K=K r:=by
 obtain ⟨s,σ⟩:=r
 simp[fR,Ah3,tD]
def zy (σ:Aa) (r:Nat) (es:List (Int × Value)) (K:Aa→Option ρ):Option ρ:=fEs es fun es=>gR σ r (.map es) K
theorem Ae6 (σ:Aa) (r:Nat) (es:List (Int × Value)) (K:Aa→Option ρ):zy σ r es K=K (List.set σ r (.map es)):=by simp[zy,xv,dN]
def fMm:Aa→(Aa→α)→α
 | [],K=>K []
 | x::xs,K=>Adw x fun x=>fMm xs fun l=>K (x::l)
theorem Adv:∀ (σ:Aa) (K:Aa→α),fMm σ K=K σ
 | [],_=>rfl
 | x::xs,K=>by simp[fMm,tE,Adv xs]
theorem Ad {α:Type}:
  (∀ (n:Int) (K:Int→α),fI n K=K n) ∧
  (∀ (n:Nat) (K:Nat→α),fN n K=K n) ∧
  (∀ (b:Bool) (K:Bool→α),fB b K=K b) ∧
  (∀ (a:Option Addr) (K:Option Addr→α),fP a K=K a) ∧
  (∀ (a:Addr) (K:Addr→α),fA a K=K a) ∧
  (∀ (x:Option Addr × Nat × Nat) (K:Option Addr × Nat × Nat→α),fS x K=K x) ∧
  (∀ (a:Option Nat) (K:Option Nat→α),fO a K=K a) ∧
  (∀ (v:Value) (K:Value→α),fV v K=K v) ∧
  (∀ (σ:Aa) (K:Aa→α),fL σ K=K σ) ∧
  (∀ (σ:Aa) (K:Aa→α),Aau σ K=K σ) ∧
  (∀ (σ:Aa) (K:Aa→α),fMm σ K=K σ):=
 ⟨Adu,iK,Ah1,Adx,Ah0,Ah3,Ah2,vm,Akl,tD,Adv⟩
theorem Af {ρ:Type}:
  (∀ (r:Ce × Aa) (K:Ce × Aa→Option ρ),fR r K=K r) ∧
  (∀ (σ:Aa) (o:A6) (K:Nat→Aa→Option ρ),Aq σ o K=AM σ o K) ∧
  (∀ (σ:Aa) (b o:Nat) (vs:List Value) (K:Aa→Option ρ),HZ σ b o vs K=(XJ σ b o vs).bind K) ∧
  (∀ (σ:Aa) (b o:Nat) (v:Value) (K:Aa→Option ρ),Gn σ b o v K=(K3 σ b o v).bind K) ∧
  (∀ (σ:Aa) (r:Nat) (es:List (Int × Value)) (K:Aa→Option ρ),zy σ r es K=K (List.set σ r (.map es))) ∧
  (∀ (h:Nat) (σ:Aa) (K:Dh→Aa→Option ρ),iH h σ K=VD h σ K) ∧
  (∀ (h:Nat) (σ:Aa) (SB new:LSt) (K:FuncId→AZ→Aa→Option ρ),dg h σ SB new K=Ni h σ SB new K):=
 ⟨Akm,Aab,zB,Ahf,Ae6,vj,w7⟩
theorem Ae:
  (∀ (n:Int),Ai n=Cf n) ∧
  (∀ (k:IntKind) (σ:Aa) (b o:Nat),Ah k σ b o=Dg k σ b o) ∧
  (∀ (σ:Aa) (b o:Nat),mM σ b o=lO σ b o) ∧
  (∀ (σ:Aa) (b o:Nat),xP σ b o=rS σ b o) ∧
  (∀ (σ:Aa) (b o:Nat),B7 σ b o=L8 σ b o) ∧
  (∀ (σ:Aa) (b o:Nat),AH σ b o=Hx σ b o) ∧
  (∀ (σ:Aa) (b o:Nat),Aec σ b o=ldM σ b o) ∧
  (∀ (σ:Aa) (b o:Nat),qJ σ b o=Gi σ b o) ∧
  (∀ (σ:Aa) (b o n:Nat),cA σ b o n=ZA σ b o n) ∧
  (∀ (σ:Aa) (r:Option Nat),zl σ r=qK σ r) ∧
  (∀ (σ:Aa) (r:Nat),oX σ r=Yt σ r) ∧
  (∀ (σ:Aa) (s:Nat) (x:Option Addr) (n:Nat),mZ σ s x n=Ds σ s x n) ∧
  (∀ (k:IntKind) (v:Value),AO k v=Ml k v):=
 ⟨Ahp,Agt,Ags,Aa7,Agv,Agw,Agu,Z9,zm,Aeb,rR,oL,zD⟩
end Go.AX
end
