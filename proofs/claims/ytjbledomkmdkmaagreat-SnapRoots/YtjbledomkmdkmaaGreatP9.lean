/- Functions: the executor is sound.; Words in which the printed functions are written.; The same words, that leave nothing unevaluated behind: for runs  -/
import Derived.RangeFuncLeaves
import Derived.Test.YtjbledomkmdkmaaGreatP8
set_option linter.unusedVariables false
set_option linter.unusedSimpArgs false
set_option linter.unusedSectionVars false
namespace Go.AX
open Go
noncomputable section
section
variable {ρ:Type} {P:Program} [AA]
def je (tmps:Array Value) (r:ResultVar):Sem Value:=
 match r with
 | .tmp t=>pure (tmps.getD t undef)
 | .cell a t=>do loadVar t (<- asAddr (tmps.getD a undef))
theorem fY {Z:Mu} {J:Aa} {w:World} {regs:Bc} {tmps:Array Value} (hR:R P Z J w) (hreg:Kx Z regs tmps) {r:ResultVar} {v:Value} (h:cK P regs J r=some v):
  ∃ v',RV Z v v'/\(je tmps r).run P w = .ok v' w:=by
 cases r with
 | tmp t=>
   simp only[cK] at h;obtain ⟨v',h1,h2⟩:=hreg.2 t v h;refine ⟨v',h2, ?_⟩;simp[je,Abb,h1]
 | cell t T=>
   simp only[cK,IS] at h;obtain ⟨u,hu,h⟩:=h;obtain ⟨u',h1,h2⟩:=hreg.2 t u hu;split at h
   ·rename_i a;obtain ⟨k,hk,hv⟩:=Z0 h2;have hget:tmps.getD t undef = .pointer (some ⟨k.b,k.o+a.off,none⟩):=by simp[Abb,h1,hv]
    cases hb:JQ P T with
    | true=>
      rw[hb] at h;simp only[IT,IS] at h;obtain ⟨s,hs,vs,hvs,h⟩:=h;cases h;obtain ⟨hl,hld⟩:=Lt hvs;obtain ⟨vs',hr,hrun,hleaf⟩:=JB hR hk hl hld;obtain ⟨d,hd⟩:∃ d,P.underlying T=some d:=by
       unfold JQ at hb; cases hq:P.underlying T with
       | none=>simp[hq] at hb
       | some d=>exact ⟨d,rfl⟩
      refine ⟨.agg vs'.toArray,.agg (by simpa using hr) (by simpa using hleaf), ?_⟩;simp only[je,hget,asAddr,za,zf,y9,loadVar,KP hd,hb,ye,run_sizeOf hs,hrun]
    | false=>
      rw[hb] at h;simp only[By,IS] at h;obtain ⟨d,hd,h⟩:=h;obtain ⟨v',hc,hr,_⟩:=cell_of hR h hk;refine ⟨v',hr, ?_⟩;simp only[je,hget,asAddr,za,zf,y9,loadVar,KP hd,hb,y8,yq,run_load,hc]
   ·cases h
theorem WZ {Z:Mu} {J:Aa} {w:World} {regs:Bc} {tmps:Array Value} (hR:R P Z J w) (hreg:Kx Z regs tmps):∀ {rs:List ResultVar} {vs:List Value},Wm P regs J rs=some vs ->
  ∃ vs',It Z vs vs'/\(rs.mapM (je tmps)).run P w = .ok vs' w
 | [],vs,h=>by simp[Wm] at h; subst h; exact ⟨[],.nil,by simp⟩
 | r::rs,vs,h=>by
   simp only[Wm,IS] at h;obtain ⟨v,hv,us,hus,h⟩:=h;cases h;obtain ⟨v',h1,h2⟩:=fY hR hreg hv;obtain ⟨us',g1,g2⟩:=WZ hR hreg hus;refine ⟨v'::us',.cons h1 g1, ?_⟩;simp only[List.mapM_cons,za,h2,y9,g2,zf]
theorem eD {Z:Mu} {J J':Aa} {w:World} {regs:Bc} {tmps:Array Value} {F:Func} {x:Cc} {v:Value} (hR:R P Z J w) (hreg:Kx Z regs tmps) (h:fin P F x regs J=some (v,J')):
  J'=J/\(x = .normal\/x = .ret) /\ ∃ v',RV Z v v'/\(results F tmps).run P w = .ok v' w:=by
 have main:(Wm P regs J F.results.toList).bind (fun vs=>some (KR vs,J))=some (v,J')->J'=J /\ ∃ v',RV Z v v'/\(results F tmps).run P w = .ok v' w:=by
  intro h;simp only[IS] at h;obtain ⟨vs,hvs,h⟩:=h;cases h;refine ⟨rfl, ?_⟩;obtain ⟨vs',h1,h2⟩:=WZ hR hreg hvs;have hrun:(F.results.mapM (je tmps)).run P w = .ok vs'.toArray w:=by
   rw[Array.mapM_eq_mapM_toList];simp only[Sem.run_map,h2,y9]
  have hres:results F tmps=(do
    let vs <- F.results.mapM (je tmps)
    pure (if h:vs.size=1 then vs[0] else .tuple vs)):=rfl;rw[hres];simp only[za,hrun,y9,zf];cases h1 with
  | nil=>exact ⟨_,.tuple .nil,rfl⟩
  | cons h1 t=>
    cases t with
    | nil=>exact ⟨_,h1,rfl⟩
    | cons h3 t=>exact ⟨_,.tuple (.cons h1 (.cons h3 t)),rfl⟩
 unfold fin at h;cases x with
 | exit id=>cases h
 | normal=>obtain ⟨h1,h2⟩:=main h; exact ⟨h1,.inl rfl,h2⟩
 | ret=>obtain ⟨h1,h2⟩:=main h; exact ⟨h1,.inr rfl,h2⟩
theorem jU {J J':Aa} {regs:Bc} {F:Func} {x:Cc} {v:Value} (h:fin P F x regs J=some (v,J')):J'=J:=by
 unfold fin at h;cases x <;> simp only at h
 ·simp only[IS] at h; obtain ⟨_,_,h⟩:=h; cases h; rfl
 ·cases h
 ·simp only[IS] at h; obtain ⟨_,_,h⟩:=h; cases h; rfl
def th (P:Program) (X:Ext):Prop:=∀ f g,X f=some g->TP P (fun f' args J=>if f'=f then g args J else none)
theorem nh {Z:Mu} {args:List Value} {cargs:Array Value} (h:It Z args cargs.toList) (n:Nat):Kx Z (args.map some++List.replicate (n-args.length) (some undef)) (cargs++Array.replicate (n-cargs.size) undef):=by
 have hl:=h.length;simp only[zN] at hl;refine ⟨by simp; omega,fun t v hv=>?_⟩;rw[yd] at hv;by_cases ht:t<args.length
 ·rw[AT (by simpa using ht),zG,yg ht] at hv;simp at hv;subst hv;obtain ⟨v',h1,h2⟩:=h.get t _ (yg ht);refine ⟨v', ?_,h2⟩;rw[Array.getElem?_append_left (by omega)];simpa using h1
 ·rw[yD (by simp; omega)] at hv;simp only[zI,zM] at hv;split at hv
  ·simp at hv; subst hv;refine ⟨undef, ?_,Pv⟩;rw[Array.getElem?_append_right (by omega)];simp only[Array.getElem?_replicate];rw[yk (by omega)]
  ·cases hv
theorem R.off {Z:Mu} {J:Aa} {w:World} (h:R P Z J w) {b:Nat} (hb:∀ h k,Z h=some k->k.b≠b) (x:Obj):R P Z J (w.putObj b x):=
 ⟨fun i o k ho hk=>by rw[World.putObj_heap_other (hb i k hk)]; exact h.obj i o k ho hk,fun i k hk=>by rw[World.putObj_size]; exact h.lt i k hk,h.inj⟩
theorem Step.off {Z0_ Z:Mu} {J0_ J:Aa} {w0 w:World} (h:Step Z0_ J0_ w0 Z J w) {b:Nat} (hb:w0.heap.size<=b) (x:Obj):Step Z0_ J0_ w0 Z J (w.putObj b x):=
 ⟨h.len,h.mu,h.wr,h.new,by rw[World.putObj_size]; exact h.size,h.tape,h.os,h.output,fun i hi hn=>by rw[World.putObj_heap_other (by omega)]; exact h.frame i hi hn⟩
theorem Va {F:Fence} {n:Nat} {fd:Func} {tmps:Array Value} {Q:Ending->World->Prop} {Z0_ Z:Mu} {J0_ J:Aa} {w0:World} (hQ:∀ w,R P Z J w->Step Z0_ J0_ w0 Z J w->LeavesIn F n P fd tmps Q [] .returning w):
  ∀ (ds:List Deferred) (w:World),NT w0.heap.size Z w ds->R P Z J w->Step Z0_ J0_ w0 Z J w->LeavesInM F n P fd tmps Q ds .returning w
 | [],w,_,hR,hS=>hQ w hR hS
 | d::ds,w,hm,hR,hS=>by
   obtain ⟨b,rfl,h1,h2,h3,h4⟩:=hm.1 d (by simp);have hnd:=Aa9.1 hm.2;refine ⟨fun hq=>(by cases hq),.inl ⟨b,_,rfl,run_takeDeferred h3, ?_⟩⟩;refine Va hQ ds _ ⟨fun d hd=>?_,hnd.2⟩ (hR.off h4 _) (hS.off h1 _);obtain ⟨b',hb,g1,g2,g3,g4⟩:=hm.1 d (by simp[hd]);refine ⟨b',hb,g1,by rw[World.putObj_size]; exact g2, ?_,g4⟩;rw[World.putObj_heap_other]
   ·exact g3
   ·rintro rfl; rw[hb] at hd; exact hnd.1 hd
theorem Lw {h:Nat} {J:Aa} {L5 new:ti} {K:FuncId->Bc->Aa->Option ρ} {r:ρ} (hh:Jo h J L5 new K=some r):
  ∃ f regs,J[h]?=some (.loop f L5 regs)/\K f regs (J.set h (.loop f new regs))=some r:=by
 unfold Jo at hh;split at hh
 ·rename_i hs;split at hh
  ·rename_i he; subst he; exact ⟨_,_,hs,hh⟩
  ·cases hh
 ·cases hh
theorem Zr {Z:Mu}:∀ {ts:List Tmp} {vs vs':List Value} {regs:Bc} {tmps:Array Value},It Z vs vs'->Kx Z regs tmps ->
  Kx Z (Z3 ts vs regs) ((ts.zip vs').foldl (fun tmps (x:Tmp × Value)=>tmps.setIfInBounds x.1 x.2) tmps)
 | [],_,_,_,_,_,hr=>by simpa [Z3] using hr
 | _::_,_,_,_,_,.nil,hr=>by simpa [Z3] using hr
 | t::ts,_,_,regs,tmps,.cons (v:=v) (v':=v') h1 h2,hr=>by
   simp only[Z3,List.zip_cons_cons,zF];refine Zr h2 ?_;have:=Kx.put (a:={ tmps:=tmps,defers:=[] }) hr (some t) h1;simpa [Jz,Act.put] using this
theorem ji {l:Nat} {Q:Ending->World->Prop} {e:Exit} {a:Act} {w:World} {y:Cc} (he:UD y e) (h:∃ v w',(Instr.endRound l (Uq y)).run P w = .ok v w'/\Q (.returned v) w'):roundPost P l Q e a w:=by
 cases he <;> exact h
theorem nr (hmix:P.follows .mixedOrders=true) {call:Gc} (hcall:TP P call) {H:FuncId->Hints} {n:Nat} {args:List Value} {J:Aa} {v:Value} {J':Aa} (h:cN P call H n args J=some (v,J')):
  J.length<=J'.length/\jI P args J v J':=by
 unfold cN at h;split at h;rotate_left
 ·cases h
 rename_i a vs;obtain ⟨f,regs,hs,h⟩:=Lw h;obtain ⟨F,hF,h⟩:=IS.1 h;obtain ⟨c,hc,h⟩:=IS.1 h;obtain ⟨x,hx,h⟩:=IS.1 h;split at h;rotate_left
 ·cases h
 rename_i hone;have hin:=gB hx;have leaf:∀ z J3_,Ps a.block z J3_=some (v,J')->J3_.length<=J'.length /\
   ∃ f3 regs4,J3_[a.block]?=some (.loop f3 .busy regs4)/\v = .bool (Uq z).isNone/\J'=J3_.set a.block (.loop f3 (if (Uq z).isNone then .ready else .done z) regs4):=by
  intro z J3_ hz;cases z with
  | normal=>simp only[Ps] at hz; obtain ⟨f3,regs4,hs3,hz⟩:=Lw hz; cases hz; exact ⟨by simp,f3,regs4,hs3,rfl,rfl⟩
  | exit id=>simp only[Ps] at hz; obtain ⟨f3,regs4,hs3,hz⟩:=Lw hz; cases hz; exact ⟨by simp,f3,regs4,hs3,rfl,rfl⟩
  | ret=>simp only[Ps] at hz; obtain ⟨f3,regs4,hs3,hz⟩:=Lw hz; cases hz; exact ⟨by simp,f3,regs4,hs3,rfl,rfl⟩
 have body:∀ (y:Cc) (regs1:Bc) (J1_:Aa),Sj P call f (H f) n a.block x.2.2 y regs1 J1_=some (v,J')->y = .normal /\
   ∃ f1 regs0,J1_[a.block]?=some (.loop f1 .ready regs0)/\J1_.length<=J'.length /\ ∀ ro,V7 ro 0 P x.2.2 regs1 (J1_.set a.block (.loop f1 .busy regs0)) (fun z _ J3_=>Ps a.block z J3_) (v,J'):=by
  intro y regs1 J1_ hb;cases y with
  | exit id=>cases hb
  | ret=>cases hb
  | normal=>
  simp only[Sj] at hb;obtain ⟨f1,regs0,hs1,hb⟩:=Lw hb;have ok:=fun ro=>cg (ro:=ro) (nn:=0) hmix hcall (fid:=f) x.2.2 (Rg.zero (by omega)) hb;obtain ⟨⟨z,r3,J3_,hk,hl⟩,_⟩:=ok none;have:=(leaf z J3_ hk).1;exact ⟨rfl,f1,regs0,hs1,by simp at hl; omega,ok⟩
 have asg:=fun ro=>cg (ro:=ro) (nn:=0) hmix hcall (fid:=f) x.2.1 (Rg.zero (by omega)) h;have hK:∀ (y:Cc) (regs1:Bc) (J1_:Aa),Sj P call f (H f) n a.block x.2.2 y regs1 J1_=some (v,J')->J1_.length<=J'.length:=fun y regs1 J1_ hy=>let ⟨_,_,_,_,hl,_⟩:=body y regs1 J1_ hy; hl;refine ⟨?_,a,vs,rfl,fun Z w k cargs hR hfr hk hargs=>?_⟩
 ·obtain ⟨⟨y,r1,J1_,hk,hl⟩,_⟩:=asg none;exact zj hl (hK y r1 J1_ hk)
 obtain ⟨r,hr,⟨F',c',hF',hc',hth⟩,hreg,hst⟩:=hR.obj _ _ _ hs hk;rw[hF] at hF'; cases hF';rw[hc] at hc'; cases hc';rw[hx] at hth; cases hth;have hsz:cargs.size=r.params.size:=by
  have:=hargs.length;simp only[zN] at this;have h2:=hone.2;simp only[zN] at h2;omega
 refine ⟨_,_,_,_,run_yield hr hsz,fun ro nn=>?_⟩;have htm:(r.params.zip cargs).foldl (fun tmps (x:Tmp × Value)=>tmps.setIfInBounds x.1 x.2) r.tmps=(r.params.toList.zip cargs.toList).foldl (fun tmps (x:Tmp × Value)=>tmps.setIfInBounds x.1 x.2) r.tmps:=by
  rw[<- Array.foldl_toList,Array.toList_zip]
 have hfin:RoundIn (FW none) 0 P k.b r.fn ((r.params.zip cargs).foldl (fun tmps (x:Tmp × Value)=>tmps.setIfInBounds x.1 x.2) r.tmps) r.assign r.body w (rJ P Z J w v J'):=by
  rw[htm];refine roundIn_of_wpIn trivial ?_;have hwp:=(asg (some k.b)).2 J'.length hK 0 { tmps:=(r.params.toList.zip cargs.toList).foldl (fun tmps (x:Tmp × Value)=>tmps.setIfInBounds x.1 x.2) r.tmps,defers:=[] } Z w (zh _) hR hfr (Zr hargs hreg) (NT.nil _ _ _);refine Abn hwp ?_;rintro e a1 w1 ⟨y,regs1,J1_,Z1_,hy,hq,g1,g2,g3,g4,g5,g6⟩;obtain ⟨rfl,f1,regs0,hs1,hl1,hok⟩:=body _ _ _ hq;cases hy;have hk1:Z1_ a.block=some k:=by
   have hlt:a.block<J.length:=(yu.1 hs).1;rw[g2.mu _ (.inl hlt)]; exact hk
  obtain ⟨r1,hr1,hl1',hreg1,hst1⟩:=g1.obj _ _ _ hs1 hk1;obtain ⟨hR2,hS2⟩:=g1.record hk1 hs1 (o:=.loop f1 .busy regs0) (x:=.loop { r1 with state:=.busy }) ⟨_,rfl,hl1',hreg1,rfl⟩;have hfr2:GL Z1_ (J1_.set a.block (.loop f1 .busy regs0)).length J'.length:=by rw[yZ]; exact hfr.step g2
  refine ⟨_,run_beginRound hr1 hst1.1, ?_⟩;refine Abn ((hok (some k.b)).2 J'.length (fun z r3 J3_ hz=>(leaf z J3_ hz).1) 0 a1 Z1_ _ (zh _) hR2 hfr2 g3 (g4.step hS2)) ?_;rintro e a3 w3 ⟨z,regs3,J3_,Z3_,hz,hq3,k1,k2,k3,k4,k5,k6⟩;obtain ⟨_,f3,regs4,hs3,rfl,rfl⟩:=leaf z J3_ hq3;have hk3:Z3_ a.block=some k:=by
   have hlt:a.block<(J1_.set a.block (.loop f1 .busy regs0)).length:=by rw[yZ]; exact (yu.1 hs1).1
   rw[k2.mu _ (.inl hlt)]; exact hk1
  obtain ⟨r3,hr3,hl3,hreg3,hst3⟩:=k1.obj _ _ _ hs3 hk3;refine ji hz ⟨_,_,run_endRound _ hr3, ?_⟩;obtain ⟨hR4,hS4⟩:=k1.record hk3 hs3 (o:=.loop f3 (if (Uq z).isNone then .ready else .done z) regs4) (x:=.loop { r3 with state:=if (Uq z).isNone then .ready else .done,pending:=Uq z }) ⟨_,rfl,hl3,hreg3,by
   cases z <;> exact ⟨rfl,rfl⟩⟩;exact ⟨Z3_,_,rfl,.bool _,hR4,((g2.trans hS2).trans k2).trans hS4⟩
 exact ⟨trivial,fun c cs _=>hfin.2 c cs (room_wide _)⟩
theorem tv (hmix:P.follows .mixedOrders=true) {X:Ext} (hX:th P X) (hXa:bO X) {H:FuncId->Hints}:∀ k,TP P (fn P X H k)
 | 0=>⟨fun f args J v J' _ h=>(by cases h),fun args J v J' h=>(by cases h)⟩
 | k+1=>by
   have ih:=tv hmix hX hXa (H:=H) k;refine ⟨?_, ?_⟩
   ·intro f args J v J' hny h;have hcalm:dR P f=true->J <+: J':=fun hf=>jV hXa 6 (k+1) f args J v J' hf h;simp only[fn] at h;split at h
    ·rename_i g hg;have:=(hX f g hg).fn f args J v J' hny (by simp only[ye]; exact h);exact this
    ·rename_i hXn;have hb0:Nat.beq f YF=false:=by
      cases hb:Nat.beq f YF with
      | true=>exact absurd (Nat.eq_of_beq_eq_true hb) hny
      | false=>rfl
     rw[hb0,By] at h;split at h
     ·cases h
     ·rename_i F hF;split at h
      ·cases h
      ·rename_i c hb;split at h
       ·cases h
       ·rename_i hname;have hrg:Rg P none f c:=by
         cases hth:Ch c with
         | none=>exact ⟨default,Nc hth,fun hn=>by
           exfalso;exact absurd hth (by
            intro hq;exact hn (by
             have:ranges c=0:=fT hq;exact this))⟩
         | some x=>exact ⟨x,qm (by omega) hth,fun _=>⟨rfl,F,c,hF,hb,hth⟩⟩
        obtain ⟨⟨x,regs',J1_,hK,hl⟩,hwp⟩:=cg (ro:=none) (nn:=0) hmix ih c hrg h;have hs:=jU hK;subst hs;refine ⟨hl,hcalm,⟨F,hF,by rw[hb]; rfl,by simp only[Acr] at hname; simpa using hname.1⟩,fun Z w cargs hR hfr hargs=>?_⟩;refine callsIn_wide.1 (callsIn_of_wp_marks (n:=0) hF hb trivial ?_);have hinit:=nh hargs F.ntmps;refine Abn (hwp J'.length (fun x regs J2_ hq=>by rw[jU hq]; exact yj _) w.heap.size { tmps:=cargs++Array.replicate (F.ntmps-cargs.size) undef,defers:=[] } Z w (yj _) hR hfr hinit (NT.nil _ _ _)) ?_;rintro e a' w' ⟨x',regs2,J2_,Z',hx,hq,g1,g2,g3,g4,g5,g6⟩;obtain ⟨h1,h2,v',h3,h4⟩:=eD g1 g3 hq;subst h1;have post:LeavesInM Fence.wide 0 P F a'.tmps (rJ P Z J w v J') a'.defers .returning w':=
         Va (fun w2 hR2 hS2=>by
          obtain ⟨_,_,v2,q1,q2⟩:=eD hR2 g3 hq;exact ⟨v2,q2,Z',v2,rfl,q1,hR2,hS2⟩) _ _ g4 g1 g2;rcases h2 with rfl | rfl
        ·cases hx; exact post
        ·cases hx; exact post
   ·intro args J v J' h;simp only[fn] at h;split at h
    ·rename_i g hg;exact (hX YF g hg).yld args J v J' (by simp only[ye]; exact h)
    ·rw[show Nat.beq YF YF=true from rfl,IT] at h;exact nr hmix ih h
end
section
variable {ρ:Type}
abbrev Ar (n:Int):Int:=IntKind.i64.wrap n
abbrev u64 (n:Int):Int:=IntKind.u64.wrap n
def Ae (J:Aa) (o:Au) (K:Nat->Aa->Option ρ):Option ρ:=K J.length (J++[o])
def bY (args:List Value) (J:Aa):Option (Value × Aa):=
 match args with
 | [.map none]=>some (.map none,J)
 | [.map (some r)]=>(RS J r).bind fun es=>some (.map (some J.length),J++[.map es])
 | _=>none
theorem ga [AA] {P:Program} {X:Ext} {H:FuncId->Hints} {k h:Nat} {f:FuncId} {regs:Bc} {vs:List Value} {J:Aa} {F:Func} {c:Code} {x:Array Tmp × Code × Code} (hs:J[h]?=some (.loop f .ready regs)) (hX:X YF=none)
  (hF:P.funcs[f]?=some F) (hc:F.body=some c) (hx:Ch c=some x) (hr:ranges c=1) (hl:vs.length=x.1.toList.length):
  Lc P (fn P X H (k+1)) (.func (.yield h) #[] #[]) vs J =
   exec P (fn P X H k) f (H f) k x.2.1 (Value × Aa) (Z3 x.1.toList vs regs) J fun y r s=>Sj P (fn P X H k) f (H f) k h x.2.2 y r s:=by
 simp only[Lc,fn,hX];rw[show Nat.beq YF YF=true from rfl,IT];simp only[cN,Jo,hs,ye,hF,hc,hx,AI,hr,hl,Abg]
def Ev {β:Type} (g:Nat->Nat->Option β) (Q:β->Prop):Prop:=∃ k0 n0 r,Q r /\ ∀ k n,k0<=k->n0<=n->g k n=some r
theorem Ev.mono {β:Type} {g:Nat->Nat->Option β} {Q Q':β->Prop} (h:Ev g Q) (hq:∀ r,Q r->Q' r):Ev g Q':=
 let ⟨k0,n0,r,h1,h2⟩:=h; ⟨k0,n0,r,hq r h1,h2⟩
theorem Ev.pure {β:Type} {r:β} {Q:β->Prop} (h:Q r):Ev (fun _ _=>some r) Q:=⟨0,0,r,h,fun _ _ _ _=>rfl⟩
theorem Ev.bind {β γ:Type} {g:Nat->Nat->Option β} {f:Nat->Nat->β->Option γ} {Q:γ->Prop} {Q1:β->Prop} (h:Ev g Q1) (hf:∀ r,Q1 r->Ev (fun k n=>f k n r) Q):Ev (fun k n=>(g k n).bind (f k n)) Q:=by
 obtain ⟨k0,n0,r,h1,h2⟩:=h;obtain ⟨k1,n1,r',g1,g2⟩:=hf r h1;exact ⟨max k0 k1,max n0 n1,r',g1,fun k n hk hn=>by
  show (g k n).bind (f k n)=some r';rw[h2 k n (by omega) (by omega)]; exact g2 k n (by omega) (by omega)⟩
theorem Ev.call {β:Type} {g:Nat->Option β} {f:Nat->Nat->Option β} {Q:β->Prop} (he:∀ k,g (k+1)=f k k) (h:Ev f Q):Ev (fun k _=>g k) Q:=by
 obtain ⟨k0,n0,r,h1,h2⟩:=h;refine ⟨max k0 n0+1,0,r,h1,fun k n hk _=>?_⟩;obtain ⟨k',rfl⟩:∃ m,k=m+1:=⟨k-1,by omega⟩;show g (k'+1)=some r;rw[he]; exact h2 k' k' (by omega) (by omega)
theorem Ev.round {β:Type} {g f:Nat->Nat->Option β} {Q:β->Prop} (he:∀ k n,g k (n+1)=f k n) (h:Ev f Q):Ev g Q:=by
 obtain ⟨k0,n0,r,h1,h2⟩:=h;refine ⟨k0,n0+1,r,h1,fun k n hk hn=>?_⟩;obtain ⟨n',rfl⟩:∃ m,n=m+1:=⟨n-1,by omega⟩;rw[he]; exact h2 k n' hk (by omega)
def cL:Code->Code | .seq a _=>a | c=>c
def cR:Code->Code | .seq _ b=>b | c=>c
def cB:Code->Code | .block _ b=>b | .loop b=>b | .scope b=>b | c=>c
def cT:Code->Code | .cond _ a _=>a | c=>c
def cE:Code->Code | .cond _ _ b=>b | c=>c
def Br (f:Func):Code:=f.body.getD .skip
end
section
variable {α:Type}
def fN (n:Nat) (K:Nat->α):α:=Nat.casesOn n (K 0) fun m=>K (Nat.succ m)
def fI (n:Int) (K:Int->α):α:=Int.casesOn n (fun m=>fN m fun m=>K (.ofNat m)) (fun m=>fN m fun m=>K (.negSucc m))
def fB (b:Bool) (K:Bool->α):α:=Bool.casesOn b (K false) (K true)
def fA (a:Addr) (K:Addr->α):α:=match a with
 | ⟨b,o,none⟩=>fN b fun b=>fN o fun o=>K ⟨b,o,none⟩
 | ⟨b,o,some z⟩=>fN b fun b=>fN o fun o=>fN z fun z=>K ⟨b,o,some z⟩
def fP (a:Option Addr) (K:Option Addr->α):α:=match a with
 | none=>K none
 | some a=>fA a fun a=>K (some a)
def fO (m:Option Nat) (K:Option Nat->α):α:=match m with
 | none=>K none
 | some a=>fN a fun a=>K (some a)
def fV (v:Value) (K:Value->α):α:=match v with
 | .int k n=>fI n fun n=>K (.int k n)
 | .bool b=>fB b fun b=>K (.bool b)
 | .pointer a=>fP a fun a=>K (.pointer a)
 | .slice a l c=>fP a fun a=>fN l fun l=>fN c fun c=>K (.slice a l c)
 | .map m=>fO m fun m=>K (.map m)
 | v=>K v
def xn:List Value->(List Value->α)->α
 | [],K=>K []
 | v::vs,K=>fV v fun v=>xn vs fun vs=>K (v::vs)
def xm:List (Int × Value)->(List (Int × Value)->α)->α
 | [],K=>K []
 | e::es,K=>fI e.1 fun i=>fV e.2 fun v=>xm es fun es=>K ((i,v)::es)
def wP:List (Option Value)->(List (Option Value)->α)->α
 | [],K=>K []
 | none::vs,K=>wP vs fun vs=>K (none::vs)
 | some v::vs,K=>fV v fun v=>wP vs fun vs=>K (some v::vs)
def wO (o:Au) (K:Au->α):α:=match o with
 | .cells vs T rw=>xn vs fun vs=>K (.cells vs T rw)
 | .map es=>xm es fun es=>K (.map es)
 | .loop f st regs=>wP regs fun regs=>K (.loop f st regs)
 | .dead=>K .dead
def jl:Aa->Nat->Au->(Aa->α)->α
 | [],_,_,K=>K []
 | _::xs,0,o,K=>K (o::xs)
 | x::xs,i+1,o,K=>jl xs i o fun l=>K (x::l)
variable {ρ:Type}
def xw {α:Type} (J:Aa):Nat->Au->(Nat->Aa->α)->α:=
 List.rec (fun i o K=>K i [o]) (fun x _ ih i o K=>ih (Nat.succ i) o fun h l=>K h (x::l)) J
def Rk (J:Aa) (o:Au) (K:Nat->Aa->Option ρ):Option ρ:=wO o fun o=>xw J 0 o fun h J=>fN h fun h=>K h J
theorem Vp:∀ (cs:List Value) (o:Nat) (v:Value),o<cs.length->AP cs o [v]=cs.set o v
 | [],_,_,h=>by simp at h
 | x::cs,0,v,h=>by simp[AP]
 | x::cs,o+1,v,h=>by
   have:=Vp cs o v (by simpa using h);simp only[AP,ze,zo] at this ⊢;simp[<- this]
end
end
end Go.AX
