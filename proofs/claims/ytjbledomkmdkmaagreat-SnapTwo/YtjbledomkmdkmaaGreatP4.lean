/- Part 4. -/
import Derived.RangeFuncLeaves
import Derived.Test.YtjbledomkmdkmaaGreatP3
set_option linter.unusedVariables false
set_option linter.unusedSimpArgs false
set_option linter.unusedSectionVars false
namespace Go.AX
open Go
noncomputable section
section
variable {ρ:Type} {P:Program} [AJ]
def oC (tmps:Array Value) (r:ResultVar):Sem Value:=
 match r with
 | .tmp t=>pure (tmps.getD t undef)
 | .cell a t=>do loadVar t (<- asAddr (tmps.getD a undef))
theorem lN {Z:Mu} {J:Aa} {w:World} {regs:Bo} {tmps:Array Value} (o:R P Z J w) (c:LO Z regs tmps) {r:ResultVar} {v:Value} (h:iZ P regs J r=some v):
  ∃ f,RV Z v f/\(oC tmps r).run P w = .ok f w:=by
 cases r with
 | tmp t=>
   simp only[iZ] at h;obtain ⟨f,h1,i⟩:=c.2 t v h;refine ⟨f,i, ?_⟩;simp[oC,Af4,h1]
 | cell t T=>
   simp only[iZ,Aai] at h;obtain ⟨u,hu,h⟩:=h;obtain ⟨A,h1,i⟩:=c.2 t u hu;split at h
   ·rename_i a;obtain ⟨k,p,z⟩:=dx i;have b:tmps.getD t undef = .pointer (some ⟨k.b,k.o+a.off,none⟩):=by simp[Af4,h1,z]
    cases hb:Lm P T with
    | true=>
      rw[hb] at h;simp only[IS,Aai] at h;obtain ⟨s,hs,B,m,h⟩:=h;cases h;obtain ⟨x,j⟩:=MJ m;obtain ⟨n,l,g,e⟩:=KU o p x j;obtain ⟨d,hd⟩:∃ d,P.underlying T=some d:=by
       unfold Lm at hb; cases y:P.underlying T with
       | none=>simp[y] at hb
       | some d=>exact ⟨d,rfl⟩
      refine ⟨.agg n.toArray,.agg (by simpa using l) (by simpa using e), ?_⟩;simp only[oC,b,asAddr,Adm,Adq,Acb,loadVar,Mj hd,hb,Aat,run_sizeOf hs,g]
    | false=>
      rw[hb] at h;simp only[By,Aai] at h;obtain ⟨d,hd,h⟩:=h;obtain ⟨f,q,l,_⟩:=cell_of o h p;refine ⟨f,l, ?_⟩;simp only[oC,b,asAddr,Adm,Adq,Acb,loadVar,Mj hd,hb,Ab8,Aa5,run_load,q]
   ·cases h
theorem Z5 {Z:Mu} {J:Aa} {w:World} {regs:Bo} {tmps:Array Value} (f:R P Z J w) (a:LO Z regs tmps):∀ {rs:List ResultVar} {c:List Value},YE P regs J rs=some c ->
  ∃ b,J5 Z c b/\(rs.mapM (oC tmps)).run P w = .ok b w
 | [],c,h=>by simp[YE] at h; subst h; exact ⟨[],.nil,by simp⟩
 | r::rs,c,h=>by
   simp only[YE,Aai] at h;obtain ⟨v,k,us,d,h⟩:=h;cases h;obtain ⟨l,h1,j⟩:=lN f a k;obtain ⟨e,g,i⟩:=Z5 f a d;refine ⟨l::e,.cons h1 g, ?_⟩;simp only[List.mapM_cons,Adm,j,Acb,i,Adq]
theorem kB {Z:Mu} {J J':Aa} {w:World} {regs:Bo} {tmps:Array Value} {F:Func} {x:CA} {v:Value} (k:R P Z J w) (c:LO Z regs tmps) (h:fin P F x regs J=some (v,J')):
  J'=J/\(x = .normal\/x = .ret) /\ ∃ f,RV Z v f/\(results F tmps).run P w = .ok f w:=by
 have main:(YE P regs J F.results.toList).bind (fun a=>some (Lh a,J))=some (v,J')->J'=J /\ ∃ f,RV Z v f/\(results F tmps).run P w = .ok f w:=by
  intro h;simp only[Aai] at h;obtain ⟨a,g,h⟩:=h;cases h;refine ⟨rfl, ?_⟩;obtain ⟨i,h1,b⟩:=Z5 k c g;have e:(F.results.mapM (oC tmps)).run P w = .ok i.toArray w:=by
   rw[Array.mapM_eq_mapM_toList];simp only[Sem.run_map,b,Acb]
  have d:results F tmps=(do
    let a <- F.results.mapM (oC tmps)
    pure (if h:a.size=1 then a[0] else .tuple a)):=rfl;rw[d];simp only[Adm,e,Acb,Adq];cases h1 with
  | nil=>exact ⟨_,.tuple .nil,rfl⟩
  | cons h1 t=>
    cases t with
    | nil=>exact ⟨_,h1,rfl⟩
    | cons j t=>exact ⟨_,.tuple (.cons h1 (.cons j t)),rfl⟩
 unfold fin at h;cases x with
 | exit id=>cases h
 | normal=>obtain ⟨h1,b⟩:=main h; exact ⟨h1,.inl rfl,b⟩
 | ret=>obtain ⟨h1,b⟩:=main h; exact ⟨h1,.inr rfl,b⟩
theorem pG {J J':Aa} {regs:Bo} {F:Func} {x:CA} {v:Value} (h:fin P F x regs J=some (v,J')):J'=J:=by
 unfold fin at h;cases x <;> simp only at h
 ·simp only[Aai] at h; obtain ⟨_,_,h⟩:=h; cases h; rfl
 ·cases h
 ·simp only[Aai] at h; obtain ⟨_,_,h⟩:=h; cases h; rfl
def yv (P:Program) (X:Ext):Prop:=∀ f g,X f=some g->VQ P (fun a args J=>if a=f then g args J else none)
theorem ta {Z:Mu} {args:List Value} {a:Array Value} (h:J5 Z args a.toList) (n:Nat):LO Z (args.map some++List.replicate (n-args.length) (some undef)) (a++Array.replicate (n-a.size) undef):=by
 have e:=h.length;simp only[Aen] at e;refine ⟨by simp; omega,fun t v b=>?_⟩;rw[Aax] at b;by_cases c:t<args.length
 ·rw[AT (by simpa using c),Aeg,Aau c] at b;simp at b;subst b;obtain ⟨f,h1,d⟩:=h.get t _ (Aau c);refine ⟨f, ?_,d⟩;rw[Array.getElem?_append_left (by omega)];simpa using h1
 ·rw[Acf (by simp; omega)] at b;simp only[Aeo,Aem] at b;split at b
  ·simp at b; subst b;refine ⟨undef, ?_,Ri⟩;rw[Array.getElem?_append_right (by omega)];simp only[Array.getElem?_replicate];rw[Aay (by omega)]
  ·cases b
theorem R.off {Z:Mu} {J:Aa} {w:World} (h:R P Z J w) {b:Nat} (hb:∀ h k,Z h=some k->k.b≠b) (x:Obj):R P Z J (w.putObj b x):=
 ⟨fun i o k c a=>by rw[World.putObj_heap_other (hb i k a)]; exact h.obj i o k c a,fun i k a=>by rw[World.putObj_size]; exact h.lt i k a,h.inj⟩
theorem Step.off {Z0_ Z:Mu} {J0_ J:Aa} {w0 w:World} (h:Step Z0_ J0_ w0 Z J w) {b:Nat} (hb:w0.heap.size<=b) (x:Obj):Step Z0_ J0_ w0 Z J (w.putObj b x):=
 ⟨h.len,h.mu,h.wr,h.new,by rw[World.putObj_size]; exact h.size,h.tape,h.os,h.output,fun i hi a=>by rw[World.putObj_heap_other (by omega)]; exact h.frame i hi a⟩
theorem Xp {F:Fence} {n:Nat} {fd:Func} {tmps:Array Value} {Q:Ending->World->Prop} {Z0_ Z:Mu} {J0_ J:Aa} {w0:World} (g:∀ w,R P Z J w->Step Z0_ J0_ w0 Z J w->LeavesIn F n P fd tmps Q [] .returning w):
  ∀ (c:List Deferred) (w:World),PB w0.heap.size Z w c->R P Z J w->Step Z0_ J0_ w0 Z J w->LeavesInM F n P fd tmps Q c .returning w
 | [],w,_,e,f=>g w e f
 | d::c,w,hm,e,f=>by
   obtain ⟨b,rfl,h1,q,m,o⟩:=hm.1 d (by simp);have a:=Afi.1 hm.2;refine ⟨fun p=>(by cases p),.inl ⟨b,_,rfl,run_takeDeferred m, ?_⟩⟩;refine Xp g c _ ⟨fun d hd=>?_,a.2⟩ (e.off o _) (f.off h1 _);obtain ⟨h,hb,i,j,k,l⟩:=hm.1 d (by simp[hd]);refine ⟨h,hb,i,by rw[World.putObj_size]; exact j, ?_,l⟩;rw[World.putObj_heap_other]
   ·exact k
   ·rintro rfl; rw[hb] at hd; exact a.1 hd
theorem MN {h:Nat} {J:Aa} {IY new:yw} {K:FuncId->Bo->Aa->Option ρ} {r:ρ} (b:Kv h J IY new K=some r):
  ∃ f a,J[h]?=some (.loop f IY a)/\K f a (J.set h (.loop f new a))=some r:=by
 unfold Kv at b;split at b
 ·rename_i hs;split at b
  ·rename_i he; subst he; exact ⟨_,_,hs,b⟩
  ·cases b
 ·cases b
theorem di {Z:Mu}:∀ {e:List Tmp} {f d:List Value} {b:Bo} {tmps:Array Value},J5 Z f d->LO Z b tmps ->
  LO Z (dB e f b) ((e.zip d).foldl (fun tmps (x:Tmp × Value)=>tmps.setIfInBounds x.1 x.2) tmps)
 | [],_,_,_,_,_,c=>by simpa [dB] using c
 | _::_,_,_,_,_,.nil,c=>by simpa [dB] using c
 | t::e,_,_,b,tmps,.cons (v:=v) (v':=v') h1 h2,c=>by
   simp only[dB,List.zip_cons_cons,Aef];refine di h2 ?_;have:=LO.put (a:={ tmps:=tmps,defers:=[] }) c (some t) h1;simpa [KC,Act.put] using this
theorem oF {l:Nat} {Q:Ending->World->Prop} {e:Exit} {a:Act} {w:World} {y:CA} (he:WM y e) (h:∃ v w',(Instr.endRound l (Wv y)).run P w = .ok v w'/\Q (.returned v) w'):roundPost P l Q e a w:=by
 cases he <;> exact h
theorem te (s:P.follows .mixedOrders=true) {call:GK} (p:VQ P call) {H:FuncId->Hints} {n:Nat} {args:List Value} {J:Aa} {v:Value} {J':Aa} (h:jb P call H n args J=some (v,J')):
  J.length<=J'.length/\pj P args J v J':=by
 unfold jb at h;split at h;rotate_left
 ·cases h
 rename_i a vs;obtain ⟨f,am,hs,h⟩:=MN h;obtain ⟨F,hF,h⟩:=Aai.1 h;obtain ⟨c,hc,h⟩:=Aai.1 h;obtain ⟨x,hx,h⟩:=Aai.1 h;split at h;rotate_left
 ·cases h
 rename_i S;have an:=mG hx;have leaf:∀ z J3_,Re a.block z J3_=some (v,J')->J3_.length<=J'.length /\
   ∃ f3 b,J3_[a.block]?=some (.loop f3 .busy b)/\v = .bool (Wv z).isNone/\J'=J3_.set a.block (.loop f3 (if (Wv z).isNone then .ready else .done z) b):=by
  intro z J3_ l;cases z with
  | normal=>simp only[Re] at l; obtain ⟨f3,b,j,l⟩:=MN l; cases l; exact ⟨by simp,f3,b,j,rfl,rfl⟩
  | exit id=>simp only[Re] at l; obtain ⟨f3,b,j,l⟩:=MN l; cases l; exact ⟨by simp,f3,b,j,rfl,rfl⟩
  | ret=>simp only[Re] at l; obtain ⟨f3,b,j,l⟩:=MN l; cases l; exact ⟨by simp,f3,b,j,rfl,rfl⟩
 have body:∀ (y:CA) (g:Bo) (J1_:Aa),Uz P call f (H f) n a.block x.2.2 y g J1_=some (v,J')->y = .normal /\
   ∃ f1 d,J1_[a.block]?=some (.loop f1 .ready d)/\J1_.length<=J'.length /\ ∀ ro,XM ro 0 P x.2.2 g (J1_.set a.block (.loop f1 .busy d)) (fun z _ J3_=>Re a.block z J3_) (v,J'):=by
  intro y g J1_ hb;cases y with
  | exit id=>cases hb
  | ret=>cases hb
  | normal=>
  simp only[Uz] at hb;obtain ⟨f1,d,q,hb⟩:=MN hb;have ok:=fun ro=>iH (ro:=ro) (nn:=0) s p (fid:=f) x.2.2 (Rg.zero (by omega)) hb;obtain ⟨⟨z,r3,J3_,C,O⟩,_⟩:=ok none;have:=(leaf z J3_ C).1;exact ⟨rfl,f1,d,q,by simp at O; omega,ok⟩
 have D:=fun ro=>iH (ro:=ro) (nn:=0) s p (fid:=f) x.2.1 (Rg.zero (by omega)) h;have hK:∀ (y:CA) (g:Bo) (J1_:Aa),Uz P call f (H f) n a.block x.2.2 y g J1_=some (v,J')->J1_.length<=J'.length:=fun y g J1_ hy=>let ⟨_,_,_,_,O,_⟩:=body y g J1_ hy; O;refine ⟨?_,a,vs,rfl,fun Z w k i hR L C m=>?_⟩
 ·obtain ⟨⟨y,r1,J1_,C,O⟩,_⟩:=D none;exact Adt O (hK y r1 J1_ C)
 obtain ⟨r,hr,⟨F',c',E,I,V⟩,T,aq⟩:=hR.obj _ _ _ hs C;rw[hF] at E; cases E;rw[hc] at I; cases I;rw[hx] at V; cases V;have ag:i.size=r.params.size:=by
  have:=m.length;simp only[Aen] at this;have h2:=S.2;simp only[Aen] at h2;omega
 refine ⟨_,_,_,_,run_yield hr ag,fun ro nn=>?_⟩;have ah:(r.params.zip i).foldl (fun tmps (x:Tmp × Value)=>tmps.setIfInBounds x.1 x.2) r.tmps=(r.params.toList.zip i.toList).foldl (fun tmps (x:Tmp × Value)=>tmps.setIfInBounds x.1 x.2) r.tmps:=by
  rw[<- Array.foldl_toList,Array.toList_zip]
 have K:RoundIn (FW none) 0 P k.b r.fn ((r.params.zip i).foldl (fun tmps (x:Tmp × Value)=>tmps.setIfInBounds x.1 x.2) r.tmps) r.assign r.body w (wW P Z J w v J'):=by
  rw[ah];refine roundIn_of_wpIn trivial ?_;have ai:=(D (some k.b)).2 J'.length hK 0 { tmps:=(r.params.toList.zip i.toList).foldl (fun tmps (x:Tmp × Value)=>tmps.setIfInBounds x.1 x.2) r.tmps,defers:=[] } Z w (Ado _) hR L (di m T) (PB.nil _ _ _);refine Agi ai ?_;rintro e a1 w1 ⟨y,g,J1_,Z1_,hy,hq,g1,W,g3,g4,g5,g6⟩;obtain ⟨rfl,f1,d,q,ap,ac⟩:=body _ _ _ hq;cases hy;have t:Z1_ a.block=some k:=by
   have u:a.block<J.length:=(Ab6.1 hs).1;rw[W.mu _ (.inl u)]; exact C
  obtain ⟨r1,ae,Q,A,U⟩:=g1.obj _ _ _ q t;obtain ⟨X,G⟩:=g1.record t q (o:=.loop f1 .busy d) (x:=.loop { r1 with state:=.busy }) ⟨_,rfl,Q,A,rfl⟩;have M:H8 Z1_ (J1_.set a.block (.loop f1 .busy d)).length J'.length:=by rw[Adj]; exact L.step W
  refine ⟨_,run_beginRound ae U.1, ?_⟩;refine Agi ((ac (some k.b)).2 J'.length (fun z r3 J3_ l=>(leaf z J3_ l).1) 0 a1 Z1_ _ (Ado _) X M g3 (g4.step G)) ?_;rintro e a3 w3 ⟨z,aj,J3_,Z3_,l,ad,k1,k2,k3,k4,k5,k6⟩;obtain ⟨_,f3,b,j,rfl,rfl⟩:=leaf z J3_ ad;have N:Z3_ a.block=some k:=by
   have u:a.block<(J1_.set a.block (.loop f1 .busy d)).length:=by rw[Adj]; exact (Ab6.1 q).1
   rw[k2.mu _ (.inl u)]; exact t
  obtain ⟨r3,af,ab,B,ak⟩:=k1.obj _ _ _ j N;refine oF l ⟨_,_,run_endRound _ af, ?_⟩;obtain ⟨Y,aa⟩:=k1.record N j (o:=.loop f3 (if (Wv z).isNone then .ready else .done z) b) (x:=.loop { r3 with state:=if (Wv z).isNone then .ready else .done,pending:=Wv z }) ⟨_,rfl,ab,B,by
   cases z <;> exact ⟨rfl,rfl⟩⟩;exact ⟨Z3_,_,rfl,.bool _,Y,((W.trans G).trans k2).trans aa⟩
 exact ⟨trivial,fun c cs _=>K.2 c cs (room_wide _)⟩
theorem yD (b:P.follows .mixedOrders=true) {X:Ext} (u:yv P X) (q:ig X) {H:FuncId->Hints}:∀ k,VQ P (fn P X H k)
 | 0=>⟨fun f args J v J' _ h=>(by cases h),fun args J v J' h=>(by cases h)⟩
 | k+1=>by
   have M:=yD b u q (H:=H) k;refine ⟨?_, ?_⟩
   ·intro f args J v J' r h;have l:jZ P f=true->J <+: J':=fun Y=>pH q 6 (k+1) f args J v J' Y h;simp only[fn] at h;split at h
    ·rename_i g A;have:=(u f g A).fn f args J v J' r (by simp only[Aat]; exact h);exact this
    ·rename_i W;have y:Nat.beq f YF=false:=by
      cases hb:Nat.beq f YF with
      | true=>exact absurd (Nat.eq_of_beq_eq_true hb) r
      | false=>rfl
     rw[y,By] at h;split at h
     ·cases h
     ·rename_i F s;split at h
      ·cases h
      ·rename_i c hb;split at h
       ·cases h
       ·rename_i d;have B:Rg P none f c:=by
         cases i:Cy c with
         | none=>exact ⟨default,OC i,fun hn=>by
           exfalso;exact absurd i (by
            intro o;exact hn (by
             have:ranges c=0:=lK o;exact this))⟩
         | some x=>exact ⟨x,vH (by omega) i,fun _=>⟨rfl,F,c,s,hb,i⟩⟩
        obtain ⟨⟨x,D,J1_,U,hl⟩,C⟩:=iH (ro:=none) (nn:=0) b M c B h;have hs:=pG U;subst hs;refine ⟨hl,l,⟨F,s,by rw[hb]; rfl,by simp only[Ahh] at d; simpa using d.1⟩,fun Z w a V z j=>?_⟩;refine callsIn_wide.1 (callsIn_of_wp_marks (n:=0) s hb trivial ?_);have m:=ta j F.ntmps;refine Agi (C J'.length (fun x N J2_ o=>by rw[pG o]; exact Aa1 _) w.heap.size { tmps:=a++Array.replicate (F.ntmps-a.size) undef,defers:=[] } Z w (Aa1 _) V z m (PB.nil _ _ _)) ?_;rintro e G w' ⟨x',E,J2_,O,L,o,I,Q,K,S,g5,g6⟩;obtain ⟨h1,T,v',h3,h4⟩:=kB I K o;subst h1;have post:LeavesInM Fence.wide 0 P F G.tmps (wW P Z J w v J') G.defers .returning w':=
         Xp (fun w2 p t=>by
          obtain ⟨_,_,v2,q1,q2⟩:=kB p K o;exact ⟨v2,q2,O,v2,rfl,q1,p,t⟩) _ _ S I Q;rcases T with rfl | rfl
        ·cases L; exact post
        ·cases L; exact post
   ·intro args J v J' h;simp only[fn] at h;split at h
    ·rename_i g A;exact (u YF g A).yld args J v J' (by simp only[Aat]; exact h)
    ·rw[show Nat.beq YF YF=true from rfl,IS] at h;exact te b M h
end
section
variable {ρ:Type}
abbrev Ar (n:Int):Int:=IntKind.i64.wrap n
abbrev u64 (n:Int):Int:=IntKind.u64.wrap n
def Ae (J:Aa) (o:Au) (K:Nat->Aa->Option ρ):Option ρ:=K J.length (J++[o])
def iC (args:List Value) (J:Aa):Option (Value × Aa):=
 match args with
 | [.map none]=>some (.map none,J)
 | [.map (some r)]=>(Un J r).bind fun es=>some (.map (some J.length),J++[.map es])
 | _=>none
theorem lR [AJ] {P:Program} {X:Ext} {H:FuncId->Hints} {k h:Nat} {f:FuncId} {regs:Bo} {vs:List Value} {J:Aa} {F:Func} {c:Code} {x:Array Tmp × Code × Code} (hs:J[h]?=some (.loop f .ready regs)) (b:X YF=none)
  (a:P.funcs[f]?=some F) (d:F.body=some c) (i:Cy c=some x) (g:ranges c=1) (e:vs.length=x.1.toList.length):
  IW P (fn P X H (k+1)) (.func (.yield h) #[] #[]) vs J =
   exec P (fn P X H k) f (H f) k x.2.1 (Value × Aa) (dB x.1.toList vs regs) J fun y r s=>Uz P (fn P X H k) f (H f) k h x.2.2 y r s:=by
 simp only[IW,fn,b];rw[show Nat.beq YF YF=true from rfl,IS];simp only[jb,Kv,hs,Aat,a,d,i,AI,g,e,Afz]
def Ev {β:Type} (g:Nat->Nat->Option β) (Q:β->Prop):Prop:=∃ a b r,Q r /\ ∀ k n,a<=k->b<=n->g k n=some r
theorem Ev.mono {β:Type} {g:Nat->Nat->Option β} {Q a:β->Prop} (h:Ev g Q) (c:∀ r,Q r->a r):Ev g a:=
 let ⟨d,e,r,h1,b⟩:=h; ⟨d,e,r,c r h1,b⟩
theorem Ev.pure {β:Type} {r:β} {Q:β->Prop} (h:Q r):Ev (fun _ _=>some r) Q:=⟨0,0,r,h,fun _ _ _ _=>rfl⟩
theorem Ev.bind {β γ:Type} {g:Nat->Nat->Option β} {f:Nat->Nat->β->Option γ} {Q:γ->Prop} {a:β->Prop} (h:Ev g a) (i:∀ r,a r->Ev (fun k n=>f k n r) Q):Ev (fun k n=>(g k n).bind (f k n)) Q:=by
 obtain ⟨j,m,r,h1,e⟩:=h;obtain ⟨l,o,b,c,d⟩:=i r h1;exact ⟨max j l,max m o,b,c,fun k n p q=>by
  show (g k n).bind (f k n)=some b;rw[e k n (by omega) (by omega)]; exact d k n (by omega) (by omega)⟩
theorem Ev.call {β:Type} {g:Nat->Option β} {f:Nat->Nat->Option β} {Q:β->Prop} (he:∀ k,g (k+1)=f k k) (h:Ev f Q):Ev (fun k _=>g k) Q:=by
 obtain ⟨c,d,r,h1,b⟩:=h;refine ⟨max c d+1,0,r,h1,fun k n e _=>?_⟩;obtain ⟨a,rfl⟩:∃ m,k=m+1:=⟨k-1,by omega⟩;show g (a+1)=some r;rw[he]; exact b a a (by omega) (by omega)
theorem Ev.round {β:Type} {g f:Nat->Nat->Option β} {Q:β->Prop} (he:∀ k n,g k (n+1)=f k n) (h:Ev f Q):Ev g Q:=by
 obtain ⟨c,e,r,h1,a⟩:=h;refine ⟨c,e+1,r,h1,fun k n b i=>?_⟩;obtain ⟨d,rfl⟩:∃ m,n=m+1:=⟨n-1,by omega⟩;rw[he]; exact a k d b (by omega)
def cL:Code->Code | .seq a _=>a | c=>c
def cR:Code->Code | .seq _ b=>b | c=>c
def cB:Code->Code | .block _ b=>b | .loop b=>b | .scope b=>b | c=>c
def cT:Code->Code | .cond _ a _=>a | c=>c
def cE:Code->Code | .cond _ _ b=>b | c=>c
def Bu (f:Func):Code:=f.body.getD .skip
end
section
variable {α:Type}
def fN (n:Nat) (K:Nat->α):α:=Nat.casesOn n (K 0) fun m=>K (Nat.succ m)
def fI (n:Int) (K:Int->α):α:=Int.casesOn n (fun m=>fN m fun m=>K (.ofNat m)) (fun m=>fN m fun m=>K (.negSucc m))
def fB (b:Bool) (K:Bool->α):α:=Bool.casesOn b (K false) (K true)
def fA (a:Addr) (K:Addr->α):α:=match a with
 | ⟨b,o,none⟩=>fN b fun b=>fN o fun o=>K ⟨b,o,none⟩
 | ⟨b,o,some z⟩=>fN b fun b=>fN o fun o=>fN z fun z=>K ⟨b,o,some z⟩
def fP (a:Option Addr) (K:Option Addr->α):α:=match a with
 | none=>K none
 | some a=>fA a fun a=>K (some a)
def fO (m:Option Nat) (K:Option Nat->α):α:=match m with
 | none=>K none
 | some a=>fN a fun a=>K (some a)
def fV (v:Value) (K:Value->α):α:=match v with
 | .int k n=>fI n fun n=>K (.int k n)
 | .bool b=>fB b fun b=>K (.bool b)
 | .pointer a=>fP a fun a=>K (.pointer a)
 | .slice a l c=>fP a fun a=>fN l fun l=>fN c fun c=>K (.slice a l c)
 | .map m=>fO m fun m=>K (.map m)
 | v=>K v
def fVs:List Value->(List Value->α)->α
 | [],K=>K []
 | v::a,K=>fV v fun v=>fVs a fun a=>K (v::a)
def fEs:List (Int × Value)->(List (Int × Value)->α)->α
 | [],K=>K []
 | e::es,K=>fI e.1 fun i=>fV e.2 fun v=>fEs es fun es=>K ((i,v)::es)
def fRs:List (Option Value)->(List (Option Value)->α)->α
 | [],K=>K []
 | none::a,K=>fRs a fun a=>K (none::a)
 | some v::a,K=>fV v fun v=>fRs a fun a=>K (some v::a)
def Ac0 (o:Au) (K:Au->α):α:=match o with
 | .cells b T rw=>fVs b fun b=>K (.cells b T rw)
 | .map es=>fEs es fun es=>K (.map es)
 | .loop f st a=>fRs a fun a=>K (.loop f st a)
 | .dead=>K .dead
def oH:Aa->Nat->Au->(Aa->α)->α
 | [],_,_,K=>K []
 | _::xs,0,o,K=>K (o::xs)
 | x::xs,i+1,o,K=>oH xs i o fun l=>K (x::l)
variable {ρ:Type}
def ap2 {α:Type} (J:Aa):Nat->Au->(Nat->Aa->α)->α:=
 List.rec (fun i o K=>K i [o]) (fun x _ a i o K=>a (Nat.succ i) o fun h l=>K h (x::l)) J
def NV (J:Aa) (o:Au) (K:Nat->Aa->Option ρ):Option ρ:=Ac0 o fun o=>ap2 J 0 o fun h J=>fN h fun h=>K h J
theorem X9:∀ (cs:List Value) (o:Nat) (v:Value),o<cs.length->Bb cs o [v]=cs.set o v
 | [],_,_,h=>by simp at h
 | x::cs,0,v,h=>by simp[Bb]
 | x::cs,o+1,v,h=>by
   have:=X9 cs o v (by simpa using h);simp only[Bb,Adl,Adx] at this ⊢;simp[<- this]
end
end
end Go.AX
