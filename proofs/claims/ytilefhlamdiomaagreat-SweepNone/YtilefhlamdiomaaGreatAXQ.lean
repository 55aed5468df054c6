/-
  The same words, that leave nothing unevaluated behind: for runs in the kernel.
-/
import Derived.Test.YtilefhlamdiomaaGreatAXF
set_option linter.unusedVariables false
namespace Go.AX
open Go
variable {α : Type}

def fN (n : Nat) (K : Nat → α) : α := Nat.casesOn n (K 0) fun m => K (Nat.succ m)
theorem fN_eq (n : Nat) (K : Nat → α) : fN n K = K n := by cases n <;> rfl
def fI (n : Int) (K : Int → α) : α := Int.casesOn n (fun m => fN m fun m => K (.ofNat m)) (fun m => fN m fun m => K (.negSucc m))
theorem fI_eq (n : Int) (K : Int → α) : fI n K = K n := by
  cases n with
  | ofNat m => exact fN_eq m fun m => K (.ofNat m)
  | negSucc m => exact fN_eq m fun m => K (.negSucc m)
def fB (b : Bool) (K : Bool → α) : α := Bool.casesOn b (K false) (K true)
theorem fB_eq (b : Bool) (K : Bool → α) : fB b K = K b := by cases b <;> rfl
def fA (a : Addr) (K : Addr → α) : α := match a with
  | ⟨b, o, none⟩ => fN b fun b => fN o fun o => K ⟨b, o, none⟩
  | ⟨b, o, some z⟩ => fN b fun b => fN o fun o => fN z fun z => K ⟨b, o, some z⟩
theorem fA_eq (a : Addr) (K : Addr → α) : fA a K = K a := by
  obtain ⟨b, o, s⟩ := a
  cases s <;> simp [fA, fN_eq]
def fP (a : Option Addr) (K : Option Addr → α) : α := match a with
  | none => K none
  | some a => fA a fun a => K (some a)
theorem fP_eq (a : Option Addr) (K : Option Addr → α) : fP a K = K a := by cases a <;> simp [fP, fA_eq]
def fO (m : Option Nat) (K : Option Nat → α) : α := match m with
  | none => K none
  | some a => fN a fun a => K (some a)
theorem fO_eq (a : Option Nat) (K : Option Nat → α) : fO a K = K a := by cases a <;> simp [fO, fN_eq]
def fS (x : Option Addr × Nat × Nat) (K : Option Addr × Nat × Nat → α) : α := match x with
  | (a, l, c) => fP a fun a => fN l fun l => fN c fun c => K (a, l, c)
theorem fS_eq (x : Option Addr × Nat × Nat) (K : Option Addr × Nat × Nat → α) : fS x K = K x := by
  obtain ⟨a, l, c⟩ := x
  simp [fS, fP_eq, fN_eq]
def fV (v : Value) (K : Value → α) : α := match v with
  | .int k n => fI n fun n => K (.int k n)
  | .bool b => fB b fun b => K (.bool b)
  | .pointer a => fP a fun a => K (.pointer a)
  | .slice a l c => fP a fun a => fN l fun l => fN c fun c => K (.slice a l c)
  | .map m => fO m fun m => K (.map m)
  | v => K v
theorem fV_eq (v : Value) (K : Value → α) : fV v K = K v := by
  unfold fV
  split <;> simp [fI_eq, fB_eq, fP_eq, fN_eq, fO_eq]
def fVs : List Value → (List Value → α) → α
  | [], K => K []
  | v :: vs, K => fV v fun v => fVs vs fun vs => K (v :: vs)
theorem fVs_eq : ∀ (vs : List Value) (K : List Value → α), fVs vs K = K vs
  | [], K => rfl
  | v :: vs, K => by simp [fVs, fV_eq, fVs_eq vs]
def fEs : List (Int × Value) → (List (Int × Value) → α) → α
  | [], K => K []
  | e :: es, K => fI e.1 fun i => fV e.2 fun v => fEs es fun es => K ((i, v) :: es)
theorem fEs_eq : ∀ (vs : List (Int × Value)) (K : List (Int × Value) → α), fEs vs K = K vs
  | [], K => rfl
  | v :: vs, K => by simp [fEs, fV_eq, fI_eq, fEs_eq vs]
def fRs : List (Option Value) → (List (Option Value) → α) → α
  | [], K => K []
  | none :: vs, K => fRs vs fun vs => K (none :: vs)
  | some v :: vs, K => fV v fun v => fRs vs fun vs => K (some v :: vs)
theorem fRs_eq : ∀ (vs : List (Option Value)) (K : List (Option Value) → α), fRs vs K = K vs
  | [], K => rfl
  | none :: vs, K => by simp [fRs, fRs_eq vs]
  | some v :: vs, K => by simp [fRs, fV_eq, fRs_eq vs]
def fObj (o : AObj) (K : AObj → α) : α := match o with
  | .cells vs T rw => fVs vs fun vs => K (.cells vs T rw)
  | .map es => fEs es fun es => K (.map es)
  | .loop f st regs => fRs regs fun regs => K (.loop f st regs)
  | .dead => K .dead
theorem fObj_eq (o : AObj) (K : AObj → α) : fObj o K = K o := by cases o <;> simp [fObj, fVs_eq, fEs_eq, fRs_eq]

/-- The element with a number. -/
noncomputable def nth {β : Type} (l : List β) : Nat → Option β := List.rec (fun _ => none) (fun x _ ih n => Nat.rec (some x) (fun m _ => ih m) n) l
theorem nth_eq {β : Type} : ∀ (l : List β) (n : Nat), nth l n = l[n]?
  | [], _ => by simp [nth]
  | _ :: _, 0 => rfl
  | x :: xs, n + 1 => by
    show nth xs n = _
    rw [nth_eq xs]; simp
def eqK (k k' : IntKind) : Bool := Nat.beq k.ctorIdx k'.ctorIdx
theorem eqK_eq (k k' : IntKind) : eqK k k' = decide (k = k') := by cases k <;> cases k' <;> rfl
def toIS (k : IntKind) (v : Value) : Option Int := match v with
  | .int k' n => bif eqK k' k then some n else none
  | _ => none
theorem toIS_eq (k : IntKind) (v : Value) : toIS k v = toI k v := by
  cases v with
  | int k' n =>
    simp only [toIS, toI, eqK_eq]
    by_cases h : k' = k <;> simp [h]
  | _ => rfl
noncomputable def ld1S (σ : AMem) (b o : Nat) : Option Value := match nth σ b with
  | some (.cells vs _ _) => nth vs o
  | _ => none
theorem ld1S_eq (σ : AMem) (b o : Nat) : ld1S σ b o = ld1 σ b o := by unfold ld1S ld1; rw [nth_eq]; split <;> simp_all [nth_eq]
noncomputable def ldIS (k : IntKind) (σ : AMem) (b o : Nat) : Option Int := (ld1S σ b o).bind (toIS k)
theorem ldIS_eq (k : IntKind) (σ : AMem) (b o : Nat) : ldIS k σ b o = ldI k σ b o := by
  have : toIS k = toI k := funext (toIS_eq k)
  rw [ldIS, ldI, ld1S_eq, this]
noncomputable def ldBS (σ : AMem) (b o : Nat) : Option Bool := (ld1S σ b o).bind toB
theorem ldBS_eq (σ : AMem) (b o : Nat) : ldBS σ b o = ldB σ b o := by rw [ldBS, ldB, ld1S_eq]
noncomputable def ldStrS (σ : AMem) (b o : Nat) : Option ByteArray := (ld1S σ b o).bind toStr
theorem ldStrS_eq (σ : AMem) (b o : Nat) : ldStrS σ b o = ldStr σ b o := by rw [ldStrS, ldStr, ld1S_eq]
noncomputable def ldPS (σ : AMem) (b o : Nat) : Option (Option Addr) := (ld1S σ b o).bind toP
theorem ldPS_eq (σ : AMem) (b o : Nat) : ldPS σ b o = ldP σ b o := by rw [ldPS, ldP, ld1S_eq]
noncomputable def ldSS (σ : AMem) (b o : Nat) : Option (Option Addr × Nat × Nat) := (ld1S σ b o).bind toS
theorem ldSS_eq (σ : AMem) (b o : Nat) : ldSS σ b o = ldS σ b o := by rw [ldSS, ldS, ld1S_eq]
noncomputable def ldMS (σ : AMem) (b o : Nat) : Option (Option Nat) := (ld1S σ b o).bind toM
theorem ldMS_eq (σ : AMem) (b o : Nat) : ldMS σ b o = ldM σ b o := by rw [ldMS, ldM, ld1S_eq]
noncomputable def ldNS (σ : AMem) (b o n : Nat) : Option (List Value) := match nth σ b with
  | some (.cells vs _ _) => if o + n ≤ vs.length then some ((vs.drop o).take n) else none
  | _ => none
theorem ldNS_eq (σ : AMem) (b o n : Nat) : ldNS σ b o n = ldN σ b o n := by unfold ldNS ldN; rw [nth_eq]; rfl
noncomputable def ldMapS (σ : AMem) (r : Nat) : Option (List (Int × Value)) := match nth σ r with
  | some (.map es) => some es
  | _ => none
theorem ldMapS_eq (σ : AMem) (r : Nat) : ldMapS σ r = ldMap σ r := by unfold ldMapS ldMap; rw [nth_eq]; rfl
noncomputable def ldMOS (σ : AMem) (r : Option Nat) : Option (List (Int × Value)) := match r with
  | none => some []
  | some r => ldMapS σ r
theorem ldMOS_eq (σ : AMem) (r : Option Nat) : ldMOS σ r = ldMO σ r := by unfold ldMOS ldMO; split <;> simp [ldMapS_eq]
noncomputable def firstAS (σ : AMem) (s : Nat) (x : Option Addr) (n : Nat) : Option (List Value) := match x with
  | some a => ldNS σ a.block a.off (n * s)
  | none => if n = 0 then some [] else none
theorem firstAS_eq (σ : AMem) (s : Nat) (x : Option Addr) (n : Nat) : firstAS σ s x n = firstA σ s x n := by unfold firstAS firstA; split <;> simp [ldNS_eq]
def appS : AMem → AObj → (AMem → α) → α
  | [], o, K => K [o]
  | x :: xs, o, K => appS xs o fun l => K (x :: l)
theorem appS_eq : ∀ (σ : AMem) (o : AObj) (K : AMem → α), appS σ o K = K (σ ++ [o])
  | [], _, _ => rfl
  | x :: xs, o, K => by simp [appS, appS_eq xs]
def setS : AMem → Nat → AObj → (AMem → α) → α
  | [], _, _, K => K []
  | _ :: xs, 0, o, K => K (o :: xs)
  | x :: xs, i + 1, o, K => setS xs i o fun l => K (x :: l)
theorem setS_eq : ∀ (σ : AMem) (i : Nat) (o : AObj) (K : AMem → α), setS σ i o K = K (σ.set i o)
  | [], _, _, _ => rfl
  | _ :: _, 0, _, _ => rfl
  | x :: xs, i + 1, o, K => by simp [setS, setS_eq xs]
/-- The spine of a memory whose last object is new. -/
def fMem : AMem → (AMem → α) → α
  | [], K => K []
  | x :: xs, K => (match xs with | [] => fObj x fun x => K [x] | _ :: _ => fMem xs fun l => K (x :: l))
theorem fMem_eq : ∀ (σ : AMem) (K : AMem → α), fMem σ K = K σ
  | [], _ => rfl
  | [x], K => by simp [fMem, fObj_eq]
  | x :: y :: xs, K => by rw [fMem, fMem_eq (y :: xs)]

def fL (σ : AMem) (K : AMem → α) : α := match σ with
  | [] => K []
  | x :: xs => K (x :: xs)
theorem fL_eq (σ : AMem) (K : AMem → α) : fL σ K = K σ := by cases σ <;> rfl

variable {ρ : Type}
noncomputable def endLoopS (h : Nat) (σ : AMem) (K : AExit → AMem → Option ρ) : Option ρ :=
  match nth σ h with
  | some (.loop _ .ready _) => setS σ h .dead fun σ => K .normal σ
  | some (.loop _ (.done x) _) => match x with
    | .normal => none
    | x => setS σ h .dead fun σ => K x σ
  | _ => none
theorem endLoopS_eq (h : Nat) (σ : AMem) (K : AExit → AMem → Option ρ) : endLoopS h σ K = endLoopA h σ K := by simp only [endLoopS, endLoopA, setS_eq, nth_eq]; rfl
noncomputable def setLoopS (h : Nat) (σ : AMem) (old new : LSt) (K : FuncId → Regs → AMem → Option ρ) : Option ρ :=
  match nth σ h with
  | some (.loop f st regs) => if st = old then setS σ h (.loop f new regs) fun σ => K f regs σ else none
  | _ => none
theorem setLoopS_eq (h : Nat) (σ : AMem) (old new : LSt) (K : FuncId → Regs → AMem → Option ρ) : setLoopS h σ old new K = setLoop h σ old new K := by simp only [setLoopS, setLoop, setS_eq, nth_eq]; rfl
/-- One object more, and its number. -/
noncomputable def ap2 {α : Type} (σ : AMem) : Nat → AObj → (Nat → AMem → α) → α :=
  List.rec (fun i o K => K i [o]) (fun x _ ih i o K => ih (Nat.succ i) o fun h l => K h (x :: l)) σ
theorem ap2_eq {α : Type} : ∀ (σ : AMem) (i : Nat) (o : AObj) (K : Nat → AMem → α), ap2 σ i o K = K (i + σ.length) (σ ++ [o])
  | [], _, _, _ => rfl
  | x :: xs, i, o, K => by
    show ap2 xs (Nat.succ i) o (fun h l => K h (x :: l)) = _
    rw [ap2_eq xs]; simp [Nat.succ_add, Nat.add_assoc]
/-- One object more, in the place of another one. -/
noncomputable def growS {α : Type} (σ : AMem) : Nat → Nat → AObj → (Nat → AMem → α) → α :=
  List.rec (fun i _ o K => K i [o]) (fun x xs ih i b o K => Nat.rec (ap2 xs (Nat.succ i) o fun h l => K h (.dead :: l)) (fun b _ => ih (Nat.succ i) b o fun h l => K h (x :: l)) b) σ
theorem growS_eq {α : Type} : ∀ (σ : AMem) (i b : Nat) (o : AObj) (K : Nat → AMem → α), growS σ i b o K = K (i + σ.length) (σ.set b .dead ++ [o])
  | [], _, _, _, _ => rfl
  | x :: xs, i, 0, o, K => by
    show ap2 xs (Nat.succ i) o (fun h l => K h (.dead :: l)) = _
    rw [ap2_eq]; simp [Nat.succ_add, Nat.add_assoc]
  | x :: xs, i, b + 1, o, K => by
    show growS xs (Nat.succ i) b o (fun h l => K h (x :: l)) = _
    rw [growS_eq xs]; simp [Nat.succ_add, Nat.add_assoc]
noncomputable def allocS (σ : AMem) (o : AObj) (K : Nat → AMem → Option ρ) : Option ρ := fObj o fun o => ap2 σ 0 o fun h σ => fN h fun h => K h σ
theorem allocS_eq (σ : AMem) (o : AObj) (K : Nat → AMem → Option ρ) : allocS σ o K = allocK σ o K := by simp [allocS, allocK, fObj_eq, fN_eq, ap2_eq]

def srS : List Value → Nat → List Value → (List Value → α) → α
  | cs, 0, [], K => K cs
  | _ :: cs, 0, v :: vs, K => srS cs 0 vs fun l => K (v :: l)
  | [], 0, v :: vs, K => K (v :: vs)
  | x :: cs, o + 1, vs, K => srS cs o vs fun l => K (x :: l)
  | [], _ + 1, vs, K => K vs
theorem srS_eq : ∀ (cs : List Value) (o : Nat) (vs : List Value) (K : List Value → α), o + vs.length ≤ cs.length → srS cs o vs K = K (setRange cs o vs)
  | cs, 0, [], K, h => by simp [srS, setRange]
  | _ :: cs, 0, v :: vs, K, h => by
    rw [srS, srS_eq cs 0 vs _ (by simpa using h)]
    simp [setRange, Nat.add_comm]
  | [], 0, v :: vs, K, h => by simp at h
  | x :: cs, o + 1, vs, K, h => by
    rw [srS, srS_eq cs o vs _ (by simp at h; omega)]
    simp [setRange, Nat.add_right_comm]
  | [], _ + 1, vs, K, h => by simp at h

noncomputable def stNS (σ : AMem) (b o : Nat) (vs : List Value) (K : AMem → Option ρ) : Option ρ :=
  match nth σ b with
  | some (.cells cs T true) => if o + vs.length ≤ cs.length then fVs vs fun vs => srS cs o vs fun cs => setS σ b (.cells cs T true) K else none
  | _ => none
theorem stNS_eq (σ : AMem) (b o : Nat) (vs : List Value) (K : AMem → Option ρ) : stNS σ b o vs K = (stN σ b o vs).bind K := by
  unfold stNS stN
  rw [nth_eq]
  rcases σ[b]? with _ | o'
  · rfl
  · cases o' with
    | dead => rfl
    | loop _ _ _ => rfl
    | map es => rfl
    | cells cs T rw =>
      cases rw with
      | false => rfl
      | true =>
        by_cases h : o + vs.length ≤ cs.length
        · simp only [if_pos h, Option.bind_some, fVs_eq, setS_eq, srS_eq _ _ _ _ h]
        · simp only [if_neg h, Option.bind_none]
noncomputable def st1S (σ : AMem) (b o : Nat) (v : Value) (K : AMem → Option ρ) : Option ρ :=
  match nth σ b with
  | some (.cells cs T true) => if o < cs.length then fV v fun v => srS cs o [v] fun cs => setS σ b (.cells cs T true) K else none
  | _ => none
theorem setRange_one : ∀ (cs : List Value) (o : Nat) (v : Value), o < cs.length → setRange cs o [v] = cs.set o v
  | [], _, _, h => by simp at h
  | x :: cs, 0, v, h => by simp [setRange]
  | x :: cs, o + 1, v, h => by
    have := setRange_one cs o v (by simpa using h)
    simp only [setRange, List.length_cons, List.length_nil] at this ⊢
    simp [← this]
theorem st1S_eq (σ : AMem) (b o : Nat) (v : Value) (K : AMem → Option ρ) : st1S σ b o v K = (st1 σ b o v).bind K := by
  unfold st1S st1
  rw [nth_eq]
  rcases σ[b]? with _ | o'
  · rfl
  · cases o' with
    | dead => rfl
    | loop _ _ _ => rfl
    | map es => rfl
    | cells cs T rw =>
      cases rw with
      | false => rfl
      | true =>
        by_cases h : o < cs.length
        · have h' : o + [v].length ≤ cs.length := by simp; omega
          simp only [if_pos h, Option.bind_some, fV_eq, setS_eq, srS_eq _ _ _ _ h', setRange_one _ _ _ h]
        · simp only [if_neg h, Option.bind_none]
noncomputable def appendS (E s by_ : Nat) (dst src : SlV) (σ : AMem) (K : SlV × AMem → Option ρ) : Option ρ :=
  (firstAS σ s src.1 src.2.1).bind fun new => fN (dst.2.1 + src.2.1) fun m =>
  if m ≤ dst.2.2 then
    bif fixedB dst.1 then (if m = 0 then K ((dst.1, 0, 0), σ) else none)
    else dst.1.bind fun a => stNS σ a.block (a.off + dst.2.1 * s) new fun σ' => K ((some a, m, dst.2.2), σ')
  else if roomOk m by_ ∧ 0 < by_ then
    bif fixedB dst.1 then (if dst.2.1 = 0 then fVs new fun new => ap2 σ 0 (.cells new E true) fun h σ' => fN h fun h => K ((some ⟨h, 0, none⟩, src.2.1, src.2.1), σ') else none)
    else dst.1.bind fun a => match nth σ a.block with
      | some (.cells vs T rw) => if T = E then (if a.off + dst.2.1 * s ≤ vs.length then some ((vs.drop a.off).take (dst.2.1 * s)) else none).bind fun old =>
        bif rw then fVs (old ++ new) fun cs => growS σ 0 a.block (.cells cs E true) fun h σ' => fN h fun h => K ((some ⟨h, 0, none⟩, m, m), σ')
        else none else none
      | _ => none
  else none
theorem appendS_eq {P : Program} {E s by_ : Nat} {z : Value} {dst src : SlV} {σ : AMem} {K : SlV × AMem → Option ρ} (hs : szOf P E = some s) (hb : bytesOf P E = some by_) (hz : zerosOf P E = some z) (h1 : isTup z = false) (h2 : s = z.cells.size) (h3 : 0 < z.cells.size) :
    appendS E s by_ dst src σ K = (appendD P E dst src σ).bind K := by
  obtain ⟨da, dl, dc⟩ := dst
  obtain ⟨sa, sl, sc⟩ := src
  simp only [appendS, appendD, appendA, firstAS_eq, nth_eq, elemAt, ldN, writableB, hs, hb, hz, Option.bind_some, fN_eq, fVs_eq, ap2_eq, growS_eq, stNS_eq, Nat.zero_add]
  cases firstA σ s sa sl with
  | none => rfl
  | some new =>
    simp only [Option.bind_some]
    have hq : (¬ (isTup z = false ∧ some s = some z.cells.size ∧ 0 < z.cells.size)) = False := by simp [h1, h2, h3]
    simp only [hq, if_false]
    split
    · cases fixedB da with
      | true => simp only [cond_true]; split <;> rfl
      | false =>
        cases da with
        | none => rfl
        | some a => simp only [cond_false, Option.bind_some]; cases stN σ a.block (a.off + dl * s) new <;> rfl
    · split
      · cases fixedB da with
        | true => simp only [cond_true]; split <;> rfl
        | false =>
          cases da with
          | none => rfl
          | some a =>
            simp only [cond_false, Option.bind_some]
            rcases σ[a.block]? with _ | o
            · rfl
            · cases o with
              | cells vs T rw =>
                by_cases hT : T = E
                · subst hT
                  simp only [if_true]
                  by_cases hl : a.off + dl * s ≤ vs.length
                  · simp only [if_pos hl, Option.bind_some]
                    cases rw <;> rfl
                  · simp only [if_neg hl, Option.bind_none]
                · have hT' : ¬ (some T = some E) := fun h => hT (by cases h; rfl)
                  simp only [if_neg hT, if_neg hT', Option.bind_none]
              | map es => rfl
              | loop _ _ _ => rfl
              | dead => rfl
      · rfl
/-- A sum, if it is small, without more ado. -/
def w64S (n : Int) : Int := match n with
  | .ofNat m => bif Nat.ble m 9223372036854775807 then .ofNat m else w64 (.ofNat m)
  | .negSucc m => w64 (.negSucc m)
theorem w64S_eq (n : Int) : w64S n = w64 n := by
  unfold w64S
  split
  · rename_i m
    cases hb : Nat.ble m 9223372036854775807 with
    | false => rfl
    | true =>
      have := Nat.le_of_ble_eq_true hb
      simp only [cond_true, w64, IntKind.wrap_i64, Int.ofNat_eq_natCast]
      omega
  · rfl
def fR (r : SlV × AMem) (K : SlV × AMem → Option ρ) : Option ρ := match r with
  | (s, σ) => fS s fun s => fMem σ fun σ => K (s, σ)
theorem fR_eq (r : SlV × AMem) (K : SlV × AMem → Option ρ) : fR r K = K r := by
  obtain ⟨s, σ⟩ := r
  simp [fR, fS_eq, fMem_eq]
def setMS (σ : AMem) (r : Nat) (es : List (Int × Value)) (K : AMem → Option ρ) : Option ρ := fEs es fun es => setS σ r (.map es) K
theorem setMS_eq (σ : AMem) (r : Nat) (es : List (Int × Value)) (K : AMem → Option ρ) : setMS σ r es K = K (List.set σ r (.map es)) := by simp [setMS, fEs_eq, setS_eq]
/-- The whole spine. -/
def fMm : AMem → (AMem → α) → α
  | [], K => K []
  | x :: xs, K => fObj x fun x => fMm xs fun l => K (x :: l)
theorem fMm_eq : ∀ (σ : AMem) (K : AMem → α), fMm σ K = K σ
  | [], _ => rfl
  | x :: xs, K => by simp [fMm, fObj_eq, fMm_eq xs]

/-- Laws of strict words. -/
theorem strA {α : Type} :
    (∀ (n : Int) (K : Int → α), fI n K = K n) ∧
    (∀ (n : Nat) (K : Nat → α), fN n K = K n) ∧
    (∀ (b : Bool) (K : Bool → α), fB b K = K b) ∧
    (∀ (a : Option Addr) (K : Option Addr → α), fP a K = K a) ∧
    (∀ (a : Addr) (K : Addr → α), fA a K = K a) ∧
    (∀ (x : Option Addr × Nat × Nat) (K : Option Addr × Nat × Nat → α), fS x K = K x) ∧
    (∀ (a : Option Nat) (K : Option Nat → α), fO a K = K a) ∧
    (∀ (v : Value) (K : Value → α), fV v K = K v) ∧
    (∀ (σ : AMem) (K : AMem → α), fL σ K = K σ) ∧
    (∀ (σ : AMem) (K : AMem → α), fMem σ K = K σ) ∧
    (∀ (σ : AMem) (K : AMem → α), fMm σ K = K σ) :=
  ⟨fI_eq, fN_eq, fB_eq, fP_eq, fA_eq, fS_eq, fO_eq, fV_eq, fL_eq, fMem_eq, fMm_eq⟩
/-- Laws of strict words. -/
theorem strR {ρ : Type} :
    (∀ (r : SlV × AMem) (K : SlV × AMem → Option ρ), fR r K = K r) ∧
    (∀ (σ : AMem) (o : AObj) (K : Nat → AMem → Option ρ), allocS σ o K = allocK σ o K) ∧
    (∀ (σ : AMem) (b o : Nat) (vs : List Value) (K : AMem → Option ρ), stNS σ b o vs K = (stN σ b o vs).bind K) ∧
    (∀ (σ : AMem) (b o : Nat) (v : Value) (K : AMem → Option ρ), st1S σ b o v K = (st1 σ b o v).bind K) ∧
    (∀ (σ : AMem) (r : Nat) (es : List (Int × Value)) (K : AMem → Option ρ), setMS σ r es K = K (List.set σ r (.map es))) ∧
    (∀ (h : Nat) (σ : AMem) (K : AExit → AMem → Option ρ), endLoopS h σ K = endLoopA h σ K) ∧
    (∀ (h : Nat) (σ : AMem) (old new : LSt) (K : FuncId → Regs → AMem → Option ρ), setLoopS h σ old new K = setLoop h σ old new K) :=
  ⟨fR_eq, allocS_eq, stNS_eq, st1S_eq, setMS_eq, endLoopS_eq, setLoopS_eq⟩
/-- Laws of strict words. -/
theorem str0 :
    (∀ (n : Int), w64S n = w64 n) ∧
    (∀ (k : IntKind) (σ : AMem) (b o : Nat), ldIS k σ b o = ldI k σ b o) ∧
    (∀ (σ : AMem) (b o : Nat), ldBS σ b o = ldB σ b o) ∧
    (∀ (σ : AMem) (b o : Nat), ldStrS σ b o = ldStr σ b o) ∧
    (∀ (σ : AMem) (b o : Nat), ldPS σ b o = ldP σ b o) ∧
    (∀ (σ : AMem) (b o : Nat), ldSS σ b o = ldS σ b o) ∧
    (∀ (σ : AMem) (b o : Nat), ldMS σ b o = ldM σ b o) ∧
    (∀ (σ : AMem) (b o : Nat), ld1S σ b o = ld1 σ b o) ∧
    (∀ (σ : AMem) (b o n : Nat), ldNS σ b o n = ldN σ b o n) ∧
    (∀ (σ : AMem) (r : Option Nat), ldMOS σ r = ldMO σ r) ∧
    (∀ (σ : AMem) (r : Nat), ldMapS σ r = ldMap σ r) ∧
    (∀ (σ : AMem) (s : Nat) (x : Option Addr) (n : Nat), firstAS σ s x n = firstA σ s x n) ∧
    (∀ (k : IntKind) (v : Value), toIS k v = toI k v) :=
  ⟨w64S_eq, ldIS_eq, ldBS_eq, ldStrS_eq, ldPS_eq, ldSS_eq, ldMS_eq, ld1S_eq, ldNS_eq, ldMOS_eq, ldMapS_eq, firstAS_eq, toIS_eq⟩

end Go.AX
