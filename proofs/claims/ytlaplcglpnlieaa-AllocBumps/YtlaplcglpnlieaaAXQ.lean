/-
  The same words, that leave nothing unevaluated behind: for runs in the kernel.
-/
import Derived.Test.YtlaplcglpnlieaaAXF
set_option linter.unusedVariables false
namespace Go.AX
open Go
variable {α : Type}

def fN (n : Nat) (K : Nat → α) : α := Nat.casesOn n (K 0) fun m => K (Nat.succ m)
theorem fN_eq (n : Nat) (K : Nat → α) : fN n K = K n := by cases n <;> rfl
def fI (n : Int) (K : Int → α) : α := Int.casesOn n (fun m => fN m fun m => K (.ofNat m)) (fun m => fN m fun m => K (.negSucc m))
theorem fI_eq (n : Int) (K : Int → α) : fI n K = K n := by
  cases n with
  | ofNat m => exact fN_eq m fun m => K (.ofNat m)
  | negSucc m => exact fN_eq m fun m => K (.negSucc m)
def fB (b : Bool) (K : Bool → α) : α := Bool.casesOn b (K false) (K true)
theorem fB_eq (b : Bool) (K : Bool → α) : fB b K = K b := by cases b <;> rfl
def fA (a : Addr) (K : Addr → α) : α := match a with
  | ⟨b, o, none⟩ => fN b fun b => fN o fun o => K ⟨b, o, none⟩
  | ⟨b, o, some z⟩ => fN b fun b => fN o fun o => fN z fun z => K ⟨b, o, some z⟩
theorem fA_eq (a : Addr) (K : Addr → α) : fA a K = K a := by
  obtain ⟨b, o, s⟩ := a
  cases s <;> simp [fA, fN_eq]
def fP (a : Option Addr) (K : Option Addr → α) : α := match a with
  | none => K none
  | some a => fA a fun a => K (some a)
theorem fP_eq (a : Option Addr) (K : Option Addr → α) : fP a K = K a := by cases a <;> simp [fP, fA_eq]
def fO (m : Option Nat) (K : Option Nat → α) : α := match m with
  | none => K none
  | some a => fN a fun a => K (some a)
theorem fO_eq (a : Option Nat) (K : Option Nat → α) : fO a K = K a := by cases a <;> simp [fO, fN_eq]
def fS (x : Option Addr × Nat × Nat) (K : Option Addr × Nat × Nat → α) : α := match x with
  | (a, l, c) => fP a fun a => fN l fun l => fN c fun c => K (a, l, c)
theorem fS_eq (x : Option Addr × Nat × Nat) (K : Option Addr × Nat × Nat → α) : fS x K = K x := by
  obtain ⟨a, l, c⟩ := x
  simp [fS, fP_eq, fN_eq]
def fV (v : Value) (K : Value → α) : α := match v with
  | .int k n => fI n fun n => K (.int k n)
  | .bool b => fB b fun b => K (.bool b)
  | .pointer a => fP a fun a => K (.pointer a)
  | .slice a l c => fP a fun a => fN l fun l => fN c fun c => K (.slice a l c)
  | .map m => fO m fun m => K (.map m)
  | v => K v
theorem fV_eq (v : Value) (K : Value → α) : fV v K = K v := by
  unfold fV
  split <;> simp [fI_eq, fB_eq, fP_eq, fN_eq, fO_eq]
def fVs : List Value → (List Value → α) → α
  | [], K => K []
  | v :: vs, K => fV v fun v => fVs vs fun vs => K (v :: vs)
theorem fVs_eq : ∀ (vs : List Value) (K : List Value → α), fVs vs K = K vs
  | [], K => rfl
  | v :: vs, K => by simp [fVs, fV_eq, fVs_eq vs]
def fEs : List (Int × Value) → (List (Int × Value) → α) → α
  | [], K => K []
  | e :: es, K => fI e.1 fun i => fV e.2 fun v => fEs es fun es => K ((i, v) :: es)
theorem fEs_eq : ∀ (vs : List (Int × Value)) (K : List (Int × Value) → α), fEs vs K = K vs
  | [], K => rfl
  | v :: vs, K => by simp [fEs, fV_eq, fI_eq, fEs_eq vs]
def fObj (o : AObj) (K : AObj → α) : α := match o with
  | .cells vs T rw => fVs vs fun vs => K (.cells vs T rw)
  | .map es => fEs es fun es => K (.map es)
  | .dead => K .dead
theorem fObj_eq (o : AObj) (K : AObj → α) : fObj o K = K o := by cases o <;> simp [fObj, fVs_eq, fEs_eq]

def appS : AMem → AObj → (AMem → α) → α
  | [], o, K => K [o]
  | x :: xs, o, K => appS xs o fun l => K (x :: l)
theorem appS_eq : ∀ (σ : AMem) (o : AObj) (K : AMem → α), appS σ o K = K (σ ++ [o])
  | [], _, _ => rfl
  | x :: xs, o, K => by simp [appS, appS_eq xs]
def setS : AMem → Nat → AObj → (AMem → α) → α
  | [], _, _, K => K []
  | _ :: xs, 0, o, K => K (o :: xs)
  | x :: xs, i + 1, o, K => setS xs i o fun l => K (x :: l)
theorem setS_eq : ∀ (σ : AMem) (i : Nat) (o : AObj) (K : AMem → α), setS σ i o K = K (σ.set i o)
  | [], _, _, _ => rfl
  | _ :: _, 0, _, _ => rfl
  | x :: xs, i + 1, o, K => by simp [setS, setS_eq xs]
/-- The spine of a memory whose last object is new. -/
def fMem : AMem → (AMem → α) → α
  | [], K => K []
  | x :: xs, K => (match xs with | [] => fObj x fun x => K [x] | _ :: _ => fMem xs fun l => K (x :: l))
theorem fMem_eq : ∀ (σ : AMem) (K : AMem → α), fMem σ K = K σ
  | [], _ => rfl
  | [x], K => by simp [fMem, fObj_eq]
  | x :: y :: xs, K => by rw [fMem, fMem_eq (y :: xs)]

def fL (σ : AMem) (K : AMem → α) : α := match σ with
  | [] => K []
  | x :: xs => K (x :: xs)
theorem fL_eq (σ : AMem) (K : AMem → α) : fL σ K = K σ := by cases σ <;> rfl

variable {ρ : Type}
def allocS (σ : AMem) (o : AObj) (K : Nat → AMem → Option ρ) : Option ρ := fObj o fun o => fN σ.length fun h => appS σ o fun σ' => K h σ'
theorem allocS_eq (σ : AMem) (o : AObj) (K : Nat → AMem → Option ρ) : allocS σ o K = allocK σ o K := by simp [allocS, allocK, fObj_eq, fN_eq, appS_eq]

def srS : List Value → Nat → List Value → (List Value → α) → α
  | cs, 0, [], K => K cs
  | _ :: cs, 0, v :: vs, K => srS cs 0 vs fun l => K (v :: l)
  | [], 0, v :: vs, K => K (v :: vs)
  | x :: cs, o + 1, vs, K => srS cs o vs fun l => K (x :: l)
  | [], _ + 1, vs, K => K vs
theorem srS_eq : ∀ (cs : List Value) (o : Nat) (vs : List Value) (K : List Value → α), o + vs.length ≤ cs.length → srS cs o vs K = K (setRange cs o vs)
  | cs, 0, [], K, h => by simp [srS, setRange]
  | _ :: cs, 0, v :: vs, K, h => by
    rw [srS, srS_eq cs 0 vs _ (by simpa using h)]
    simp [setRange, Nat.add_comm]
  | [], 0, v :: vs, K, h => by simp at h
  | x :: cs, o + 1, vs, K, h => by
    rw [srS, srS_eq cs o vs _ (by simp at h; omega)]
    simp [setRange, Nat.add_right_comm]
  | [], _ + 1, vs, K, h => by simp at h

def stNS (σ : AMem) (b o : Nat) (vs : List Value) (K : AMem → Option ρ) : Option ρ :=
  match σ[b]? with
  | some (.cells cs T true) => if o + vs.length ≤ cs.length then fVs vs fun vs => srS cs o vs fun cs => setS σ b (.cells cs T true) K else none
  | _ => none
theorem stNS_eq (σ : AMem) (b o : Nat) (vs : List Value) (K : AMem → Option ρ) : stNS σ b o vs K = (stN σ b o vs).bind K := by
  unfold stNS stN
  rcases σ[b]? with _ | o'
  · rfl
  · cases o' with
    | dead => rfl
    | map es => rfl
    | cells cs T rw =>
      cases rw with
      | false => rfl
      | true =>
        by_cases h : o + vs.length ≤ cs.length
        · simp only [if_pos h, Option.bind_some, fVs_eq, setS_eq, srS_eq _ _ _ _ h]
        · simp only [if_neg h, Option.bind_none]
def st1S (σ : AMem) (b o : Nat) (v : Value) (K : AMem → Option ρ) : Option ρ :=
  match σ[b]? with
  | some (.cells cs T true) => if o < cs.length then fV v fun v => srS cs o [v] fun cs => setS σ b (.cells cs T true) K else none
  | _ => none
theorem setRange_one : ∀ (cs : List Value) (o : Nat) (v : Value), o < cs.length → setRange cs o [v] = cs.set o v
  | [], _, _, h => by simp at h
  | x :: cs, 0, v, h => by simp [setRange]
  | x :: cs, o + 1, v, h => by
    have := setRange_one cs o v (by simpa using h)
    simp only [setRange, List.length_cons, List.length_nil] at this ⊢
    simp [← this]
theorem st1S_eq (σ : AMem) (b o : Nat) (v : Value) (K : AMem → Option ρ) : st1S σ b o v K = (st1 σ b o v).bind K := by
  unfold st1S st1
  rcases σ[b]? with _ | o'
  · rfl
  · cases o' with
    | dead => rfl
    | map es => rfl
    | cells cs T rw =>
      cases rw with
      | false => rfl
      | true =>
        by_cases h : o < cs.length
        · have h' : o + [v].length ≤ cs.length := by simp; omega
          simp only [if_pos h, Option.bind_some, fV_eq, setS_eq, srS_eq _ _ _ _ h', setRange_one _ _ _ h]
        · simp only [if_neg h, Option.bind_none]
def fR (r : SlV × AMem) (K : SlV × AMem → Option ρ) : Option ρ := match r with
  | (s, σ) => fS s fun s => fMem σ fun σ => K (s, σ)
theorem fR_eq (r : SlV × AMem) (K : SlV × AMem → Option ρ) : fR r K = K r := by
  obtain ⟨s, σ⟩ := r
  simp [fR, fS_eq, fMem_eq]
def setMS (σ : AMem) (r : Nat) (es : List (Int × Value)) (K : AMem → Option ρ) : Option ρ := fEs es fun es => setS σ r (.map es) K
theorem setMS_eq (σ : AMem) (r : Nat) (es : List (Int × Value)) (K : AMem → Option ρ) : setMS σ r es K = K (List.set σ r (.map es)) := by simp [setMS, fEs_eq, setS_eq]
/-- The whole spine. -/
def fMm : AMem → (AMem → α) → α
  | [], K => K []
  | x :: xs, K => fObj x fun x => fMm xs fun l => K (x :: l)
theorem fMm_eq : ∀ (σ : AMem) (K : AMem → α), fMm σ K = K σ
  | [], _ => rfl
  | x :: xs, K => by simp [fMm, fObj_eq, fMm_eq xs]

end Go.AX
