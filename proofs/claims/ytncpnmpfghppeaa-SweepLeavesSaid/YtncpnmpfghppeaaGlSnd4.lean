/- A code's tree is sound: regions, control, loops, calls. -/
import Derived.Test.YtncpnmpfghppeaaGlSnd3
set_option linter.unusedSimpArgs false
set_option linter.unusedVariables false
namespace Go.Gl
open Go

variable {P : Program}

/-- from this point of the frame on, it returns as the post says -/
def RunW (P : Program) (f : FuncId) (Q : Value → World → Prop) (k : List Item) (a : Act) (w : World) : Prop :=
  a.defers = [] → ∀ (b : Frame) (cs : List Frame), b.kind = .normal → b.fn = f → ∃ v w' fr, Q v w' ∧ Steps P (lone (b.at a k) cs w) (lone fr cs w') ∧ fr.fn = f ∧ fr.leaving P w' (.returned v)

/-- slots outside of these are as they were -/
def Off (ws : List Nat) (a a' : Act) : Prop := a'.tmps.size = a.tmps.size ∧ a'.defers = a.defers ∧ ∀ i, i ∉ ws → a'.tmps.getD i undef = a.tmps.getD i undef
theorem Off.refl (ws : List Nat) (a : Act) : Off ws a a := ⟨rfl, rfl, fun _ _ => rfl⟩
theorem Off.trans {ws : List Nat} {a b c : Act} (h : Off ws a b) (h' : Off ws b c) : Off ws a c :=
  ⟨h'.1.trans h.1, h'.2.1.trans h.2.1, fun i hi => (h'.2.2 i hi).trans (h.2.2 i hi)⟩
theorem Off.mono {ws ws' : List Nat} {a b : Act} (h : Off ws a b) (hs : ∀ i, i ∈ ws → i ∈ ws') : Off ws' a b :=
  ⟨h.1, h.2.1, fun i hi => h.2.2 i fun hm => hi (hs i hm)⟩
theorem Off.put {ws : List Nat} {a : Act} {dst : Option Tmp} {v : Value} (h : ∀ d, dst = some d → d ∈ ws) : Off ws a (a.put dst v) := by
  cases dst with
  | none => exact Off.refl _ _
  | some d =>
    refine ⟨by simp [Act.put], rfl, fun i hi => ?_⟩
    have hne : d ≠ i := fun he => hi (he ▸ h d rfl)
    simp [Act.put, Array.getD_eq_getD_getElem?, Array.getElem?_setIfInBounds, hne]

/-- behind a region -/
def QN (N : Act → World → Prop) : Exit → Act → World → Prop
  | .normal, a, w => N a w
  | _, _, _ => False

theorem agree_guard {ops : Array Oper} {env : Env} {a : Act} (hag : Agree env a.tmps) {j d : Nat} {b : Bool} (hd : (ops.toList[j]?).bind (·.dst) = some d) (hv : (env.getD d nE).v = some (.bool b)) :
    yielded ops a.tmps j = some b := by
  have hd' : (ops[j]?).bind (·.dst) = some d := by simpa using hd
  have h := hag.at' d _ hv
  have hs : d < a.tmps.size := by
    rcases Nat.lt_or_ge d a.tmps.size with h' | h'
    · exact h'
    · have : env.getD d nE = nE := by simp [List.getD_eq_getElem?_getD, List.getElem?_eq_none (show env.length ≤ d by rw [hag.size]; exact h')]
      rw [this] at hv; cases hv
  unfold yielded
  rw [hd']
  simp only [Option.bind_some]
  simp only [Array.getD_eq_getD_getElem?] at h
  cases hg : a.tmps[d]? with
  | none => simp [hs] at hg
  | some u => rw [hg] at h; simp at h; subst h; rfl

theorem agree_undef {ops : Array Oper} {env : Env} {a : Act} (hag : Agree env a.tmps) {j d : Nat} {vs : Array Value} (hd : (ops.toList[j]?).bind (·.dst) = some d) (hv : (env.getD d nE).v = some (.tuple vs)) :
    yielded ops a.tmps j = none := by
  have hd' : (ops[j]?).bind (·.dst) = some d := by simpa using hd
  have h := hag.at' d _ hv
  unfold yielded
  rw [hd']
  simp only [Option.bind_some]
  simp only [Array.getD_eq_getD_getElem?] at h
  cases hg : a.tmps[d]? with
  | none => rfl
  | some u => rw [hg] at h; simp at h; subst h; rfl

theorem agree_set {env : Env} {a : Act} (hag : Agree env a.tmps) {d : Nat} {b : Bool} {e : En} (hv : (env.getD d nE).v = some (.bool b)) (he : e.v = some (.bool b)) : Agree (env.set d e) a.tmps := by
  refine ⟨by simp [hag.size], fun i v h => ?_⟩
  rw [getD_set] at h
  split at h
  · rename_i hi
    obtain ⟨rfl, _⟩ := hi
    rw [he] at h; cases h
    exact hag.at' d _ hv
  · exact hag.at' i v h

theorem denL_ok (hp : plainNames P = true) {ops : Array Oper} {K : Env → Tree} {Q : Value → World → Prop} {N : Act → World → Prop} {ws : List Nat} : ∀ (l : List Oper) (env : Env) (a : Act) (w : World),
    (∀ o ∈ l, ∀ d, o.dst = some d → d ∈ ws) → Agree env a.tmps → denL P ops l env K Q w →
    (∀ env' a' w', Agree env' a'.tmps → Off ws a a' → K env' Q w' → N a' w') → wpList P ops (QN N) l a w := by
  intro l
  induction l with
  | nil => intro env a w _ hag h hN; exact hN env a w hag (Off.refl _ _) h
  | cons o rest ih =>
    intro env a w hws hag h hN
    have hwo := hws o (by simp)
    have hwr : ∀ o ∈ rest, ∀ d, o.dst = some d → d ∈ ws := fun o ho => hws o (by simp [ho])
    have go : ∀ env, Agree env a.tmps → Region.wanted o (yielded ops a.tmps) = true → denOp P o env (fun e => denL P ops rest (setE env o.dst e) K) Q w → wpList P ops (QN N) (o :: rest) a w := by
      intro env hag hw h
      unfold wpList
      rw [if_pos hw]
      refine .inl (good_op hp hag h _ _ fun e v w' he hk => ?_)
      exact ih _ _ _ hwr (hag.put he) hk fun env' a' w' h1 h2 h3 => hN env' a' w' h1 ((Off.put hwo).trans h2) h3
    have skip : ∀ env, Agree env a.tmps → Region.wanted o (yielded ops a.tmps) = false → denL P ops rest (setE env o.dst uE) K Q w → wpList P ops (QN N) (o :: rest) a w := by
      intro env hag hw h
      unfold wpList
      rw [if_neg (by simp [hw])]
      exact ih _ _ _ hwr (hag.put (.inr rfl)) h fun env' a' w' h1 h2 h3 => hN env' a' w' h1 ((Off.put hwo).trans h2) h3
    replace h : At Q w (denL P ops (o :: rest) env K) := h
    unfold denL at h
    dsimp only at h
    split at h
    · rename_i hg
      exact go env hag (by simp [Region.wanted, hg]) h
    · rename_i j want hg
      split at h
      · exact h.elim
      · rename_i d hd
        have hwant : ∀ b, (env.getD d nE).v = some (.bool b) → Region.wanted o (yielded ops a.tmps) = (b == want) := by
          intro b hb
          rw [Region.wanted, hg]
          simp only [agree_guard hag hd hb]
          cases b <;> cases want <;> rfl
        split at h
        · rename_i he
          have hw := hwant true (by rw [he]; rfl)
          split at h
          · rename_i hwt; exact go env hag (by simp [hw, hwt]) h
          · rename_i hwt; exact skip env hag (by simp [hw, hwt]) h
        · rename_i he
          have hw := hwant false (by rw [he]; rfl)
          split at h
          · rename_i hwt; exact skip env hag (by simp [hw, hwt]) h
          · rename_i hwt; exact go env hag (by simp [hw]; simpa using hwt) h
        · rename_i vs he
          refine skip env hag ?_ h
          rw [Region.wanted, hg]
          simp only [agree_undef hag hd (by rw [he]; rfl)]
          rfl
        · rename_i b he
          have hw := hwant b (by rw [he]; rfl)
          have hT : b = true → Agree (env.set d (.e .tt)) a.tmps := fun hb => agree_set hag (b := true) (by rw [he, hb]; rfl) rfl
          have hF : b = false → Agree (env.set d (.e .ff)) a.tmps := fun hb => agree_set hag (b := false) (by rw [he, hb]; rfl) rfl
          obtain ⟨h1, h2⟩ := h
          cases b with
          | true =>
            have h1 := h1 rfl
            cases want with
            | true => exact go _ (hT rfl) (by simp [hw]) h1
            | false => exact skip _ (hT rfl) (by simp [hw]) h1
          | false =>
            have h2 := h2 rfl
            cases want with
            | true => exact skip _ (hF rfl) (by simp [hw]) h2
            | false => exact go _ (hF rfl) (by simp [hw]) h2
        · exact h.elim

end Go.Gl
