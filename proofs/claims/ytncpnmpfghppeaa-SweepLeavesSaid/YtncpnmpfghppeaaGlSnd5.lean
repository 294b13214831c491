/- A code's tree is sound: regions that draw their order. -/
import Derived.Test.YtncpnmpfghppeaaGlSnd4
set_option linter.unusedSimpArgs false
set_option linter.unusedVariables false
namespace Go.Gl
open Go

variable {P : Program}

def isQuiet (o : Oper) : Bool :=
  match o.op with
  | .load _ _ | .move _ | .assign _ | .pick _ _ _ | .nilCheck _ | .binOp _ _ _ _ _ | .unOp _ _ _ | .convert _ _ _ | .fieldAddr _ _ _ | .field _ _ _ | .indexAddr _ _ _
  | .extract _ _ | .makeFunc _ _ _ | .build _ _ | .slice _ _ _ _ _ => true
  | .call c => match c.callee with | .builtin .len | .builtin .max | .builtin .min => true | _ => false
  | _ => false

theorem eff_quiet {o : Oper} {env : Env} {κ : En → Tree} {Q : Value → World → Prop} {w : World} (hq : isQuiet o = true) (h : denEff P o env κ Q w) : ∃ t x, o.op = .load t x := by
  obtain ⟨dst, op, type, pos, after, guard⟩ := o
  replace h : At Q w (denEff P ⟨dst, op, type, pos, after, guard⟩ env κ) := h
  unfold denEff at h
  cases op with
  | load t x => exact ⟨t, x, rfl⟩
  | call c =>
    exfalso
    unfold isQuiet at hq
    dsimp only at h hq
    split at h
    · exact h.elim
    · split at hq
      · rename_i hc; rw [hc] at h; exact h.elim
      · rename_i hc; rw [hc] at h; exact h.elim
      · rename_i hc; rw [hc] at h; exact h.elim
      · cases hq
  | _ => exfalso; first | exact h.elim | (simp [isQuiet] at hq)

theorem quiet_op {o : Oper} {env : Env} {a : Act} {κ : En → Tree} {Q : Value → World → Prop} {w : World} (hag : Agree env a.tmps) (hq : isQuiet o = true) (h : denOp P o env κ Q w) :
    ∃ e v, (e.v = none ∨ e.v = some v) ∧ (execOp a.eval o).run P w = .ok (.value v) w ∧ κ e Q w := by
  replace h : At Q w (denOp P o env κ) := h
  unfold denOp at h
  split at h
  · rename_i pt hpt
    obtain ⟨e, v, he, hr, h⟩ := good_pure hag hpt κ Q w h
    exact ⟨e, v, he, hr w, h⟩
  · obtain ⟨t, x, ho⟩ := eff_quiet hq h
    have key : ∀ ad, a.eval x = .pointer (some ad) → loadD P t ad κ Q w → ∃ e v, (e.v = none ∨ e.v = some v) ∧ (execOp a.eval o).run P w = .ok (.value v) w ∧ κ e Q w := by
      intro ad hx h
      replace h : At Q w (loadD P t ad κ) := h
      unfold loadD at h
      split at h
      · rename_i hf
        split at h
        · rename_i kd hk
          obtain ⟨v, hv, h⟩ := run_loadVar hk hf h
          refine ⟨.e (kd.en v), kd.val v, .inr (KD.en_v kd v), ?_, h⟩
          simp only [execOp, ho, hx, Instr.loadAt]
          exact run_v (by simpa [Instr.sureAddr] using hv)
        · exact h.elim
      · exact h.elim
    have H1 : ∀ x v, (e1 env x).v = some v → a.eval x = v := fun x v hv => e1_ok hag hv
    unfold denEff at h
    rw [ho] at h
    dsimp only at h
    split at h
    · rename_i ad hx
      exact key ad (H1 x _ (by rw [hx]; rfl)) h
    · rename_i p hx
      obtain ⟨ad, rfl, h⟩ := h
      exact key ad (H1 x _ (by rw [hx]; rfl)) h
    · exact h.elim

theorem denL_still {ops : Array Oper} {K : Env → Tree} {Q : Value → World → Prop} {ws : List Nat} {w : World} {l2 : List Oper} : ∀ (l1 : List Oper) (env : Env) (a : Act),
    (∀ o ∈ l1, ∀ d, o.dst = some d → d ∈ ws) → l1.all isQuiet = true → Agree env a.tmps → denL P ops (l1 ++ l2) env K Q w →
    wpStill P ops w (fun a' => ∃ env', Agree env' a'.tmps ∧ Off ws a a' ∧ denL P ops l2 env' K Q w) l1 a := by
  intro l1
  have still_mono : ∀ (l : List Oper) (a : Act) (A B : Act → Prop), (∀ a, A a → B a) → wpStill P ops w A l a → wpStill P ops w B l a := by
    intro l
    induction l with
    | nil => intro a A B h hA; exact h a hA
    | cons o l ih =>
      intro a A B h hA
      unfold wpStill at hA ⊢
      split
      · rename_i hw
        rw [if_pos hw] at hA
        unfold Oper.still at hA ⊢
        generalize (execOp a.eval o).run P w = r at hA
        unfold Oper.stillUpon at hA ⊢
        split
        · exact ⟨hA.1, ih _ _ _ h hA.2⟩
        · exact ⟨hA.1, ih _ _ _ h hA.2⟩
        · obtain ⟨h1, v, h2, h3⟩ := hA; exact ⟨h1, v, h2, ih _ _ _ h h3⟩
        · rename_i r h1 h2 h3
          split at hA
          · exact (h1 _ _ rfl).elim
          · exact (h2 _ rfl).elim
          · exact (h3 _ _ _ rfl).elim
          · exact hA.elim
      · rename_i hw
        rw [if_neg hw] at hA
        exact ih _ _ _ h hA
  induction l1 with
  | nil => intro env a _ _ hag h; exact ⟨env, hag, Off.refl _ _, h⟩
  | cons o rest ih =>
    intro env a hws hq hag h
    have hwo := hws o (by simp)
    have hwr : ∀ o ∈ rest, ∀ d, o.dst = some d → d ∈ ws := fun o ho => hws o (by simp [ho])
    simp only [List.all_cons, Bool.and_eq_true] at hq
    have go : ∀ env, Agree env a.tmps → Region.wanted o (yielded ops a.tmps) = true → denOp P o env (fun e => denL P ops (rest ++ l2) (setE env o.dst e) K) Q w →
        wpStill P ops w (fun a' => ∃ env', Agree env' a'.tmps ∧ Off ws a a' ∧ denL P ops l2 env' K Q w) (o :: rest) a := by
      intro env hag hw h
      obtain ⟨e, v, he, hr, h⟩ := quiet_op hag hq.1 h
      unfold wpStill
      rw [if_pos hw]
      unfold Oper.still
      rw [hr, Oper.stillUpon_value]
      exact still_mono _ _ _ _ (fun a' ⟨env', h1, h2, h3⟩ => ⟨env', h1, (Off.put hwo).trans h2, h3⟩) (ih _ _ hwr hq.2 (hag.put he) h)
    have skip : ∀ env, Agree env a.tmps → Region.wanted o (yielded ops a.tmps) = false → denL P ops (rest ++ l2) (setE env o.dst uE) K Q w →
        wpStill P ops w (fun a' => ∃ env', Agree env' a'.tmps ∧ Off ws a a' ∧ denL P ops l2 env' K Q w) (o :: rest) a := by
      intro env hag hw h
      unfold wpStill
      rw [if_neg (by simp [hw])]
      exact still_mono _ _ _ _ (fun a' ⟨env', h1, h2, h3⟩ => ⟨env', h1, (Off.put hwo).trans h2, h3⟩) (ih _ _ hwr hq.2 (hag.put (.inr rfl)) h)
    replace h : At Q w (denL P ops (o :: (rest ++ l2)) env K) := h
    unfold denL at h
    dsimp only at h
    split at h
    · rename_i hg
      exact go env hag (by simp [Region.wanted, hg]) h
    · rename_i j want hg
      split at h
      · exact h.elim
      · rename_i d hd
        have hwant : ∀ b, (env.getD d nE).v = some (.bool b) → Region.wanted o (yielded ops a.tmps) = (b == want) := by
          intro b hb
          rw [Region.wanted, hg]
          simp only [agree_guard hag hd hb]
          cases b <;> cases want <;> rfl
        split at h
        · rename_i he
          have hw := hwant true (by rw [he]; rfl)
          split at h
          · rename_i hwt; exact go env hag (by simp [hw, hwt]) h
          · rename_i hwt; exact skip env hag (by simp [hw, hwt]) h
        · rename_i he
          have hw := hwant false (by rw [he]; rfl)
          split at h
          · rename_i hwt; exact skip env hag (by simp [hw, hwt]) h
          · rename_i hwt; exact go env hag (by simp [hw]; simpa using hwt) h
        · rename_i vs he
          refine skip env hag ?_ h
          rw [Region.wanted, hg]
          simp only [agree_undef hag hd (by rw [he]; rfl)]
          rfl
        · rename_i b he
          have hw := hwant b (by rw [he]; rfl)
          have hT : b = true → Agree (env.set d (.e .tt)) a.tmps := fun hb => agree_set hag (b := true) (by rw [he, hb]; rfl) rfl
          have hF : b = false → Agree (env.set d (.e .ff)) a.tmps := fun hb => agree_set hag (b := false) (by rw [he, hb]; rfl) rfl
          obtain ⟨h1, h2⟩ := h
          cases b with
          | true =>
            have h1 := h1 rfl
            cases want with
            | true => exact go _ (hT rfl) (by simp [hw]) h1
            | false => exact skip _ (hT rfl) (by simp [hw]) h1
          | false =>
            have h2 := h2 rfl
            cases want with
            | true => exact skip _ (hF rfl) (by simp [hw]) h2
            | false => exact go _ (hF rfl) (by simp [hw]) h2
        · exact h.elim

/-! ### one condition, held till an operation that waits for all loads -/
section
variable {ops : Array Oper} {Q : Exit → Act → World → Prop} {S : World → Prop} {bar : Option Nat}

/-- does operation j wait for operation i? -/
def ancB (ops : Array Oper) : Nat → Nat → Nat → Bool
  | 0, i, j => i == j
  | n + 1, i, j => i == j || (match ops.toList[j]? with | none => false | some o => o.after.toList.any fun e => Region.binds .any e && ancB ops n i e.on)
/-- what is listed has all listed that it waits for -/
def Down (ops : Array Oper) (l : Array Bool) : Prop := ∀ j, l.getD j false = true → ∀ o, ops[j]? = some o → ∀ e ∈ o.after, Region.binds .any e = true → l.getD e.on false = true
theorem anc_down {l : Array Bool} (hd : Down ops l) : ∀ {n i j : Nat}, ancB ops n i j = true → l.getD j false = true → l.getD i false = true := by
  intro n
  induction n with
  | zero => intro i j h hj; simp [ancB] at h; subst h; exact hj
  | succ n ih =>
    intro i j h hj
    unfold ancB at h
    rw [Bool.or_eq_true] at h
    rcases h with h | h
    · simp at h; subst h; exact hj
    · split at h
      · cases h
      · rename_i o ho
        rw [List.any_eq_true] at h
        obtain ⟨e, he, h⟩ := h
        rw [Bool.and_eq_true] at h
        exact ih h.2 (hd j hj o (by simpa using ho) e (by simpa using he) h.1)
def Bar (bar : Option Nat) (l : Array Bool) : Bool := match bar with | none => true | some j => !l.getD j false
theorem getD_set1 {l : Array Bool} {i j : Nat} (h : l.getD j false = true) : (l.setIfInBounds i true).getD j false = true := by
  simp only [Array.getD_eq_getD_getElem?, Array.getElem?_setIfInBounds] at *
  by_cases hij : i = j
  · subst hij
    rcases Nat.lt_or_ge i l.size with h' | h'
    · simp [h']
    · simp [Array.getElem?_eq_none h'] at h
  · simp [hij]; simpa using h
theorem getD_set0 {l : Array Bool} {i j : Nat} (h : i ≠ j) : (l.setIfInBounds i true).getD j false = l.getD j false := by
  simp only [Array.getD_eq_getD_getElem?, Array.getElem?_setIfInBounds, h, if_false]
theorem getD_tf {l : Array Bool} {i : Nat} (h : l.getD i true = false) : i < l.size ∧ l.getD i false = false := by
  simp only [Array.getD_eq_getD_getElem?] at *
  rcases Nat.lt_or_ge i l.size with h' | h'
  · simp [h'] at h ⊢; exact h
  · simp [Array.getElem?_eq_none h'] at h
theorem Bar.set {l : Array Bool} {i : Nat} (h : bar ≠ some i) : Bar bar (l.setIfInBounds i true) = Bar bar l := by
  unfold Bar
  cases bar with
  | none => rfl
  | some j => dsimp only; rw [getD_set0 (fun e => h (by rw [e]))]
theorem Bar.at {l : Array Bool} {i : Nat} (h : i < l.size) : Bar (some i) (l.setIfInBounds i true) = false := by
  simp [Bar, h]
theorem Down.set {l : Array Bool} {j : Nat} (hd : Down ops l) (hj : j ∈ Region.ready .any ops l) : Down ops (l.setIfInBounds j true) := by
  intro k hk o ho e he hb
  refine getD_set1 ?_
  by_cases hkj : j = k
  · subst hkj
    obtain ⟨_, o', ho', hall⟩ := mem_ready.1 hj
    rw [ho] at ho'; injection ho' with ho'; subst ho'
    exact hall e he hb
  · rw [getD_set0 hkj] at hk
    exact hd k hk o ho e he hb
theorem Down.start (ops : Array Oper) : Down ops (Array.replicate ops.size false) := by
  intro k hk
  simp only [Array.getD_eq_getD_getElem?, Array.getElem?_replicate] at hk
  split at hk <;> simp at hk
theorem Bar.start (bar : Option Nat) (ops : Array Oper) : false = !Bar bar (Array.replicate ops.size false) := by
  unfold Bar
  cases bar with
  | none => rfl
  | some j =>
    simp only [Array.getD_eq_getD_getElem?, Array.getElem?_replicate]
    split <;> simp

def wpAnyG (P : Program) (ops : Array Oper) (Q : Exit → Act → World → Prop) (S : World → Prop) (bar : Option Nat) : Nat → Array Bool → Act → World → Prop
  | 0, listed, a, w => Region.ready .any ops listed = [] ∧ Q .normal a w
  | fuel + 1, listed, a, w =>
    (Region.ready .any ops listed = [] → Q .normal a w) ∧
    ∀ i ∈ Region.ready .any ops listed, wpOp P ops Q i (fun a' w' => (Bar bar (listed.setIfInBounds i true) = true → S w') ∧ wpAnyG P ops Q S bar fuel (listed.setIfInBounds i true) a' w') a w
theorem wpAny_of_G : ∀ (fuel : Nat) (listed : Array Bool) (a : Act) (w : World), wpAnyG P ops Q S bar fuel listed a w → wpAny P .any ops Q fuel listed a w
  | 0, _, _, _, h => h
  | fuel + 1, _, _, _, h => ⟨h.1, fun i hi => wpOp_mono (fun a' w' h' => wpAny_of_G fuel _ a' w' h'.2) (h.2 i hi)⟩
theorem wp_region_G {id : Nat} {a : Act} {w : World} (hm : P.follows .mixedOrders = true)
    (h : wpAnyG P ops Q S bar ops.size (Array.replicate ops.size false) a { w with drawn := w.drawn + 1 }) : (Code.region id ops true).wp P Q a w :=
  wp_region_any hm (wpAny_of_G _ _ _ _ h)

theorem wpAnyG_first {S' : World → Prop} {i : Nat} {oi : Oper} {v : Value} (hi : ops[i]? = some oi) (hsel : ∀ (j : Nat) (o : Oper) cs b, ops[j]? = some o → o.op ≠ .select cs b)
    (hQ : ∀ c a w, Q (.panic c) (a.put oi.dst v) w → Q (.panic c) a w) (hbar : bar ≠ some i)
    (hT : ∀ l w', Down ops l → l.getD i false = false → (Bar bar l = true → S w') → S' w') :
    ∀ (fuel : Nat) (listed : Array Bool) (a : Act) (w : World),
      (∀ j oj, ops[j]? = some oj → j ≠ i → listed.getD j true = false → (∀ e ∈ oj.after, Region.binds .any e = true → e.on ≠ i) → oi.apart ops oj = true) →
      Down ops listed → i ∈ Region.ready .any ops listed → YieldsIf P ops S' oi v a → (Bar bar listed = true → S w) →
      wpAnyG P ops Q S bar fuel (listed.setIfInBounds i true) (a.put oi.dst v) w → wpAnyG P ops Q S bar (fuel + 1) listed a w := by
  intro fuel
  induction fuel with
  | zero =>
    intro listed a w _ hd hr hy hS H
    refine ⟨fun h => (by rw [h] at hr; cases hr), fun j hj => ?_⟩
    by_cases hji : j = i
    · subst hji
      exact hy.wpOp hi (hT listed w hd (getD_tf (mem_ready.1 hj).1).2 hS) ⟨by rw [Bar.set hbar]; exact hS, H⟩
    · have := ready_mono hj hji
      rw [H.1] at this
      cases this
  | succ fuel ih =>
    intro listed a w hfree hd hr hy hS H
    refine ⟨fun h => (by rw [h] at hr; cases hr), fun j hj => ?_⟩
    by_cases hji : j = i
    · subst hji
      exact hy.wpOp hi (hT listed w hd (getD_tf (mem_ready.1 hj).1).2 hS) ⟨by rw [Bar.set hbar]; exact hS, H⟩
    · have h1 := H.2 j (ready_mono hj hji)
      obtain ⟨hjun, oj, hoj, hall⟩ := mem_ready.1 hj
      have hiun := (getD_tf (mem_ready.1 hr).1).2
      have hnot : ∀ e ∈ oj.after, Region.binds .any e = true → e.on ≠ i := fun e he hb heq => by
        have h1 := hall e he hb
        rw [heq, hiun] at h1
        cases h1
      have h2 := wpOp_putIf hoj (hfree j oj hoj hji hjun hnot) (fun cs b => hsel i oi cs b hi) (fun cs b => hsel j oj cs b hoj) hQ hy h1
      have hfree' : ∀ k ok, ops[k]? = some ok → k ≠ i → (listed.setIfInBounds j true).getD k true = false →
          (∀ e ∈ ok.after, Region.binds .any e = true → e.on ≠ i) → oi.apart ops ok = true := fun k ok hk hki hun hno => by
        refine hfree k ok hk hki ?_ hno
        by_cases hjk : j = k
        · subst hjk; exact hjun
        · rw [getD_set_ne true hjk] at hun; exact hun
      have hd' := hd.set hj
      refine wpOp_mono (fun a' w' h3 => ?_) h2
      have hcomm : (listed.setIfInBounds j true).setIfInBounds i true = (listed.setIfInBounds i true).setIfInBounds j true := Array.setIfInBounds_comm _ _ hji
      have hS' : Bar bar (listed.setIfInBounds j true) = true → S w' := by
        intro hb
        apply h3.2.1
        rw [← hcomm, Bar.set hbar]
        exact hb
      refine ⟨hS', ih (listed.setIfInBounds j true) a' w' hfree' hd' (ready_mono hr (Ne.symm hji)) h3.1 hS' ?_⟩
      rw [hcomm]
      exact h3.2.2

theorem wpAnyG_all {rs : List Nat} {fuel : Nat} {listed : Array Bool} {a : Act} {w : World} (hr : Region.ready .any ops listed = rs) (hne : rs ≠ [])
    (h : ∀ i ∈ rs, wpOp P ops Q i (fun a' w' => (Bar bar (listed.setIfInBounds i true) = true → S w') ∧ wpAnyG P ops Q S bar fuel (listed.setIfInBounds i true) a' w') a w) : wpAnyG P ops Q S bar (fuel + 1) listed a w :=
  ⟨fun h0 => absurd (hr ▸ h0) hne, hr ▸ h⟩
theorem wpAnyG_done {listed : Array Bool} {a : Act} {w : World} (hr : Region.ready .any ops listed = []) (h : Q .normal a w) :
    ∀ fuel, wpAnyG P ops Q S bar fuel listed a w
  | 0 => ⟨hr, h⟩
  | _ + 1 => ⟨fun _ => h, by rw [hr]; simp⟩
end

def isLoad (o : Oper) : Bool := match o.op with | .load _ _ => true | _ => false
def HT.heads : HT → List Nat
  | .nil => [] | .go i _ _ => [i] | .two x y => x.heads ++ y.heads
def heldB (ops : Array Oper) (bar : Option Nat) : HT → Array Bool → Bool → Bool → Bool
  | .nil, listed, _, _ => (Region.ready .any ops listed).isEmpty
  | .two x y, listed, c, post => !(x.heads ++ y.heads).isEmpty && (if c then Region.ready .any ops listed == x.heads ++ y.heads else true) && heldB ops bar x listed false post && heldB ops bar y listed false post
  | .go i b rest, listed, c, post => match ops.toList[i]? with
    | none => false
    | some o => (if isQuiet o then c && (!b) && Region.free .any ops listed i && (Region.ready .any ops listed).contains i && (bar != some i) &&
        (if isLoad o then (!post) && (match bar with | none => true | some j => ancB ops ops.size i j) else true)
      else (if c then Region.ready .any ops listed == [i] else true) && (b == (bar == some i))) && heldB ops bar rest (listed.setIfInBounds i true) true (post || b)
def HT.size : HT → Nat
  | .nil => 0 | .go _ _ t => t.size + 1 | .two x y => max x.size y.size

theorem ldGS_spec {S : World → Prop} {ad : Addr} {Q : Value → World → Prop} {w : World} : ∀ (ks : List LK) (i : Nat) (f : LTs ks → Tree), ldGS S ad i ks f Q w →
    ∃ x : LTs ks, (∀ w', S w' → ∀ j, j < (vals ks x).length → w'.cell? (fa ad (i + j)) = (vals ks x)[j]?) ∧ (vals ks x).length = ks.length ∧ f x Q w := by
  intro ks
  induction ks with
  | nil => intro i f h; exact ⟨(), by simp [vals], rfl, h⟩
  | cons k ks ih =>
    intro i f h
    obtain ⟨x, hx, h⟩ := h
    obtain ⟨y, hy, hl, h⟩ := ih _ _ h
    refine ⟨(x, y), fun w' hw' j hj => ?_, by simp [vals, hl], h⟩
    cases j with
    | zero => simp [vals, hx w' hw']
    | succ j =>
      have := hy w' hw' j (by simpa [vals] using hj)
      simpa [vals, Nat.add_assoc, Nat.add_comm 1 j] using this

theorem run_loadVarS {S : World → Prop} {t : TypeId} {ad : Addr} {kd : KD} {f : KT kd → Tree} {Q : Value → World → Prop} {w : World} (hk : kdOf P t = some kd) (hf : kdFits P t = true) (h : ldS S kd ad f Q w) :
    ∃ x, (∀ w', S w' → (loadVar t ad).run P w' = .ok (kd.val x) w') ∧ f x Q w := by
  cases kd with
  | l k =>
    obtain ⟨x, hx, h⟩ := h
    refine ⟨x, fun w' hw' => ?_, h⟩
    simp [loadVar, run_isAgg (kdOf_l hk), hx w' hw', KD.val]
  | g ks =>
    obtain ⟨x, hx, hl, h⟩ := ldGS_spec ks 0 f h
    refine ⟨x, fun w' hw' => ?_, h⟩
    have hn : sizeOfT P t = some ks.length := by
      unfold kdFits at hf
      rw [hk] at hf
      cases hs : sizeOfT P t with
      | none => rw [hs] at hf; cases hf
      | some n => rw [hs] at hf; simp at hf; rw [hf]
    have hc := run_loadCells (P := P) (vals ks x) 0 #[] (hx w' hw')
    simp [loadVar, run_isAgg (kdOf_g hk), run_sizeOf hn, loadCells, ← hl, hc, KD.val]

theorem denH_ok (hp : plainNames P = true) {ops : Array Oper} (hs : Region.noSelect ops = true) {S : World → Prop} {bar : Option Nat} {K : Env → Tree} {Q : Value → World → Prop} {N : Act → World → Prop} {ws : List Nat}
    (hws : ∀ o ∈ ops.toList, ∀ d, o.dst = some d → d ∈ ws) : ∀ (l : HT) (env : Env) (a : Act) (w : World) (listed : Array Bool) (fuel : Nat) (c post : Bool),
    l.size ≤ fuel → heldB ops bar l listed c post = true → Down ops listed → (post = !Bar bar listed) → (c = false → ∀ i ∈ l.heads, i ∈ Region.ready .any ops listed) → Agree env a.tmps → (Bar bar listed = true → S w) → denH P ops S post l env K Q w →
    (∀ env' a' w', Agree env' a'.tmps → Off ws a a' → K env' Q w' → N a' w') →
    if c then wpAnyG P ops (QN N) S bar fuel listed a w
    else ∀ i ∈ l.heads, ∃ f, fuel = f + 1 ∧ wpOp P ops (QN N) i (fun a' w' => (Bar bar (listed.setIfInBounds i true) = true → S w') ∧ wpAnyG P ops (QN N) S bar f (listed.setIfInBounds i true) a' w') a w := by
  intro l
  induction l with
  | nil =>
    intro env a w listed fuel c post _ hB hdn hpb hrd hag hS h hN
    cases c with
    | true => exact wpAnyG_done (by simpa [heldB] using hB) (hN env a w hag (Off.refl _ _) h) fuel
    | false => intro i hi; cases hi
  | two x y ihx ihy =>
    intro env a w listed fuel c post hf hB hdn hpb hrd hag hS h hN
    simp only [HT.size] at hf
    unfold heldB at hB
    simp only [Bool.and_eq_true] at hB
    obtain ⟨⟨⟨hBne, hB0⟩, hB1⟩, hB2⟩ := hB
    have hne : x.heads ++ y.heads ≠ [] := by
      intro hh; rw [hh] at hBne; simp at hBne
    obtain ⟨hx, hy⟩ := h
    have hrall : ∀ i ∈ x.heads ++ y.heads, i ∈ Region.ready .any ops listed := by
      cases c with
      | false => exact hrd rfl
      | true =>
        rw [if_pos rfl] at hB0
        have hr : Region.ready .any ops listed = x.heads ++ y.heads := by simpa using hB0
        rw [hr]; exact fun i hi => hi
    have gx := ihx env a w listed fuel false post (by omega) hB1 hdn hpb (fun _ i hi => hrall i (List.mem_append_left _ hi)) hag hS hx hN
    have gy := ihy env a w listed fuel false post (by omega) hB2 hdn hpb (fun _ i hi => hrall i (List.mem_append_right _ hi)) hag hS hy hN
    have gall : ∀ i ∈ x.heads ++ y.heads, ∃ f, fuel = f + 1 ∧ wpOp P ops (QN N) i (fun a' w' => (Bar bar (listed.setIfInBounds i true) = true → S w') ∧ wpAnyG P ops (QN N) S bar f (listed.setIfInBounds i true) a' w') a w := by
      intro i hi
      rcases List.mem_append.1 hi with hi | hi
      · exact gx i hi
      · exact gy i hi
    cases c with
    | false => exact gall
    | true =>
      rw [if_pos rfl] at hB0
      have hr : Region.ready .any ops listed = x.heads ++ y.heads := by simpa using hB0
      rw [if_pos rfl]
      obtain ⟨j, js, hh⟩ := List.exists_cons_of_ne_nil hne
      obtain ⟨fuel', rfl, _⟩ := gall j (by rw [hh]; simp)
      refine wpAnyG_all hr hne fun i hi => ?_
      obtain ⟨f, hff, hop⟩ := gall i hi
      have : f = fuel' := by omega
      subst this
      exact hop
  | go i b rest ih =>
    intro env a w listed fuel c post hf hB hdn hpb hrd hag hS h hN
    obtain ⟨fuel, rfl⟩ : ∃ f, fuel = f + 1 := ⟨fuel - 1, by simp [HT.size] at hf; omega⟩
    replace h : At Q w (denH P ops S post (.go i b rest) env K) := h
    unfold denH at h
    unfold heldB at hB
    cases ho : ops.toList[i]? with
    | none => rw [ho] at hB; cases hB
    | some o =>
    rw [ho] at hB h
    dsimp only at h hB
    have ho' : ops[i]? = some o := by simpa using ho
    have hwo : ∀ d, o.dst = some d → d ∈ ws := hws o (List.mem_of_getElem? ho)
    rw [Bool.and_eq_true] at hB
    obtain ⟨hB1, hB2⟩ := hB
    have hf' : rest.size ≤ fuel := by simp [HT.size] at hf; omega
    have hir : i ∈ Region.ready .any ops listed := by
      cases c with
      | false => exact hrd rfl i (by simp [HT.heads])
      | true =>
        by_cases hq : isQuiet o = true
        · rw [if_pos hq] at hB1
          simp only [Bool.and_eq_true] at hB1
          simpa using hB1.1.1.2
        · rw [if_neg hq, if_pos rfl, Bool.and_eq_true] at hB1
          have hr : Region.ready .any ops listed = [i] := by simpa using hB1.1
          rw [hr]; simp
    have hdn' := hdn.set hir
    let G : Prop := if c then wpAnyG P ops (QN N) S bar (fuel + 1) listed a w else ∀ i' ∈ (HT.go i b rest).heads, ∃ f, fuel + 1 = f + 1 ∧ wpOp P ops (QN N) i' (fun a' w' => (Bar bar (listed.setIfInBounds i' true) = true → S w') ∧ wpAnyG P ops (QN N) S bar f (listed.setIfInBounds i' true) a' w') a w
    show G
    -- a quiet operation that yields
    have take : ∀ env e v, isQuiet o = true → Agree env a.tmps → (e.v = none ∨ e.v = some v) → (YieldsIf P ops (fun _ => True) o v a ∨ isLoad o = true ∧ YieldsIf P ops S o v a) → denH P ops S (post || b) rest (setE env o.dst e) K Q w →
        G := by
      intro env e v hq hag he hy h
      rw [if_pos hq] at hB1
      simp only [Bool.and_eq_true] at hB1
      obtain ⟨⟨⟨⟨⟨hc, hb⟩, hfr⟩, hct⟩, hbar⟩, hld⟩ := hB1
      subst hc
      have hb : b = false := by simpa using hb
      subst hb
      have hbar : bar ≠ some i := by simpa using hbar
      rw [Bool.or_false] at h hB2
      have hbs := Bar.set (l := listed) hbar
      have hrest := ih _ _ _ _ _ true post hf' hB2 hdn' (by rw [hbs]; exact hpb) nofun (hag.put he) (by rw [hbs]; exact hS) h fun env' a' w' h1 h2 h3 => hN env' a' w' h1 ((Off.put hwo).trans h2) h3
      show wpAnyG P ops (QN N) S bar (fuel + 1) listed a w
      rcases hy with hy | ⟨hil, hy⟩
      · exact wpAnyG_first (S' := fun _ => True) ho' (Region.noSelect_spec hs) (fun c a w hh => hh) hbar (fun _ _ _ _ _ => trivial) fuel listed a w (Region.free_spec ho' hfr) hdn hir hy hS hrest
      · rw [if_pos hil, Bool.and_eq_true] at hld
        refine wpAnyG_first (S' := S) ho' (Region.noSelect_spec hs) (fun c a w hh => hh) hbar (fun l w' hdl hun hSl => hSl ?_) fuel listed a w (Region.free_spec ho' hfr) hdn hir hy hS hrest
        unfold Bar
        cases hbb : bar with
        | none => rfl
        | some j =>
          rw [hbb] at hld
          dsimp only at hld ⊢
          cases hlj : l.getD j false with
          | false => rfl
          | true => rw [anc_down hdl hld.2 hlj] at hun; cases hun
    have loud : ∀ env, isQuiet o = false → Agree env a.tmps → (Region.wanted o (yielded ops a.tmps) = true ∧ denEff P o env (fun e => bif post || b then denH P ops S (post || b) rest (setE env o.dst e) K else chk S (denH P ops S (post || b) rest (setE env o.dst e) K)) Q w ∨
        Region.wanted o (yielded ops a.tmps) = false ∧ denH P ops S (post || b) rest (setE env o.dst uE) K Q w) → G := by
      intro env hq hag h
      rw [if_neg (by simp [hq]), Bool.and_eq_true] at hB1
      obtain ⟨hB1, hbb⟩ := hB1
      have hbb : b = (bar == some i) := by simpa using hbb
      have hpb' : (post || b) = !Bar bar (listed.setIfInBounds i true) := by
        by_cases hbi : bar = some i
        · subst hbi
          rw [Bar.at (getD_tf (mem_ready.1 hir).1).1, hbb]
          simp
        · rw [Bar.set hbi, hbb, hpb]
          have : (bar == some i) = false := by simpa using hbi
          rw [this, Bool.or_false]
      have hop : wpOp P ops (QN N) i (fun a' w' => (Bar bar (listed.setIfInBounds i true) = true → S w') ∧ wpAnyG P ops (QN N) S bar fuel (listed.setIfInBounds i true) a' w') a w := ?_
      · cases c with
        | true =>
          rw [if_pos rfl] at hB1
          have hr : Region.ready .any ops listed = [i] := by simpa using hB1
          refine wpAnyG_all hr (by simp) fun j hj => ?_
          simp only [List.mem_singleton] at hj
          subst hj
          exact hop
        | false =>
          intro j hj
          simp only [HT.heads, List.mem_singleton] at hj
          subst hj
          exact ⟨fuel, rfl, hop⟩
      unfold wpOp
      rw [ho']
      dsimp only
      rcases h with ⟨hw, h⟩ | ⟨hw, h⟩
      · rw [if_pos hw]
        refine .inl (good_eff hp hag h _ _ fun e v w' he hk => ?_)
        have hk' : (Bar bar (listed.setIfInBounds i true) = true → S w') ∧ denH P ops S (post || b) rest (setE env o.dst e) K Q w' := by
          cases hpo : post || b with
          | true =>
            rw [hpo] at hk hpb'
            exact ⟨fun hh => absurd hpb' (by rw [hh]; decide), hk⟩
          | false => rw [hpo] at hk; exact ⟨fun _ => hk.1, hk.2⟩
        exact ⟨hk'.1, ih _ _ _ _ _ true _ hf' hB2 hdn' hpb' nofun (hag.put he) hk'.1 hk'.2 fun env' a' w' h1 h2 h3 => hN env' a' w' h1 ((Off.put hwo).trans h2) h3⟩
      · rw [if_neg (by simp [hw])]
        have hS' : Bar bar (listed.setIfInBounds i true) = true → S w := by
          intro hh
          apply hS
          by_cases hbi : bar = some i
          · subst hbi; rw [Bar.at (getD_tf (mem_ready.1 hir).1).1] at hh; cases hh
          · rw [Bar.set hbi] at hh; exact hh
        exact ⟨hS', ih _ _ _ _ _ true _ hf' hB2 hdn' hpb' nofun (hag.put (.inr rfl)) hS' h fun env' a' w' h1 h2 h3 => hN env' a' w' h1 ((Off.put hwo).trans h2) h3⟩
    -- an operation that is wanted
    have go : ∀ env, Agree env a.tmps → Region.wanted o (yielded ops a.tmps) = true → At Q w (match denPure P o env with
        | some pt => pt fun e => denH P ops S (post || b) rest (setE env o.dst e) K
        | none => match o.op with
          | .load t x => if kdFits P t then match e1 env x, kdOf P t with
            | .pa a, some kd => ldS S kd a fun r => denH P ops S (post || b) rest (setE env o.dst (.e (kd.en r))) K
            | .va (.pointer p), some kd => nn p fun a => ldS S kd a fun r => denH P ops S (post || b) rest (setE env o.dst (.e (kd.en r))) K
            | _, _ => bad
            else bad
          | _ => denEff P o env fun e => bif post || b then denH P ops S (post || b) rest (setE env o.dst e) K else chk S (denH P ops S (post || b) rest (setE env o.dst e) K)) → G := by
      intro env hag hw h
      split at h
      · rename_i pt hpt
        obtain ⟨e, v, he, hr, h⟩ := good_pure hag hpt _ Q w h
        by_cases hq : isQuiet o = true
        · exact take env e v hq hag he (.inl (.inl ⟨hw, fun w' _ => hr w'⟩)) h
        · exfalso
          unfold denPure at hpt
          unfold isQuiet at hq
          split at hpt <;> first | (rename_i hop; rw [hop] at hq; simp at hq; done) | skip
          · rename_i c hop
            rw [hop] at hq
            dsimp only at hq
            split at hpt
            · rename_i hc; rw [hc] at hq; simp at hq
            · rename_i hc; rw [hc] at hq; simp at hq
            · rename_i hc; rw [hc] at hq; simp at hq
            · cases hpt
          · cases hpt
      · split at h
        · rename_i t x hop
          have hq : isQuiet o = true := by unfold isQuiet; rw [hop]
          split at h
          · rename_i hfit
            have key : ∀ ad kd, a.eval x = .pointer (some ad) → kdOf P t = some kd → ldS S kd ad (fun r => denH P ops S (post || b) rest (setE env o.dst (.e (kd.en r))) K) Q w →
                G := by
              intro ad kd hx hkd h
              obtain ⟨v, hv, h⟩ := run_loadVarS hkd hfit h
              refine take env (.e (kd.en v)) (kd.val v) hq hag (.inr (KD.en_v kd v)) (.inr ⟨by unfold isLoad; rw [hop], .inl ⟨hw, fun w' hw' => ?_⟩⟩) h
              simp only [execOp, hop, hx, Instr.loadAt]
              exact run_v (by simpa [Instr.sureAddr] using hv w' hw')
            split at h
            · rename_i ad kd hx hkd
              exact key ad kd (e1_ok hag (by rw [hx]; rfl)) hkd h
            · rename_i p kd hx hkd
              obtain ⟨ad, rfl, h⟩ := h
              exact key ad kd (e1_ok hag (by rw [hx]; rfl)) hkd h
            · exact h.elim
          · exact h.elim
        · rename_i hnl
          by_cases hq : isQuiet o = true
          · obtain ⟨t, x, hop⟩ := eff_quiet hq h
            exact (hnl t x hop).elim
          · exact loud env (by simpa using hq) hag (.inl ⟨hw, h⟩)
    have skip : ∀ env, Agree env a.tmps → Region.wanted o (yielded ops a.tmps) = false → denH P ops S (post || b) rest (setE env o.dst uE) K Q w → G := by
      intro env hag hw h
      by_cases hq : isQuiet o = true
      · exact take env uE undef hq hag (.inr rfl) (.inl (.inr ⟨hw, rfl⟩)) h
      · exact loud env (by simpa using hq) hag (.inr ⟨hw, h⟩)
    split at h
    · rename_i hg
      exact go env hag (by simp [Region.wanted, hg]) h
    · rename_i j want hg
      split at h
      · exact h.elim
      · rename_i d hd
        have hwant : ∀ b, (env.getD d nE).v = some (.bool b) → Region.wanted o (yielded ops a.tmps) = (b == want) := by
          intro b hb
          rw [Region.wanted, hg]
          simp only [agree_guard hag hd hb]
          cases b <;> cases want <;> rfl
        split at h
        · rename_i he
          have hw := hwant true (by rw [he]; rfl)
          split at h
          · rename_i hwt; exact go env hag (by simp [hw, hwt]) h
          · rename_i hwt; exact skip env hag (by simp [hw, hwt]) h
        · rename_i he
          have hw := hwant false (by rw [he]; rfl)
          split at h
          · rename_i hwt; exact skip env hag (by simp [hw, hwt]) h
          · rename_i hwt; exact go env hag (by simp [hw]; simpa using hwt) h
        · rename_i vs he
          refine skip env hag ?_ h
          rw [Region.wanted, hg]
          simp only [agree_undef hag hd (by rw [he]; rfl)]
          rfl
        · rename_i b he
          have hw := hwant b (by rw [he]; rfl)
          have hT : b = true → Agree (env.set d (.e .tt)) a.tmps := fun hb => agree_set hag (b := true) (by rw [he, hb]; rfl) rfl
          have hF : b = false → Agree (env.set d (.e .ff)) a.tmps := fun hb => agree_set hag (b := false) (by rw [he, hb]; rfl) rfl
          obtain ⟨h1, h2⟩ := h
          cases b with
          | true =>
            have h1 := h1 rfl
            cases want with
            | true => exact go _ (hT rfl) (by simp [hw]) h1
            | false => exact skip _ (hT rfl) (by simp [hw]) h1
          | false =>
            have h2 := h2 rfl
            cases want with
            | true => exact skip _ (hF rfl) (by simp [hw]) h2
            | false => exact go _ (hF rfl) (by simp [hw]) h2
        · exact h.elim

end Go.Gl
