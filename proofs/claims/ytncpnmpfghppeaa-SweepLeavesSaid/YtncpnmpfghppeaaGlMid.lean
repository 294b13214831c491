/- bits: Run, Count; pages. -/
import Derived.Test.YtncpnmpfghppeaaGlLow
set_option linter.unusedSimpArgs false
set_option linter.unusedVariables false
namespace Go.Proofs.Ytncpnmpfghppeaa
open Go Go.Gl
variable {ρ0 ρ : FR} {L L' : List Asn} {Post : Value → List Asn → Prop} {T : Tree}

/-! ### plain laws -/
theorem Sp.nextN_spec (l : List Bool) (is : Bool) : ∀ n i, n = l.length - i →
    (Sp.nextN l is n i = -1 ∧ ∀ j, i ≤ j → j < l.length → l.getD j false ≠ is) ∨
    ∃ k : Nat, Sp.nextN l is n i = k ∧ i ≤ k ∧ k < l.length ∧ l.getD k false = is ∧ ∀ j, i ≤ j → j < k → l.getD j false ≠ is := by
  intro n
  induction n with
  | zero => intro i h; exact .inl ⟨rfl, fun j h1 h2 => by omega⟩
  | succ n ih =>
    intro i h
    unfold Sp.nextN
    by_cases hc : i < l.length ∧ l.getD i false = is
    · rw [if_pos hc]
      exact .inr ⟨i, rfl, Nat.le_refl _, hc.1, hc.2, fun j h1 h2 => by omega⟩
    · rw [if_neg hc]
      have h0 : l.getD i false ≠ is := fun h' => hc ⟨by omega, h'⟩
      rcases ih (i + 1) (by omega) with ⟨h1, h2⟩ | ⟨k, h1, h2, h3, h4, h5⟩
      · refine .inl ⟨h1, fun j hj hl => ?_⟩
        rcases Nat.lt_or_ge i j with h | h
        · exact h2 j h hl
        · have : j = i := by omega
          subst this; exact h0
      · refine .inr ⟨k, h1, by omega, h3, h4, fun j hj hl => ?_⟩
        rcases Nat.lt_or_ge i j with h | h
        · exact h5 j h hl
        · have : j = i := by omega
          subst this; exact h0
theorem Sp.next_spec (l : List Bool) (is : Bool) (i : Nat) :
    (Sp.next l i is = -1 ∧ ∀ j, i ≤ j → j < l.length → l.getD j false ≠ is) ∨
    ∃ k : Nat, Sp.next l i is = k ∧ i ≤ k ∧ k < l.length ∧ l.getD k false = is ∧ ∀ j, i ≤ j → j < k → l.getD j false ≠ is := by
  have := Sp.nextN_spec l is (l.length - i) i rfl
  simpa [Sp.next] using this

/-- are so many places not so from one on? -/
def Sp.clearAt (l : List Bool) (i k : Nat) : Bool := (List.range k).all fun j => !l.getD (i + j) false
theorem Sp.clearAt_iff {l : List Bool} {i k : Nat} : Sp.clearAt l i k = true ↔ ∀ j, i ≤ j → j < i + k → l.getD j false = false := by
  unfold Sp.clearAt
  rw [List.all_eq_true]
  constructor
  · intro h j h1 h2
    have := h (j - i) (by simp; omega)
    rw [show i + (j - i) = j by omega] at this
    simpa using this
  · intro h j hj
    simp at hj
    have := h (i + j) (by omega) (by omega)
    rw [this]; rfl
def Sp.run (l : List Bool) (k : Nat) : Option Nat := (List.range (l.length + 1 - k)).find? fun i => Sp.clearAt l i k
def Sp.oI : Option Nat → Int | some i => i | none => -1
theorem Sp.run_some {l : List Bool} {k i : Nat} (h1 : i + k ≤ l.length) (h2 : Sp.clearAt l i k = true) (h3 : ∀ j, j < i → Sp.clearAt l j k = false) : Sp.run l k = some i := by
  unfold Sp.run
  rw [List.find?_range_eq_some]
  exact ⟨h2, by simp; omega, fun j hj => by simp [h3 j hj]⟩
theorem Sp.run_none {l : List Bool} {k : Nat} (h3 : ∀ j, j + k ≤ l.length → Sp.clearAt l j k = false) : Sp.run l k = none := by
  unfold Sp.run
  rw [List.find?_range_eq_none]
  intro j hj
  simp [h3 j (by omega)]
theorem Sp.run_is {l : List Bool} {k i : Nat} (h : Sp.run l k = some i) : i + k ≤ l.length ∧ Sp.clearAt l i k = true ∧ ∀ j, j < i → Sp.clearAt l j k = false := by
  unfold Sp.run at h
  rw [List.find?_range_eq_some] at h
  obtain ⟨h1, h2, h3⟩ := h
  simp at h2
  exact ⟨by omega, h1, fun j hj => by simpa using h3 j hj⟩

theorem bits_run (p : Nat) (l : List Bool) (k : Nat) (hk : 1 ≤ k) (hk2 : k < 2 ^ 62) (hl : l.length ≤ 16384) : Spec ρ Try.prog 99 [.pointer (some ⟨p, 0, none⟩), i64 0, i64 k] [BitsA p l] R1
    fun r M => r = Sp.oI (Sp.run l k) ∧ M = [BitsA p l] := by
  refine Spec.of (fun Q w h => F.bits.Bits.Run.calls (some ⟨p, 0, none⟩) 0 k h) fun R => ?_
  unfold F.bits.Bits.Run
  try simp only [List.cons_append, List.nil_append]
  refine en_brf (by simp; omega) ?_
  refine en_lp (fun n s M => (fun f i : Int => M = BitsA p l :: R ∧ 0 ≤ f ∧ f ≤ i ∧ f < k ∧ i ≤ l.length ∧ n = l.length - i.toNat ∧ (∀ j : Nat, i - f ≤ j → j < i → l.getD j false = false) ∧
      (f < i → l.getD (i - f - 1).toNat false = true) ∧ ∀ j : Nat, j + k ≤ i → Sp.clearAt l j k = false) s.1 s.2.1) l.length ?_ ?_
  · refine ⟨rfl, by simp, by simp, by simp; omega, by simp, by simp, ?_, by simp, ?_⟩
    · intro j h1 h2; dsimp only at *; simp at h2; omega
    · intro j h2; dsimp only at *; simp at h2; omega
  · rintro n ⟨(f : Int), (i : Int), ⟨⟩⟩ M ⟨rfl, h0, h1, h2, h3, rfl, h4, h5, h6⟩ X hX
    dsimp only at *
    refine en_call (bits_size p l) tks ?_
    rintro x M ⟨rfl, rfl⟩
    try simp only [List.cons_append, List.nil_append]
    refine en_br (fun h => ?_) (fun h => ?_)
    · replace h : i < (l.length : Int) := of_decide_eq_true h
      refine en_nn (BitsA.op tk fun s hs => ?_)
      refine en_ld (by rw [fa_mk]) tk rfl ?_
      refine en_ixSL tk (by omega) (by rw [hs]; exact h) fun a0 ha => ?_
      refine en_ldSL (j := i.toNat) ha tk (by rintro b o rfl; simp [fa_mk]) (getD_bv (by omega)) ?_
      refine Tr.close tks (BitsA.cl (p := p) (l := l) hs) ?_
      have w1 : IntKind.wrap .i64 (i + 1) = i + 1 := wrap64 (by omega) (by omega)
      have w2 : IntKind.wrap .i64 (f + 1) = f + 1 := wrap64 (by omega) (by omega)
      rw [w1, w2]
      refine en_br (fun hb => ?_) (fun hb => ?_)
      · refine en_brf (by simp; omega) ?_
        refine hX (l.length - (i + 1).toNat) _ _ (by omega) ⟨rfl, by dsimp only; omega, by dsimp only; omega, by dsimp only; omega, by dsimp only; omega, rfl, ?_, ?_, ?_⟩
        · intro j g1 g2; dsimp only at *; omega
        · intro _; dsimp only; rw [show (i + 1 - 0 - 1).toNat = i.toNat by omega]; exact hb
        · intro j hj; dsimp only at *
          rcases Int.lt_or_le i (j + k) with g | g
          · cases hc : Sp.clearAt l j k with
            | false => rfl
            | true =>
              have := Sp.clearAt_iff.mp hc i.toNat (by omega) (by omega)
              rw [hb] at this; cases this
          · exact h6 j g
      · have hall : ∀ j : Nat, i - f ≤ j → j < i + 1 → l.getD j false = false := fun j g1 g2 => by
          rcases Int.lt_or_le j i with g | g
          · exact h4 j g1 g
          · rw [show j = i.toNat by omega]; exact hb
        refine en_br (fun hf => ?_) (fun hf => ?_)
        · replace hf : f + 1 = k := by simpa using hf
          have hw : IntKind.wrap .i64 (i + 1 - k) = i + 1 - k := wrap64 (by omega) (by omega)
          rw [hw]
          have hr : Sp.run l k = some (i + 1 - k).toNat := by
            refine Sp.run_some (by omega) (Sp.clearAt_iff.mpr fun j g1 g2 => hall j (by omega) (by omega)) fun j hj => h6 j (by omega)
          rw [hr]
          refine en_rets (x := Sp.oI (some (i + 1 - k).toNat)) ?_ ⟨rfl, rfl⟩ tks ens
          simp [Sp.oI, RK.val, KD.val, LK.val]; omega
        · replace hf : ¬ f + 1 = k := by simpa using hf
          refine hX (l.length - (i + 1).toNat) _ _ (by omega) ⟨rfl, by dsimp only; omega, by dsimp only; omega, by dsimp only; omega, by dsimp only; omega, rfl, ?_, ?_, ?_⟩
          · intro j g1 g2; dsimp only at *; exact hall j (by omega) g2
          · intro g; dsimp only at *; rw [show (i + 1 - (f + 1) - 1).toNat = (i - f - 1).toNat by omega]; exact h5 (by omega)
          · intro j hj; dsimp only at *
            rcases Int.lt_or_le i (j + k) with g | g
            · cases hc : Sp.clearAt l j k with
              | false => rfl
              | true =>
                have := Sp.clearAt_iff.mp hc (i - f - 1).toNat (by omega) (by omega)
                rw [h5 (by omega)] at this; cases this
            · exact h6 j g
    · replace h : ¬ i < (l.length : Int) := of_decide_eq_false h
      have hr : Sp.run l k = none := Sp.run_none fun j hj => h6 j (by omega)
      rw [hr]
      exact en_rets (x := Sp.oI none) rfl ⟨rfl, rfl⟩ tks ens

theorem take_succ_getD {α : Type} {l : List α} {k : Nat} (d : α) (h : k < l.length) : l.take (k + 1) = l.take k ++ [l.getD k d] := by
  rw [List.take_add_one]; simp [List.getD_eq_getElem?_getD, h]
theorem count_take {l : List Bool} {q k : Nat} (hq : q ≤ k) (hk : k < l.length) (h1 : l.getD k false = true) (h2 : ∀ j, q ≤ j → j < k → l.getD j false ≠ true) : (l.take (k + 1)).count true = (l.take q).count true + 1 := by
  induction k with
  | zero =>
    have : q = 0 := by omega
    subst this
    cases l with
    | nil => simp at hk
    | cons a l => simp at h1; simp [h1]
  | succ k ih =>
    have e1 : l.take (k + 1 + 1) = l.take (k + 1) ++ [true] := by
      rw [take_succ_getD false hk, h1]
    rw [e1, List.count_append]
    simp only [List.count_singleton_self, Nat.add_right_cancel_iff]
    rcases Nat.lt_or_ge q (k + 1) with g | g
    · clear ih h1 e1
      have key : ∀ d, q + d ≤ k + 1 → (l.take (q + d)).count true = (l.take q).count true := by
        intro d
        induction d with
        | zero => intro _; rfl
        | succ d ih =>
          intro hd
          have e1 : l.take (q + d + 1) = l.take (q + d) ++ [false] := by
            have := h2 (q + d) (by omega) (by omega)
            have hl : q + d < l.length := by omega
            rw [take_succ_getD false hl, show l.getD (q + d) false = false by cases h : l.getD (q + d) false <;> simp_all]
          rw [show q + (d + 1) = q + d + 1 by omega, e1, List.count_append, ih (by omega)]; rfl
      have := key (k + 1 - q) (by omega)
      rw [← this]; congr 2; omega
    · rw [show q = k + 1 by omega]
theorem count_none {l : List Bool} {q : Nat} (h2 : ∀ j, q ≤ j → j < l.length → l.getD j false ≠ true) : (l.take q).count true = l.count true := by
  conv => rhs; rw [← List.take_append_drop q l]
  rw [List.count_append]
  have : (l.drop q).count true = 0 := by
    rw [List.count_eq_zero]
    intro hm
    obtain ⟨j, hj, e⟩ := List.getElem_of_mem hm
    simp at hj e
    refine h2 (q + j) (by omega) (by omega) ?_
    have hl : q + j < l.length := by omega
    simp [List.getD_eq_getElem?_getD, hl, e]
  omega

theorem bits_count (p : Nat) (l : List Bool) (hl : l.length ≤ 16384) : Spec ρ Try.prog 72 [.pointer (some ⟨p, 0, none⟩)] [BitsA p l] R1
    fun r M => r = (l.count true : Nat) ∧ M = [BitsA p l] := by
  refine Spec.of (fun Q w h => F.bits.Bits.Count.calls (some ⟨p, 0, none⟩) h) fun R => ?_
  unfold F.bits.Bits.Count
  try simp only [List.cons_append, List.nil_append]
  refine en_call (bits_next p l 0 true hl) tks ?_
  rintro x M ⟨rfl, rfl⟩
  try simp only [List.cons_append, List.nil_append]
  have hcl : ∀ q, (l.take q).count true ≤ l.length := fun q => Nat.le_trans List.count_le_length (by simp; omega)
  refine en_lp (fun n s M => (fun c i : Int => M = BitsA p l :: R ∧ ∃ q : Nat, n = l.length - q ∧ i = Sp.next l q true ∧ c = ((l.take q).count true : Nat)) s.1 s.2.1) l.length ?_ ?_
  · exact ⟨rfl, 0, by simp, rfl, by simp⟩
  · rintro n ⟨(c : Int), (i : Int), ⟨⟩⟩ M ⟨rfl, q, rfl, hi, hc⟩ X hX
    dsimp only at *
    refine en_br (fun h => ?_) (fun h => ?_)
    · replace h : i ≥ 0 := of_decide_eq_true h
      rcases Sp.next_spec l true q with ⟨g1, g2⟩ | ⟨k, g1, g2, g3, g4, g5⟩
      · omega
      · rw [g1] at hi
        subst hi
        have w1 : IntKind.wrap .i64 ((k : Int) + 1) = ((k + 1 : Nat) : Int) := by rw [wrap64 (by omega) (by omega)]; simp
        rw [w1]
        refine en_call (bits_next p l ((k + 1 : Nat) : Int) true hl) tks ?_
        rintro x M ⟨rfl, rfl⟩
        try simp only [List.cons_append, List.nil_append]
        have := hcl q
        have w2 : IntKind.wrap .i64 (c + 1) = c + 1 := wrap64 (by omega) (by omega)
        rw [w2]
        refine hX (l.length - (k + 1)) _ _ (by omega) ⟨rfl, k + 1, rfl, rfl, ?_⟩
        have e := count_take g2 g3 g4 g5
        dsimp only; rw [e, hc]; simp
    · replace h : ¬ i ≥ 0 := of_decide_eq_false h
      rcases Sp.next_spec l true q with ⟨g1, g2⟩ | ⟨k, g1, g2, g3, g4, g5⟩
      · rw [count_none g2] at hc
        rw [hc]
        exact en_rets (x := ((l.count true : Nat) : Int)) rfl ⟨rfl, rfl⟩ tks ens
      · omega

/-! ### pages -/
def PagesA (p : Nat) (l : List Bool) : Asn := fun h => ∃ b : Nat, star [blk p [.pointer (some ⟨b, 0, none⟩)], BitsA b l] h
theorem PagesA.op {p : Nat} {l : List Bool} (t : Take L (PagesA p l) L') (h : ∀ b : Nat, Tr ρ0 ρ (blk p [.pointer (some ⟨b, 0, none⟩)] :: BitsA b l :: L') T Post) : Tr ρ0 ρ L T Post :=
  Tr.openL (M := fun b : Nat => [blk p [.pointer (some ⟨b, 0, none⟩)], BitsA b l]) (c := fun _ => True) t (fun _ ⟨b, h⟩ => ⟨b, trivial, h⟩) fun b _ => h b
theorem PagesA.cl {p b : Nat} {l : List Bool} (h : HP) (H : star [blk p [.pointer (some ⟨b, 0, none⟩)], BitsA b l] h) : PagesA p l h := ⟨b, H⟩

/-- so many places from one on -/
def Sp.row (i k : Nat) : List Int := (List.range k).map fun j => ((i + j : Nat) : Int)
/-- places from one on are so, or not -/
def Sp.setR (l : List Bool) (is : Bool) (i k : Nat) : List Bool := Sp.setAll l is (Sp.row i k)
theorem Sp.setR_len {l : List Bool} {is : Bool} {i k : Nat} : (Sp.setR l is i k).length = l.length := Sp.setAll_len
theorem Sp.row_len {i k : Nat} : (Sp.row i k).length = k := by simp [Sp.row]
theorem Sp.row_ok {l : List Bool} {i k : Nat} (h : i + k ≤ l.length) : Sp.setOk l (Sp.row i k) = true := by
  unfold Sp.setOk Sp.row
  rw [List.all_eq_true]
  intro x hx
  simp at hx
  obtain ⟨j, hj, rfl⟩ := hx
  simp; omega
theorem Sp.setAll_get {is : Bool} {xs : List Int} : ∀ {l : List Bool} {j : Nat}, (∀ x ∈ xs, 0 ≤ x) → j < l.length → (Sp.setAll l is xs).getD j false = if (j : Int) ∈ xs then is else l.getD j false := by
  unfold Sp.setAll
  induction xs with
  | nil => intro l j _ _; simp
  | cons x xs ih =>
    intro l j hx hj
    simp only [List.foldl_cons]
    rw [ih (fun y hy => hx y (List.mem_cons_of_mem _ hy)) (by simpa using hj)]
    have h0 := hx x List.mem_cons_self
    by_cases h1 : (j : Int) ∈ xs
    · simp [h1]
    · by_cases h2 : (j : Int) = x
      · subst h2
        simp [h1, List.getD_eq_getElem?_getD, hj]
      · have : x.toNat ≠ j := by omega
        simp [h1, h2, List.getD_eq_getElem?_getD, List.getElem?_set, this]
theorem Sp.setR_get {l : List Bool} {is : Bool} {i k j : Nat} (hj : j < l.length) : (Sp.setR l is i k).getD j false = if i ≤ j ∧ j < i + k then is else l.getD j false := by
  unfold Sp.setR
  rw [Sp.setAll_get (by intro x hx; simp [Sp.row] at hx; omega) hj]
  have : ((j : Int) ∈ Sp.row i k) ↔ (i ≤ j ∧ j < i + k) := by
    simp only [Sp.row, List.mem_map, List.mem_range]
    constructor
    · rintro ⟨a, h1, h2⟩; omega
    · intro h; exact ⟨j - i, by omega, by omega⟩
  simp [this]

theorem appInt : appB Try.prog #[44, 44] 1 8 = true := by kernel_rfl

theorem pages_row (i k : Nat) (hi : i + k < 2 ^ 40) : Spec ρ Try.prog 71 [i64 i, i64 k] [] (.one (.l .slice))
    fun r M => r.n = k ∧ M = [SLc r 1 ((Sp.row i k).map i64)] := by
  refine Spec.of (fun Q w h => F.pages.row.calls i k h) fun R => ?_
  unfold F.pages.row
  try simp only [List.cons_append, List.nil_append]
  refine Tr.nilSL 1 ?_
  refine en_lp (fun n s M => (fun (s : Slc) (j : Int) => M = SLc s 1 ((Sp.row i j.toNat).map i64) :: R ∧ 0 ≤ j ∧ j ≤ k ∧ s.n = j.toNat ∧ n = k - j.toNat) s.1 s.2.1) k ?_ ?_
  · exact ⟨rfl, by simp, by dsimp only; omega, rfl, by simp⟩
  · rintro n ⟨(s : Slc), (j : Int), ⟨⟩⟩ M ⟨rfl, h0, h1, hn, rfl⟩ X hX
    dsimp only at *
    refine en_br (fun h => ?_) (fun h => ?_)
    · replace h : j < (k : Int) := of_decide_eq_true h
      refine en_nw fun b => ?_
      rw [wrap64 (by omega) (by omega), wrap64 (by omega) (by omega)]
      refine en_app (x := ⟨some ⟨b, 0, none⟩, 1, 1⟩) (ys := [i64 (i + j)]) appInt tk (Rd.cl tk rfl rfl) rfl (by rw [hn]; dsimp only; omega) (by rw [hn]; dsimp only; omega) fun r hr => ?_
      have e : (Sp.row i j.toNat).map i64 ++ [i64 (i + j)] = (Sp.row i (j + 1).toNat).map i64 := by
        rw [show (j + 1).toNat = j.toNat + 1 by omega, Sp.row, Sp.row, List.range_succ]
        simp; omega
      rw [e]
      refine Tr.drop (A := blk b [i64 (i + j)]) tk ?_
      exact hX (k - (j + 1).toNat) _ _ (by omega) ⟨rfl, by dsimp only; omega, by dsimp only; omega, by dsimp only; rw [hr, hn]; show _ + 1 = _; omega, rfl⟩
    · replace h : ¬ j < (k : Int) := of_decide_eq_false h
      have : j.toNat = k := by omega
      rw [this] at hn ⊢
      exact en_rets (x := s) rfl ⟨hn, rfl⟩ tks ens

theorem Rd.one {b : Nat} {v : Value} (t : Take L (blk b [v]) L') (h : ∀ ρ', Le ρ ρ' → RoS ρ' ⟨some ⟨b, 0, none⟩, 1, 1⟩ 1 [v] → Tr ρ0 ρ' L' T Post) : Tr ρ0 ρ L T Post :=
  Tr.keep t fun ρ' ⟨ty, hr⟩ hle => h ρ' hle ⟨rfl, .inr ⟨b, 0, _, ty, _, rfl, hr, fun i hi => by simp⟩⟩

theorem pages_new (n : Int) (h0 : 1 ≤ n) (h1 : n ≤ 256) : Spec ρ Try.prog 65 [i64 n] [] PE
    fun r M => ∃ b, r = (some ⟨b, 0, none⟩, 0, ()) ∧ M = [PagesA b (true :: List.replicate (n.toNat - 1) false)] := by
  refine Spec.of (fun Q w h => F.pages.New.calls n h) fun R => ?_
  unfold F.pages.New
  try simp only [List.cons_append, List.nil_append]
  refine en_brf (by simp; omega) (en_brf (by simp; omega) ?_)
  refine en_call (bits_new n (by omega) (by omega)) tks ?_
  rintro x M ⟨b, rfl, rfl⟩
  try simp only [List.cons_append, List.nil_append]
  refine en_brf rfl ?_
  refine en_nw fun b2 => ?_
  refine Rd.one tk fun ρ' hle hro => ?_
  refine en_call (bits_set b (List.replicate n.toNat false) true ⟨some ⟨b2, 0, none⟩, 1, 1⟩ [0] hro (by decide)) tks ?_
  rintro x M ⟨rfl, rfl⟩
  try simp only [List.cons_append, List.nil_append]
  have ok : Sp.setOk (List.replicate n.toNat false) [0] = true := by simp [Sp.setOk]; omega
  rw [if_pos ok]
  have e : Sp.setAll (List.replicate n.toNat false) true [0] = true :: List.replicate (n.toNat - 1) false := by
    obtain ⟨m, hm⟩ : ∃ m, n.toNat = m + 1 := ⟨n.toNat - 1, by omega⟩
    rw [hm]; simp [Sp.setAll, List.replicate_succ]
  rw [e]
  refine en_nw fun b4 => ?_
  refine Tr.close (M := [blk b4 [.pointer (some ⟨b, 0, none⟩)], BitsA b (true :: List.replicate (n.toNat - 1) false)]) tks (PagesA.cl (p := b4)) ?_
  exact en_rets (x := (some ⟨b4, 0, none⟩, 0, ())) rfl ⟨b4, rfl, rfl⟩ tks ens

theorem pages_take (p : Nat) (l : List Bool) (k : Nat) (hk : 1 ≤ k) (hk2 : k < 2 ^ 30) (hl : l.length ≤ 256) : Spec ρ Try.prog 81 [.pointer (some ⟨p, 0, none⟩), i64 k] [PagesA p l] P2
    fun r M => (Sp.run l k = none ∧ r = (0, 3, ()) ∧ M = [PagesA p l]) ∨ ∃ i, Sp.run l k = some i ∧ r = (((i : Nat) : Int), 0, ()) ∧ M = [PagesA p (Sp.setR l true i k)] := by
  refine Spec.of (fun Q w h => F.pages.Pages.Take.calls (some ⟨p, 0, none⟩) k h) fun R => ?_
  unfold F.pages.Pages.Take
  try simp only [List.cons_append, List.nil_append]
  refine en_brf rfl (en_brf (by simp; omega) (en_nn ?_))
  refine PagesA.op tk fun b => ?_
  refine en_ld (k := .ptr) (x := some ⟨b, 0, none⟩) (by rw [fa_mk]) tk rfl ?_
  refine en_call (bits_run b l k hk (by omega) (by omega)) tks ?_
  rintro x M ⟨rfl, rfl⟩
  try simp only [List.cons_append, List.nil_append]
  cases hr : Sp.run l k with
  | none =>
    refine en_brt rfl ?_
    refine Tr.close (M := [blk p [.pointer (some ⟨b, 0, none⟩)], BitsA b l]) tks (PagesA.cl (p := p)) ?_
    exact en_rets (x := (0, 3, ())) rfl (.inl ⟨rfl, rfl, rfl⟩) tks ens
  | some i =>
    have hi := Sp.run_is hr
    refine en_brf (decide_eq_false (by simp only [Sp.oI]; omega)) ?_
    refine en_drw (en_held [blk p [.pointer (some ⟨b, 0, none⟩)]] tks ?_)
    refine en_nn (en_ldS (k := .ptr) (x := some ⟨b, 0, none⟩) (by rw [fa_mk]) tk rfl ?_)
    simp only [Sp.oI]
    refine en_call (pages_row i k (by omega)) tks ?_
    rintro s M ⟨hs, rfl⟩
    try simp only [List.cons_append, List.nil_append]
    refine en_chk tks ?_
    refine Tr.keepSL (s := s) tk fun ρ' hle hro => ?_
    refine en_call (bits_set b l true s (Sp.row i k) hro (by rw [Sp.row_len]; omega)) tks ?_
    rintro x M ⟨rfl, rfl⟩
    try simp only [List.cons_append, List.nil_append]
    rw [if_pos (Sp.row_ok hi.1)]
    refine Tr.close (M := [blk p [.pointer (some ⟨b, 0, none⟩)], BitsA b (Sp.setR l true i k)]) tks (PagesA.cl (p := p)) ?_
    exact en_rets (x := (((i : Nat) : Int), 0, ())) rfl (.inr ⟨i, rfl, rfl, rfl⟩) tks ens

theorem pages_give (p : Nat) (l : List Bool) (i k : Nat) (hi : 1 ≤ i) (hk : 1 ≤ k) (hik : i + k ≤ l.length) (hl : l.length ≤ 256) (hall : ∀ j, i ≤ j → j < i + k → l.getD j false = true) :
    Spec ρ Try.prog 52 [.pointer (some ⟨p, 0, none⟩), i64 i, i64 k] [PagesA p l] R1 fun r M => r = 0 ∧ M = [PagesA p (Sp.setR l false i k)] := by
  refine Spec.of (fun Q w h => F.pages.Pages.Give.calls (some ⟨p, 0, none⟩) i k h) fun R => ?_
  unfold F.pages.Pages.Give
  try simp only [List.cons_append, List.nil_append]
  refine en_brf rfl (en_brf (by simp; omega) (en_brf (by simp; omega) (en_nn ?_)))
  refine PagesA.op tk fun b => ?_
  refine en_ld (k := .ptr) (x := some ⟨b, 0, none⟩) (by rw [fa_mk]) tk rfl ?_
  refine en_call (bits_size b l) tks ?_
  rintro x M ⟨rfl, rfl⟩
  try simp only [List.cons_append, List.nil_append]
  refine en_brf (by simp; omega) (en_nn ?_)
  refine en_ld (k := .ptr) (x := some ⟨b, 0, none⟩) (by rw [fa_mk]) tk rfl ?_
  refine en_call (bits_size b l) tks ?_
  rintro x M ⟨rfl, rfl⟩
  try simp only [List.cons_append, List.nil_append]
  rw [wrap64 (by omega) (by omega), wrap64 (by omega) (by omega)]
  refine en_brf (by simp; omega) (en_nn ?_)
  refine en_ld (k := .ptr) (x := some ⟨b, 0, none⟩) (by rw [fa_mk]) tk rfl ?_
  refine en_call (bits_next b l i false (by omega)) tks ?_
  rintro x M ⟨rfl, rfl⟩
  try simp only [List.cons_append, List.nil_append]
  have hn : Sp.next l i false = -1 ∨ (i + k : Int) ≤ Sp.next l i false := by
    rcases Sp.next_spec l false i with ⟨g1, g2⟩ | ⟨q, g1, g2, g3, g4, g5⟩
    · exact .inl g1
    · right
      rw [g1]
      rcases Nat.lt_or_ge q (i + k) with h | h
      · rw [hall q g2 h] at g4; cases g4
      · omega
  refine en_br (fun h => en_brf (by simp at h ⊢; omega) ?_) (fun h => ?_)
  all_goals
    refine en_drw (en_held [blk p [.pointer (some ⟨b, 0, none⟩)]] tks ?_)
    refine en_nn (en_ldS (k := .ptr) (x := some ⟨b, 0, none⟩) (by rw [fa_mk]) tk rfl ?_)
    refine en_call (pages_row i k (by omega)) tks ?_
    rintro s M ⟨hs, rfl⟩
    try simp only [List.cons_append, List.nil_append]
    refine en_chk tks ?_
    refine Tr.keepSL (s := s) tk fun ρ' hle hro => ?_
    refine en_call (bits_set b l false s (Sp.row i k) hro (by rw [Sp.row_len]; omega)) tks ?_
    rintro x M ⟨rfl, rfl⟩
    try simp only [List.cons_append, List.nil_append]
    rw [if_pos (Sp.row_ok hik), if_pos (Sp.row_ok hik)]
    refine Tr.close (M := [blk p [.pointer (some ⟨b, 0, none⟩)], BitsA b (Sp.setR l false i k)]) tks (PagesA.cl (p := p)) ?_
    exact en_rets (x := (0 : Int)) rfl ⟨rfl, rfl⟩ tks ens

end Go.Proofs.Ytncpnmpfghppeaa
