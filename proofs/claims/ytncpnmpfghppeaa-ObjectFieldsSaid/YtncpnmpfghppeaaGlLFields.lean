/- ObjectFields. -/
import Derived.Test.YtncpnmpfghppeaaGlLaw2
set_option linter.unusedSimpArgs false
set_option linter.unusedVariables false
namespace Go.Proofs.Ytncpnmpfghppeaa
open Go Go.Gl
variable {ρ0 ρ : FR} {L L' : List Asn} {Post : Value → List Asn → Prop} {T : Tree}

namespace Fields
def S0 : Spc := Sp.newSpc 20
theorem hw0 : HWf S0 [] := newSpc_hwf (by omega) (by omega)
def S1 (k : Int) : Spc := (Ob.make S0 [] ⟨3, 0, k, false⟩).2.2
def ok (k : Nat) : Bool := (Ob.make S0 [] ⟨3, 0, k, false⟩).2.1 == 0 && (Ob.make (S1 k) [] ⟨3, 0, k, false⟩).2.1 == 0
theorem all_ok : (List.range 201).all (fun k => k == 0 || ok k) = true := by kernel_rfl
theorem ok_k {k : Nat} (h0 : 1 ≤ k) (h1 : k ≤ 200) : (Ob.make S0 [] ⟨3, 0, k, false⟩).2.1 = 0 ∧ (Ob.make (S1 k) [] ⟨3, 0, k, false⟩).2.1 = 0 := by
  have h := (List.all_eq_true.mp all_ok) k (by simp; omega)
  have hk : (k == 0) = false := by simp; omega
  rw [hk, Bool.false_or] at h
  unfold ok at h
  simpa using h
end Fields
open Fields in
theorem law_fields (n i j x y : Int) (hn : 0 ≤ n ∧ n < 256) (hi : 0 ≤ i ∧ i < 256) (hj : 0 ≤ j ∧ j < 256) : Gl.Spec ρ Try.prog 4 [.int .u8 n, .int .u8 i, .int .u8 j, i64 x, i64 y] [] RB fun r M => r = true ∧ M = [] := by
  refine Spec.of (fun Q w h => F.gloaminglaw9.ObjectFields.calls n i j x y h) fun R => ?_
  unfold F.gloaminglaw9.ObjectFields
  try simp only [List.cons_append, List.nil_append]
  refine en_call (object_new 20 (by omega) (by omega)) (by repeat (first | apply Takes.nil | (apply Takes.cons; focus (repeat (first | apply Take.here | apply Take.skip))))) ?_
  rintro x' M ⟨p, rfl, rfl⟩
  try simp only [List.cons_append, List.nil_append]
  refine en_call (law_whole p (Sp.newSpc 20) []) (by repeat (first | apply Takes.nil | (apply Takes.cons; focus (repeat (first | apply Take.here | apply Take.skip))))) ?_
  rintro x' M ⟨rfl, rfl⟩
  try simp only [List.cons_append, List.nil_append]
  refine en_brf rfl ?_
  refine en_call (law_err _) .nil ?_
  rintro x' M ⟨rfl, rfl⟩
  try simp only [List.cons_append, List.nil_append]
  refine en_brf rfl (en_need (by decide) ?_)
  obtain ⟨k, hk, k0, k1⟩ : ∃ k : Nat, IntKind.wrap .i64 (1 + Int.tmod (IntKind.wrap .i64 n) 200) = k ∧ 1 ≤ k ∧ k ≤ 200 := by
    refine ⟨(1 + n % 200).toNat, ?_, by omega, by omega⟩
    rw [wrap64 (n := n) (by omega) (by omega), Int.tmod_eq_emod_of_nonneg hn.1, wrap64 (by omega) (by omega)]
    omega
  rw [hk]
  obtain ⟨m1, m2⟩ := ok_k k0 k1
  refine en_call (object_make p S0 [] hw0 ⟨3, 0, k, false⟩) (by repeat (first | apply Takes.nil | (apply Takes.cons; focus (repeat (first | apply Take.here | apply Take.skip))))) ?_
  rintro x' M ⟨rfl, rfl⟩
  try simp only [List.cons_append, List.nil_append]
  have hw1 : HWf (S1 k) [] := hw0.make ⟨3, 0, k, false⟩
  change Tr _ _ (HeapA p (S1 k) [] :: _) _ _
  refine en_call (object_make p (S1 k) [] hw1 ⟨3, 0, k, false⟩) (by repeat (first | apply Takes.nil | (apply Takes.cons; focus (repeat (first | apply Take.here | apply Take.skip))))) ?_
  rintro x' M ⟨rfl, rfl⟩
  try simp only [List.cons_append, List.nil_append]
  have hw2 := hw1.make ⟨3, 0, k, false⟩
  have hh1 : Ob.head (S1 k) (Ob.make S0 [] ⟨3, 0, k, false⟩).1 = some ⟨3, 0, k, false⟩ := Ob.make_head hw0 m1
  obtain ⟨ha, hab, hga⟩ := Ob.make_keep hw1 m2 hh1
  have hbh := Ob.make_head hw1 m2
  have hza := fun (i : Int) i0 i1 => Ob.make_zero hw0 m1 (i := i) i0 i1
  have hzb := fun (i : Int) i0 i1 => Ob.make_zero hw1 m2 (i := i) i0 i1
  have hga' : ∀ i : Int, 0 ≤ i → i < k → Ob.get (Ob.make (S1 k) [] ⟨3, 0, k, false⟩).2.2 (Ob.make S0 [] ⟨3, 0, k, false⟩).1 i = (0, 0) := fun i i0 i1 => by rw [hga i i0 i1]; exact hza i i0 i1
  rw [m1, m2]
  generalize (Ob.make (S1 k) [] ⟨3, 0, k, false⟩).2.2 = S2 at ha hbh hzb hga' hw2 ⊢
  generalize (Ob.make (S1 k) [] ⟨3, 0, k, false⟩).1 = b at hab hbh hzb ⊢
  generalize (Ob.make S0 [] ⟨3, 0, k, false⟩).1 = a at hab ha hga' ⊢
  iterate 2
    refine en_call (law_err _) .nil ?_
    rintro x' M ⟨rfl, rfl⟩
    try simp only [List.cons_append, List.nil_append]
  refine en_brf rfl (en_brf (by simpa using hab) ?_)
  refine en_drw (en_need (by omega) (en_need (by omega) ?_))
  have hP : ∀ i : Int, 0 ≤ i → i < 256 → ∃ p : Int, Int.tmod (IntKind.wrap .i64 i) (k : Int) = p ∧ 0 ≤ p ∧ p < k := fun i i0 i1 => by
    refine ⟨i % k, ?_, Int.emod_nonneg _ (by omega), Int.emod_lt_of_pos _ (by omega)⟩
    rw [wrap64 (n := i) (by omega) (by omega), Int.tmod_eq_emod_of_nonneg i0]
  obtain ⟨pp, hp, p0, p1⟩ := hP i hi.1 hi.2
  obtain ⟨qq, hq, q0, q1⟩ := hP j hj.1 hj.2
  rw [hp, hq]
  refine en_call (object_put p S2 [] hw2 a pp x) (by repeat (first | apply Takes.nil | (apply Takes.cons; focus (repeat (first | apply Take.here | apply Take.skip))))) ?_
  rintro x' M ⟨rfl, rfl⟩
  try simp only [List.cons_append, List.nil_append]
  have hw3 := hw2.put a pp x
  obtain ⟨z1, keep1⟩ := Ob.put_keep hw2 (x := x) ha p0 p1
  obtain ⟨ha3, hg3a⟩ := keep1 a _ ha
  obtain ⟨hb3, hg3b⟩ := keep1 b _ hbh
  generalize (Ob.put S2 a pp x).2 = S3 at hw3 ha3 hb3 hg3a hg3b ⊢
  refine en_call (object_put p S3 [] hw3 b qq y) (by repeat (first | apply Takes.nil | (apply Takes.cons; focus (repeat (first | apply Take.here | apply Take.skip))))) ?_
  rintro x' M ⟨rfl, rfl⟩
  try simp only [List.cons_append, List.nil_append]
  have hw4 := hw3.put b qq y
  obtain ⟨z2, keep2⟩ := Ob.put_keep hw3 (x := y) hb3 q0 q1
  obtain ⟨ha4, hg4a⟩ := keep2 a _ ha3
  obtain ⟨hb4, hg4b⟩ := keep2 b _ hb3
  generalize (Ob.put S3 b qq y).2 = S4 at hw4 ha4 hb4 hg4a hg4b ⊢
  have hA : ∀ m : Int, 0 ≤ m → m < k → Ob.get S4 a m = if m = pp then (x, 0) else (0, 0) := fun m m0 m1 => by
    rw [hg4a m m0 m1, if_neg (fun h => hab h.1), hg3a m m0 m1, hga' m m0 m1]
    simp
  have hB : ∀ m : Int, 0 ≤ m → m < k → Ob.get S4 b m = if m = qq then (y, 0) else (0, 0) := fun m m0 m1 => by
    rw [hg4b m m0 m1, hg3b m m0 m1, if_neg (fun h : b = a ∧ m = pp => hab h.1.symm), hzb m m0 m1]
    simp
  refine en_lp (fun m u M => (fun t : Int => M = HeapA p S4 [] :: R ∧ 0 ≤ t ∧ t ≤ k ∧ m = k - t.toNat) u.1) k ?_ ?_
  · exact ⟨rfl, by simp, by dsimp only; omega, by simp⟩
  · rintro m ⟨(t : Int), ⟨⟩⟩ M ⟨rfl, t0, t1, rfl⟩ X hX
    dsimp only at *
    refine en_br (fun h => ?_) (fun h => ?_)
    · replace h : t < (k : Int) := of_decide_eq_true h
      refine en_call (object_get p S4 [] hw4 a t) (by repeat (first | apply Takes.nil | (apply Takes.cons; focus (repeat (first | apply Take.here | apply Take.skip))))) ?_
      rintro x' M ⟨rfl, rfl⟩
      try simp only [List.cons_append, List.nil_append]
      refine en_call (object_get p S4 [] hw4 b t) (by repeat (first | apply Takes.nil | (apply Takes.cons; focus (repeat (first | apply Take.here | apply Take.skip))))) ?_
      rintro x' M ⟨rfl, rfl⟩
      try simp only [List.cons_append, List.nil_append]
      rw [hA t t0 h, hB t t0 h]
      have hgo : Tr ρ ρ (HeapA p S4 [] :: R) (X (IntKind.wrap .i64 (t + 1), ())) (SP RB (fun r M => r = true ∧ M = []) R) := by
        rw [wrap64 (by omega) (by omega)]
        exact hX (k - (t + 1).toNat) _ _ (by omega) ⟨rfl, by dsimp only; omega, by dsimp only; omega, rfl⟩
      by_cases hp1 : t = pp <;> by_cases hq1 : t = qq
      all_goals
        first | rw [if_pos hp1] | rw [if_neg hp1]
        first | rw [if_pos hq1] | rw [if_neg hq1]
        refine en_call (law_err _) .nil ?_
        rintro x' M ⟨rfl, rfl⟩
        try simp only [List.cons_append, List.nil_append]
        refine en_call (law_err _) .nil ?_
        rintro x' M ⟨rfl, rfl⟩
        try simp only [List.cons_append, List.nil_append]
        refine en_brf rfl ?_
        repeat (first
          | exact hgo
          | refine en_brt (by first | (simp; done) | simpa using hp1 | simpa using hq1) ?_
          | refine en_brf (by first | (simp; done) | simpa using hp1 | simpa using hq1) ?_)
    · have hfa : Ob.get S4 a (k : Int) = (0, 1) := by
        have e : Ob.fieldAt S4 a (k : Int) = (0, 1) := by unfold Ob.fieldAt; rw [ha4]; dsimp only; rw [if_pos (.inr (by omega))]
        unfold Ob.get; rw [e, if_pos (by decide)]
      have hpa : Ob.put S4 a (-1) 5 = (1, S4) := by
        have e : Ob.fieldAt S4 a (-1) = (0, 1) := by unfold Ob.fieldAt; rw [ha4]; dsimp only; rw [if_pos (.inl (by omega))]
        unfold Ob.put; rw [e, if_pos (by decide)]
      refine en_call (object_get p S4 [] hw4 a (k : Int)) (by repeat (first | apply Takes.nil | (apply Takes.cons; focus (repeat (first | apply Take.here | apply Take.skip))))) ?_
      rintro x' M ⟨rfl, rfl⟩
      try simp only [List.cons_append, List.nil_append]
      rw [hfa]
      refine en_call (object_put p S4 [] hw4 a (-1) 5) (by repeat (first | apply Takes.nil | (apply Takes.cons; focus (repeat (first | apply Take.here | apply Take.skip))))) ?_
      rintro x' M ⟨rfl, rfl⟩
      try simp only [List.cons_append, List.nil_append]
      rw [hpa]
      refine en_call (nil_head 64) (by repeat (first | apply Takes.nil | (apply Takes.cons; focus (repeat (first | apply Take.here | apply Take.skip))))) ?_
      rintro x' M ⟨rfl, rfl⟩
      try simp only [List.cons_append, List.nil_append]
      refine en_nw fun b15 => ?_
      rw [zcH]
      refine en_st (b := b15) (off := 0) rfl (by repeat (first | apply Take.here | apply Take.skip)) (by simp) rfl ?_
      refine en_call (nil_make ⟨3, 0, 0, false⟩) (by repeat (first | apply Takes.nil | (apply Takes.cons; focus (repeat (first | apply Take.here | apply Take.skip))))) ?_
      rintro x' M ⟨rfl, rfl⟩
      try simp only [List.cons_append, List.nil_append]
      iterate 4
        refine en_call (law_err _) .nil ?_
        rintro x' M ⟨rfl, rfl⟩
        try simp only [List.cons_append, List.nil_append]
        refine en_brt rfl ?_
      refine en_call (nil_objects) (by repeat (first | apply Takes.nil | (apply Takes.cons; focus (repeat (first | apply Take.here | apply Take.skip))))) ?_
      rintro s M ⟨hs, rfl⟩
      try simp only [List.cons_append, List.nil_append]
      refine en_brt (by rw [hs]; rfl) ?_
      refine en_call (nil_refs 64) (by repeat (first | apply Takes.nil | (apply Takes.cons; focus (repeat (first | apply Take.here | apply Take.skip))))) ?_
      rintro s2 M ⟨hs2, rfl⟩
      try simp only [List.cons_append, List.nil_append]
      refine en_brt (by rw [hs2]; rfl) ?_
      refine en_call (law_awake) (by repeat (first | apply Takes.nil | (apply Takes.cons; focus (repeat (first | apply Take.here | apply Take.skip))))) ?_
      rintro x' M ⟨rfl, rfl⟩
      try simp only [List.cons_append, List.nil_append]
      exact en_rets (x := true) rfl ⟨rfl, rfl⟩ (by repeat (first | apply Takes.nil | (apply Takes.cons; focus (repeat (first | apply Take.here | apply Take.skip))))) (by repeat (first | apply Ends.refl | apply Ends.skip))

end Go.Proofs.Ytncpnmpfghppeaa
