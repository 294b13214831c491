/- ObjectRefuses. -/
import Derived.Test.YtncpnmpfghppeaaGlL1
set_option linter.unusedSimpArgs false
set_option linter.unusedVariables false
namespace Go.Proofs.Ytncpnmpfghppeaa
open Go Go.Gl
variable {ρ0 ρ : FR} {L L' : List Asn} {Post : Value → List Asn → Prop} {T : Tree}

namespace Refuses
def cs : List Cls := [(3, [1])]
def S0 : Spc := Sp.newSpc 40
def M1 := Ob.make S0 cs ⟨1, 1, 3, false⟩
def S1 : Spc := M1.2.2
theorem hw0 : HWf S0 cs := ⟨(newSpc_hwf (n := 40) (by omega) (by omega)).wf, (newSpc_hwf (n := 40) (by omega) (by omega)).obj, by decide, by decide⟩
theorem m1 : M1.1 = 64 := by kernel_rfl
theorem m2 : M1.2.1 = 0 := by kernel_rfl
theorem hw1 : HWf S1 cs := hw0.make _
theorem head1 {a : Int} (ha : a ≠ 64) : Ob.head S1 a = none := by
  obtain ⟨b, n, h1, h2, h3, h4, h5, h6, h7, h8, h9⟩ := Ob.make_ok hw0 (h := ⟨1, 1, 3, false⟩) m2
  have hb : b = 64 := by have := m1; unfold M1 at this; omega
  subst hb
  unfold Ob.head
  by_cases h0 : 0 ≤ a
  · obtain ⟨m, rfl⟩ : ∃ m : Nat, a = m := ⟨a.toNat, by omega⟩
    have hf : Sp.find S1 m = if 64 ≤ m ∧ m < 64 + n then some (64, n) else Sp.find S0 m := h7 m
    rw [hf]
    by_cases hm : 64 ≤ m ∧ m < 64 + n
    · rw [if_pos hm]; dsimp only; rw [if_neg (by omega)]
    · rw [if_neg hm]
      have : Sp.find S0 m = none := newSpc_find (n := 40) (by omega) m
      rw [this]
  · rw [Sp.find_out (by omega)]
end Refuses
open Refuses in
theorem law_refuses (n odd : Int) (hn : 0 ≤ n ∧ n < 256) : Gl.Spec ρ Try.prog 6 [.int .u8 n, i64 odd] [] RB fun r M => r = true ∧ M = [] := by
  refine Spec.of (fun Q w h => F.gloaminglaw9.ObjectRefuses.calls n odd h) fun R => ?_
  unfold F.gloaminglaw9.ObjectRefuses
  try simp only [List.cons_append, List.nil_append]
  refine en_call (object_new 40 (by omega) (by omega)) (by repeat (first | apply Takes.nil | (apply Takes.cons; focus (repeat (first | apply Take.here | apply Take.skip))))) ?_
  rintro x M ⟨p, rfl, rfl⟩
  try simp only [List.cons_append, List.nil_append]
  refine en_call (law_whole p (Sp.newSpc 40) []) (by repeat (first | apply Takes.nil | (apply Takes.cons; focus (repeat (first | apply Take.here | apply Take.skip))))) ?_
  rintro x M ⟨rfl, rfl⟩
  try simp only [List.cons_append, List.nil_append]
  refine en_brf rfl ?_
  refine en_call (law_err 0) (by repeat (first | apply Takes.nil | (apply Takes.cons; focus (repeat (first | apply Take.here | apply Take.skip))))) ?_
  rintro x M ⟨rfl, rfl⟩
  try simp only [List.cons_append, List.nil_append]
  refine en_brf rfl (en_nn (HeapA.op (by repeat (first | apply Take.here | apply Take.skip)) fun ps pt => ?_))
  refine en_ld (k := .ptr) (b := p) (x := some ⟨pt, 0, none⟩) (by rw [fa_mk]) (by repeat (first | apply Take.here | apply Take.skip)) rfl ?_
  refine en_nw fun b6 => ?_
  refine Rd.bk (n := 1) (m := 1) rfl (by repeat (first | apply Take.here | apply Take.skip)) fun ρ' hle hro => ?_
  refine en_call (class_of pt [] 3 ⟨some ⟨b6, 0, none⟩, 1, 1⟩ [1] hro (by decide)) (by repeat (first | apply Takes.nil | (apply Takes.cons; focus (repeat (first | apply Take.here | apply Take.skip))))) ?_
  rintro x M ⟨rfl, rfl⟩
  try simp only [List.cons_append, List.nil_append]
  have ec : Sp.addC [] (3, [1]) = (1, 0, cs) := by decide
  rw [ec]
  refine Tr.close (by repeat (first | apply Takes.nil | (apply Takes.cons; focus (repeat (first | apply Take.here | apply Take.skip))))) (HeapA.cl (p := p) (ps := ps) (pt := pt) (S := S0) (cs := cs)) ?_
  have bad1 : Ob.make S0 cs ⟨0, 0, 0, false⟩ = (0, 1, S0) := Ob.make_may (by decide) (by decide)
  have bad2 : Ob.make S0 cs ⟨3, 0, 1, true⟩ = (0, 1, S0) := Ob.make_may (by decide) (by decide)
  have bad3 : Ob.make S0 cs ⟨1, 2, 3, false⟩ = (0, 2, S0) := Ob.make_may (by decide) (by decide)
  have bad4 : Ob.make S0 cs ⟨1, 1, 2, false⟩ = (0, 1, S0) := Ob.make_may (by decide) (by decide)
  refine en_call (object_make p S0 cs hw0 ⟨0, 0, 0, false⟩) (by repeat (first | apply Takes.nil | (apply Takes.cons; focus (repeat (first | apply Take.here | apply Take.skip))))) ?_
  rintro x M ⟨rfl, rfl⟩
  try simp only [List.cons_append, List.nil_append]
  rw [bad1]
  refine en_call (object_make p S0 cs hw0 ⟨3, 0, 1, true⟩) (by repeat (first | apply Takes.nil | (apply Takes.cons; focus (repeat (first | apply Take.here | apply Take.skip))))) ?_
  rintro x M ⟨rfl, rfl⟩
  try simp only [List.cons_append, List.nil_append]
  rw [bad2]
  have w1 : IntKind.wrap .i64 ((1 : Int) + 1) = 2 := by decide
  dsimp only
  rw [w1]
  refine en_call (object_make p S0 cs hw0 ⟨1, 2, 3, false⟩) (by repeat (first | apply Takes.nil | (apply Takes.cons; focus (repeat (first | apply Take.here | apply Take.skip))))) ?_
  rintro x M ⟨rfl, rfl⟩
  try simp only [List.cons_append, List.nil_append]
  rw [bad3]
  refine en_call (object_make p S0 cs hw0 ⟨1, 1, 2, false⟩) (by repeat (first | apply Takes.nil | (apply Takes.cons; focus (repeat (first | apply Take.here | apply Take.skip))))) ?_
  rintro x M ⟨rfl, rfl⟩
  try simp only [List.cons_append, List.nil_append]
  rw [bad4]
  refine en_call (object_objects p S0 cs hw0) (by repeat (first | apply Takes.nil | (apply Takes.cons; focus (repeat (first | apply Take.here | apply Take.skip))))) ?_
  rintro s M ⟨rfl, hsn⟩
  try simp only [List.cons_append, List.nil_append]
  have e0 : (Ob.objs S0).length = 0 := by kernel_rfl
  rw [hsn, e0]
  refine en_brf rfl ?_
  refine en_call (object_make p S0 cs hw0 ⟨1, 1, 3, false⟩) (by repeat (first | apply Takes.nil | (apply Takes.cons; focus (repeat (first | apply Take.here | apply Take.skip))))) ?_
  rintro x M ⟨rfl, rfl⟩
  try simp only [List.cons_append, List.nil_append]
  change Tr _ _ (HeapA p S1 cs :: _) _ _
  have m1' : (Ob.make S0 cs ⟨1, 1, 3, false⟩).1 = 64 := m1
  have m2' : (Ob.make S0 cs ⟨1, 1, 3, false⟩).2.1 = 0 := m2
  rw [m1', m2']
  refine en_need (by decide) ?_
  have w2 : IntKind.wrap .i64 (IntKind.wrap .i64 ((64 : Int) + 1) + Int.tmod (IntKind.wrap .i64 n) 3) = 65 + n % 3 := by
    rw [wrap64 (n := n) (by omega) (by omega), Int.tmod_eq_emod_of_nonneg hn.1, wrap64 (n := (64 : Int) + 1) (by omega) (by omega), wrap64 (by omega) (by omega)]
    rfl
  rw [w2]
  refine en_call (object_head p S1 cs hw1 (65 + n % 3)) (by repeat (first | apply Takes.nil | (apply Takes.cons; focus (repeat (first | apply Take.here | apply Take.skip))))) ?_
  rintro x M ⟨rfl, rfl⟩
  try simp only [List.cons_append, List.nil_append]
  rw [head1 (by omega)]
  refine en_nw fun b15 => ?_
  rw [zcH]
  refine en_st (b := b15) (off := 0) rfl (by repeat (first | apply Take.here | apply Take.skip)) (by simp) rfl ?_
  refine Tr.take (A := HeapA p S1 cs) (by repeat (first | apply Take.here | apply Take.skip)) ?_
  refine Tr.drop (A := ObsA s (Ob.objs S0)) (by repeat (first | apply Take.here | apply Take.skip)) ?_
  refine Tr.drop (A := blk b15 _) (.skip .here) ?_
  refine en_jn (fun (s : LTs [.int .i64]) M => M = HeapA p S1 cs :: R ∧ (s.1 : Int) ≠ 64) ?_ ?_
  · rintro ⟨(o : Int), ⟨⟩⟩ M ⟨rfl, ho⟩
    dsimp only at ho ⊢
    have hh := head1 ho
    have hfa : ∀ i, Ob.fieldAt S1 o i = (0, 2) := fun i => by unfold Ob.fieldAt; rw [hh]
    have hg : Ob.get S1 o 0 = (0, 2) := by unfold Ob.get; rw [hfa, if_pos (by decide)]
    have hp : Ob.put S1 o 0 1 = (2, S1) := by unfold Ob.put; rw [hfa, if_pos (by decide)]
    have hf : Ob.final S1 o = (2, S1) := by unfold Ob.final; rw [hh]
    refine en_call (object_get p S1 cs hw1 o 0) (by repeat (first | apply Takes.nil | (apply Takes.cons; focus (repeat (first | apply Take.here | apply Take.skip))))) ?_
    rintro x M ⟨rfl, rfl⟩
    try simp only [List.cons_append, List.nil_append]
    rw [hg]
    refine en_call (object_put p S1 cs hw1 o 0 1) (by repeat (first | apply Takes.nil | (apply Takes.cons; focus (repeat (first | apply Take.here | apply Take.skip))))) ?_
    rintro x M ⟨rfl, rfl⟩
    try simp only [List.cons_append, List.nil_append]
    rw [hp]
    refine en_call (object_final p S1 cs hw1 o) (by repeat (first | apply Takes.nil | (apply Takes.cons; focus (repeat (first | apply Take.here | apply Take.skip))))) ?_
    rintro x M ⟨rfl, rfl⟩
    try simp only [List.cons_append, List.nil_append]
    rw [hf]
    refine en_call (object_new0 0 (by omega)) (by repeat (first | apply Takes.nil | (apply Takes.cons; focus (repeat (first | apply Take.here | apply Take.skip))))) ?_
    rintro x M ⟨rfl, rfl⟩
    try simp only [List.cons_append, List.nil_append]
    iterate 11
      refine en_call (law_err _) .nil ?_
      rintro x M ⟨rfl, rfl⟩
      try simp only [List.cons_append, List.nil_append]
      refine en_brt rfl ?_
    refine en_call (law_awake) (by repeat (first | apply Takes.nil | (apply Takes.cons; focus (repeat (first | apply Take.here | apply Take.skip))))) ?_
    rintro x M ⟨rfl, rfl⟩
    try simp only [List.cons_append, List.nil_append]
    exact en_rets (x := true) rfl ⟨rfl, rfl⟩ (by repeat (first | apply Takes.nil | (apply Takes.cons; focus (repeat (first | apply Take.here | apply Take.skip))))) (by repeat (first | apply Ends.refl | apply Ends.skip))
  · intro X hX
    refine en_br (fun h => ?_) (fun h => ?_)
    · exact hX _ _ ⟨rfl, by decide⟩
    · exact hX _ _ ⟨rfl, by simpa using h⟩

end Go.Proofs.Ytncpnmpfghppeaa
