/- A class by numbers: its bits are its addresses. -/
import Derived.Test.YtkljcopnaodfgaaGreatGsRtB
set_option linter.unusedSimpArgs false
set_option linter.unusedVariables false
namespace Go.Proofs.YtkljcopnaodfgaaGreat
open Go Go.Gl
namespace Mkb
def M (f : Nat) (b : Int) : Int := ibits .and .i64 b (IntKind.wrap .i64 (IntKind.wrap .i64 (1 * 2 ^ (min f (IntKind.bits .i64))) - 1))
def chk (f : Nat) (b : Int) : Bool :=
 let l := Rx.bits (M f b) 32
 decide (0 ≤ M f b) && decide (M f b < 4294967296) && Sp.mayR f (-1) l && (List.range (min f 8)).all fun i => decide ((i : Int) ∈ l) == Rx.bit b i
def all (f : Nat) : Bool := (List.range 256).all fun b => chk f (b : Int)
theorem a1 : all 1 = true := by kernel_rfl
theorem a2 : all 2 = true := by kernel_rfl
theorem a3 : all 3 = true := by kernel_rfl
theorem a4 : all 4 = true := by kernel_rfl
theorem a5 : all 5 = true := by kernel_rfl
theorem a6 : all 6 = true := by kernel_rfl
theorem a7 : all 7 = true := by kernel_rfl
theorem a8 : all 8 = true := by kernel_rfl
theorem a9 : ((List.range 24).all fun a => (List.range 256).all fun b => M (a + 8) (b : Int) == (b : Int)) = true := by kernel_rfl
theorem mayR_le {n m : Int} (h : n ≤ m) : ∀ {l : List Int} {p : Int}, Sp.mayR n p l = true → Sp.mayR m p l = true
 | [], _, _ => by unfold Sp.mayR; rfl
 | x :: l, p, g => by
  unfold Sp.mayR at g ⊢
  by_cases h1 : x ≤ p
  ·rw [if_pos h1] at g; cases g
  ·rw [if_neg h1] at g ⊢
   by_cases h2 : x ≥ n
   ·rw [if_pos h2] at g; cases g
   ·rw [if_neg h2] at g; rw [if_neg (by omega)]; exact mayR_le h g
theorem all_of {f : Nat} (h : all f = true) {b : Int} (b0 : 0 ≤ b) (b1 : b < 256) : (0 ≤ M f b ∧ M f b < 4294967296) ∧ Sp.mayR f (-1) (Rx.bits (M f b) 32) = true ∧ ∀ i, i < min f 8 → ((i : Int) ∈ Rx.bits (M f b) 32 ↔ Rx.bit b i = true) := by
 have h1 := List.all_eq_true.mp h b.toNat (List.mem_range.mpr (by omega))
 rw [show ((b.toNat : Nat) : Int) = b by omega] at h1
 unfold chk at h1
 simp only [Bool.and_eq_true, decide_eq_true_eq] at h1
 obtain ⟨⟨⟨g1, g2⟩, g3⟩, g4⟩ := h1
 refine ⟨⟨g1, g2⟩, g3, fun i hi => ?_⟩
 have := List.all_eq_true.mp g4 i (List.mem_range.mpr hi)
 have e : decide ((i : Int) ∈ Rx.bits (M f b) 32) = Rx.bit b i := by simpa using this
 rw [← e, decide_eq_true_eq]
theorem fact {f : Nat} (f1 : 1 ≤ f) (f2 : f ≤ 31) {b : Int} (b0 : 0 ≤ b) (b1 : b < 256) : (0 ≤ M f b ∧ M f b < 4294967296) ∧ Sp.mayR f (-1) (Rx.bits (M f b) 32) = true ∧ ∀ i, i < min f 8 → ((i : Int) ∈ Rx.bits (M f b) 32 ↔ Rx.bit b i = true) := by
 by_cases h8 : f ≤ 8
 ·have : f = 1 ∨ f = 2 ∨ f = 3 ∨ f = 4 ∨ f = 5 ∨ f = 6 ∨ f = 7 ∨ f = 8 := by omega
  rcases this with rfl | rfl | rfl | rfl | rfl | rfl | rfl | rfl
  ·exact all_of a1 b0 b1
  ·exact all_of a2 b0 b1
  ·exact all_of a3 b0 b1
  ·exact all_of a4 b0 b1
  ·exact all_of a5 b0 b1
  ·exact all_of a6 b0 b1
  ·exact all_of a7 b0 b1
  ·exact all_of a8 b0 b1
 ·have e : ∀ g : Nat, 8 ≤ g → g ≤ 31 → M g b = b := fun g g1 g2 => by
   have h := List.all_eq_true.mp (List.all_eq_true.mp a9 (g - 8) (List.mem_range.mpr (by omega))) b.toNat (List.mem_range.mpr (by omega))
   rw [show g - 8 + 8 = g by omega, show ((b.toNat : Nat) : Int) = b by omega] at h
   simpa using h
  obtain ⟨g1, g2, g3⟩ := all_of a8 b0 b1
  rw [e 8 (by omega) (by omega)] at g1 g2 g3
  rw [e f (by omega) f2]
  refine ⟨g1, mayR_le (by omega) g2, fun i hi => g3 i (by omega)⟩
theorem addC_is {f : Nat} (f2 : f ≤ 31) {l : List Int} (h : Sp.mayR f (-1) l = true) : Sp.addC [] ((f : Int), l) = (1, 0, [((f : Int), l)]) := by
 have e : Sp.mayC (f : Int) l = true := by
  unfold Sp.mayC
  rw [if_neg (by omega), if_neg (by omega)]; exact h
 unfold Sp.addC
 rw [if_neg (by rw [e]; simp), if_neg (by simp)]
 rfl
end Mkb
end Go.Proofs.YtkljcopnaodfgaaGreat
