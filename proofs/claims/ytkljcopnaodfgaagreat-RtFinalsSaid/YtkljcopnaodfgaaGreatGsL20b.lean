/- Laws of a runtime's parts: handles, what is live where no reference is. -/
import Derived.Test.YtkljcopnaodfgaaGreatGsInv2
import Derived.Test.YtkljcopnaodfgaaGreatGsL18
set_option linter.unusedSimpArgs false
set_option linter.unusedVariables false
namespace Go.Proofs.YtkljcopnaodfgaaGreat
open Go Go.Gl
variable {ρ0 ρ : FR} {L L' : List Asn} {Post : Value → List Asn → Prop} {T : Tree}
theorem Spec.post {P : Program} {f : FuncId} {args : List Value} {A : List Asn} {r : RK} {B B' : RT r → List Asn → Prop} (h : Gl.Spec ρ P f args A r B) (hb : ∀ x M, B x M → B' x M) : Gl.Spec ρ P f args A r B' := fun R w hw =>
 Calls.mono (h R w hw) fun e w' ⟨x, L, h1, h2, h3⟩ => ⟨x, L, h1, hb x L h2, h3⟩
theorem new_bx : Bx (Sp.newSpc 60) [] 60 [] := by
 have h := newSpc_hwf (n := 60) (by omega) (by omega)
 refine ⟨h, ⟨1, Pfx.new (by omega), by simp⟩, by kernel_rfl, ?_, by simp, by simp, by simp⟩
 rw [new_each (by omega) (by omega)]; exact .refl _
namespace Hn
theorem mem_all {hs : List Slot} (hl : hs.length = 512) {a : Int} : a ∈ (all hs).map (·.2) ↔ (a ≠ 0 ∧ ∃ t, t < 512 ∧ (at' hs t).2 = a) := by
 unfold all
 rw [List.mem_map, hl]
 constructor
 ·rintro ⟨e, he, rfl⟩
  obtain ⟨t, ht, h⟩ := List.mem_flatMap.mp he
  rw [List.mem_range] at ht
  unfold all1 at h
  split at h
  ·rename_i g
   rw [List.mem_singleton] at h
   subst h
   exact ⟨g, t, ht, rfl⟩
  ·cases h
 ·rintro ⟨h0, t, ht, rfl⟩
  refine ⟨(told hs t, (at' hs t).2), List.mem_flatMap.mpr ⟨t, List.mem_range.mpr ht, ?_⟩, rfl⟩
  unfold all1
  rw [if_pos h0]; simp
end Hn
theorem en_jnI {α : Type} {k : α → Tree} {f : (α → Tree) → Tree} (h : Tr ρ0 ρ L (f k) Post) : Tr ρ0 ρ L (jn k f) Post := h
theorem mem_roots {x : Rt} (hl : x.hs.length = 512) {a : Int} (ha : 0 < a) : a ∈ x.roots ↔ ((∃ t, t < 512 ∧ (Hn.at' x.hs t).2 = a) ∨ a ∈ x.ro ∨ (∃ r ∈ x.rows, a ∈ r.take 1) ∨ a ∈ x.pe) := by
 unfold Rt.roots
 rw [Mg.mem_merge]
 constructor
 ·rintro ⟨_, r, hr, h⟩
  simp only [List.mem_cons, List.not_mem_nil, or_false] at hr
  rcases hr with rfl | rfl | rfl | rfl
  ·exact .inl ((Hn.mem_all hl).mp h).2
  ·exact .inr (.inl h)
  ·exact .inr (.inr (.inl (List.mem_flatMap.mp h)))
  ·exact .inr (.inr (.inr h))
 ·rintro (h | h | h | h)
  ·exact ⟨ha, _, by simp, (Hn.mem_all hl).mpr ⟨by omega, h⟩⟩
  ·exact ⟨ha, x.ro, by simp, h⟩
  ·exact ⟨ha, x.rows.flatMap (·.take 1), by simp, List.mem_flatMap.mpr h⟩
  ·exact ⟨ha, x.pe, by simp, h⟩
theorem coll_norefs {S : Spc} {cs : List Cls} {os : List Ob1} (H : Bo S cs os) (hk : ∀ o ∈ os, o.h.k ≠ 4) {x : In7} {ros fs : List Int} {l : List Rf6} {m2 m3 : List Bool} (hC : Coll S cs x ros fs l m2 m3) :
  clrOf S m2 m3 l = [] ∧ ∀ a, Sp.has m2 a = true ↔ Mk.Rch S cs ros a := by
 have hno : refsOf S = [] := by
  have h := H.refs
  have : os.filterMap ref1 = [] := by
   rw [List.filterMap_eq_nil_iff]
   intro o ho
   unfold ref1; rw [if_neg (hk o ho)]
  rw [this] at h
  exact List.perm_nil.mp h
 have hl : l = [] := by
  have := hC.perm
  rw [hno] at this
  exact List.perm_nil.mp this
 subst hl
 refine ⟨rfl, fun a => ?_⟩
 rw [hC.has2, hno]
 constructor
 ·intro h
  cases h with
  | base h => exact h
  | keep hr => cases hr
 ·exact .base
end Go.Proofs.YtkljcopnaodfgaaGreat
