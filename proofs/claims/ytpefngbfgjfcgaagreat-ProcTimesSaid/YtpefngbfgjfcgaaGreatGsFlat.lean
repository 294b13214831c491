/- Collections of heaps that are known by their objects: what they come to. -/
import Derived.Test.YtpefngbfgjfcgaaGreatGsL18
set_option linter.unusedSimpArgs false
set_option linter.unusedVariables false
namespace Go.Proofs.YtpefngbfgjfcgaaGreat
open Go Go.Gl
variable {ρ0 ρ : FR} {L L' : List Asn} {Post : Value → List Asn → Prop} {T : Tree}
theorem Mk.all_perm {m : List Bool} {l : List Int} (hn : l.Nodup) (h : ∀ a, Sp.has m a = true ↔ a ∈ l) : (Mk.all m).Perm l := by
 refine (List.perm_ext_iff_of_nodup ?_ hn).mpr fun a => by rw [Mk.mem_all, h]
 unfold Mk.all
 refine List.Pairwise.map _ (fun a b (hab : a < b) => ?_) (List.Pairwise.filter _ List.pairwise_lt_range)
 omega
def Flat (S : Spc) (cs : List Cls) : Prop := ∀ a, Mk.obj S a → ∀ b ∈ Mk.kids S cs a, ¬ Mk.obj S b
theorem Bx.flat {S : Spc} {cs : List Cls} {P : Nat} {os : List Ob1} (H : Bx S cs P os) (hk : ∀ o ∈ os, o.h.k ≠ 1) (hz : ∀ o ∈ os, ∀ b ∈ Bx.kidsO o, b = 0) : Flat S cs := fun a ha b hb => by
 obtain ⟨o, ho, _, hb'⟩ := H.kid_in hk ha hb
 rw [hz o ho b hb']
 exact Mk.obj_zero H.hw
theorem rch_flat {S : Spc} {cs : List Cls} (hf : Flat S cs) {ro : List Int} {a : Int} : Mk.Rch S cs ro a ↔ (a ∈ ro ∧ Mk.obj S a) := by
 constructor
 ·intro h
  cases h with
  | root h ho => exact ⟨h, ho⟩
  | step h hb ho => exact absurd ho (hf _ h.obj _ hb)
 ·rintro ⟨h, ho⟩
  exact .root h ho
theorem soft_flat {S : Spc} {cs : List Cls} (hf : Flat S cs) {l : List Rf6} {x : In7} {ro : List Int} {a : Int} : SoftR S cs l x (Mk.Rch S cs ro) a ↔
  ((a ∈ ro ∧ Mk.obj S a) ∨ ∃ r ∈ l, r.2.1 = 1 ∧ x.all = false ∧ SoftR S cs l x (Mk.Rch S cs ro) r.1 ∧ Sf.keep x.clock r.2.2.2.2.1 x.free x.rate = true ∧ Mk.obj S a ∧ a = r.2.2.1) := by
 constructor
 ·intro h
  cases h with
  | base h => exact .inl ((rch_flat hf).mp h)
  | @keep r _ hr h1 h2 h3 h4 ho ha =>
   obtain ⟨ha, hoa⟩ := (rch_flat hf).mp ha
   exact .inr ⟨r, hr, h1, h2, h3, h4, hoa, List.mem_singleton.mp ha⟩
 ·rintro (h | ⟨r, hr, h1, h2, h3, h4, ho, rfl⟩)
  ·exact .base ((rch_flat hf).mpr h)
  ·exact .keep hr h1 h2 h3 h4 ho (.root (by simp) ho)
theorem keys_of {l : List Rf6} (hs : l.Pairwise fun a b => key6 a < key6 b) : ∀ r ∈ l, ∀ r' ∈ l, key6 r = key6 r' → r = r' := fun r hr r' hr' e => by
 obtain ⟨i, hi, rfl⟩ := List.mem_iff_getElem.mp hr
 obtain ⟨j, hj, rfl⟩ := List.mem_iff_getElem.mp hr'
 rw [List.pairwise_iff_getElem] at hs
 rcases Nat.lt_trichotomy i j with h | h | h
 ·have := hs i j hi hj h; omega
 ·subst h; rfl
 ·have := hs j i hj hi h; omega
theorem Bx.l_is {S : Spc} {cs : List Cls} {P : Nat} {os : List Ob1} (H : Bx S cs P os) {x : In7} {ro fs : List Int} {l : List Rf6} {m2 m3 : List Bool} (hC : Coll S cs x ro fs l m2 m3) {lr : List Rf6} (hp : lr.Perm (os.filterMap ref1)) (hs : lr.Pairwise fun a b => key6 a < key6 b) : l = lr := by
 have hpr : lr.Perm (refsOf S) := hp.trans H.refs.symm
 have hk : KeyInj S := fun r hr r' hr' e => keys_of hs r (hpr.mem_iff.mpr hr) r' (hpr.mem_iff.mpr hr') e
 exact srt_eq hk (fun r hr => hC.perm.mem_iff.mp hr) (hC.perm.trans hpr.symm) hC.srt (hs.imp fun h => by omega)
theorem Bx.obj_of {S : Spc} {cs : List Cls} {P : Nat} {os : List Ob1} (H : Bx S cs P os) {o : Ob1} (ho : o ∈ os) : Mk.obj S o.a := H.obj.mpr ⟨o, ho, rfl⟩
end Go.Proofs.YtpefngbfgjfcgaaGreat
