/- Heaps that are known by their list of objects, whatever room there is. -/
import Derived.Test.YtkljcopnaodfgaaGreatGsBx
import Derived.Test.YtkljcopnaodfgaaGreatGsL20a
set_option linter.unusedSimpArgs false
set_option linter.unusedVariables false
namespace Go.Proofs.YtkljcopnaodfgaaGreat
open Go Go.Gl
namespace Om
end Om
structure Bo (S : Spc) (cs : List Cls) (os : List Ob1) : Prop where
 hw : HWf S cs
 each : (Sp.each S).Perm (os.map (·.a))
 head : ∀ o ∈ os, Ob.head S o.a = some o.h
 len : ∀ o ∈ os, o.ws.length = o.h.n.toNat
 get : ∀ o ∈ os, ∀ j : Nat, (j : Int) < o.h.n → Ob.get S o.a j = (o.ws.getD j 0, 0)
theorem Bx.bo {S : Spc} {cs : List Cls} {P : Nat} {os : List Ob1} (H : Bx S cs P os) : Bo S cs os := ⟨H.hw, H.each, H.head, H.len, H.get⟩
namespace Bo
variable {S : Spc} {cs : List Cls} {os : List Ob1}
theorem obj (H : Bo S cs os) {a : Int} : Mk.obj S a ↔ ∃ o ∈ os, o.a = a := by
 constructor
 ·intro h
  unfold Mk.obj at h
  cases hh : Ob.head S a with
  | none => rw [hh] at h; cases h
  | some hd =>
   obtain ⟨n, w, rfl, hf, _⟩ := Ob.head_is H.hw hh
   have := H.each.mem_iff.mp ((mem_each H.hw.wf).mpr ⟨n, w, rfl, hf⟩)
   obtain ⟨o, ho, e⟩ := List.mem_map.mp this
   exact ⟨o, ho, e⟩
 ·rintro ⟨o, ho, rfl⟩
  unfold Mk.obj
  rw [H.head o ho]; rfl
theorem ne (H : Bo S cs os) {o : Ob1} (ho : o ∈ os) : o.a ≠ 0 := fun e => Mk.obj_zero H.hw (e ▸ H.obj.mpr ⟨o, ho, rfl⟩)
theorem pos (H : Bo S cs os) {o : Ob1} (ho : o ∈ os) : 0 < o.a := by
 obtain ⟨n, w, e, _⟩ := Ob.head_is H.hw (H.head o ho)
 have := H.ne ho
 omega
end Bo
end Go.Proofs.YtkljcopnaodfgaaGreat
