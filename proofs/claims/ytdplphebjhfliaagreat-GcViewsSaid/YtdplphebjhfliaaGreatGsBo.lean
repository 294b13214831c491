/- Heaps that are known by their list of objects, whatever room there is. -/
import Derived.Test.YtdplphebjhfliaaGreatGsBx
import Derived.Test.YtdplphebjhfliaaGreatGsL20a
set_option linter.unusedSimpArgs false
set_option linter.unusedVariables false
namespace Go.Proofs.YtdplphebjhfliaaGreat
open Go Go.Gl
namespace Om
def fi (a : Int) (o : Ob1) : Ob1 := if o.a = a then ⟨o.a, { o.h with f := true }, o.ws⟩ else o
end Om
structure Bo (S : Spc) (cs : List Cls) (os : List Ob1) : Prop where
 hw : HWf S cs
 each : (Sp.each S).Perm (os.map (·.a))
 head : ∀ o ∈ os, Ob.head S o.a = some o.h
 len : ∀ o ∈ os, o.ws.length = o.h.n.toNat
 get : ∀ o ∈ os, ∀ j : Nat, (j : Int) < o.h.n → Ob.get S o.a j = (o.ws.getD j 0, 0)
theorem Bx.bo {S : Spc} {cs : List Cls} {P : Nat} {os : List Ob1} (H : Bx S cs P os) : Bo S cs os := ⟨H.hw, H.each, H.head, H.len, H.get⟩
namespace Bo
variable {S : Spc} {cs : List Cls} {os : List Ob1}
theorem obj (H : Bo S cs os) {a : Int} : Mk.obj S a ↔ ∃ o ∈ os, o.a = a := by
 constructor
 ·intro h
  unfold Mk.obj at h
  cases hh : Ob.head S a with
  | none => rw [hh] at h; cases h
  | some hd =>
   obtain ⟨n, w, rfl, hf, _⟩ := Ob.head_is H.hw hh
   have := H.each.mem_iff.mp ((mem_each H.hw.wf).mpr ⟨n, w, rfl, hf⟩)
   obtain ⟨o, ho, e⟩ := List.mem_map.mp this
   exact ⟨o, ho, e⟩
 ·rintro ⟨o, ho, rfl⟩
  unfold Mk.obj
  rw [H.head o ho]; rfl
theorem ne (H : Bo S cs os) {o : Ob1} (ho : o ∈ os) : o.a ≠ 0 := fun e => Mk.obj_zero H.hw (e ▸ H.obj.mpr ⟨o, ho, rfl⟩)
theorem pos (H : Bo S cs os) {o : Ob1} (ho : o ∈ os) : 0 < o.a := by
 obtain ⟨n, w, e, _⟩ := Ob.head_is H.hw (H.head o ho)
 have := H.ne ho
 omega
theorem at1 (H : Bo S cs os) {o : Ob1} (ho : o ∈ os) : Ob.at1 S o.a = o := by
 unfold Ob.at1
 rw [H.head o ho]
 obtain ⟨a, h, ws⟩ := o
 have h1 := H.len _ ho
 have h2 := H.get _ ho
 dsimp only at h1 h2 ⊢
 congr 1
 apply List.ext_getElem?
 intro j
 rw [List.getElem?_map]
 by_cases hj : j < h.n.toNat
 ·rw [List.getElem?_range hj, Option.map_some, h2 j (by omega), List.getD_eq_getElem?_getD, List.getElem?_eq_getElem (by omega)]; rfl
 ·rw [List.getElem?_eq_none (by simp; omega), List.getElem?_eq_none (by omega)]; rfl
theorem inj (H : Bo S cs os) {o o' : Ob1} (h : o ∈ os) (h' : o' ∈ os) (e : o.a = o'.a) : o = o' := by
 rw [← H.at1 h, ← H.at1 h', e]
theorem objs (H : Bo S cs os) : (Ob.objs S).Perm os := by
 unfold Ob.objs
 refine (H.each.map _).trans ?_
 rw [List.map_map]
 have : os.map (Ob.at1 S ∘ fun o => o.a) = os := by
  conv => rhs; rw [← List.map_id os]
  exact List.map_congr_left fun o ho => H.at1 ho
 rw [this]
theorem final (H : Bo S cs os) {o : Ob1} (ho : o ∈ os) (hk : o.h.k ≠ 4) (hf : o.h.f = false) : (Ob.final S o.a).1 = 0 ∧ Bo (Ob.final S o.a).2 cs (os.map (Om.fi o.a)) := by
 obtain ⟨h1, h2, h3, h4⟩ := Ob.final_keep H.hw (H.head o ho) hk hf
 have ha : ∀ o', (Om.fi o.a o').a = o'.a := fun o' => by unfold Om.fi; split <;> rfl
 have has : (os.map (Om.fi o.a)).map (·.a) = os.map (·.a) := by rw [List.map_map]; exact List.map_congr_left fun o' _ => ha o'
 have hws : ∀ o', (Om.fi o.a o').ws = o'.ws := fun o' => by unfold Om.fi; split <;> rfl
 have hn : ∀ o', (Om.fi o.a o').h.n = o'.h.n := fun o' => by unfold Om.fi; split <;> rfl
 have hhd : ∀ o' ∈ os, Ob.head (Ob.final S o.a).2 o'.a = some (Om.fi o.a o').h := fun o' ho' => by
  unfold Om.fi
  by_cases e : o'.a = o.a
  ·rw [if_pos e]
   have := H.inj ho' ho e
   subst this
   exact h2
  ·rw [if_neg e]; exact h3 _ _ e (H.head o' ho')
 refine ⟨h1, H.hw.final _, ?_, fun o' ho' => ?_, fun o' ho' => ?_, fun o' ho' j hj => ?_⟩
 ·rw [has]
  refine .trans ?_ H.each
  have hw' := H.hw.final (a := o.a)
  rw [List.perm_ext_iff_of_nodup (each_nodup hw'.wf) (each_nodup H.hw.wf)]
  intro b
  have ob : ∀ {S' : Spc} (w : HWf S' cs), b ∈ Sp.each S' ↔ ∃ hd, Ob.head S' b = some hd := fun w => obj_each w
  have key : ∀ {S' : Spc}, HWf S' cs → (b ∈ Sp.each S' ↔ ∃ hd, Ob.head S' b = some hd) := fun w => obj_each w
  rw [key hw', key H.hw]
  constructor
  ·rintro ⟨hd, hh⟩
   have : (Ob.final S o.a).2.pg = S.pg ∧ (Ob.final S o.a).2.ws.length = S.ws.length := by
    unfold Ob.final
    rw [H.head o ho]
    dsimp only
    rw [if_neg hk, if_neg (by rw [hf]; simp)]
    exact ⟨rfl, List.length_set ..⟩
   obtain ⟨n, w, rfl, hfd, _⟩ := Ob.head_is hw' hh
   have hm : (n : Int) ∈ Sp.each S := by
    refine (mem_each H.hw.wf).mpr ⟨n, w, rfl, ?_⟩
    rw [← hfd]
    generalize hS : (Ob.final S o.a).2 = S' at *
    obtain ⟨ws', pg'⟩ := S'
    obtain ⟨e1, e2⟩ := this
    dsimp only at e1 e2
    subst e1
    exact (find_ws e2 _).symm
   exact (key H.hw).mp hm
  ·rintro ⟨hd, hh⟩
   by_cases e : b = o.a
   ·subst e; exact ⟨_, h2⟩
   ·exact ⟨_, h3 _ _ e hh⟩
 ·obtain ⟨o1, ho1, rfl⟩ := List.mem_map.mp ho'
  rw [ha]; exact hhd o1 ho1
 ·obtain ⟨o1, ho1, rfl⟩ := List.mem_map.mp ho'
  rw [hws, hn]; exact H.len o1 ho1
 ·obtain ⟨o1, ho1, rfl⟩ := List.mem_map.mp ho'
  rw [hn] at hj
  rw [ha, hws, h4 _ _ j (H.head o1 ho1) (by omega) hj]
  exact H.get o1 ho1 j hj
end Bo
end Go.Proofs.YtdplphebjhfliaaGreat
