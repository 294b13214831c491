/- The law GcQueues: what is cleared, what is put, in plain words. -/
import Derived.Test.YtdplphebjhfliaaGreatGsAft
set_option linter.unusedSimpArgs false
set_option linter.unusedVariables false
namespace Go.Proofs.YtdplphebjhfliaaGreat
open Go Go.Gl
namespace Qs
def kk (vs : List Int) (j : Nat) : Int := 1 + vs.getD j 0 % 3
def qq (vs : List Int) (j : Nat) : Int := vs.getD j 0 / 4 % 2
def hh (vs : List Int) (j : Nat) : Bool := decide (64 ≤ vs.getD j 0)
def sel (vs : List Int) (n : Nat) (late : Bool) (c : Int) : List Nat := (List.range n).filter fun j => hh vs j && (decide (kk vs j = 3) == late) && decide (qq vs j = c)
def X (vs : List Int) (n : Nat) (late : Bool) (c : Int) : List Int := (sel vs n late c).map fun j : Nat => (j : Int) + 1
def rf (vs l : List Int) (o : Int) (j : Nat) : Ob1 := ⟨l.getD j 0, ⟨4, kk vs j, 5, false⟩, [o, qq vs j + 1, 0, 0, (j : Int) + 1]⟩
def os (vs : List Int) (o : Int) (l : List Int) : List Ob1 := ⟨o, ⟨2, 0, 1, false⟩, [0]⟩ :: (List.range l.length).map (rf vs l o)
def hl (vs : List Int) (o : Int) (l : List Int) : List Int := o :: ((List.range l.length).filter (hh vs)).map fun j => l.getD j 0
variable {vs l : List Int} {o : Int}
theorem kk_b (vs : List Int) (j : Nat) : 1 ≤ kk vs j ∧ kk vs j ≤ 3 := by unfold kk; omega
theorem qq_b (vs : List Int) (j : Nat) : 0 ≤ qq vs j ∧ qq vs j < 2 := by unfold qq; omega
theorem getD_l {a : Int} {j : Nat} (h : j < l.length) : (l ++ [a]).getD j 0 = l.getD j 0 := by
 rw [List.getD_eq_getElem?_getD, List.getD_eq_getElem?_getD, List.getElem?_append_left h]
theorem getD_e {a : Int} : (l ++ [a]).getD l.length 0 = a := by
 rw [List.getD_eq_getElem?_getD, List.getElem?_append_right (Nat.le_refl _), Nat.sub_self]; rfl
theorem os_len : (os vs o l).length = l.length + 1 := by simp [os]
theorem os_snoc (a : Int) : os vs o (l ++ [a]) = os vs o l ++ [⟨a, ⟨4, kk vs l.length, 5, false⟩, [o, qq vs l.length + 1, 0, 0, (l.length : Int) + 1]⟩] := by
 unfold os
 rw [List.length_append, List.length_singleton, List.range_succ, List.map_append, List.cons_append]
 congr 1
 congr 1
 ·exact List.map_congr_left fun j hj => by rw [List.mem_range] at hj; unfold rf; rw [getD_l hj]
 ·show [rf vs (l ++ [a]) o l.length] = _
  unfold rf; rw [getD_e]
theorem hl_snoc (a : Int) : hl vs o (l ++ [a]) = if hh vs l.length then hl vs o l ++ [a] else hl vs o l := by
 unfold hl
 rw [List.length_append, List.length_singleton, List.range_succ, List.filter_append, List.map_append]
 have e : ((List.range l.length).filter (hh vs)).map (fun j => (l ++ [a]).getD j 0) = ((List.range l.length).filter (hh vs)).map fun j => l.getD j 0 :=
  List.map_congr_left fun j hj => by rw [List.mem_filter, List.mem_range] at hj; exact getD_l hj.1
 rw [e]
 cases h : hh vs l.length with
 | true => rw [List.filter_cons_of_pos h, if_pos rfl]; show _ :: (_ ++ [(l ++ [a]).getD l.length 0]) = _; rw [getD_e]; rfl
 | false => rw [List.filter_cons_of_neg (by rw [h]; simp), if_neg (by simp)]; simp
theorem X_snoc (n : Nat) (late : Bool) (c : Int) : X vs (n + 1) late c = X vs n late c ++ if (hh vs n && (decide (kk vs n = 3) == late) && decide (qq vs n = c)) = true then [(n : Int) + 1] else [] := by
 unfold X sel
 rw [List.range_succ, List.filter_append, List.map_append]
 congr 1
 rw [List.filter_cons, List.filter_nil]
 show List.map _ (if (hh vs n && (decide (kk vs n = 3) == late) && decide (qq vs n = c)) = true then [n] else []) = _
 by_cases h : (hh vs n && (decide (kk vs n = 3) == late) && decide (qq vs n = c)) = true
 ·rw [if_pos h, if_pos h]; rfl
 ·rw [if_neg h, if_neg h]; rfl
theorem X_len (n : Nat) (late : Bool) (c : Int) : (X vs n late c).length ≤ n := by
 unfold X sel
 rw [List.length_map]
 have := List.length_filter_le (fun j => hh vs j && (decide (kk vs j = 3) == late) && decide (qq vs j = c)) (List.range n)
 rw [List.length_range] at this
 exact this
def cl (vs l : List Int) : List Int := (((List.range l.length).filter fun j => decide (kk vs j ≠ 3)) ++ (List.range l.length).filter fun j => decide (kk vs j = 3)).map fun j => l.getD j 0
def pu (vs l : List Int) : List Int := (((List.range l.length).filter fun j => hh vs j && decide (kk vs j ≠ 3)) ++ (List.range l.length).filter fun j => hh vs j && decide (kk vs j = 3)).map fun j => l.getD j 0
def wt (vs : List Int) (n : Nat) (c : Int) : List Nat := sel vs n false c ++ sel vs n true c
theorem coll1 {S : Spc} (H : Bo S [] (os vs o l)) {y : In7} {ros : List Int} {L9 : List Rf6} {m2 m3 : List Bool} (hC : Coll S [] y ros [] L9 m2 m3) (hkey : KeyInj S)
  (hro : ∀ a, Mk.obj S a → (a ∈ ros ↔ ∃ j, j < l.length ∧ hh vs j = true ∧ a = l.getD j 0)) (hkp : Sf.keep y.clock 0 y.free y.rate = false) :
  (∀ a, Sp.has m3 a = true ↔ ∃ j, j < l.length ∧ hh vs j = true ∧ a = l.getD j 0) ∧ clrOf S m2 m3 L9 = cl vs l ∧ putOf S m3 (cl vs l) = pu vs l ∧ (cl vs l).Nodup ∧ l.Nodup ∧ ∀ j, j < l.length → Ob.head S (l.getD j 0) = some ⟨4, kk vs j, 5, false⟩ ∧ (Ob.get S (l.getD j 0) 1) = (qq vs j + 1, 0) ∧ Ob.get S (l.getD j 0) 4 = ((j : Int) + 1, 0) := by
 have has : (os vs o l).map (·.a) = o :: l := by
  unfold os
  rw [List.map_cons, List.map_map]
  congr 1
  apply List.ext_getElem?
  intro j
  rw [List.getElem?_map]
  by_cases hj : j < l.length
  ·rw [List.getElem?_range hj, Option.map_some, List.getElem?_eq_getElem hj]
   show some (l.getD j 0) = _
   rw [List.getD_eq_getElem?_getD, List.getElem?_eq_getElem hj]; rfl
  ·rw [List.getElem?_eq_none (by simp; omega), List.getElem?_eq_none (by omega)]; rfl
 have hnd := H.nodup
 rw [has] at hnd
 obtain ⟨hn1, hn2⟩ := List.nodup_cons.mp hnd
 have hmem : ∀ j, j < l.length → rf vs l o j ∈ os vs o l := fun j hj => List.mem_cons_of_mem _ (List.mem_map.mpr ⟨j, List.mem_range.mpr hj, rfl⟩)
 have hcase : ∀ x ∈ os vs o l, x = ⟨o, ⟨2, 0, 1, false⟩, [0]⟩ ∨ ∃ j, j < l.length ∧ x = rf vs l o j := fun x hx => by
  unfold os at hx
  rcases List.mem_cons.mp hx with h | h
  ·exact .inl h
  ·obtain ⟨j, hj, e⟩ := List.mem_map.mp h
   exact .inr ⟨j, List.mem_range.mp hj, e.symm⟩
 have hinj : ∀ {i j : Nat}, i < l.length → j < l.length → l.getD i 0 = l.getD j 0 → i = j := fun {i j} hi hj e => by
  rw [List.getD_eq_getElem?_getD, List.getD_eq_getElem?_getD, List.getElem?_eq_getElem hi, List.getElem?_eq_getElem hj] at e
  exact (List.getElem?_inj hi hn2).mp (by rw [List.getElem?_eq_getElem hi, List.getElem?_eq_getElem hj]; exact congrArg some e)
 have hz := Mk.obj_zero H.hw
 have hoo : Mk.obj S o := H.obj.mpr ⟨⟨o, ⟨2, 0, 1, false⟩, [0]⟩, .head _, rfl⟩
 have hor : ∀ j, j < l.length → Mk.obj S (l.getD j 0) := fun j hj => H.obj.mpr ⟨rf vs l o j, hmem j hj, rfl⟩
 have flat : ∀ a, Mk.obj S a → ∀ b ∈ Mk.kids S [] a, ¬ Mk.obj S b := fun a ha b hb ho => by
  obtain ⟨x, hx, _, hk⟩ := H.kid_in (fun x hx => by
   rcases hcase x hx with rfl | ⟨j, _, rfl⟩
   ·show (2 : Int) ≠ 1; decide
   ·show (4 : Int) ≠ 1; decide) ha hb
  have : b = 0 := by
   rcases hcase x hx with rfl | ⟨j, _, rfl⟩
   ·simpa [Bx.kidsO] using hk
   ·simpa [Bx.kidsO, rf] using hk
  exact hz (this ▸ ho)
 have refs : (refsOf S).Perm ((List.range l.length).map fun j : Nat => ((l.getD j 0, kk vs j, o, qq vs j + 1, (0 : Int), (j : Int) + 1, ()) : Rf6)) := by
  refine H.refs.trans ?_
  unfold os
  rw [List.filterMap_cons, show ref1 ⟨o, ⟨2, 0, 1, false⟩, [0]⟩ = none from rfl, List.filterMap_map]
  dsimp only
  have : List.filterMap (ref1 ∘ rf vs l o) (List.range l.length) = List.map (fun j : Nat => ((l.getD j 0, kk vs j, o, qq vs j + 1, (0 : Int), (j : Int) + 1, ()) : Rf6)) (List.range l.length) := by
   exact congrFun (List.filterMap_eq_map (f := fun j : Nat => ((l.getD j 0, kk vs j, o, qq vs j + 1, (0 : Int), (j : Int) + 1, ()) : Rf6))) _
  rw [this]
 have hL9 : L9 = (List.range l.length).map fun j : Nat => ((l.getD j 0, kk vs j, o, qq vs j + 1, (0 : Int), (j : Int) + 1, ()) : Rf6) := by
  refine srt_eq hkey (fun r hr => hC.perm.mem_iff.mp hr) (hC.perm.trans refs) hC.srt ?_
  rw [List.pairwise_map]
  refine List.Pairwise.imp (fun {i j} h => ?_) (List.pairwise_lt_range)
  show (i : Int) + 1 ≤ (j : Int) + 1
  omega
 have c2 : ∀ a, Sp.has m2 a = true ↔ ∃ j, j < l.length ∧ hh vs j = true ∧ a = l.getD j 0 := fun a => by
  rw [coll_hard hC (fun r hr _ _ => ?_) a, rch_flat2 flat]
  ·constructor
   ·rintro ⟨g, ho⟩; exact (hro a ho).mp g
   ·rintro ⟨j, hj, h1, rfl⟩; exact ⟨(hro _ (hor j hj)).mpr ⟨j, hj, h1, rfl⟩, hor j hj⟩
  ·have := refs.mem_iff.mp hr
   obtain ⟨j, _, rfl⟩ := List.mem_map.mp this
   exact hkp
 have c3 : ∀ a, Sp.has m3 a = true ↔ ∃ j, j < l.length ∧ hh vs j = true ∧ a = l.getD j 0 := fun a => by
  rw [hC.has3, c2]
  exact ⟨fun g => g.elim id fun g => absurd g Mk.rch_nil, .inl⟩
 have no : ∀ {m : List Bool}, (∀ a, Sp.has m a = true ↔ ∃ j, j < l.length ∧ hh vs j = true ∧ a = l.getD j 0) → ¬ Sp.has m o = true := fun hm g => by
  obtain ⟨j, hj, _, e⟩ := (hm o).mp g
  refine hn1 ?_
  rw [e, List.getD_eq_getElem?_getD, List.getElem?_eq_getElem hj]; exact List.getElem_mem hj
 have clr : ∀ {m : List Bool} (xs : List Int), (∀ a, Sp.has m a = true ↔ ∃ j, j < l.length ∧ hh vs j = true ∧ a = l.getD j 0) → clearOf S m xs L9 = ((List.range l.length).filter fun j => decide (kk vs j ∈ xs)).map fun j => l.getD j 0 := fun {m} xs hm => by
  unfold clearOf
  rw [hL9, List.filter_map, List.map_map]
  congr 1
  refine List.filter_congr fun j hj => ?_
  have hlo : lostB S m (l.getD j 0, kk vs j, o, qq vs j + 1, (0 : Int), (j : Int) + 1, ()) = true := lost_iff.mpr ⟨hoo, no hm⟩
  show (decide (kk vs j ∈ xs) && lostB S m (l.getD j 0, kk vs j, o, qq vs j + 1, (0 : Int), (j : Int) + 1, ())) = _
  rw [hlo, Bool.and_true]
 have ecl : clrOf S m2 m3 L9 = cl vs l := by
  unfold clrOf cl
  rw [clr [1, 2] c2, clr [3] c3, ← List.map_append]
  congr 2
  ·refine List.filter_congr fun j _ => ?_
   have := kk_b vs j
   rw [decide_eq_decide]
   simp only [List.mem_cons, List.not_mem_nil, or_false]
   omega
  ·refine List.filter_congr fun j _ => ?_
   rw [decide_eq_decide]; simp
 have hget : ∀ j, j < l.length → Ob.get S (l.getD j 0) 1 = (qq vs j + 1, 0) ∧ Ob.get S (l.getD j 0) 4 = ((j : Int) + 1, 0) := fun j hj =>
  ⟨H.get (rf vs l o j) (hmem j hj) 1 (show ((1 : Nat) : Int) < 5 by decide), H.get (rf vs l o j) (hmem j hj) 4 (show ((4 : Nat) : Int) < 5 by decide)⟩
 have hhas : ∀ j, j < l.length → Sp.has m3 (l.getD j 0) = hh vs j := fun j hj => by
  cases e : hh vs j with
  | true => exact (c3 _).mpr ⟨j, hj, e, rfl⟩
  | false =>
   cases e2 : Sp.has m3 (l.getD j 0) with
   | false => rfl
   | true =>
    obtain ⟨i, hi, h1, h2⟩ := (c3 _).mp e2
    rw [← hinj hj hi h2, e] at h1; cases h1
 have epu : putOf S m3 (cl vs l) = pu vs l := by
  unfold putOf cl pu
  rw [List.filter_map]
  congr 1
  rw [List.filter_append, List.filter_filter, List.filter_filter]
  have key : ∀ j ∈ List.range l.length, ((fun a => Sp.has m3 a && decide ((Ob.get S a 1).1 > 0)) ∘ fun j => l.getD j 0) j = hh vs j := fun j hj => by
   rw [List.mem_range] at hj
   have hb := qq_b vs j
   show (Sp.has m3 (l.getD j 0) && decide ((Ob.get S (l.getD j 0) 1).1 > 0)) = _
   rw [hhas j hj, (hget j hj).1, decide_eq_true (by show qq vs j + 1 > 0; omega), Bool.and_true]
  congr 1
  ·exact List.filter_congr fun j hj => by rw [key j hj]
  ·exact List.filter_congr fun j hj => by rw [key j hj]
 refine ⟨c3, ecl, epu, ?_, hn2, fun j hj => ⟨H.head (rf vs l o j) (hmem j hj), hget j hj⟩⟩
 rw [← ecl]
 unfold clrOf
 rw [clr [1, 2] c2, clr [3] c3, ← List.map_append]
 unfold List.Nodup
 rw [List.pairwise_map]
 have hr : ((List.range l.length).filter (fun j => decide (kk vs j ∈ [1, 2])) ++ (List.range l.length).filter (fun j => decide (kk vs j ∈ [3]))).Nodup := by
  rw [List.nodup_append]
  refine ⟨List.nodup_range.sublist List.filter_sublist, List.nodup_range.sublist List.filter_sublist, fun a ha b hb e => ?_⟩
  rw [List.mem_filter, decide_eq_true_iff] at ha hb
  subst e
  have h1 := ha.2
  have h2 : kk vs a = 3 := by simpa using hb.2
  rw [h2] at h1
  simp at h1
 refine List.Pairwise.imp_of_mem (fun {i j} hi hj h => ?_) hr
 intro e
 have hi' : i < l.length := by
  rcases List.mem_append.mp hi with h | h <;> exact List.mem_range.mp (List.mem_filter.mp h).1
 have hj' : j < l.length := by
  rcases List.mem_append.mp hj with h | h <;> exact List.mem_range.mp (List.mem_filter.mp h).1
 exact h (hinj hi' hj' e)
theorem pu_row {c : Nat} {qf : Int → Int} (hq : ∀ j, j < l.length → qf (l.getD j 0) = qq vs j) : ((pu vs l).filter fun a => qf a == (c : Int)) = (wt vs l.length c).map fun j => l.getD j 0 := by
 unfold pu wt sel
 rw [List.filter_map]
 congr 1
 rw [List.filter_append, List.filter_filter, List.filter_filter]
 have key : ∀ j ∈ List.range l.length, ((fun a => qf a == (c : Int)) ∘ fun j => l.getD j 0) j = decide (qq vs j = c) := fun j hj => by
  rw [List.mem_range] at hj
  show (qf (l.getD j 0) == (c : Int)) = _
  rw [hq j hj]; rfl
 congr 1
 ·refine List.filter_congr fun j hj => ?_
  rw [key j hj, Bool.and_comm]
  congr 1
  congr 1
  by_cases h : kk vs j = 3 <;> simp [h]
 ·refine List.filter_congr fun j hj => ?_
  rw [key j hj, Bool.and_comm]
  congr 1
  congr 1
  by_cases h : kk vs j = 3 <;> simp [h]
theorem wt_mem {n : Nat} {c : Int} {j : Nat} (h : j ∈ wt vs n c) : j < n ∧ hh vs j = true := by
 unfold wt sel at h
 rcases List.mem_append.mp h with h | h
 ·rw [List.mem_filter, List.mem_range, Bool.and_eq_true, Bool.and_eq_true] at h
  exact ⟨h.1, h.2.1.1⟩
 ·rw [List.mem_filter, List.mem_range, Bool.and_eq_true, Bool.and_eq_true] at h
  exact ⟨h.1, h.2.1.1⟩
theorem wt_X (n : Nat) (c : Int) : X vs n false c ++ X vs n true c = (wt vs n c).map fun j : Nat => (j : Int) + 1 := by
 unfold X wt; rw [List.map_append]
end Qs
end Go.Proofs.YtdplphebjhfliaaGreat
