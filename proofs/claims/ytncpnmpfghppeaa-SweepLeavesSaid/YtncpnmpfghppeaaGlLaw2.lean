/- Heaps, plainly: what stays. -/
import Derived.Test.YtncpnmpfghppeaaGlL1
set_option linter.unusedSimpArgs false
set_option linter.unusedVariables false
namespace Go.Proofs.Ytncpnmpfghppeaa
open Go Go.Gl
variable {ρ0 ρ : FR} {L L' : List Asn} {Post : Value → List Asn → Prop} {T : Tree}

/-- what is there stays, whatever is made -/
theorem Ob.make_keep {S : Spc} {cs : List Cls} (hw : HWf S cs) {h : Hd} (h0 : (Ob.make S cs h).2.1 = 0) {a : Int} {h' : Hd} (hh : Ob.head S a = some h') :
    Ob.head (Ob.make S cs h).2.2 a = some h' ∧ a ≠ (Ob.make S cs h).1 ∧ ∀ i, 0 ≤ i → i < h'.n → Ob.get (Ob.make S cs h).2.2 a i = Ob.get S a i := by
  obtain ⟨b, n, e1, e2, e3, e4, e5, e6, e7, e8, e9⟩ := Ob.make_ok hw h0
  obtain ⟨m, w, rfl, g1, g2, g3, g4, g5⟩ := Ob.head_is hw hh
  have hb := Sp.mayH_is g3
  have hout : ∀ j : Nat, m ≤ j → j < m + w → ¬ (b ≤ j ∧ j < b + n) := fun j j1 j2 hc => by
    have t1 := find_in hw.wf g1 j1 j2
    rw [e8 j hc.1 hc.2] at t1; cases t1
  have hwd : ∀ j : Nat, m ≤ j → j < m + w → (Ob.make S cs h).2.2.ws.getD j 0 = S.ws.getD j 0 := fun j j1 j2 => by
    have := hout j j1 j2
    have hb1 := Sp.mayH_is (Ob.may_ok e2).1
    rw [e6, getD_set_ne' (by omega), clr_getD e5, if_neg this]
  have hm : ¬ (b ≤ m ∧ m < b + n) := hout m (by omega) (by omega)
  have hhd : Ob.head (Ob.make S cs h).2.2 m = some h' := by
    unfold Ob.head
    rw [e7 m, if_neg hm, g1]
    dsimp only
    rw [if_pos rfl, hwd m (by omega) (by omega), g2, Sp.getH_put g3]
  refine ⟨hhd, ?_, fun i i0 i1 => ?_⟩
  · have hb1 := Sp.mayH_is (Ob.may_ok e2).1
    rw [e1]; intro e; exact hm (by omega)
  · rw [Ob.get_ok hhd i0 i1, Ob.get_ok hh i0 i1, hwd _ (by omega) (by omega)]

/-- what is there stays, whatever is put, but for that field -/
theorem Ob.put_keep {S : Spc} {cs : List Cls} (hw : HWf S cs) {a i x : Int} {h : Hd} (hh : Ob.head S a = some h) (i0 : 0 ≤ i) (i1 : i < h.n) :
    (Ob.put S a i x).1 = 0 ∧ ∀ (a' : Int) (h' : Hd), Ob.head S a' = some h' → Ob.head (Ob.put S a i x).2 a' = some h' ∧ ∀ j, 0 ≤ j → j < h'.n → Ob.get (Ob.put S a i x).2 a' j = if a' = a ∧ j = i then (x, 0) else Ob.get S a' j := by
  obtain ⟨m, w, rfl, g1, g2, g3, g4, g5⟩ := Ob.head_is hw hh
  have e : Ob.fieldAt S m i = ((m : Int) + 1 + i, 0) := by unfold Ob.fieldAt; rw [hh]; dsimp only; rw [if_neg (by rintro (h | h) <;> omega)]
  have ep : Ob.put S m i x = (0, ⟨S.ws.set ((m : Int) + 1 + i).toNat x, S.pg⟩) := by unfold Ob.put; rw [e, if_neg (by simp)]
  rw [ep]
  refine ⟨rfl, fun a' h' hh' => ?_⟩
  obtain ⟨m', w', rfl, g1', g2', g3', g4', g5'⟩ := Ob.head_is hw hh'
  have hin := find_in hw.wf g1 (m := ((m : Int) + 1 + i).toNat) (by omega) (by omega)
  have hne : ((m : Int) + 1 + i).toNat ≠ m' := fun e2 => by
    rw [e2, g1'] at hin; injection hin with hin; injection hin with hin _; omega
  have hhd : Ob.head ⟨S.ws.set ((m : Int) + 1 + i).toNat x, S.pg⟩ m' = some h' := by
    unfold Ob.head
    rw [find_ws (by simp), g1']
    dsimp only
    rw [if_pos rfl, getD_set_ne' hne, g2', Sp.getH_put g3']
  refine ⟨hhd, fun j j0 j1 => ?_⟩
  rw [Ob.get_ok hhd j0 j1, Ob.get_ok hh' j0 j1]
  dsimp only
  split
  · rename_i hc
    have : m' = m := by omega
    subst this
    rw [hc.2, getD_set_eq' (by omega)]
  · rename_i hc
    rw [getD_set_ne' ?_]
    intro e2
    have hin' := find_in hw.wf g1' (m := ((m' : Int) + 1 + j).toNat) (by omega) (by omega)
    rw [← e2, hin] at hin'
    injection hin' with hin'; injection hin' with hin' _
    exact hc ⟨by omega, by omega⟩

/-! ### no heap -/
theorem nil_head (a : Int) : Gl.Spec ρ Try.prog 22 [.pointer none, i64 a] [] HE fun r M => r = Ob.headR none ∧ M = [] := by
  refine Spec.of (fun Q w h => F.object.Heap.Head.calls none a h) fun R => ?_
  unfold F.object.Heap.Head
  try simp only [List.cons_append, List.nil_append]
  refine en_nw fun b1 => ?_
  rw [zcH]
  refine en_brt rfl ?_
  refine en_st (b := b1) (off := 0) rfl tk (by simp) rfl ?_
  refine en_ldg (b := b1) (x := ((0 : Int), (0 : Int), (0 : Int), false, ())) [] rfl tk rfl ?_
  exact en_rets (x := Ob.headR none) rfl ⟨rfl, rfl⟩ tks ens
theorem nil_make (h : Hd) : Gl.Spec ρ Try.prog 14 [.pointer none, hval h] [] P2 fun r M => r = ((0 : Int), (2 : Int), ()) ∧ M = [] := by
  refine Spec.of (fun Q w hh => F.object.Heap.Make.calls none h.t hh) fun R => ?_
  unfold F.object.Heap.Make
  try simp only [List.cons_append, List.nil_append]
  refine en_nw fun b1 => ?_
  refine en_brt rfl ?_
  exact en_rets (x := ((0 : Int), (2 : Int), ())) rfl ⟨rfl, rfl⟩ tks ens
theorem nil_objects : Gl.Spec ρ Try.prog 18 [.pointer none] [] RS fun r M => r.n = 0 ∧ M = [] := by
  refine Spec.of (fun Q w h => F.object.Heap.Objects.calls none h) fun R => ?_
  unfold F.object.Heap.Objects
  try simp only [List.cons_append, List.nil_append]
  refine en_brt rfl ?_
  exact en_rets (x := (⟨none, 0, 0⟩ : Slc)) rfl ⟨rfl, rfl⟩ tks ens
theorem nil_refs (a : Int) : Gl.Spec ρ Try.prog 23 [.pointer none, i64 a] [] RS fun r M => r.n = 0 ∧ M = [] := by
  refine Spec.of (fun Q w h => F.object.Heap.Refs.calls none a h) fun R => ?_
  unfold F.object.Heap.Refs
  try simp only [List.cons_append, List.nil_append]
  refine en_call (nil_head a) tks ?_
  rintro x M ⟨rfl, rfl⟩
  try simp only [List.cons_append, List.nil_append]
  refine en_nw fun b2 => ?_
  rw [zcH]
  refine en_st (b := b2) (off := 0) rfl tk (by simp) rfl (en_brt rfl ?_)
  exact en_rets (x := (⟨none, 0, 0⟩ : Slc)) rfl ⟨rfl, rfl⟩ tks ens

end Go.Proofs.Ytncpnmpfghppeaa
