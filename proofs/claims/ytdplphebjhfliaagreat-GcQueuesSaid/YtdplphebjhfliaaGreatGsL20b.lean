/- Laws of a runtime's parts: handles, what is live where no reference is. -/
import Derived.Test.YtdplphebjhfliaaGreatGsInv2
import Derived.Test.YtdplphebjhfliaaGreatGsL18
set_option linter.unusedSimpArgs false
set_option linter.unusedVariables false
namespace Go.Proofs.YtdplphebjhfliaaGreat
open Go Go.Gl
variable {ρ0 ρ : FR} {L L' : List Asn} {Post : Value → List Asn → Prop} {T : Tree}
theorem Spec.post {P : Program} {f : FuncId} {args : List Value} {A : List Asn} {r : RK} {B B' : RT r → List Asn → Prop} (h : Gl.Spec ρ P f args A r B) (hb : ∀ x M, B x M → B' x M) : Gl.Spec ρ P f args A r B' := fun R w hw =>
 Calls.mono (h R w hw) fun e w' ⟨x, L, h1, h2, h3⟩ => ⟨x, L, h1, hb x L h2, h3⟩
theorem fin_heap {f hp : Nat} {wa pe : List Int} {g : Option Addr → Tree} {a : Addr} (ha : a = ⟨f, 0, none⟩) (t : Take L (FinA f hp wa pe) L') (h : Tr ρ0 ρ (FinA f hp wa pe :: L') (g (some ⟨hp, 0, none⟩)) Post) : Tr ρ0 ρ L (ld (.l .ptr) a g) Post := by
 subst ha
 refine FinA.op t fun s z hs hz => ?_
 refine en_ld (k := .ptr) (b := f) (off := 0) (x := some ⟨hp, 0, none⟩) rfl tk rfl ?_
 refine Tr.close tks (FinA.cl (p := f) (hp := hp) (wa := wa) (pe := pe) hs hz) ?_
 exact h
theorem new_bx : Bx (Sp.newSpc 60) [] 60 [] := by
 have h := newSpc_hwf (n := 60) (by omega) (by omega)
 refine ⟨h, ⟨1, Pfx.new (by omega), by simp⟩, by kernel_rfl, ?_, by simp, by simp, by simp⟩
 rw [new_each (by omega) (by omega)]; exact .refl _
abbrev RX (rate : Int) (rows : List (List Int)) (ser : Int) (S : Spc) (hs : List Hn.Slot) (ro wa pe : List Int) (ck rn : Int) : Rt := ⟨S, [], rows, ser, hs, ro, wa, pe, 60, rate, 2, ck, rn⟩
theorem inv_of {N : Int} {x : Rt} (w : Wl x.S x.cs x.rows x.ser x.wa x.pe) (h : HI N x.hs) (ro : x.ro.length = 16) (ck : 0 ≤ x.ck ∧ x.ck < 9223372036854775808) (ser : 0 ≤ x.ser ∧ x.ser ≤ N) (rn : 0 ≤ x.rn ∧ x.rn ≤ N) (rate : 0 ≤ x.rate ∧ x.rate < 9223372036854775808) (st : x.stack = 2) : x.Inv N :=
 { w := w, h := h, ro := ro, ck := ck, ser := ser, rn := rn, rate := rate, stack := by rw [st]; decide }
namespace Hn
theorem find_told {hs : List Slot} (H : Ok hs) {i : Nat} (hi : i < 512) (h : (at' hs i).2 ≠ 0) : find hs (told hs i) = some i := by
 obtain ⟨t1, t2, t3⟩ := told_ok H hi
 unfold find
 rw [if_neg (by omega), show (told hs i % 512).toNat = i by omega, if_pos ⟨h, rfl⟩]
theorem mem_all {hs : List Slot} (hl : hs.length = 512) {a : Int} : a ∈ (all hs).map (·.2) ↔ (a ≠ 0 ∧ ∃ t, t < 512 ∧ (at' hs t).2 = a) := by
 unfold all
 rw [List.mem_map, hl]
 constructor
 ·rintro ⟨e, he, rfl⟩
  obtain ⟨t, ht, h⟩ := List.mem_flatMap.mp he
  rw [List.mem_range] at ht
  unfold all1 at h
  split at h
  ·rename_i g
   rw [List.mem_singleton] at h
   subst h
   exact ⟨g, t, ht, rfl⟩
  ·cases h
 ·rintro ⟨h0, t, ht, rfl⟩
  refine ⟨(told hs t, (at' hs t).2), List.mem_flatMap.mpr ⟨t, List.mem_range.mpr ht, ?_⟩, rfl⟩
  unfold all1
  rw [if_pos h0]; simp
theorem row_get {l : List Int} {a : Int} {t : Nat} : (if t = l.length then ((0 : Int), a) else if t < l.length then (0, l.getD t 0) else (0, 0)) = if t < (l ++ [a]).length then (0, (l ++ [a]).getD t 0) else (0, 0) := by
 rw [List.length_append, List.length_singleton]
 by_cases e : t = l.length
 ·subst e
  rw [if_pos rfl, if_pos (by omega), List.getD_eq_getElem?_getD, List.getElem?_append_right (Nat.le_refl _), Nat.sub_self]; rfl
 ·rw [if_neg e]
  by_cases h : t < l.length
  ·rw [if_pos h, if_pos (by omega), List.getD_eq_getElem?_getD, List.getD_eq_getElem?_getD, List.getElem?_append_left h]
  ·rw [if_neg h, if_neg (by omega)]
theorem hold_is {hs : List Slot} {j : Nat} (hf : free hs = some j) {a : Int} (ha : 0 < a) : holdR hs a = (told hs j, 0) ∧ ∀ t, at' (holdS hs a) t = if t = j then ((at' hs j).1, a) else at' hs t := by
 unfold holdR holdS
 rw [if_neg (by omega), if_neg (by omega), hf]
 exact ⟨rfl, fun t => at_set (free_some hf).1⟩
theorem drop_is {hs : List Slot} (H : Ok hs) {i : Nat} (hi : i < 512) (h : (at' hs i).2 ≠ 0) : dropE hs (told hs i) = 0 ∧ ∀ t, at' (dropS hs (told hs i)) t = if t = i then ((at' hs i).1 + 1, 0) else at' hs t := by
 unfold dropE dropS
 rw [find_told H hi h]
 exact ⟨rfl, fun t => at_set (by rw [H.len]; exact hi)⟩
end Hn
theorem made60 (rate n : Int) (hr : 0 ≤ rate ∧ rate < 9223372036854775808) (hn : 0 ≤ n ∧ n ≤ 8) : Gl.Spec ρ Tryz.prog 23 [i64 rate, i64 n] [] (.one (.l .ptr))
  fun r M => ∃ (i : Pl) (S : Spc) (hs : List Hn.Slot) (ro : List Int), r = some ⟨i.p, 0, none⟩ ∧ M = i.A (RX rate (List.replicate n.toNat []) 0 S hs ro [] [] 0 0) ∧ Bx S [] 60 [] ∧ Wl S [] (List.replicate n.toNat []) 0 [] [] ∧ HI 0 hs ∧ (∀ t, Hn.at' hs t = (0, 0)) ∧ ro = List.replicate 16 0 := by
 have H := Rt.Inv.new (pg := 60) (rate := rate) (stack := 2) (by omega) hr.2
 have w0 : ∀ k : Nat, k ≤ 8 → Wl (Sp.newSpc 60) [] (List.replicate k []) 0 [] [] := fun k => by
  induction k with
  | zero => exact fun _ => H.w
  | succ k ih =>
   intro hk
   rw [List.replicate_succ']
   exact (ih (by omega)).open_ (by rw [List.length_replicate]; omega)
 refine Spec.post (law_made20 rate n hr.1 hn) fun r M h => ?_
 obtain ⟨i, rfl, rfl⟩ := h
 exact ⟨i, Sp.newSpc 60, List.replicate 512 (0, 0), List.replicate 16 0, rfl, rfl, new_bx, w0 n.toNat (by omega), H.h, fun t => by
  unfold Hn.at'
  rw [List.getD_eq_getElem?_getD, List.getElem?_replicate]
  split <;> rfl, rfl⟩
theorem may_box0 {n : Int} (h1 : 1 ≤ n) (h2 : n ≤ 63) : Ob.may [] ⟨2, 0, n, false⟩ = 0 := may_box [] (by omega) (by omega)
theorem box60 (i : Pl) {rate ser ck rn N : Int} {rows : List (List Int)} {S : Spc} {hs : List Hn.Slot} {ro wa pe : List Int} {os : List Ob1} (bx : Bx S [] 60 os) (w : Wl S [] rows ser wa pe) (h : HI N hs) (hN : N < 2 ^ 50) (hn : os.length + 1 < 60) {j : Nat} (hf : Hn.free hs = some j) (n : Int) (n1 : 1 ≤ n) (n2 : n ≤ 63) :
  Gl.Spec ρ Tryz.prog 24 [.pointer (some ⟨i.p, 0, none⟩), i64 n] (i.A (RX rate rows ser S hs ro wa pe ck rn)) P2
  fun r M => ∃ (a : Int) (S' : Spc) (hs' : List Hn.Slot), r = (a, Hn.told hs j, ()) ∧ M = i.A (RX rate rows ser S' hs' ro wa pe ck rn) ∧ 0 < a ∧ Bx S' [] 60 (os ++ [⟨a, ⟨2, 0, n, false⟩, List.replicate n.toNat 0⟩]) ∧ Wl S' [] rows ser wa pe ∧ HI N hs' ∧ ∀ t, Hn.at' hs' t = if t = j then ((Hn.at' hs j).1, a) else Hn.at' hs t := by
 obtain ⟨e0, bx1⟩ := bx.make hn (may_box0 n1 n2) (need1 (by dsimp only; omega) (by dsimp only; omega))
 have hpos : 0 < (Ob.make S [] ⟨2, 0, n, false⟩).1 := bx1.bo.pos (List.mem_append_right _ (List.mem_singleton.mpr rfl))
 obtain ⟨g1, g2⟩ := Hn.hold_is hf hpos
 refine Spec.post (law_box20 i (RX rate rows ser S hs ro wa pe ck rn) bx.hw (h.ok hN) n e0 (congrArg Prod.snd g1)) fun r M hrm => ?_
 obtain ⟨rfl, rfl⟩ := hrm
 exact ⟨_, _, _, congrArg (fun y : Int => ((Ob.make S [] ⟨2, 0, n, false⟩).1, y, ())) (congrArg Prod.fst g1), rfl, hpos, bx1, w.make (by show (2 : Int) ≠ 4; decide), h.hold _, g2⟩
theorem mem_roots {x : Rt} (hl : x.hs.length = 512) {a : Int} (ha : 0 < a) : a ∈ x.roots ↔ ((∃ t, t < 512 ∧ (Hn.at' x.hs t).2 = a) ∨ a ∈ x.ro ∨ (∃ r ∈ x.rows, a ∈ r.take 1) ∨ a ∈ x.pe) := by
 unfold Rt.roots
 rw [Mg.mem_merge]
 constructor
 ·rintro ⟨_, r, hr, h⟩
  simp only [List.mem_cons, List.not_mem_nil, or_false] at hr
  rcases hr with rfl | rfl | rfl | rfl
  ·exact .inl ((Hn.mem_all hl).mp h).2
  ·exact .inr (.inl h)
  ·exact .inr (.inr (.inl (List.mem_flatMap.mp h)))
  ·exact .inr (.inr (.inr h))
 ·rintro (h | h | h | h)
  ·exact ⟨ha, _, by simp, (Hn.mem_all hl).mpr ⟨by omega, h⟩⟩
  ·exact ⟨ha, x.ro, by simp, h⟩
  ·exact ⟨ha, x.rows.flatMap (·.take 1), by simp, List.mem_flatMap.mpr h⟩
  ·exact ⟨ha, x.pe, by simp, h⟩
end Go.Proofs.YtdplphebjhfliaaGreat
