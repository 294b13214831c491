/- Laws of a runtime's parts: what they share. -/
import Derived.Test.YtdplphebjhfliaaGreatGsGc4
import Derived.Test.YtdplphebjhfliaaGreatGsTl20
import Derived.Test.YtdplphebjhfliaaGreatGsLaw5
set_option linter.unusedSimpArgs false
set_option linter.unusedVariables false
namespace Go.Proofs.YtdplphebjhfliaaGreat
open Go Go.Gl
variable {ρ0 ρ : FR} {L L' : List Asn} {Post : Value → List Asn → Prop} {T : Tree}
theorem law_whole20 (i : Pl) (x : Rt) : Gl.Spec ρ Tryz.prog 16 [.pointer (some ⟨i.p, 0, none⟩)] (i.A x) RB fun r M => r = true ∧ M = i.A x := by
 refine Gl.Spec.of (fun Q w h => F.gloaminglaw20.Whole.calls (some ⟨i.p, 0, none⟩) h) fun R => ?_
 unfold F.gloaminglaw20.Whole
 try simp only [lca, lna]
 refine RfA.op (p := i.r) (hp := i.b) (rows := x.rows) (n := x.ser) tk fun q => ?_
 refine FinA.op (p := i.f) (hp := i.b) (wa := x.wa) (pe := x.pe) tk fun s z hs hz => ?_
 refine HeapA.op (p := i.b) (S := x.S) (cs := x.cs) tk fun ps pt => ?_
 refine en_brt rfl (en_nn ?_)
 refine en_ld (k := .ptr) (b := i.p) (off := 0) (x := some ⟨i.r, 0, none⟩) (by rw [fa_mk]) tk rfl ?_
 refine en_brt rfl (en_nn ?_)
 refine en_ld (k := .ptr) (b := i.p) (off := 0) (x := some ⟨i.r, 0, none⟩) (by rw [fa_mk]) tk rfl ?_
 refine en_nn ?_
 refine en_ld (k := .ptr) (b := i.r) (off := 0) (x := some ⟨q, 0, none⟩) (by rw [fa_mk]) tk rfl ?_
 refine en_brt rfl (en_nn ?_)
 refine en_ld (k := .ptr) (b := i.p) (off := 0) (x := some ⟨i.r, 0, none⟩) (by rw [fa_mk]) tk rfl ?_
 refine en_nn ?_
 refine en_ld (k := .ptr) (b := i.r) (off := 0) (x := some ⟨q, 0, none⟩) (by rw [fa_mk]) tk rfl ?_
 refine en_nn ?_
 refine que_heap (q := q) (hp := i.b) (rows := x.rows) (by rw [fa_mk]) tk ?_
 refine en_brt rfl (en_nn ?_)
 refine en_ld (k := .ptr) (b := i.p) (off := 1) (x := some ⟨i.h, 0, none⟩) (by rw [fa_mk]) tk rfl ?_
 refine en_brt rfl (en_nn ?_)
 refine en_ld (k := .ptr) (b := i.p) (off := 2) (x := some ⟨i.o, 0, none⟩) (by rw [fa_mk]) tk rfl ?_
 refine en_brt rfl (en_nn ?_)
 refine en_ld (k := .ptr) (b := i.p) (off := 3) (x := some ⟨i.f, 0, none⟩) (by rw [fa_mk]) tk rfl ?_
 refine en_brt rfl (en_nn ?_)
 refine en_ld (k := .ptr) (b := i.p) (off := 3) (x := some ⟨i.f, 0, none⟩) (by rw [fa_mk]) tk rfl ?_
 refine en_nn ?_
 refine en_ld (k := .ptr) (b := i.f) (off := 0) (x := some ⟨i.b, 0, none⟩) (by rw [fa_mk]) tk rfl ?_
 refine en_brt rfl (en_nn ?_)
 refine en_ld (k := .ptr) (b := i.p) (off := 3) (x := some ⟨i.f, 0, none⟩) (by rw [fa_mk]) tk rfl ?_
 refine en_nn ?_
 refine en_ld (k := .ptr) (b := i.f) (off := 0) (x := some ⟨i.b, 0, none⟩) (by rw [fa_mk]) tk rfl ?_
 refine en_nn ?_
 refine en_ld (k := .ptr) (b := i.b) (off := 0) (x := some ⟨ps, 0, none⟩) (by rw [fa_mk]) tk rfl ?_
 refine en_brt rfl (en_nn ?_)
 refine en_ld (k := .ptr) (b := i.p) (off := 3) (x := some ⟨i.f, 0, none⟩) (by rw [fa_mk]) tk rfl ?_
 refine en_nn ?_
 refine en_ld (k := .ptr) (b := i.f) (off := 0) (x := some ⟨i.b, 0, none⟩) (by rw [fa_mk]) tk rfl ?_
 refine en_nn ?_
 refine en_ld (k := .ptr) (b := i.b) (off := 1) (x := some ⟨pt, 0, none⟩) (by rw [fa_mk]) tk rfl ?_
 refine Tr.close tks (HeapA.cl (p := i.b) (ps := ps) (pt := pt) (S := x.S) (cs := x.cs)) ?_
 refine Tr.close tks (FinA.cl (p := i.f) (hp := i.b) (wa := x.wa) (pe := x.pe) hs hz) ?_
 refine Tr.close tks (RfA.cl (p := i.r) (q := q) (hp := i.b) (rows := x.rows) (n := x.ser)) ?_
 exact en_rets (x := true) rfl ⟨rfl, rfl⟩ tks ens
theorem law_made20 (rate n : Int) (hr : 0 ≤ rate) (hn : 0 ≤ n ∧ n ≤ 8) : Gl.Spec ρ Tryz.prog 23 [i64 rate, i64 n] [] (.one (.l .ptr))
  fun r M => ∃ i : Pl, r = some ⟨i.p, 0, none⟩ ∧ M = i.A { Rt.new 60 rate 2 with rows := List.replicate n.toNat [] } := by
 refine Gl.Spec.of (fun Q w h => F.gloaminglaw20.made.calls rate n h) fun R => ?_
 unfold F.gloaminglaw20.made
 try simp only [lca, lna]
 refine en_call (gc_new 60 rate 2 ⟨by omega, hr, by omega⟩) tks ?_
 rintro _ _ ⟨i, rfl, rfl⟩
 try simp only [lca, lna]
 refine en_call (law_whole20 i (Rt.new 60 rate 2)) tks ?_
 rintro x' M ⟨rfl, rfl⟩
 try simp only [lca, lna]
 refine en_brf rfl ?_
 iterate 1
  refine en_call (law_err _) .nil ?_
  rintro x' M ⟨rfl, rfl⟩
  try simp only [lca, lna]
 refine en_brf rfl ?_
 refine en_lp (I := fun m u M => ∃ j : Nat, (j : Int) ≤ n ∧ m = n.toNat - j ∧ u = ((j : Int), ()) ∧ M = i.A { Rt.new 60 rate 2 with rows := List.replicate j [] } ++ R) n.toNat ⟨0, by omega, rfl, rfl, rfl⟩ ?_
 rintro m _ _ ⟨j, hj, rfl, rfl, rfl⟩ X hX
 try simp only [lca, lna]
 refine en_br (fun hc => ?_) (fun hc => ?_)
 ·have hj' : (j : Int) < n := of_decide_eq_true hc
  refine en_nn ?_
  refine en_ld (k := .ptr) (b := i.p) (off := 0) (x := some ⟨i.r, 0, none⟩) (by rw [fa_mk]) tk rfl ?_
  refine en_nn (RfA.op (p := i.r) (hp := i.b) (rows := List.replicate j []) (n := 0) tk fun q => ?_)
  refine en_ld (k := .ptr) (b := i.r) (off := 0) (x := some ⟨q, 0, none⟩) (by rw [fa_mk]) tk rfl ?_
  refine en_call (que_open q i.b (List.replicate j []) (by rw [List.length_replicate]; omega)) tks ?_
  rintro _ _ ⟨rfl, rfl⟩
  try simp only [lca, lna]
  have e : (if (List.replicate j ([] : List Int)).length = 8 then List.replicate j [] else List.replicate j [] ++ [[]]) = List.replicate (j + 1) ([] : List Int) := by
   rw [if_neg (by rw [List.length_replicate]; omega), List.replicate_succ']
  rw [e, wrap64 (by omega) (by omega)]
  refine Tr.close tks (RfA.cl (p := i.r) (q := q) (hp := i.b) (rows := List.replicate (j + 1) []) (n := 0)) ?_
  exact Tr.perm (Takes.perm (M := i.A { Rt.new 60 rate 2 with rows := List.replicate (j + 1) [] }) tks) (hX (n.toNat - (j + 1)) _ _ (by omega) ⟨j + 1, by omega, rfl, rfl, rfl⟩)
 ·have hj' : ¬ (j : Int) < n := of_decide_eq_false hc
  have : j = n.toNat := by omega
  subst this
  exact en_rets (x := some ⟨i.p, 0, none⟩) rfl ⟨i, rfl, rfl⟩ tks ens
def Rt.box (x : Rt) (n : Int) : Rt := { x with S := (Ob.make x.S x.cs ⟨2, 0, n, false⟩).2.2, hs := Hn.holdS x.hs (Ob.make x.S x.cs ⟨2, 0, n, false⟩).1 }
theorem law_box20 (i : Pl) (x : Rt) (hw : HWf x.S x.cs) (hh : Hn.Ok x.hs) (n : Int) (h1 : (Ob.make x.S x.cs ⟨2, 0, n, false⟩).2.1 = 0) (h2 : (Hn.holdR x.hs (Ob.make x.S x.cs ⟨2, 0, n, false⟩).1).2 = 0) :
  Gl.Spec ρ Tryz.prog 24 [.pointer (some ⟨i.p, 0, none⟩), i64 n] (i.A x) P2
  fun r M => r = ((Ob.make x.S x.cs ⟨2, 0, n, false⟩).1, (Hn.holdR x.hs (Ob.make x.S x.cs ⟨2, 0, n, false⟩).1).1, ()) ∧ M = i.A (x.box n) := by
 refine Gl.Spec.of (fun Q w h => F.gloaminglaw20.box.calls (some ⟨i.p, 0, none⟩) n h) fun R => ?_
 unfold F.gloaminglaw20.box
 try simp only [lca, lna]
 refine en_nn ?_
 refine en_ld (k := .ptr) (b := i.p) (off := 3) (x := some ⟨i.f, 0, none⟩) (by rw [fa_mk]) tk rfl ?_
 refine en_nn (FinA.op (p := i.f) (hp := i.b) (wa := x.wa) (pe := x.pe) tk fun s z hs hz => ?_)
 refine en_ld (k := .ptr) (b := i.f) (off := 0) (x := some ⟨i.b, 0, none⟩) (by rw [fa_mk]) tk rfl ?_
 refine Tr.close tks (FinA.cl (p := i.f) (hp := i.b) (wa := x.wa) (pe := x.pe) hs hz) ?_
 refine en_call (object_make i.b x.S x.cs hw ⟨2, 0, n, false⟩) tks ?_
 rintro x' M ⟨rfl, rfl⟩
 try simp only [lca, lna]
 refine en_nn ?_
 refine en_ld (k := .ptr) (b := i.p) (off := 1) (x := some ⟨i.h, 0, none⟩) (by rw [fa_mk]) tk rfl ?_
 refine en_call (han_hold i.h hh (Ob.make x.S x.cs ⟨2, 0, n, false⟩).1) tks ?_
 rintro x' M ⟨rfl, rfl⟩
 try simp only [lca, lna]
 iterate 2
  refine en_call (law_err _) .nil ?_
  rintro x' M ⟨rfl, rfl⟩
  try simp only [lca, lna]
 rw [h1, h2]
 refine en_brf rfl ?_
 exact en_rets (x := ((Ob.make x.S x.cs ⟨2, 0, n, false⟩).1, (Hn.holdR x.hs (Ob.make x.S x.cs ⟨2, 0, n, false⟩).1).1, ())) rfl ⟨rfl, rfl⟩ tks ens
end Go.Proofs.YtdplphebjhfliaaGreat
