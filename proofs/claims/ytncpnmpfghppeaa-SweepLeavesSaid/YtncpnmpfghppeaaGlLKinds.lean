/- ObjectKinds. -/
import Derived.Test.YtncpnmpfghppeaaGlLaw4
set_option linter.unusedSimpArgs false
set_option linter.unusedVariables false
namespace Go.Proofs.Ytncpnmpfghppeaa
open Go Go.Gl
variable {ρ0 ρ : FR} {L L' : List Asn} {Post : Value → List Asn → Prop} {T : Tree}

/-- a finalizer is set: what is there stays -/
theorem Ob.final_keep {S : Spc} {cs : List Cls} (hw : HWf S cs) {a : Int} {h : Hd} (hh : Ob.head S a = some h) (hk : h.k ≠ 4) (hf : h.f = false) :
    (Ob.final S a).1 = 0 ∧ Ob.head (Ob.final S a).2 a = some { h with f := true } ∧ (∀ (a' : Int) (h' : Hd), a' ≠ a → Ob.head S a' = some h' → Ob.head (Ob.final S a).2 a' = some h') ∧
    ∀ (a' : Int) (h' : Hd) (j : Int), Ob.head S a' = some h' → 0 ≤ j → j < h'.n → Ob.get (Ob.final S a).2 a' j = Ob.get S a' j := by
  obtain ⟨m, w, rfl, g1, g2, g3, g4, g5⟩ := Ob.head_is hw hh
  have hb := Sp.mayH_is g3
  have e : Ob.final S m = (0, ⟨S.ws.set m (Sp.putH { h with f := true }), S.pg⟩) := by
    unfold Ob.final; rw [hh]; dsimp only; rw [if_neg hk, if_neg (by simp [hf]), Int.toNat_natCast]
  rw [e]
  have h1 : Ob.head ⟨S.ws.set m (Sp.putH { h with f := true }), S.pg⟩ m = some { h with f := true } := by
    unfold Ob.head
    rw [find_ws (by simp), g1]
    dsimp only
    rw [if_pos rfl, getD_set_eq' (by omega), Sp.getH_put (Sp.mayH_f g3 hk)]
  have h2 : ∀ (a' : Int) (h' : Hd), a' ≠ m → Ob.head S a' = some h' → Ob.head ⟨S.ws.set m (Sp.putH { h with f := true }), S.pg⟩ a' = some h' := fun a' h' hne hh' => by
    obtain ⟨m', w', rfl, g1', g2', g3', g4', g5'⟩ := Ob.head_is hw hh'
    unfold Ob.head
    rw [find_ws (by simp), g1']
    dsimp only
    rw [if_pos rfl, getD_set_ne' (by omega), g2', Sp.getH_put g3']
  refine ⟨rfl, h1, h2, fun a' h' j hh' j0 j1 => ?_⟩
  obtain ⟨m', w', rfl, g1', g2', g3', g4', g5'⟩ := Ob.head_is hw hh'
  have key : ∃ h2 : Hd, Ob.head ⟨S.ws.set m (Sp.putH { h with f := true }), S.pg⟩ m' = some h2 ∧ h2.n = h'.n := by
    by_cases hc : (m' : Int) = m
    · rw [hc] at hh' ⊢
      rw [hh] at hh'; injection hh' with hh'
      exact ⟨_, h1, by rw [← hh']⟩
    · exact ⟨_, h2 _ _ hc hh', rfl⟩
  obtain ⟨hd, k1, k2⟩ := key
  rw [Ob.get_ok k1 j0 (by omega), Ob.get_ok hh' j0 j1]
  dsimp only
  rw [getD_set_ne' ?_]
  intro e2
  have hin := find_in hw.wf g1' (m := ((m' : Int) + 1 + j).toNat) (by omega) (by omega)
  rw [← e2, g1] at hin
  injection hin with hin; injection hin with hin _
  omega

theorem mayR_app {n : Int} : ∀ {xs : List Int} {last y : Int}, Sp.mayR n last xs = true → xs.getLastD last < y → y < n → Sp.mayR n last (xs ++ [y]) = true
  | [], last, y, _, h1, h2 => by
    simp only [List.getLastD_nil] at h1
    rw [List.nil_append]; unfold Sp.mayR; rw [if_neg (by omega), if_neg (by omega)]; rfl
  | x :: l, last, y, h, h1, h2 => by
    unfold Sp.mayR at h
    rw [List.cons_append]; unfold Sp.mayR
    split at h
    · cases h
    · rename_i c1
      split at h
      · cases h
      · rename_i c2
        rw [if_neg c1, if_neg c2]
        refine mayR_app h ?_ h2
        rwa [List.getLastD_cons] at h1
theorem getLastD_getD {xs : List Int} {d : Int} (h : 0 < xs.length) : xs.getLastD d = xs.getD (xs.length - 1) 0 := by
  rw [List.getLastD_eq_getLast?, List.getLast?_eq_getElem?, List.getD_eq_getElem?_getD, List.getElem?_eq_getElem (by omega)]; rfl
theorem need1 {w : Int} (h0 : 1 ≤ w) (h1 : w ≤ 64) : Sp.need w ≤ 1 := by
  unfold Sp.need
  split
  · unfold Sp.pgs
    split <;> omega
  · omega
theorem need2 {w : Int} (h0 : 1 ≤ w) (h1 : w ≤ 128) : Sp.need w ≤ 2 := by
  unfold Sp.need
  split
  · unfold Sp.pgs
    split <;> omega
  · omega
theorem hwf_add {S : Spc} {cs : List Cls} (hw : HWf S cs) {c : Cls} (h1 : cs.length < 256) (h2 : c.2.length ≤ 2 ^ 20) : HWf S (cs ++ [c]) :=
  ⟨hw.wf, hw.obj, by simp; omega, fun x hx => by
    rcases List.mem_append.mp hx with hx | hx
    · exact hw.refs x hx
    · simp at hx; subst hx; exact h2⟩

namespace Kinds
/-- what four makings, and a finalizer, come to -/
theorem all_made {f k : Int} {xs : List Int} (f0 : 1 ≤ f) (f1 : f ≤ 100) (k0 : 0 ≤ k) (k1 : k < 50) (hx : xs.length ≤ 100) :
    ∃ (a b c d : Int) (S1 S2 S3 S4 : Spc), Ob.make (Sp.newSpc 30) [(f, xs)] ⟨1, 1, f, false⟩ = (a, 0, S1) ∧ Ob.make S1 [(f, xs)] ⟨2, 0, k, false⟩ = (b, 0, S2) ∧ Ob.make S2 [(f, xs)] ⟨3, 0, k, false⟩ = (c, 0, S3) ∧
      Ob.make S3 [(f, xs)] ⟨4, 2, 5, false⟩ = (d, 0, S4) ∧ HWf (Sp.newSpc 30) [(f, xs)] ∧ HWf S1 [(f, xs)] ∧ HWf S2 [(f, xs)] ∧ HWf S3 [(f, xs)] ∧ HWf S4 [(f, xs)] ∧
      Ob.head S4 a = some ⟨1, 1, f, false⟩ ∧ Ob.head S4 b = some ⟨2, 0, k, false⟩ ∧ Ob.head S4 c = some ⟨3, 0, k, false⟩ ∧ Ob.head S4 d = some ⟨4, 2, 5, false⟩ ∧ b ≠ a ∧ c ≠ a ∧ d ≠ a := by
  have hw0 : HWf (Sp.newSpc 30) [(f, xs)] := hwf_add (cs := []) (newSpc_hwf (by omega) (by omega)) (by simp) (by show xs.length ≤ _; omega)
  have m1 : Ob.may [(f, xs)] ⟨1, 1, f, false⟩ = 0 := by
    have hm : Sp.mayH ⟨1, 1, f, false⟩ = true := by
      unfold Sp.mayH; dsimp only; rw [if_pos rfl, Bool.and_eq_true]; exact ⟨decide_eq_true (by omega), rfl⟩
    unfold Ob.may; rw [hm]; simp [Sp.clsAt]
  have m2 : ∀ q : Int, q = 2 ∨ q = 3 → Ob.may [(f, xs)] ⟨q, 0, k, false⟩ = 0 := fun q hq => by
    have hm : Sp.mayH ⟨q, 0, k, false⟩ = true := by
      unfold Sp.mayH; dsimp only; rw [if_neg (by omega), if_pos (by omega), Bool.and_eq_true]; exact ⟨decide_eq_true (by omega), rfl⟩
    unfold Ob.may; rw [hm]; dsimp only; rw [if_neg (by simp), if_pos (by omega)]
  have m4 : Ob.may [(f, xs)] ⟨4, 2, 5, false⟩ = 0 := by
    have hm : Sp.mayH ⟨4, 2, 5, false⟩ = true := by decide
    unfold Ob.may; rw [hm]; simp
  have l0 : (Sp.newSpc 30).pg.length = 30 := by kernel_rfl
  have n1 := need2 (w := f + 1) (by omega) (by omega)
  have n2 := need1 (w := k + 1) (by omega) (by omega)
  have n4 := need1 (w := (5 : Int) + 1) (by omega) (by omega)
  obtain ⟨e1, ⟨p1, q1, r1⟩, s1⟩ := make_pfx hw0 (Pfx.new (by omega)) m1 (by dsimp only; omega)
  dsimp only at r1
  have d1 := Ob.make_head hw0 e1
  have w1 := hw0.make ⟨1, 1, f, false⟩
  obtain ⟨e2, ⟨p2, q2, r2⟩, s2⟩ := make_pfx w1 q1 (m2 2 (.inl rfl)) (by dsimp only; omega)
  dsimp only at r2
  have d2 := Ob.make_head w1 e2
  obtain ⟨d21, d22, _⟩ := Ob.make_keep w1 e2 d1
  have w2 := w1.make ⟨2, 0, k, false⟩
  obtain ⟨e3, ⟨p3, q3, r3⟩, s3⟩ := make_pfx w2 q2 (m2 3 (.inr rfl)) (by dsimp only; omega)
  dsimp only at r3
  have d3 := Ob.make_head w2 e3
  obtain ⟨d31, d32, _⟩ := Ob.make_keep w2 e3 d21
  obtain ⟨d33, _, _⟩ := Ob.make_keep w2 e3 d2
  have w3 := w2.make ⟨3, 0, k, false⟩
  obtain ⟨e4, ⟨p4, q4, r4⟩, s4⟩ := make_pfx w3 q3 m4 (by dsimp only; omega)
  have d4 := Ob.make_head w3 e4
  obtain ⟨d41, d42, _⟩ := Ob.make_keep w3 e4 d31
  obtain ⟨d43, _, _⟩ := Ob.make_keep w3 e4 d33
  obtain ⟨d44, _, _⟩ := Ob.make_keep w3 e4 d3
  have w4 := w3.make ⟨4, 2, 5, false⟩
  have tri : ∀ {x : Int × Int × Spc}, x.2.1 = 0 → x = (x.1, 0, x.2.2) := fun {x} h => by rw [← h]
  exact ⟨_, _, _, _, _, _, _, _, tri e1, tri e2, tri e3, tri e4, hw0, w1, w2, w3, w4, d41, d43, d44, d4, fun h => d22 h.symm, fun h => d32 h.symm, fun h => d42 h.symm⟩
end Kinds
open Kinds in
theorem law_kinds (x : Int) (s : Slc) (l : List Int) (n : Int) (hx : 0 ≤ x ∧ x < 256) (hn : 0 ≤ n ∧ n < 256) (ro : RoS ρ s 1 (l.map fun x => .int .u8 x)) (hb : ∀ x ∈ l, (Lit.int .u8 x).wf = true) (hl : l.length < 2 ^ 63) : Gl.Spec ρ Try.prog 8 [.int .u8 x, .slice s.a s.n s.c, .int .u8 n] [] RB fun r M => r = true ∧ M = [] := by
  refine Spec.of (fun Q w h => F.gloaminglaw9.ObjectKinds.calls x s n h) fun R => ?_
  unfold F.gloaminglaw9.ObjectKinds
  try simp only [List.cons_append, List.nil_append]
  have hsn : s.n = l.length := by have := ro.1; simpa using this.symm
  have hbd : ∀ i, i < l.length → 0 ≤ l.getD i 0 ∧ l.getD i 0 < 256 := fun i hi => by
    have := hb (l.getD i 0) (by rw [List.getD_eq_getElem?_getD, List.getElem?_eq_getElem hi]; exact List.getElem_mem hi)
    generalize l.getD i 0 = y at this ⊢
    simp [Lit.wf, IntKind.min, IntKind.max, IntKind.signed, IntKind.bits] at this
    omega
  refine en_call (object_new 30 (by omega) (by omega)) tks ?_
  rintro x' M ⟨p, rfl, rfl⟩
  try simp only [List.cons_append, List.nil_append]
  refine en_call (law_whole p (Sp.newSpc 30) []) tks ?_
  rintro x' M ⟨rfl, rfl⟩
  try simp only [List.cons_append, List.nil_append]
  refine en_brf rfl ?_
  iterate 1
    refine en_call (law_err _) .nil ?_
    rintro x' M ⟨rfl, rfl⟩
    try simp only [List.cons_append, List.nil_append]
  refine en_brf rfl (en_need (by decide) ?_)
  obtain ⟨f, hf, f0, f1⟩ : ∃ f : Int, IntKind.wrap .i64 (1 + Int.tmod (IntKind.wrap .i64 x) 100) = f ∧ 1 ≤ f ∧ f ≤ 100 := by
    refine ⟨1 + x % 100, ?_, by omega, by omega⟩
    rw [wrap64 (n := x) (by omega) (by omega), Int.tmod_eq_emod_of_nonneg hx.1, wrap64 (by omega) (by omega)]
  obtain ⟨k, hk, k0, k1⟩ : ∃ k : Int, Int.tmod (IntKind.wrap .i64 n) 50 = k ∧ 0 ≤ k ∧ k < 50 := by
    refine ⟨n % 50, ?_, by omega, by omega⟩
    rw [wrap64 (n := n) (by omega) (by omega), Int.tmod_eq_emod_of_nonneg hn.1]
  rw [hf, hk]
  refine en_jn (fun (u : LTs [.slice]) M => ∃ xs : List Int, M = SLc u.1 1 (xs.map i64) :: HeapA p (Sp.newSpc 30) [] :: R ∧ Sp.mayR f (-1) xs = true ∧ xs.length ≤ 100 ∧ u.1.n = xs.length) ?_ ?_
  · rintro ⟨(t : Slc), ⟨⟩⟩ M ⟨xs, rfl, hmay, hlen, htn⟩
    dsimp only at *
    refine Tr.keepSL (s := t) tk fun ρ' hle hro => ?_
    refine en_nn (HeapA.op tk fun ps pt => ?_)
    refine en_ld (k := .ptr) (b := p) (off := 1) (x := some ⟨pt, 0, none⟩) (by rw [fa_mk]) tk rfl ?_
    refine en_call (class_of pt [] f t xs hro (by omega)) tks ?_
    rintro x' M ⟨rfl, rfl⟩
    try simp only [List.cons_append, List.nil_append]
    have hadd : Sp.addC [] (f, xs) = (1, 0, [(f, xs)]) := by
      have : Sp.mayC f xs = true := by unfold Sp.mayC; rw [if_neg (by omega), if_neg (by omega)]; exact hmay
      unfold Sp.addC; rw [if_neg (fun h => h this), if_neg (by simp)]; rfl
    rw [hadd]
    refine Tr.close tks (HeapA.cl (p := p) (ps := ps) (pt := pt) (S := Sp.newSpc 30) (cs := [(f, xs)])) ?_
    obtain ⟨a, b, c, d, S1, S2, S3, S4, e1, e2, e3, e4, w0, w1, w2, w3, w4, ha, hb', hc, hd, ba, ca, da⟩ := all_made (xs := xs) f0 f1 k0 k1 hlen
    dsimp only
    refine en_call (object_make p (Sp.newSpc 30) [(f, xs)] w0 ⟨1, 1, f, false⟩) tks ?_
    rintro x' M ⟨rfl, rfl⟩
    try simp only [List.cons_append, List.nil_append]
    rw [e1]
    refine en_need (by decide) ?_
    refine en_call (object_make p S1 [(f, xs)] w1 ⟨2, 0, k, false⟩) tks ?_
    rintro x' M ⟨rfl, rfl⟩
    try simp only [List.cons_append, List.nil_append]
    rw [e2]
    refine en_need (by decide) ?_
    refine en_call (object_make p S2 [(f, xs)] w2 ⟨3, 0, k, false⟩) tks ?_
    rintro x' M ⟨rfl, rfl⟩
    try simp only [List.cons_append, List.nil_append]
    rw [e3]
    refine en_call (object_make p S3 [(f, xs)] w3 ⟨4, 2, 5, false⟩) tks ?_
    rintro x' M ⟨rfl, rfl⟩
    try simp only [List.cons_append, List.nil_append]
    rw [e4]
    dsimp only
    obtain ⟨z1, z2, z3, _⟩ := Ob.final_keep w4 ha (by simp) rfl
    have w5 := w4.final a
    have zb := z3 _ _ ba hb'
    have zc := z3 _ _ ca hc
    have zd := z3 _ _ da hd
    have y2 : Ob.final (Ob.final S4 a).2 a = (4, (Ob.final S4 a).2) := by rw [Ob.final, z2]; rfl
    have y3 : Ob.final (Ob.final S4 a).2 d = (5, (Ob.final S4 a).2) := by rw [Ob.final, zd]; rfl
    have ra : Ob.refs (Ob.final S4 a).2 [(f, xs)] a = xs := by rw [Ob.refs, z2]; simp [Sp.clsAt]
    have rb : Ob.refs (Ob.final S4 a).2 [(f, xs)] b = Sp.upto k.toNat := by rw [Ob.refs, zb]; rfl
    have rc : Ob.refs (Ob.final S4 a).2 [(f, xs)] c = [] := by rw [Ob.refs, zc]; rfl
    have rd : Ob.refs (Ob.final S4 a).2 [(f, xs)] d = [2] := by rw [Ob.refs, zd]; rfl
    refine Tr.nilSL 1 ?_
    refine en_lp (fun m u M => (fun (q : Slc) (j : Int) => M = SLc q 1 ((Sp.upto j.toNat).map i64) :: HeapA p S4 [(f, xs)] :: R ∧ 0 ≤ j ∧ j ≤ k ∧ q.n = j.toNat ∧ m = k.toNat - j.toNat) u.1 u.2.1) k.toNat ?_ ?_
    · exact ⟨rfl, by simp, by dsimp only; omega, rfl, by simp⟩
    · rintro m ⟨(q : Slc), (j : Int), ⟨⟩⟩ M ⟨rfl, j0, j1, hq, rfl⟩ X hX
      dsimp only at *
      refine en_need (by decide) ?_
      refine en_br (fun h => ?_) (fun h => ?_)
      · replace h : j < k := of_decide_eq_true h
        refine en_nw fun b => ?_
        rw [wrap64 (by omega) (by omega)]
        refine en_app (x := ⟨some ⟨b, 0, none⟩, 1, 1⟩) (ys := [i64 j]) appInt tk (Rd.cl tk rfl rfl) rfl (by rw [hq]; dsimp only; omega) (by rw [hq]; dsimp only; omega) fun r hr => ?_
        have e : (Sp.upto j.toNat).map i64 ++ [i64 j] = (Sp.upto (j + 1).toNat).map i64 := by
          rw [show (j + 1).toNat = j.toNat + 1 by omega, Sp.upto, Sp.upto, List.range_succ]
          simp; omega
        rw [e]
        refine Tr.drop (A := blk b [i64 j]) tk ?_
        exact hX (k.toNat - (j + 1).toNat) _ _ (by omega) ⟨rfl, by dsimp only; omega, by dsimp only; omega, by dsimp only; rw [hr, hq]; show _ + 1 = _; omega, rfl⟩
      · replace h : ¬ j < k := of_decide_eq_false h
        have : j = k := by omega
        subst this
        clear hX
        refine en_call (object_final p S4 [(f, xs)] w4 a) tks ?_
        rintro x' M ⟨rfl, rfl⟩
        try simp only [List.cons_append, List.nil_append]
        refine en_call (object_final p (Ob.final S4 a).2 [(f, xs)] w5 a) tks ?_
        rintro x' M ⟨rfl, rfl⟩
        try simp only [List.cons_append, List.nil_append]
        rw [y2]
        refine en_call (object_final p (Ob.final S4 a).2 [(f, xs)] w5 d) tks ?_
        rintro x' M ⟨rfl, rfl⟩
        try simp only [List.cons_append, List.nil_append]
        rw [y3, z1]
        refine en_call (object_head p (Ob.final S4 a).2 [(f, xs)] w5 a) tks ?_
        rintro x' M ⟨rfl, rfl⟩
        try simp only [List.cons_append, List.nil_append]
        rw [z2]
        refine en_nw fun b19 => ?_
        rw [zcH]
        refine en_st (b := b19) (off := 0) rfl tk (by simp) rfl ?_
        iterate 1
          refine en_call (law_err _) .nil ?_
          rintro x' M ⟨rfl, rfl⟩
          try simp only [List.cons_append, List.nil_append]
        refine en_brt rfl ?_
        refine Tr.keepSL (s := q) tk fun ρ2 hle2 hro2 => ?_
        refine en_call (object_refs p (Ob.final S4 a).2 [(f, xs)] w5 a) tks ?_
        rintro r M ⟨hrn, rfl⟩
        try simp only [List.cons_append, List.nil_append]
        rw [ra]
        refine Tr.keepSL (s := r) tk fun ρ3 hle3 hro3 => ?_
        refine en_call (same_ints r t xs xs hro3 ((hro.le hle2).le hle3) (by omega)) .nil ?_
        rintro x' M ⟨rfl, rfl⟩
        try simp only [List.cons_append, List.nil_append]
        refine en_brt (by simp) ?_
        clear hrn
        refine en_call (object_refs p (Ob.final S4 a).2 [(f, xs)] w5 b) tks ?_
        rintro r M ⟨hrn, rfl⟩
        try simp only [List.cons_append, List.nil_append]
        rw [rb]
        refine Tr.keepSL (s := r) tk fun ρ4 hle4 hro4 => ?_
        refine en_call (same_ints r q _ _ hro4 ((hro2.le hle3).le hle4) (by simp [Sp.upto]; omega)) .nil ?_
        rintro x' M ⟨rfl, rfl⟩
        try simp only [List.cons_append, List.nil_append]
        refine en_brt (by simp) ?_
        clear hrn
        refine en_call (object_refs p (Ob.final S4 a).2 [(f, xs)] w5 c) tks ?_
        rintro r M ⟨hrn, rfl⟩
        try simp only [List.cons_append, List.nil_append]
        rw [rc] at hrn ⊢
        refine en_brt (by simp [hrn]) ?_
        clear hrn
        refine en_call (object_refs p (Ob.final S4 a).2 [(f, xs)] w5 d) tks ?_
        rintro r' M ⟨hrn, rfl⟩
        try simp only [List.cons_append, List.nil_append]
        rw [rd]
        refine en_nw fun b27 => ?_
        refine Tr.keepSL (s := r') tk fun ρ5 hle5 hro5 => ?_
        refine Rd.bk (b := b27) (n := 1) (m := 1) (vs := [i64 2]) rfl tk fun ρ6 hle6 hro6 => ?_
        refine en_call (same_ints r' ⟨some ⟨b27, 0, none⟩, 1, 1⟩ [2] [2] (hro5.le hle6) hro6 (by decide)) .nil ?_
        rintro x' M ⟨rfl, rfl⟩
        try simp only [List.cons_append, List.nil_append]
        refine en_brt (by simp) ?_
        iterate 1
          refine en_call (law_err _) .nil ?_
          rintro x' M ⟨rfl, rfl⟩
          try simp only [List.cons_append, List.nil_append]
        refine en_brt rfl ?_
        iterate 1
          refine en_call (law_err _) .nil ?_
          rintro x' M ⟨rfl, rfl⟩
          try simp only [List.cons_append, List.nil_append]
        refine en_brt rfl ?_
        iterate 1
          refine en_call (law_err _) .nil ?_
          rintro x' M ⟨rfl, rfl⟩
          try simp only [List.cons_append, List.nil_append]
        refine en_brt rfl ?_
        refine en_ld (k := .bool) (b := b19) (off := 3) (x := true) (by rw [fa_mk]) tk rfl ?_
        refine en_brt rfl ?_
        refine en_ld (k := .int .i64) (b := b19) (off := 1) (x := (1 : Int)) (by rw [fa_mk]) tk rfl ?_
        refine en_brt rfl ?_
        refine en_call (law_awake) tks ?_
        rintro x' M ⟨rfl, rfl⟩
        try simp only [List.cons_append, List.nil_append]
        exact en_rets (x := true) rfl ⟨rfl, rfl⟩ tks ens
  · intro J hJ
    refine Tr.nilSL 1 ?_
    refine en_lp (fun m u M => (fun (t : Slc) (i : Int) => ∃ xs : List Int, M = SLc t 1 (xs.map i64) :: HeapA p (Sp.newSpc 30) [] :: R ∧ Sp.mayR f (-1) xs = true ∧ t.n = xs.length ∧ xs.length ≤ i ∧ 0 ≤ i ∧ i ≤ f ∧ m = f.toNat - i.toNat) u.1 u.2.1) f.toNat ?_ ?_
    · exact ⟨[], rfl, rfl, rfl, by simp, by simp, by dsimp only; omega, by simp⟩
    · rintro m ⟨(t : Slc), (i : Int), ⟨⟩⟩ M ⟨xs, rfl, hmay, htn, hxi, i0, i1, rfl⟩ X hX
      dsimp only at *
      have hJ' : Tr ρ ρ (SLc t 1 (xs.map i64) :: HeapA p (Sp.newSpc 30) [] :: R) (J (⟨t.a, t.n, t.c⟩, ())) (SP RB (fun r M => r = true ∧ M = []) R) :=
        hJ _ _ ⟨xs, rfl, hmay, by omega, htn⟩
      refine en_br (fun h => ?_) (fun h => hJ')
      · replace h : i < (s.n : Int) := of_decide_eq_true h
        refine en_br (fun h2 => ?_) (fun h => hJ')
        · replace h2 : i < f := of_decide_eq_true h2
          have hi : i.toNat < l.length := by omega
          have hv := hbd i.toNat hi
          have hget : (l.map fun x => Value.int .u8 x)[i.toNat]? = some ((LK.int .u8).val (l.getD i.toNat 0)) := by
            rw [List.getElem?_map, List.getElem?_eq_getElem hi, List.getD_eq_getElem?_getD, List.getElem?_eq_getElem hi]; rfl
          generalize l.getD i.toNat 0 = v at hv hget
          refine en_ixRo ro i0 (by omega) fun a0 ha => ?_
          refine en_ldRo (k := .int .u8) (j := i.toNat) (x := v) ha ro (by rintro b o rfl; simp [fa_mk]) hget ?_
          refine en_need (by omega) ?_
          have hM : Int.tmod (IntKind.wrap .i64 v) f = v % f := by rw [wrap64 (by omega) (by omega), Int.tmod_eq_emod_of_nonneg hv.1]
          have m0 : 0 ≤ v % f := Int.emod_nonneg _ (by omega)
          have m1 : v % f < f := Int.emod_lt_of_pos _ (by omega)
          rw [hM]
          have w2 : IntKind.wrap .i64 (i + 1) = i + 1 := wrap64 (by omega) (by omega)
          rw [w2]
          have happ : xs.getLastD (-1) < v % f → Tr ρ ρ (SLc t 1 (xs.map i64) :: HeapA p (Sp.newSpc 30) [] :: R) (nw 3 [.int .i64 (v % f)] fun b25 => opr Try.prog (Builtin.append_ #[44, 44] 44 #[.slice t.a t.n t.c, .slice (some ⟨b25, 0, none⟩) 1 1]) (.one (.l .slice)) fun (r26 : Slc) =>
              X (⟨r26.a, r26.n, r26.c⟩, i + 1, ())) (SP RB (fun r M => r = true ∧ M = []) R) := fun hlt => by
            refine en_nw fun b => ?_
            refine en_app (x := ⟨some ⟨b, 0, none⟩, 1, 1⟩) (ys := [i64 (v % f)]) appInt tk (Rd.cl tk rfl rfl) rfl (by rw [htn]; dsimp only; omega) (by rw [htn]; dsimp only; omega) fun r hr => ?_
            rw [show xs.map i64 ++ [i64 (v % f)] = (xs ++ [v % f]).map i64 by simp]
            refine Tr.drop (A := blk b [i64 (v % f)]) tk ?_
            exact hX (f.toNat - (i + 1).toNat) _ _ (by omega) ⟨_, rfl, mayR_app hmay hlt m1, by dsimp only; rw [hr, htn]; simp, by dsimp only; simp; omega, by dsimp only; omega, by dsimp only; omega, rfl⟩
          refine en_br (fun h3 => ?_) (fun h3 => ?_)
          · have h3 : xs.length = 0 := by rw [htn] at h3; simp at h3; simp [h3]
            have : xs = [] := List.eq_nil_of_length_eq_zero h3
            exact happ (by rw [this]; simp; omega)
          · have h3 : 0 < xs.length := by rw [htn] at h3; simp at h3; exact List.length_pos_iff.mpr h3
            rw [wrap64 (n := ((t.n : Nat) : Int) - 1) (by omega) (by omega)]
            refine en_ixSL (s := t) (xs := xs.map i64) tk (by omega) (by omega) fun a1 ha1 => ?_
            refine en_ldSL (s := t) (xs := xs.map i64) (j := xs.length - 1) (x := xs.getD (xs.length - 1) 0) ha1 tk (by rintro b o rfl; simp [fa_mk]; omega) (getD_map (by omega)) ?_
            refine en_br (fun h4 => ?_) (fun h4 => ?_)
            · exact happ (by rw [getLastD_getD h3]; simpa using h4)
            · exact hX (f.toNat - (i + 1).toNat) _ _ (by omega) ⟨xs, rfl, hmay, htn, by dsimp only; omega, by dsimp only; omega, by dsimp only; omega, rfl⟩

end Go.Proofs.Ytncpnmpfghppeaa
