/- ObjectGone. -/
import Derived.Test.YtncpnmpfghppeaaGlL1
set_option linter.unusedSimpArgs false
set_option linter.unusedVariables false
namespace Go.Proofs.Ytncpnmpfghppeaa
open Go Go.Gl
variable {ρ0 ρ : FR} {L L' : List Asn} {Post : Value → List Asn → Prop} {T : Tree}

namespace Gone
def S0 : Spc := Sp.newSpc 20
theorem hw0 : HWf S0 [] := newSpc_hwf (by omega) (by omega)
def ok (k : Nat) : Bool :=
  (Ob.make S0 [] ⟨3, 0, k, false⟩).1 == 64 && (Ob.make S0 [] ⟨3, 0, k, false⟩).2.1 == 0 && (Ob.make S0 [] ⟨2, 0, k, false⟩).1 == 64 && (Ob.make S0 [] ⟨2, 0, k, false⟩).2.1 == 0 &&
  (Sp.freeS (Ob.make S0 [] ⟨3, 0, k, false⟩).2.2 64).1 == 0 && decide ((Sp.freeS (Ob.make S0 [] ⟨3, 0, k, false⟩).2.2 64).2.pg = S0.pg) && (Ob.objs (Ob.make S0 [] ⟨2, 0, k, false⟩).2.2).length == 1
theorem all_ok : (List.range 101).all (fun k => k == 0 || ok k) = true := by kernel_rfl
theorem ok_k {k : Nat} (h0 : 1 ≤ k) (h1 : k ≤ 100) : (Ob.make S0 [] ⟨3, 0, k, false⟩).1 = 64 ∧ (Ob.make S0 [] ⟨3, 0, k, false⟩).2.1 = 0 ∧ (Ob.make S0 [] ⟨2, 0, k, false⟩).1 = 64 ∧ (Ob.make S0 [] ⟨2, 0, k, false⟩).2.1 = 0 ∧
    (Sp.freeS (Ob.make S0 [] ⟨3, 0, k, false⟩).2.2 64).1 = 0 ∧ (Sp.freeS (Ob.make S0 [] ⟨3, 0, k, false⟩).2.2 64).2.pg = S0.pg ∧ (Ob.objs (Ob.make S0 [] ⟨2, 0, k, false⟩).2.2).length = 1 := by
  have h := (List.all_eq_true.mp all_ok) k (by simp; omega)
  have hk : (k == 0) = false := by simp; omega
  rw [hk, Bool.false_or] at h
  unfold ok at h
  simp only [Bool.and_eq_true, beq_iff_eq, decide_eq_true_eq] at h
  obtain ⟨⟨⟨⟨⟨⟨h1, h2⟩, h3⟩, h4⟩, h5⟩, h6⟩, h7⟩ := h
  exact ⟨h1, h2, h3, h4, h5, h6, h7⟩
theorem hwE {ws : List Int} (hl : ws.length = S0.ws.length) : HWf ⟨ws, S0.pg⟩ [] := by
  have h := hw0
  refine ⟨⟨by rw [hl]; exact h.wf.len, h.wf.most, h.wf.pos, h.wf.res, h.wf.small, h.wf.head, h.wf.tail⟩, fun n w hf => ?_, h.cls, h.refs⟩
  rw [find_ws hl] at hf
  have : Sp.find S0 n = none := newSpc_find (n := 20) (by omega) n
  rw [this] at hf; cases hf
end Gone
open Gone in
theorem law_gone (n x : Int) (hn : 0 ≤ n ∧ n < 256) : Gl.Spec ρ Try.prog 5 [.int .u8 n, i64 x] [] RB fun r M => r = true ∧ M = [] := by
  refine Spec.of (fun Q w h => F.gloaminglaw9.ObjectGone.calls n x h) fun R => ?_
  unfold F.gloaminglaw9.ObjectGone
  try simp only [List.cons_append, List.nil_append]
  refine en_call (object_new 20 (by omega) (by omega)) (by repeat (first | apply Takes.nil | (apply Takes.cons; focus (repeat (first | apply Take.here | apply Take.skip))))) ?_
  rintro x' M ⟨p, rfl, rfl⟩
  try simp only [List.cons_append, List.nil_append]
  refine en_call (object_new 20 (by omega) (by omega)) (by repeat (first | apply Takes.nil | (apply Takes.cons; focus (repeat (first | apply Take.here | apply Take.skip))))) ?_
  rintro x' M ⟨q, rfl, rfl⟩
  try simp only [List.cons_append, List.nil_append]
  refine en_call (law_whole p (Sp.newSpc 20) []) (by repeat (first | apply Takes.nil | (apply Takes.cons; focus (repeat (first | apply Take.here | apply Take.skip))))) ?_
  rintro x' M ⟨rfl, rfl⟩
  try simp only [List.cons_append, List.nil_append]
  refine en_brf rfl ?_
  refine en_call (law_whole q (Sp.newSpc 20) []) (by repeat (first | apply Takes.nil | (apply Takes.cons; focus (repeat (first | apply Take.here | apply Take.skip))))) ?_
  rintro x' M ⟨rfl, rfl⟩
  try simp only [List.cons_append, List.nil_append]
  refine en_brf rfl ?_
  iterate 2
    refine en_call (law_err _) .nil ?_
    rintro x' M ⟨rfl, rfl⟩
    try simp only [List.cons_append, List.nil_append]
  refine en_brf rfl (en_need (by decide) ?_)
  obtain ⟨k, hk, k0, k1⟩ : ∃ k : Nat, IntKind.wrap .i64 (1 + Int.tmod (IntKind.wrap .i64 n) 100) = k ∧ 1 ≤ k ∧ k ≤ 100 := by
    refine ⟨(1 + n % 100).toNat, ?_, by omega, by omega⟩
    rw [wrap64 (n := n) (by omega) (by omega), Int.tmod_eq_emod_of_nonneg hn.1, wrap64 (by omega) (by omega)]
    omega
  rw [hk]
  obtain ⟨m1, m2, m3, m4, m5, m6, m7⟩ := ok_k k0 k1
  refine en_call (object_make p S0 [] hw0 ⟨3, 0, k, false⟩) (by repeat (first | apply Takes.nil | (apply Takes.cons; focus (repeat (first | apply Take.here | apply Take.skip))))) ?_
  rintro x' M ⟨rfl, rfl⟩
  try simp only [List.cons_append, List.nil_append]
  refine en_call (object_make q S0 [] hw0 ⟨2, 0, k, false⟩) (by repeat (first | apply Takes.nil | (apply Takes.cons; focus (repeat (first | apply Take.here | apply Take.skip))))) ?_
  rintro x' M ⟨rfl, rfl⟩
  try simp only [List.cons_append, List.nil_append]
  rw [m1, m2, m3, m4]
  have hwg := hw0.make ⟨2, 0, k, false⟩
  have hwh := hw0.make ⟨3, 0, k, false⟩
  obtain ⟨_, _, _, _, _, _, hlen0, hws0, _⟩ := Ob.make_ok hw0 m2
  have hl1 : (Ob.make S0 [] ⟨3, 0, k, false⟩).2.2.ws.length = S0.ws.length := by rw [hws0, List.length_set, clr_len hlen0]
  generalize hS1 : (Ob.make S0 [] ⟨3, 0, k, false⟩).2.2 = S1 at m5 m6 hwh hl1 ⊢
  generalize hG : (Ob.make S0 [] ⟨2, 0, k, false⟩).2.2 = G at m7 hwg ⊢
  have hgh : Ob.head G 64 = some ⟨2, 0, k, false⟩ := by
    have := Ob.make_head hw0 m4
    rw [m3, hG] at this; exact this
  refine Tr.take (A := HeapA p S1 []) (by repeat (first | apply Take.here | apply Take.skip)) ?_
  refine en_lp (fun m u M => (fun i : Int => ∃ ws : List Int, M = HeapA p ⟨ws, S1.pg⟩ [] :: HeapA q G [] :: R ∧ ws.length = S1.ws.length ∧ HWf ⟨ws, S1.pg⟩ [] ∧ 0 ≤ i ∧ i ≤ k ∧ m = k - i.toNat) u.1) k ?_ ?_
  · exact ⟨S1.ws, rfl, rfl, hwh, by simp, by dsimp only; omega, by simp⟩
  · rintro m ⟨(i : Int), ⟨⟩⟩ M ⟨ws, rfl, hl, hw, i0, i1, rfl⟩ X hX
    dsimp only at *
    refine en_br (fun h => ?_) (fun h => ?_)
    · replace h : i < (k : Int) := of_decide_eq_true h
      refine en_call (object_put p ⟨ws, S1.pg⟩ [] hw 64 i x) (by repeat (first | apply Takes.nil | (apply Takes.cons; focus (repeat (first | apply Take.here | apply Take.skip))))) ?_
      rintro x' M ⟨rfl, rfl⟩
      try simp only [List.cons_append, List.nil_append]
      have hw' := hw.put 64 i x
      obtain ⟨ws', e, hl'⟩ := put_pg ⟨ws, S1.pg⟩ 64 i x
      rw [e] at hw' ⊢
      rw [wrap64 (by omega) (by omega)]
      exact hX (k - (i + 1).toNat) _ _ (by omega) ⟨ws', rfl, by dsimp only at hl'; omega, hw', by dsimp only; omega, by dsimp only; omega, rfl⟩
    · replace h : ¬ i < (k : Int) := of_decide_eq_false h
      refine en_nn (HeapA.op (by repeat (first | apply Take.here | apply Take.skip)) fun ps pt => ?_)
      refine en_ld (k := .ptr) (b := p) (x := some ⟨ps, 0, none⟩) (by rw [fa_mk]) (by repeat (first | apply Take.here | apply Take.skip)) rfl ?_
      refine en_call (space_free ps ⟨ws, S1.pg⟩ hw.wf 64) (by repeat (first | apply Takes.nil | (apply Takes.cons; focus (repeat (first | apply Take.here | apply Take.skip))))) ?_
      rintro x' M ⟨rfl, rfl⟩
      try simp only [List.cons_append, List.nil_append]
      have hfr := freeS_ws (ws := S1.ws) (ws' := ws) (pg := S1.pg) hl 64
      rw [show (⟨S1.ws, S1.pg⟩ : Spc) = S1 from rfl, m5, m6] at hfr
      rw [hfr]
      refine Tr.close (by repeat (first | apply Takes.nil | (apply Takes.cons; focus (repeat (first | apply Take.here | apply Take.skip))))) (HeapA.cl (p := p) (ps := ps) (pt := pt) (S := ⟨ws, S0.pg⟩) (cs := [])) ?_
      have hwe := hwE (ws := ws) (by omega)
      have hfn : ∀ a, Sp.find ⟨ws, S0.pg⟩ a = none := fun a => by
        rw [find_ws (S := S0) (by omega)]; exact newSpc_find (n := 20) (by omega) a
      have hhn : Ob.head ⟨ws, S0.pg⟩ 64 = none := by unfold Ob.head; rw [hfn]
      refine en_call (object_head p ⟨ws, S0.pg⟩ [] hwe 64) (by repeat (first | apply Takes.nil | (apply Takes.cons; focus (repeat (first | apply Take.here | apply Take.skip))))) ?_
      rintro x' M ⟨rfl, rfl⟩
      try simp only [List.cons_append, List.nil_append]
      rw [hhn]
      refine en_nw fun b15 => ?_
      rw [zcH]
      refine en_st (b := b15) (off := 0) rfl (by repeat (first | apply Take.here | apply Take.skip)) (by simp) rfl ?_
      refine Tr.drop (A := blk b15 _) .here ?_
      refine en_call (object_objects p ⟨ws, S0.pg⟩ [] hwe) (by repeat (first | apply Takes.nil | (apply Takes.cons; focus (repeat (first | apply Take.here | apply Take.skip))))) ?_
      rintro s M ⟨rfl, hsn⟩
      try simp only [List.cons_append, List.nil_append]
      have e0 : (Ob.objs ⟨ws, S0.pg⟩).length = 0 := by
        unfold Ob.objs
        rw [List.length_map, each_ws (ws := S0.ws)]
        kernel_rfl
      rw [e0] at hsn
      refine Tr.drop (A := ObsA s (Ob.objs ⟨ws, S0.pg⟩)) (by repeat (first | apply Take.here | apply Take.skip)) ?_
      refine en_call (object_make p ⟨ws, S0.pg⟩ [] hwe ⟨2, 0, k, false⟩) (by repeat (first | apply Takes.nil | (apply Takes.cons; focus (repeat (first | apply Take.here | apply Take.skip))))) ?_
      rintro x' M ⟨rfl, rfl⟩
      try simp only [List.cons_append, List.nil_append]
      obtain ⟨w1, w2, _⟩ := make_ws (ws := S0.ws) (ws' := ws) (pg := S0.pg) [] ⟨2, 0, k, false⟩
      rw [show (⟨S0.ws, S0.pg⟩ : Spc) = S0 from rfl] at w1 w2
      rw [m3] at w1
      rw [m4] at w2
      have hwc := hwe.make ⟨2, 0, k, false⟩
      have hz := fun (i : Int) i0 i1 => Ob.make_zero hwe (h := ⟨2, 0, k, false⟩) w2 (i := i) i0 i1
      rw [w1] at hz ⊢
      rw [w2]
      generalize (Ob.make ⟨ws, S0.pg⟩ [] ⟨2, 0, k, false⟩).2.2 = S3 at hz hwc ⊢
      refine Tr.take (A := HeapA p S3 []) (by repeat (first | apply Take.here | apply Take.skip)) ?_
      refine en_lp (fun m u M => (fun i : Int => M = HeapA p S3 [] :: HeapA q G [] :: R ∧ 0 ≤ i ∧ i ≤ k ∧ m = k - i.toNat) u.1) k ?_ ?_
      · exact ⟨rfl, by simp, by dsimp only; omega, by simp⟩
      · rintro m ⟨(j : Int), ⟨⟩⟩ M ⟨rfl, j0, j1, rfl⟩ Y hY
        dsimp only at *
        refine en_br (fun h2 => ?_) (fun h2 => ?_)
        · replace h2 : j < (k : Int) := of_decide_eq_true h2
          refine en_call (object_get p S3 [] hwc 64 j) (by repeat (first | apply Takes.nil | (apply Takes.cons; focus (repeat (first | apply Take.here | apply Take.skip))))) ?_
          rintro x' M ⟨rfl, rfl⟩
          try simp only [List.cons_append, List.nil_append]
          rw [hz j j0 h2]
          refine en_brf rfl ?_
          refine en_call (law_err _) .nil ?_
          rintro x' M ⟨rfl, rfl⟩
          try simp only [List.cons_append, List.nil_append]
          refine en_brf rfl ?_
          rw [wrap64 (by omega) (by omega)]
          exact hY (k - (j + 1).toNat) _ _ (by omega) ⟨rfl, by dsimp only; omega, by dsimp only; omega, rfl⟩
        · refine en_call (object_head q G [] hwg 64) (by repeat (first | apply Takes.nil | (apply Takes.cons; focus (repeat (first | apply Take.here | apply Take.skip))))) ?_
          rintro x' M ⟨rfl, rfl⟩
          try simp only [List.cons_append, List.nil_append]
          rw [hgh]
          refine en_nw fun b21 => ?_
          refine en_st (b := b21) (off := 0) rfl (by repeat (first | apply Take.here | apply Take.skip)) (by simp) rfl ?_
          refine en_brt rfl (en_brt rfl (en_brt rfl ?_))
          iterate 5
            refine en_call (law_err _) .nil ?_
            rintro x' M ⟨rfl, rfl⟩
            try simp only [List.cons_append, List.nil_append]
          refine en_brt rfl ?_
          refine en_call (law_err _) .nil ?_
          rintro x' M ⟨rfl, rfl⟩
          try simp only [List.cons_append, List.nil_append]
          refine en_brt rfl (en_brt (by rw [hsn]; rfl) ?_)
          refine en_ld (k := .int .i64) (b := b21) (off := 0) (x := (2 : Int)) (by rw [fa_mk]) (by repeat (first | apply Take.here | apply Take.skip)) rfl ?_
          refine en_brt rfl ?_
          refine en_call (object_objects q G [] hwg) (by repeat (first | apply Takes.nil | (apply Takes.cons; focus (repeat (first | apply Take.here | apply Take.skip))))) ?_
          rintro s2 M ⟨rfl, hsn2⟩
          try simp only [List.cons_append, List.nil_append]
          rw [m7] at hsn2
          refine en_brt (by rw [hsn2]; rfl) ?_
          refine en_call (law_awake) (by repeat (first | apply Takes.nil | (apply Takes.cons; focus (repeat (first | apply Take.here | apply Take.skip))))) ?_
          rintro x' M ⟨rfl, rfl⟩
          try simp only [List.cons_append, List.nil_append]
          exact en_rets (x := true) rfl ⟨rfl, rfl⟩ (by repeat (first | apply Takes.nil | (apply Takes.cons; focus (repeat (first | apply Take.here | apply Take.skip))))) (by repeat (first | apply Ends.refl | apply Ends.skip))

end Go.Proofs.Ytncpnmpfghppeaa
