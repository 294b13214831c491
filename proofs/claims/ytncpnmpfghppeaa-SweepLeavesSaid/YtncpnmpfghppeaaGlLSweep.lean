/- SweepDead. -/
import Derived.Test.YtncpnmpfghppeaaGlSweep
set_option linter.unusedSimpArgs false
set_option linter.unusedVariables false
namespace Go.Proofs.Ytncpnmpfghppeaa
open Go Go.Gl
variable {ρ0 ρ : FR} {L L' : List Asn} {Post : Value → List Asn → Prop} {T : Tree}

theorem Gr.OK.dead {S : Spc} {hs : List Hd} {l : List Int} (H : Gr.OK S hs l) : Sw.dead S l = [] := by
  unfold Sw.dead
  rw [List.filter_eq_nil_iff]
  intro a ha
  simp [H.each.mem_iff.mp ha]
theorem Sw.frees_nil {S : Spc} : Sw.frees S [] = S := rfl

theorem law_awake19 : Gl.Spec ρ Try.prog 36 [] [] RB fun r M => r = true ∧ M = [] := by
  refine Spec.of (fun Q w h => F.gloaminglaw19.awake.calls h) fun R => ?_
  unfold F.gloaminglaw19.awake
  try simp only [List.cons_append, List.nil_append]
  refine en_nw fun b1 => ?_
  refine Rd.bk (n := 3) (m := 1) (vs := ([1, 2, 3] : List Int).map fun x => .int .u8 x) rfl tk fun ρ1 hle1 ro => ?_
  refine en_call (g_graph ⟨some ⟨b1, 0, none⟩, 3, 3⟩ [1, 2, 3] ro (by decide) (by decide)) tks ?_
  rintro x' M ⟨p, q, rfl, rfl⟩
  try simp only [List.cons_append, List.nil_append]
  refine en_brf rfl ?_
  have hok := Gr.graph_ok (ns := [1, 2, 3]) (by decide)
  have h3 : (Gr.graph [1, 2, 3]).2.length = 3 := by kernel_rfl
  have h1 : (Sw.dead (Gr.graph [1, 2, 3]).1 ((Gr.graph [1, 2, 3]).2.drop 1)).length = 1 := by kernel_rfl
  have hd := hok.dead
  generalize (Gr.graph [1, 2, 3]).2 = l at *
  generalize (Gr.graph [1, 2, 3]).1 = G at *
  refine Tr.sl_len (s := q) (m := 1) (xs := l.map i64) tk fun hq hc => ?_
  have hq : q.n = l.length := by simpa using hq.symm
  refine en_brf (by rw [hq, h3]; rfl) ?_
  refine Tr.keepSL (s := q) tk fun ρ2 hle2 hro => ?_
  refine en_call (sweep_sweep p G Gr.cs hok.hw (A := []) q l (Rd.ro hro) (by omega)) tks ?_
  rintro x' M ⟨rfl, rfl⟩
  try simp only [List.cons_append, List.nil_append]
  rw [hd]
  unfold Sw.sweep
  rw [hd, Sw.frees_nil]
  refine en_brt rfl ?_
  refine en_slc (by decide) (by omega) (by omega) ?_
  have hsub := hro.drop (l := 1) (by omega) hc
  rw [Nat.mul_one, ← List.map_drop] at hsub
  refine en_call (sweep_dead p G Gr.cs hok.hw (A := []) _ (l.drop 1) (Rd.ro hsub) (by simp; omega)) tks ?_
  rintro r M rfl
  try simp only [List.cons_append, List.nil_append]
  refine Tr.nlen (s := r) tk fun hr => ?_
  rw [hr, h1]
  exact en_rets (x := true) rfl ⟨rfl, rfl⟩ tks ens

/-- what there is in page 0 -/
theorem find_zero {S : Spc} (hw : Wf S) : Sp.find S 0 = none := by
  have h0 := (hw.res 0).mpr rfl
  have hl := hw.len
  have hp := hw.pos
  have := Sp.find_other (S := S) (n := 0) (by omega) (fun c l h => by rw [h0] at h; cases h)
  rw [show Sp.find S 0 = Sp.find S ((0 : Nat) : Int) from rfl, this, Sp.own_no]
  · rfl
  · intro j k hj hc
    have : j = 0 := by omega
    subst this
    rw [h0] at hj; cases hj

theorem used_eq {S S' : Spc} (hw : Wf S) (hw' : Wf S') (h : ∀ n w : Nat, Sp.find S n = some (n, w) ↔ Sp.find S' n = some (n, w)) : (Sp.each S).map (Sp.wordsAt S) = (Sp.each S').map (Sp.wordsAt S') := by
  rw [each_eq hw hw' h]
  refine List.map_congr_left fun a ha => ?_
  obtain ⟨n, w, rfl, hf⟩ := (mem_each hw').mp ha
  unfold Sp.wordsAt
  rw [hf, (h n w).mpr hf]

namespace SwDead
/-- what is left of a heap, with some dead ones gone -/
structure Inv (G S : Spc) (d m : List Int) (j : Nat) : Prop where
  left : Sw.Left G S Gr.cs (d.drop j)
  mem : ∀ a, a ∈ m ↔ (a ∈ Sp.each G ∧ a ∉ d.drop j)
theorem Inv.next {G S : Spc} {d m : List Int} {j : Nat} (hg : HWf G Gr.cs) (hd : d.Nodup) (hs : ∀ a ∈ d, a ∈ Sp.each G) (H : Inv G S d m (j + 1)) (hj : j < d.length) :
    Sw.dead S (m.filter fun x => decide (x ≠ d.getD j 0)) = [d.getD j 0] ∧ Inv G (Sw.sweep S (m.filter fun x => decide (x ≠ d.getD j 0))) d (m.filter fun x => decide (x ≠ d.getD j 0)) j := by
  have hget : d.getD j 0 = d[j] := by rw [List.getD_eq_getElem?_getD, List.getElem?_eq_getElem hj]; rfl
  have hdrop : d.drop j = d.getD j 0 :: d.drop (j + 1) := drop_getD 0 hj
  have hnd := hd.sublist (List.drop_sublist j d)
  rw [hdrop, List.nodup_cons] at hnd
  have hin : d.getD j 0 ∈ Sp.each G := by rw [hget]; exact hs _ (List.getElem_mem hj)
  have hE := H.left.each hg
  have hinS : d.getD j 0 ∈ Sp.each S := by rw [hE, List.mem_filter, decide_eq_true_iff]; exact ⟨hin, hnd.1⟩
  generalize d.getD j 0 = x at *
  have hdead : Sw.dead S (m.filter fun y => decide (y ≠ x)) = [x] := by
    refine sorted_ext ((Sp.each_sorted H.left.hw.wf).filter _) (by simp) fun a => ?_
    unfold Sw.dead
    rw [List.mem_filter, decide_eq_true_iff, List.mem_filter, decide_eq_true_iff, H.mem, hE, List.mem_filter, decide_eq_true_iff, List.mem_singleton]
    constructor
    · rintro ⟨h1, h2⟩
      exact Classical.byContradiction fun h => h2 ⟨h1, h⟩
    · rintro rfl
      exact ⟨⟨hin, hnd.1⟩, fun h => h.2 rfl⟩
  refine ⟨hdead, ?_, fun a => ?_⟩
  · have := Sw.sweep_ok H.left.hw (m.filter fun y => decide (y ≠ x))
    rw [hdead] at this
    have h2 := H.left.trans this
    refine ⟨h2.hw, h2.ws, h2.pgs, fun n w => ?_, fun b => ?_⟩
    · rw [h2.find, hdrop]; simp [and_comm, or_comm]
    · rw [h2.head, hdrop]; simp [or_comm]
  · rw [List.mem_filter, decide_eq_true_iff, H.mem, hdrop, List.mem_cons]
    constructor
    · rintro ⟨⟨h1, h2⟩, h3⟩; exact ⟨h1, fun h => h.elim h3 h2⟩
    · rintro ⟨h1, h2⟩; exact ⟨⟨h1, fun h => h2 (.inr h)⟩, fun h => h2 (.inl h)⟩
end SwDead

open SwDead in
theorem law_sweepdead (s : Slc) (ns : List Int) (z : Slc) (vs : List Int) (ro : RoS ρ s 1 (ns.map fun x => .int .u8 x)) (hb : ∀ x ∈ ns, (Lit.int .u8 x).wf = true) (hl : ns.length < 2 ^ 63) (ro2 : RoS ρ z 1 (vs.map fun x => .int .u8 x)) (hb2 : ∀ x ∈ vs, (Lit.int .u8 x).wf = true) (hl2 : vs.length < 2 ^ 63) :
    Gl.Spec ρ Try.prog 9 [.slice s.a s.n s.c, .slice z.a z.n z.c] [] RB fun r M => r = true ∧ M = [] := by
  refine Spec.of (fun Q w h => F.gloaminglaw19.SweepDead.calls s z h) fun R => ?_
  unfold F.gloaminglaw19.SweepDead
  try simp only [List.cons_append, List.nil_append]
  have hb := u8_all hb
  have hb2 := u8_all hb2
  refine en_call (g_graph s ns ro hb hl) tks ?_
  rintro x' M ⟨p, q1, rfl, rfl⟩
  try simp only [List.cons_append, List.nil_append]
  refine en_call (g_graph s ns ro hb hl) tks ?_
  rintro x' M ⟨p2, q2, rfl, rfl⟩
  try simp only [List.cons_append, List.nil_append]
  refine en_brf rfl (en_brf rfl ?_)
  have hok := Gr.graph_ok hb
  have hhl := Gr.heads_len (ns := ns)
  generalize Gr.heads ns = hs at hok hhl
  generalize (Gr.graph ns).2 = l at *
  generalize (Gr.graph ns).1 = G at *
  have hll := hok.len
  refine Tr.keepSL (s := q1) tk fun ρ1 hle1 hr1 => ?_
  refine en_call (g_some q1 l hr1 z vs (ro2.le hle1) hb2 30 (by decide)) tks ?_
  rintro s3 M rfl
  try simp only [List.cons_append, List.nil_append]
  have hsl : (Gr.some l vs 30).length ≤ 30 := by unfold Gr.some; simp; omega
  generalize Gr.some l vs 30 = som at hsl ⊢
  refine Tr.keepSL (s := s3) tk fun ρ2 hle2 hr3 => ?_
  refine en_call (sweep_dead p G Gr.cs hok.hw (A := []) s3 som (Rd.ro hr3) (by omega)) tks ?_
  rintro s4 M rfl
  try simp only [List.cons_append, List.nil_append]
  refine Tr.keepSL (s := s4) tk fun ρ3 hle3 hr4 => ?_
  have hr1' := (hr1.le hle2).le hle3
  have hr3' := hr3.le hle3
  obtain ⟨hd1, hd2⟩ := Sw.dead_ok hok.hw.wf som
  have hdm : ∀ a, a ∈ Sw.dead G som ↔ (a ∈ l ∧ a ∉ som) := fun a => by
    unfold Sw.dead; rw [List.mem_filter, decide_eq_true_iff, hok.each.mem_iff]
  have hdl : (Sw.dead G som).length ≤ 24 := by
    have h1 : (Sw.dead G som).length ≤ (Sp.each G).length := List.length_filter_le _ _
    have h2 := hok.each.length_eq
    omega
  have hds : (Sw.dead G som).Pairwise (· < ·) := (Sp.each_sorted hok.hw.wf).filter _
  have hsw : Sw.sweep G som = Sw.frees G (Sw.dead G som) := rfl
  have hswl := Sw.sweep_ok hok.hw som
  generalize hdd : Sw.dead G som = d at *
  have n1 := hr1'.len
  have n3 := hr3'.len
  have n4 := hr4.len
  have hgetd : ∀ i, i < d.length → d.getD i 0 ∈ d := fun i hi => by rw [List.getD_eq_getElem?_getD, List.getElem?_eq_getElem hi]; exact List.getElem_mem hi
  refine Tr.take (A := SLc q2 1 (l.map i64)) tk ?_
  refine en_lp (fun m u M => (fun i : Int => M = SLc q2 1 (l.map i64) :: HeapA p G Gr.cs :: HeapA p2 G Gr.cs :: R ∧ 0 ≤ i ∧ i ≤ d.length ∧ m = d.length - i.toNat) u.1) d.length ?_ ?_
  · exact ⟨rfl, by simp, by dsimp only; omega, by simp⟩
  · rintro m ⟨(i : Int), ⟨⟩⟩ M ⟨rfl, i0, i1, rfl⟩ X hX
    dsimp only at *
    refine en_br (fun h => ?_) (fun h => ?_)
    · replace h : i < (s4.n : Int) := of_decide_eq_true h
      obtain ⟨t1, t2⟩ := (hdm _).mp (hgetd i.toNat (by omega))
      refine en_drw (en_held [] .nil ?_)
      refine en_getRoS hr4 i0 (by omega) ?_
      refine en_call (ref_in s3 som hr3' (by omega) (d.getD i.toNat 0)) .nil ?_
      rintro x' M ⟨rfl, rfl⟩
      try simp only [List.cons_append, List.nil_append]
      refine en_chk .nil (en_brf (decide_eq_false t2) ?_)
      refine en_getRoS hr4 i0 (by omega) ?_
      refine en_call (ref_in q1 l hr1' (by omega) (d.getD i.toNat 0)) .nil ?_
      rintro x' M ⟨rfl, rfl⟩
      try simp only [List.cons_append, List.nil_append]
      refine en_chk .nil (en_brf (by rw [decide_eq_true t1]; rfl) ?_)
      rw [wrap64 (n := i + 1) (by omega) (by omega)]
      have hgo := hX (d.length - (i + 1).toNat) (i + 1, ()) _ (by omega) ⟨rfl, by dsimp only; omega, by dsimp only; omega, rfl⟩
      refine en_br (fun h2 => ?_) (fun h2 => hgo)
      replace h2 : i > 0 := of_decide_eq_true h2
      refine en_getRoS hr4 i0 (by omega) ?_
      rw [wrap64 (n := i - 1) (by omega) (by omega)]
      refine en_getRoS hr4 (by omega) (by omega) ?_
      refine en_brf (decide_eq_false ?_) hgo
      have hp := List.pairwise_iff_getElem.mp hds (i - 1).toNat i.toNat (by omega) (by omega) (by omega)
      rw [List.getD_eq_getElem?_getD, List.getD_eq_getElem?_getD, List.getElem?_eq_getElem (by omega), List.getElem?_eq_getElem (by omega)]
      simp only [Option.getD_some]
      omega
    · clear hX h i0 i1 i
      refine en_lp (fun m u M => (fun i : Int => M = SLc q2 1 (l.map i64) :: HeapA p G Gr.cs :: HeapA p2 G Gr.cs :: R ∧ 0 ≤ i ∧ i ≤ l.length ∧ m = l.length - i.toNat) u.1) l.length ?_ ?_
      · exact ⟨rfl, by simp, by dsimp only; omega, by simp⟩
      · rintro m ⟨(i : Int), ⟨⟩⟩ M ⟨rfl, i0, i1, rfl⟩ X hX
        dsimp only at *
        refine en_br (fun h => ?_) (fun h => ?_)
        · replace h : i < (q1.n : Int) := of_decide_eq_true h
          have hi : i.toNat < l.length := by omega
          have hm : l.getD i.toNat 0 ∈ l := by rw [List.getD_eq_getElem?_getD, List.getElem?_eq_getElem hi]; exact List.getElem_mem hi
          refine en_getRo hr1' i0 (by omega) ?_
          refine en_call (ref_in s3 som hr3' (by omega) (l.getD i.toNat 0)) .nil ?_
          rintro x' M ⟨rfl, rfl⟩
          try simp only [List.cons_append, List.nil_append]
          rw [wrap64 (n := i + 1) (by omega) (by omega)]
          have hgo := hX (l.length - (i + 1).toNat) (i + 1, ()) _ (by omega) ⟨rfl, by dsimp only; omega, by dsimp only; omega, rfl⟩
          refine en_br (fun h2 => ?_) (fun h2 => hgo)
          have h2 : l.getD i.toNat 0 ∉ som := by simpa using h2
          refine en_getRo hr1' i0 (by omega) ?_
          refine en_call (ref_in s4 d hr4 (by omega) (l.getD i.toNat 0)) .nil ?_
          rintro x' M ⟨rfl, rfl⟩
          try simp only [List.cons_append, List.nil_append]
          exact en_brf (by rw [decide_eq_true ((hdm _).mpr ⟨hm, h2⟩)]; rfl) hgo
        · clear hX h i0 i1 i
          refine en_lp (fun n u M => (fun (t : Slc) (i : Int) => ∃ (S : Spc) (m : List Int), M = SLc t 1 (m.map i64) :: HeapA p G Gr.cs :: HeapA p2 S Gr.cs :: R ∧ -1 ≤ i ∧ i < d.length ∧ n = (i + 1).toNat ∧ m.length ≤ 24 ∧ Inv G S d m (i + 1).toNat) u.1 u.2.1) d.length ?_ ?_
          · refine ⟨G, l, rfl, ?_, ?_, ?_, by omega, ?_⟩
            · dsimp only; rw [wrap64 (by omega) (by omega)]; omega
            · dsimp only; rw [wrap64 (by omega) (by omega)]; omega
            · dsimp only; rw [wrap64 (by omega) (by omega)]; omega
            · dsimp only
              rw [wrap64 (by omega) (by omega), show ((s4.n : Nat) - 1 + 1 : Int).toNat = d.length by omega]
              refine ⟨by rw [List.drop_length]; exact .nil hok.hw, fun a => ?_⟩
              rw [List.drop_length, hok.each.mem_iff]; simp
          · rintro n ⟨(t : Slc), (i : Int), ⟨⟩⟩ M ⟨S, m, rfl, i0, i1, rfl, hml, hI⟩ X hX
            dsimp only at *
            refine en_br (fun h => ?_) (fun h => ?_)
            · replace h : i ≥ 0 := of_decide_eq_true h
              obtain ⟨j, rfl⟩ := Int.eq_ofNat_of_zero_le h
              rw [show ((j : Int) + 1).toNat = j + 1 by omega] at hI
              obtain ⟨k1, k2⟩ := hI.next hok.hw hd1 hd2 (by omega)
              have hSw := hI.left.hw
              have hdx : d.getD ((j : Int).toNat) 0 = d.getD j 0 := by rw [Int.toNat_natCast]
              generalize d.getD j 0 = x at *
              refine Tr.nilSL 1 ?_
              refine en_lp (fun n u M => (fun (t' : Slc) (k : Int) => M = SLc t' 1 (((m.take k.toNat).filter fun y => decide (y ≠ x)).map i64) :: SLc t 1 (m.map i64) :: HeapA p G Gr.cs :: HeapA p2 S Gr.cs :: R ∧ 0 ≤ k ∧ k ≤ m.length ∧ n = m.length - k.toNat) u.1 u.2.1) m.length ?_ ?_
              · exact ⟨rfl, by simp, by dsimp only; omega, by simp⟩
              · rintro n ⟨(t' : Slc), (k : Int), ⟨⟩⟩ M ⟨rfl, c0, c1, rfl⟩ Y hY
                dsimp only at *
                refine Tr.nlen (s := t) (xs := m) tk fun htn => ?_
                refine en_br (fun h3 => ?_) (fun h3 => ?_)
                · replace h3 : k < (t.n : Int) := of_decide_eq_true h3
                  have hk : k.toNat < m.length := by omega
                  have ht : m.take (k + 1).toNat = m.take k.toNat ++ [m.getD k.toNat 0] := by rw [show (k + 1).toNat = k.toNat + 1 by omega, take_succ_getD 0 hk]
                  refine en_drw (en_getSL (s := t) (xs := m) tk c0 (by omega) ?_)
                  refine en_getRo hr4 (by omega) (by omega) ?_
                  rw [hdx, wrap64 (n := k + 1) (by omega) (by omega)]
                  refine en_br (fun h4 => ?_) (fun h4 => ?_)
                  · have h4 : m.getD k.toNat 0 ≠ x := by simpa using h4
                    refine en_getSL (s := t) (xs := m) tk c0 (by omega) ?_
                    have hfl := List.length_filter_le (fun y => decide (y ≠ x)) (m.take k.toNat)
                    have htl := List.length_take_le k.toNat m
                    refine en_appI (s := t') (xs := (m.take k.toNat).filter fun y => decide (y ≠ x)) appInt tk (by omega) fun r hr => ?_
                    refine hY (m.length - (k + 1).toNat) _ _ (by omega) ⟨?_, by dsimp only; omega, by dsimp only; omega, rfl⟩
                    dsimp only
                    rw [ht, List.filter_append, List.filter_cons_of_pos (p := fun y => decide (y ≠ x)) (decide_eq_true h4), List.filter_nil]
                  · have h4 : m.getD k.toNat 0 = x := by simpa using h4
                    refine hY (m.length - (k + 1).toNat) _ _ (by omega) ⟨?_, by dsimp only; omega, by dsimp only; omega, rfl⟩
                    dsimp only
                    rw [ht, List.filter_append, List.filter_cons_of_neg (p := fun y => decide (y ≠ x)) (by rw [decide_eq_true_iff]; exact fun h => h h4), List.filter_nil, List.append_nil]
                · replace h3 : ¬ k < (t.n : Int) := of_decide_eq_false h3
                  rw [List.take_of_length_le (by omega)]
                  have hfl := List.length_filter_le (fun y => decide (y ≠ x)) m
                  refine Tr.nlen (s := t') (xs := m.filter fun y => decide (y ≠ x)) tk fun htn' => ?_
                  refine en_call (sweep_sweep p2 S Gr.cs hSw (A := [SLc t' 1 ((m.filter fun y => decide (y ≠ x)).map i64)]) t' (m.filter fun y => decide (y ≠ x)) (Rd.sl .here (by rw [List.length_map, htn', Nat.mul_one])) (by omega)) tks ?_
                  rintro x' M ⟨rfl, rfl⟩
                  try simp only [List.cons_append, List.nil_append]
                  rw [k1]
                  refine en_brf rfl ?_
                  rw [wrap64 (n := (j : Int) - 1) (by omega) (by omega)]
                  refine Tr.drop (A := SLc t 1 (m.map i64)) tk ?_
                  refine Tr.take (A := HeapA p G Gr.cs) tk (Tr.take (A := SLc t' 1 ((m.filter fun y => decide (y ≠ x)).map i64)) tk ?_)
                  refine hX ((j : Int) - 1 + 1).toNat _ _ (by omega) ⟨_, _, rfl, by dsimp only; omega, by dsimp only; omega, rfl, by omega, ?_⟩
                  dsimp only
                  rw [show ((j : Int) - 1 + 1).toNat = j by omega]
                  exact k2
            · replace h : ¬ i ≥ 0 := of_decide_eq_false h
              have hi0 : (i + 1).toNat = 0 := by omega
              rw [hi0] at hI
              clear hX
              refine Tr.drop (A := SLc t 1 (m.map i64)) tk ?_
              have hL2 := hI.left
              rw [List.drop_zero] at hL2
              refine en_call (sweep_sweep p G Gr.cs hok.hw (A := []) s3 som (Rd.ro hr3') (by omega)) tks ?_
              rintro x' M ⟨rfl, rfl⟩
              try simp only [List.cons_append, List.nil_append]
              rw [hdd]
              generalize Sw.sweep G som = G' at *
              have hfe : ∀ n w : Nat, Sp.find G' n = some (n, w) ↔ Sp.find S n = some (n, w) := fun n w => by rw [hswl.find, hL2.find]
              have hee := each_eq hswl.hw.wf hL2.hw.wf hfe
              have hue := used_eq hswl.hw.wf hL2.hw.wf hfe
              have hel := Sp.each_len hL2.hw.wf
              refine HeapA.op (p := p) tk fun ps pt => ?_
              refine HeapA.op (p := p2) tk fun ps2 pt2 => ?_
              refine en_drw (en_held [blk p [.pointer (some ⟨ps, 0, none⟩), .pointer (some ⟨pt, 0, none⟩)], blk p2 [.pointer (some ⟨ps2, 0, none⟩), .pointer (some ⟨pt2, 0, none⟩)]] tks ?_)
              refine en_brt (by rw [n4]; simp) ?_
              refine en_nn (en_ldS (k := .ptr) (b := p) (x := some ⟨ps, 0, none⟩) (by rw [fa_mk]) tk rfl ?_)
              refine en_nn (en_ldS (k := .ptr) (b := p2) (x := some ⟨ps2, 0, none⟩) (by rw [fa_mk]) tk rfl ?_)
              refine en_call (space_used ps G' hswl.hw.wf) tks ?_
              rintro x' M ⟨rfl, rfl⟩
              try simp only [List.cons_append, List.nil_append]
              refine en_chk tks ?_
              refine en_call (space_used ps2 S hL2.hw.wf) tks ?_
              rintro x' M ⟨rfl, rfl⟩
              try simp only [List.cons_append, List.nil_append]
              refine en_chk tks (en_brt (by rw [hue]; simp) ?_)
              refine en_nn (en_ldS (k := .ptr) (b := p) (x := some ⟨ps, 0, none⟩) (by rw [fa_mk]) tk rfl ?_)
              refine en_nn (en_ldS (k := .ptr) (b := p2) (x := some ⟨ps2, 0, none⟩) (by rw [fa_mk]) tk rfl ?_)
              refine en_call (space_each ps G' hswl.hw.wf) tks ?_
              rintro r5 M ⟨hr5, rfl⟩
              try simp only [List.cons_append, List.nil_append]
              refine en_chk tks ?_
              refine en_call (space_each ps2 S hL2.hw.wf) tks ?_
              rintro r6 M ⟨hr6, rfl⟩
              try simp only [List.cons_append, List.nil_append]
              refine en_chk tks ?_
              refine Tr.keepSL (s := r5) tk fun ρ4 hle4 ro5 => ?_
              refine Tr.keepSL (s := r6) tk fun ρ5 hle5 ro6 => ?_
              refine en_call (same_ints r5 r6 _ _ (ro5.le hle5) ro6 (by rw [hee]; omega)) .nil ?_
              rintro x' M ⟨rfl, rfl⟩
              try simp only [List.cons_append, List.nil_append]
              refine en_chkW (hle4.trans hle5) tks (en_brt (by rw [hee]; simp) ?_)
              refine en_nn (en_ldSW (k := .ptr) (b := p) (x := some ⟨ps, 0, none⟩) (by rw [fa_mk]) tk rfl ?_)
              refine en_call (space_free ps G' hswl.hw.wf 0) tks ?_
              rintro x' M ⟨rfl, rfl⟩
              try simp only [List.cons_append, List.nil_append]
              have hz : Sp.freeS G' 0 = (2, G') := by unfold Sp.freeS; rw [find_zero hswl.hw.wf]
              rw [hz]
              iterate 1
                refine en_call (law_err _) .nil ?_
                rintro x' M ⟨rfl, rfl⟩
                try simp only [List.cons_append, List.nil_append]
              refine en_brt rfl ?_
              refine en_call (law_awake19) tks ?_
              rintro x' M ⟨rfl, rfl⟩
              try simp only [List.cons_append, List.nil_append]
              exact en_rets (x := true) rfl ⟨rfl, rfl⟩ tks ens

end Go.Proofs.Ytncpnmpfghppeaa
