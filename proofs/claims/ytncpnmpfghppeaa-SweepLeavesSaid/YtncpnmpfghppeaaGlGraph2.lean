/- Graphs by numbers: words, Graph, Some, In. -/
import Derived.Test.YtncpnmpfghppeaaGlGraph
set_option linter.unusedSimpArgs false
set_option linter.unusedVariables false
namespace Go.Proofs.Ytncpnmpfghppeaa
open Go Go.Gl
variable {ρ0 ρ : FR} {L L' : List Asn} {Post : Value → List Asn → Prop} {T : Tree}

open Gr in
theorem g_words (h : Hd) (hg : Gr.Good h) (q : Slc) (l : List Int) (hl : 0 < l.length) (s : Slc) (ns : List Int) (ro : RoS ρ s 1 (ns.map fun x => .int .u8 x)) (hb : ∀ x ∈ ns, 0 ≤ x ∧ x < 256) (h0 : 0 < ns.length) (i : Nat) (hi : i < 1000) :
    Gl.Spec ρ Try.prog 58 [hval h, .slice q.a q.n q.c, .slice s.a s.n s.c, i64 i] [SLc q 1 (l.map i64)] RS fun r M => M = [SLc r 1 ((words h l ns i).map i64), SLc q 1 (l.map i64)] := by
  refine Spec.of (fun Q w hh => F.gloaminglaw17.words.calls h.t q s i hh) fun R => ?_
  have hsn := ro.len8
  have n0 := hg.n0
  have n1 := hg.n1
  have hrf := hg.rf
  obtain ⟨k, c, n, f⟩ := h
  dsimp only at n0 n1 hrf
  unfold F.gloaminglaw17.words
  try simp only [List.cons_append, List.nil_append]
  refine en_nw fun b1 => ?_
  refine en_ld (k := .int .i64) (b := b1) (off := 2) (x := n) (by rw [fa_mk]) tk rfl ?_
  refine en_mks (e := 3) (m := 1) (bytes := 8) (z := .int .i64 0) (by kernel_rfl) (by kernel_rfl) rfl (by omega) (by omega) (by omega) fun b => ?_
  have e : (List.replicate n.toNat (Value.cells (.int .i64 0)).toList).flatten = (prt (word0 ⟨k, c, n, f⟩ l ns i) n.toNat 0).map i64 := by
    rw [show (Value.cells (.int .i64 0)).toList = [i64 0] from rfl, rep1, part0, List.map_replicate]
  rw [e]
  generalize hF : word0 ⟨k, c, n, f⟩ l ns i = F
  refine en_lp (fun m u M => (fun j : Int => M = SLc ⟨some ⟨b, 0, none⟩, n.toNat, n.toNat⟩ 1 ((prt F n.toNat j.toNat).map i64) :: blk b1 [.int .i64 k, .int .i64 c, .int .i64 n, .bool f] :: SLc q 1 (l.map i64) :: R ∧ 0 ≤ j ∧ j ≤ n ∧ m = n.toNat - j.toNat) u.1) n.toNat ?_ ?_
  · exact ⟨rfl, by simp, by dsimp only; omega, by simp⟩
  · rintro m ⟨(j : Int), ⟨⟩⟩ M ⟨rfl, j0, j1, rfl⟩ X hX
    dsimp only at *
    refine en_ld (k := .int .i64) (b := b1) (off := 2) (x := n) (by rw [fa_mk]) tk rfl ?_
    refine en_br (fun hj => ?_) (fun hj => ?_)
    · replace hj : j < n := of_decide_eq_true hj
      refine en_need (by omega) ?_
      have hlt : (i * 7 + j.toNat * 3 + 1) % ns.length < ns.length := Nat.mod_lt _ h0
      have hix : Int.tmod (IntKind.wrap .i64 (IntKind.wrap .i64 (IntKind.wrap .i64 ((i : Int) * 7) + IntKind.wrap .i64 (j * 3)) + 1)) (s.n : Nat) = (((i * 7 + j.toNat * 3 + 1) % ns.length : Nat) : Int) := by
        rw [wrap64 (n := (i : Int) * 7) (by omega) (by omega), wrap64 (n := j * 3) (by omega) (by omega), wrap64 (n := (i : Int) * 7 + j * 3) (by omega) (by omega), wrap64 (by omega) (by omega), hsn, ix_mod (by omega) h0]
        congr 2; omega
      rw [hix]
      refine en_getU8 ro (by omega) (by omega) ?_
      rw [Int.toNat_natCast]
      have hv := u8_getD hb ((i * 7 + j.toNat * 3 + 1) % ns.length)
      have hnum : num ns i j.toNat = ns.getD ((i * 7 + j.toNat * 3 + 1) % ns.length) 0 + 13 * i + 5 * j := by unfold num; rw [show ((j.toNat : Nat) : Int) = j by omega]
      generalize ns.getD ((i * 7 + j.toNat * 3 + 1) % ns.length) 0 = v at hv hnum
      have hw : IntKind.wrap .i64 (IntKind.wrap .i64 (IntKind.wrap .i64 v + IntKind.wrap .i64 (13 * i)) + IntKind.wrap .i64 (5 * j)) = num ns i j.toNat := by
        rw [wrap64 (n := v) (by omega) (by omega), wrap64 (n := 13 * (i : Int)) (by omega) (by omega), wrap64 (n := 5 * j) (by omega) (by omega), wrap64 (n := v + 13 * i) (by omega) (by omega), wrap64 (by omega) (by omega), hnum]
      rw [hw]
      have hN0 : 0 ≤ num ns i j.toNat := by rw [hnum]; omega
      have hFj : F j.toNat = word0 ⟨k, c, n, f⟩ l ns i j.toNat := by rw [hF]
      unfold word0 at hFj
      rw [show ((j.toNat : Nat) : Int) = j by omega] at hFj
      generalize num ns i j.toNat = N at hN0 hFj
      have w1 : IntKind.wrap .i64 (j + 1) = j + 1 := wrap64 (by omega) (by omega)
      have ej : (j + 1).toNat = j.toNat + 1 := by omega
      rw [w1]
      have hgo : Tr ρ ρ (SLc ⟨some ⟨b, 0, none⟩, n.toNat, n.toNat⟩ 1 ((prt F n.toNat (j + 1).toNat).map i64) :: blk b1 [.int .i64 k, .int .i64 c, .int .i64 n, .bool f] :: SLc q 1 (l.map i64) :: R) (X (j + 1, ()))
          (SP RS (fun r M => M = [SLc r 1 ((words ⟨k, c, n, f⟩ l ns i).map i64), SLc q 1 (l.map i64)]) R) :=
        hX (n.toNat - (j + 1).toNat) _ _ (by omega) ⟨rfl, by dsimp only; omega, by dsimp only; omega, rfl⟩
      have hset : ∀ v : Int, v = F j.toNat → (prt F n.toNat j.toNat).set j.toNat v = prt F n.toNat (j + 1).toNat := fun v hv => by rw [hv, ej]; exact part_set
      have hz : F j.toNat = 0 → prt F n.toNat j.toNat = prt F n.toNat (j + 1).toNat := fun h => by rw [ej]; exact (part_zero h).symm
      refine en_jn (fun (u : LTs [.bool]) M => u.1 = isA ⟨k, c, n, f⟩ j ∧ M = SLc ⟨some ⟨b, 0, none⟩, n.toNat, n.toNat⟩ 1 ((prt F n.toNat j.toNat).map i64) :: blk b1 [.int .i64 k, .int .i64 c, .int .i64 n, .bool f] :: SLc q 1 (l.map i64) :: R) ?_ ?_
      · rintro ⟨(is : Bool), ⟨⟩⟩ M ⟨h1, rfl⟩
        dsimp only at *
        rw [← h1] at hFj
        refine en_br (fun h2 => ?_) (fun h2 => ?_)
        · rw [h2, if_pos rfl] at hFj
          rw [h2]
          refine en_need (by decide) ?_
          refine en_br (fun h3 => ?_) (fun h3 => ?_)
          · replace h3 := of_decide_eq_true h3
            rw [Int.tmod_eq_emod_of_nonneg hN0] at h3
            rw [if_pos h3] at hFj
            refine Tr.nlen (s := q) (xs := l) tk fun hq => ?_
            refine en_need (by omega) ?_
            have hlt2 : N.toNat % l.length < l.length := Nat.mod_lt _ hl
            rw [show Int.tmod N (q.n : Nat) = ((N.toNat % l.length : Nat) : Int) by rw [hq, ix_mod hN0 hl]]
            refine en_getSL (s := q) (xs := l) tk (by omega) (by omega) ?_
            rw [Int.toNat_natCast]
            refine en_setSL (s := ⟨some ⟨b, 0, none⟩, n.toNat, n.toNat⟩) (xs := prt F n.toNat j.toNat) tk j0 (by rw [part_len]; omega) ?_
            rw [hset _ hFj.symm]
            exact en_brf rfl hgo
          · replace h3 := of_decide_eq_false h3
            rw [Int.tmod_eq_emod_of_nonneg hN0] at h3
            rw [if_neg h3] at hFj
            rw [hz hFj]
            exact en_brf rfl hgo
        · rw [h2, if_neg (by simp)] at hFj
          rw [h2]
          refine en_brt rfl ?_
          refine en_setSL (s := ⟨some ⟨b, 0, none⟩, n.toNat, n.toNat⟩) (xs := prt F n.toNat j.toNat) tk j0 (by rw [part_len]; omega) ?_
          rw [hset _ hFj.symm]
          exact hgo
      · intro J hJ
        have hJ1 : isA ⟨k, c, n, f⟩ j = true → Tr ρ ρ (SLc ⟨some ⟨b, 0, none⟩, n.toNat, n.toNat⟩ 1 ((prt F n.toNat j.toNat).map i64) :: blk b1 [.int .i64 k, .int .i64 c, .int .i64 n, .bool f] :: SLc q 1 (l.map i64) :: R) (J (true, ())) (SP RS (fun r M => M = [SLc r 1 ((words ⟨k, c, n, f⟩ l ns i).map i64), SLc q 1 (l.map i64)]) R) :=
          fun h => hJ _ _ ⟨h.symm, rfl⟩
        have hJ2 : isA ⟨k, c, n, f⟩ j = false → Tr ρ ρ (SLc ⟨some ⟨b, 0, none⟩, n.toNat, n.toNat⟩ 1 ((prt F n.toNat j.toNat).map i64) :: blk b1 [.int .i64 k, .int .i64 c, .int .i64 n, .bool f] :: SLc q 1 (l.map i64) :: R) (J (false, ())) (SP RS (fun r M => M = [SLc r 1 ((words ⟨k, c, n, f⟩ l ns i).map i64), SLc q 1 (l.map i64)]) R) :=
          fun h => hJ _ _ ⟨h.symm, rfl⟩
        have hJ3 : isA ⟨k, c, n, f⟩ j = (j == 2) → Tr ρ ρ (SLc ⟨some ⟨b, 0, none⟩, n.toNat, n.toNat⟩ 1 ((prt F n.toNat j.toNat).map i64) :: blk b1 [.int .i64 k, .int .i64 c, .int .i64 n, .bool f] :: SLc q 1 (l.map i64) :: R) (J (j == 2, ())) (SP RS (fun r M => M = [SLc r 1 ((words ⟨k, c, n, f⟩ l ns i).map i64), SLc q 1 (l.map i64)]) R) :=
          fun h => hJ _ _ ⟨h.symm, rfl⟩
        refine en_ld (k := .int .i64) (b := b1) (off := 0) (x := k) (by rw [fa_mk]) tk rfl ?_
        refine en_br (fun h1 => hJ1 ?_) (fun h1 => ?_)
        · exact decide_eq_true (by have := eq_of_beq h1; dsimp only; omega)
        · have h1 : k ≠ 2 := by simpa using h1
          refine en_ld (k := .int .i64) (b := b1) (off := 0) (x := k) (by rw [fa_mk]) tk rfl ?_
          refine en_br (fun h2 => ?_) (fun h2 => ?_)
          · have h2 : k = 1 := eq_of_beq h2
            refine en_br (fun h3 => hJ1 ?_) (fun h3 => ?_)
            · exact decide_eq_true (by have : j ≠ 1 := by simpa using h3
                                       dsimp only; omega)
            · refine en_ld (k := .int .i64) (b := b1) (off := 0) (x := k) (by rw [fa_mk]) tk rfl ?_
              refine en_brf (by simp; omega) ?_
              exact hJ2 (decide_eq_false (by have : j = 1 := by simpa using h3
                                             dsimp only; omega))
          · have h2 : k ≠ 1 := by simpa using h2
            refine en_ld (k := .int .i64) (b := b1) (off := 0) (x := k) (by rw [fa_mk]) tk rfl ?_
            refine en_br (fun h3 => ?_) (fun h3 => ?_)
            · have h3 : k = 4 := eq_of_beq h3
              refine en_br (fun h4 => hJ1 ?_) (fun h4 => hJ3 ?_)
              · have h4 : j = 0 := eq_of_beq h4
                unfold isA; rw [h3, h4]; rfl
              · have h4 : j ≠ 0 := by simpa using h4
                unfold isA
                dsimp only
                rw [Bool.eq_iff_iff, decide_eq_true_iff, beq_iff_eq]
                omega
            · exact hJ2 (decide_eq_false (by have : k ≠ 4 := by simpa using h3
                                             dsimp only; omega))
    · replace hj : ¬ j < n := of_decide_eq_false hj
      have : j = n := by omega
      subst this
      refine en_ld (k := .int .i64) (b := b1) (off := 0) (x := k) (by rw [fa_mk]) tk rfl ?_
      refine en_br (fun h1 => ?_) (fun h1 => ?_)
      · have h1 : k = 4 := eq_of_beq h1
        have h5 := hrf h1
        have hW : words ⟨k, c, j, f⟩ l ns i = ((((prt F j.toNat j.toNat).set 2 0).set 1 (n3 ns i)).set 3 (ns.getD (i % ns.length) 0)).set 4 ((i : Int) + 1) := by unfold words; rw [if_pos h1, hF]
        refine en_setSL (s := ⟨some ⟨b, 0, none⟩, j.toNat, j.toNat⟩) (xs := prt F j.toNat j.toNat) tk (by omega) (by rw [part_len]; omega) ?_
        refine en_call (g_n3 s ns ro hb h0 i hi) tks ?_
        rintro x' M ⟨rfl, rfl⟩
        try simp only [List.cons_append, List.nil_append]
        refine en_setSL (s := ⟨some ⟨b, 0, none⟩, j.toNat, j.toNat⟩) (xs := (prt F j.toNat j.toNat).set 2 0) tk (by omega) (by simp [part_len]; omega) ?_
        refine en_need (by omega) ?_
        have hlt2 : i % ns.length < ns.length := Nat.mod_lt _ h0
        rw [show Int.tmod (i : Int) (s.n : Nat) = ((i % ns.length : Nat) : Int) by rw [hsn, ix_mod (by omega) h0, Int.toNat_natCast]]
        refine en_getU8 ro (by omega) (by omega) ?_
        rw [Int.toNat_natCast]
        have hv := u8_getD hb (i % ns.length)
        generalize ns.getD (i % ns.length) 0 = v at hv hW
        rw [wrap64 (n := v) (by omega) (by omega), wrap64 (n := (i : Int) + 1) (by omega) (by omega)]
        refine en_setSL (s := ⟨some ⟨b, 0, none⟩, j.toNat, j.toNat⟩) (xs := ((prt F j.toNat j.toNat).set 2 0).set 1 (n3 ns i)) tk (by omega) (by simp [part_len]; omega) ?_
        refine en_setSL (s := ⟨some ⟨b, 0, none⟩, j.toNat, j.toNat⟩) (xs := (((prt F j.toNat j.toNat).set 2 0).set 1 (n3 ns i)).set 3 v) tk (by omega) (by simp [part_len]; omega) ?_
        rw [hW]
        exact en_rets (x := (⟨some ⟨b, 0, none⟩, j.toNat, j.toNat⟩ : Slc)) rfl rfl tks ens
      · have h1 : k ≠ 4 := by simpa using h1
        have hW : words ⟨k, c, j, f⟩ l ns i = prt F j.toNat j.toNat := by unfold words; rw [if_neg h1, hF]
        rw [hW]
        exact en_rets (x := (⟨some ⟨b, 0, none⟩, j.toNat, j.toNat⟩ : Slc)) rfl rfl tks ens

abbrev PS : RK := .many [.l .ptr, .l .slice]
open Gr in
theorem g_graph (s : Slc) (ns : List Int) (ro : RoS ρ s 1 (ns.map fun x => .int .u8 x)) (hb : ∀ x ∈ ns, 0 ≤ x ∧ x < 256) (hl : ns.length < 2 ^ 63) : Gl.Spec ρ Try.prog 30 [.slice s.a s.n s.c] [] PS
    fun r M => ∃ p q, r = (some ⟨p, 0, none⟩, q, ()) ∧ M = [HeapA p (graph ns).1 cs, SLc q 1 ((graph ns).2.map i64)] := by
  refine Spec.of (fun Q w hh => F.gloaminglaw17.Graph.calls s hh) fun R => ?_
  unfold F.gloaminglaw17.Graph
  try simp only [List.cons_append, List.nil_append]
  refine en_call (object_new 60 (by omega) (by omega)) tks ?_
  rintro x' M ⟨p, rfl, rfl⟩
  try simp only [List.cons_append, List.nil_append]
  refine en_call (law_whole p (Sp.newSpc 60) []) tks ?_
  rintro x' M ⟨rfl, rfl⟩
  try simp only [List.cons_append, List.nil_append]
  refine en_brf rfl ?_
  iterate 1
    refine en_call (law_err _) .nil ?_
    rintro x' M ⟨rfl, rfl⟩
    try simp only [List.cons_append, List.nil_append]
  refine en_brf rfl (en_nn (HeapA.op tk fun ps pt => ?_))
  refine en_ld (k := .ptr) (b := p) (off := 1) (x := some ⟨pt, 0, none⟩) (by rw [fa_mk]) tk rfl ?_
  refine en_nw fun b6 => ?_
  refine Rd.bk (n := 2) (m := 1) rfl tk fun ρ1 hle1 ro1 => ?_
  refine en_call (class_of pt [] 3 ⟨some ⟨b6, 0, none⟩, 2, 2⟩ [0, 2] ro1 (by decide)) tks ?_
  rintro x' M ⟨rfl, rfl⟩
  try simp only [List.cons_append, List.nil_append]
  have ec : Sp.addC [] (3, [0, 2]) = (1, 0, cs) := by decide
  rw [ec]
  refine Tr.close tks (HeapA.cl (p := p) (ps := ps) (pt := pt) (S := Sp.newSpc 60) (cs := cs)) ?_
  refine en_call (g_heads s ns (ro.le hle1) hb hl) tks ?_
  rintro hq M ⟨hqn, rfl⟩
  try simp only [List.cons_append, List.nil_append]
  refine Tr.keepSL (s := hq) (m := 4) tk fun ρ2 hle2 hro => ?_
  have hgood := heads_good hb
  have hlen := heads_len (ns := ns)
  have hok := made_ok hgood hlen
  have hfull : (heads ns).take (heads ns).length = heads ns := List.take_length
  have hG : graph ns = (puts (made (heads ns)).1 (heads ns) (made (heads ns)).2 ns (heads ns).length, (made (heads ns)).2) := rfl
  have hns : (heads ns).length ≤ ns.length := by unfold heads; simp; omega
  have roN := (ro.le hle1).le hle2
  rw [hG]
  generalize heads ns = hs at *
  have hcell : ∀ (j : Nat) (h : Hd), hs[j]? = some h → ∀ e v, (vals HL h.t)[e]? = some v → (hs.flatMap Hd.cs)[j * 4 + 0 + e]? = some v := fun j h hj e v he => by
    have hlt : e < 4 := getElem?_lt he
    rw [Nat.add_zero, flat_get (g := Hd.cs) (m := 4) hcs_len hj hlt]
    exact he
  refine Tr.nilSL 1 ?_
  refine en_lp (fun m u M => (fun (t : Slc) (i : Int) => M = SLc t 1 ((made (hs.take i.toNat)).2.map i64) :: HeapA p (made (hs.take i.toNat)).1 cs :: R ∧ 0 ≤ i ∧ i ≤ hs.length ∧ m = hs.length - i.toNat) u.1 u.2.1) hs.length ?_ ?_
  · exact ⟨rfl, by simp, by dsimp only; omega, by simp⟩
  · rintro m ⟨(t : Slc), (i : Int), ⟨⟩⟩ M ⟨rfl, i0, i1, rfl⟩ X hX
    dsimp only at *
    refine en_br (fun h => ?_) (fun h => ?_)
    · replace h : i < (hq.n : Int) := of_decide_eq_true h
      have hi : i.toNat < hs.length := by omega
      have hh : hs[i.toNat]? = some hs[i.toNat] := List.getElem?_eq_getElem hi
      have hgd := hgood _ (List.getElem_mem hi)
      have hms := made_step hh
      obtain ⟨k0, k1⟩ := (hok i.toNat (by omega)).make (by simp; omega) hgd
      have hw := (hok i.toNat (by omega)).hw
      refine en_ixRo hro i0 h fun a0 ha => ?_
      generalize hs[i.toNat] = hd at *
      refine en_ldRg (x := hd.t) ha hro (j := i.toNat * 4) (by rintro b o rfl; simp [fa_mk]) (hcell _ _ hh) ?_
      dsimp only
      refine en_call (object_make p (made (hs.take i.toNat)).1 cs hw hd) tks ?_
      rintro x' M ⟨rfl, rfl⟩
      try simp only [List.cons_append, List.nil_append]
      rw [k0]
      iterate 1
        refine en_call (law_err _) .nil ?_
        rintro x' M ⟨rfl, rfl⟩
        try simp only [List.cons_append, List.nil_append]
      refine en_brf rfl ?_
      have hml := (hok i.toNat (by omega)).len
      refine en_appI (s := t) (xs := (made (hs.take i.toNat)).2) appInt tk (by rw [hml]; simp; omega) fun r hr => ?_
      rw [wrap64 (by omega) (by omega)]
      refine hX (hs.length - (i + 1).toNat) _ _ (by omega) ⟨?_, by dsimp only; omega, by dsimp only; omega, rfl⟩
      dsimp only
      rw [show (i + 1).toNat = i.toNat + 1 by omega, hms]; rfl
    · replace h : ¬ i < (hq.n : Int) := of_decide_eq_false h
      have hi : i.toNat = hs.length := by omega
      rw [hi, hfull]
      have hok1 := hok hs.length (Nat.le_refl _)
      rw [hfull] at hok1
      clear hX
      generalize made hs = md at hok1 ⊢
      obtain ⟨S1, l⟩ := md
      dsimp only at *
      have hll := hok1.len
      refine en_lp (fun m u M => (fun (i : Int) => M = SLc t 1 (l.map i64) :: HeapA p (puts S1 hs l ns i.toNat) cs :: R ∧ 0 ≤ i ∧ i ≤ hs.length ∧ m = hs.length - i.toNat) u.1) hs.length ?_ ?_
      · exact ⟨rfl, by simp, by dsimp only; omega, by simp⟩
      · clear h hi i0 i1 i
        rintro m ⟨(i : Int), ⟨⟩⟩ M ⟨rfl, i0, i1, rfl⟩ X hX
        dsimp only at *
        have hokp := hok1.puts hgood ns
        refine en_br (fun h => ?_) (fun h => ?_)
        · replace h : i < (hq.n : Int) := of_decide_eq_true h
          have hi : i.toNat < hs.length := by omega
          have hh : hs[i.toNat]? = some hs[i.toNat] := List.getElem?_eq_getElem hi
          have hgd := hgood _ (List.getElem_mem hi)
          have hO := hokp i.toNat (by omega)
          have hps := puts_succ (S := S1) (hs := hs) (l := l) (ns := ns) (n := i.toNat)
          rw [getD_hd hh] at hps
          refine en_ixRo hro i0 h fun a0 ha => ?_
          generalize hs[i.toNat] = hd at *
          refine en_ldRg (x := hd.t) ha hro (j := i.toNat * 4) (by rintro b o rfl; simp [fa_mk]) (hcell _ _ hh) ?_
          dsimp only
          obtain ⟨iN, rfl⟩ := Int.eq_ofNat_of_zero_le i0
          simp only [Int.toNat_natCast] at *
          refine en_call (g_words hd hgd t l (by omega) s ns roN hb (by omega) iN (by omega)) tks ?_
          rintro x' M rfl
          try simp only [List.cons_append, List.nil_append]
          have hwl := words_len (h := hd) (l := l) (ns := ns) (i := iN)
          have n0 := hgd.n0
          have n1 := hgd.n1
          generalize words hd l ns iN = ws at *
          generalize puts S1 hs l ns iN = S2 at *
          refine Tr.nlen (s := x') (xs := ws) tk fun hxn => ?_
          refine Tr.take (A := HeapA p S2 cs) tk ?_
          refine en_lp (fun m u M => (fun (k : Int) => M = HeapA p (putN S2 (l.getD iN 0) ws k.toNat) cs :: SLc x' 1 (ws.map i64) :: SLc t 1 (l.map i64) :: R ∧ 0 ≤ k ∧ k ≤ ws.length ∧ m = ws.length - k.toNat) u.1) ws.length ?_ ?_
          · exact ⟨rfl, by simp, by dsimp only; omega, by simp⟩
          · rintro m ⟨(k : Int), ⟨⟩⟩ M ⟨rfl, c0, c1, rfl⟩ Y hY
            dsimp only at *
            refine en_br (fun h3 => ?_) (fun h3 => ?_)
            · replace h3 : k < (x'.n : Int) := of_decide_eq_true h3
              have hO2 := hO.putN hh ws k.toNat (by omega)
              obtain ⟨p0, p1⟩ := hO2.put hh (k := k) c0 (by omega) (ws.getD k.toNat 0)
              refine en_drw (en_getSL (s := t) (xs := l) tk i0 (by omega) ?_)
              refine en_getSL (s := x') (xs := ws) tk c0 (by omega) ?_
              simp only [Int.toNat_natCast]
              refine en_call (object_put p (putN S2 (l.getD iN 0) ws k.toNat) cs hO2.hw (l.getD iN 0) k (ws.getD k.toNat 0)) tks ?_
              rintro x' M ⟨rfl, rfl⟩
              try simp only [List.cons_append, List.nil_append]
              rw [p0]
              iterate 1
                refine en_call (law_err _) .nil ?_
                rintro x' M ⟨rfl, rfl⟩
                try simp only [List.cons_append, List.nil_append]
              refine en_brf rfl ?_
              rw [wrap64 (by omega) (by omega)]
              refine hY (ws.length - (k + 1).toNat) _ _ (by omega) ⟨?_, by dsimp only; omega, by dsimp only; omega, rfl⟩
              dsimp only
              rw [show (k + 1).toNat = k.toNat + 1 by omega, putN_succ, show ((k.toNat : Nat) : Int) = k by omega]
            · replace h3 : ¬ k < (x'.n : Int) := of_decide_eq_false h3
              have : k.toNat = ws.length := by omega
              rw [wrap64 (by omega) (by omega), this]
              refine Tr.drop (A := SLc x' 1 (ws.map i64)) tk ?_
              refine Tr.take (A := SLc t 1 (l.map i64)) tk ?_
              refine hX (hs.length - ((iN : Int) + 1).toNat) _ _ (by omega) ⟨?_, by dsimp only; omega, by dsimp only; omega, rfl⟩
              dsimp only
              rw [show ((iN : Int) + 1).toNat = iN + 1 by omega, hps]; rfl
        · replace h : ¬ i < (hq.n : Int) := of_decide_eq_false h
          have : i.toNat = hs.length := by omega
          rw [this]
          exact en_rets (x := (some ⟨p, 0, none⟩, t, ())) rfl ⟨p, t, rfl, rfl⟩ tks ens

/-- some addresses by numbers -/
def Gr.some1 (l : List Int) (n : Int) : Int := if 0 < l.length ∧ n < 230 then l.getD (n.toNat % l.length) 0 else n - 231
def Gr.some (l ns : List Int) (most : Nat) : List Int := (ns.take most).map (Gr.some1 l)
open Gr in
theorem g_some (q : Slc) (l : List Int) (r1 : RoS ρ q 1 (l.map i64)) (s : Slc) (ns : List Int) (ro : RoS ρ s 1 (ns.map fun x => .int .u8 x)) (hb : ∀ x ∈ ns, 0 ≤ x ∧ x < 256) (most : Nat) (hm : most < 1000) :
    Gl.Spec ρ Try.prog 31 [.slice q.a q.n q.c, .slice s.a s.n s.c, i64 most] [] RS fun r M => M = [SLc r 1 ((Gr.some l ns most).map i64)] := by
  refine Spec.of (fun Q w hh => F.gloaminglaw17.Some.calls q s most hh) fun R => ?_
  unfold F.gloaminglaw17.Some
  try simp only [List.cons_append, List.nil_append]
  have hsn := ro.len8
  have hqn := r1.len
  refine Tr.nilSL 1 ?_
  refine en_lp (fun m u M => (fun (t : Slc) (i : Int) => M = SLc t 1 (((ns.take i.toNat).map (some1 l)).map i64) :: R ∧ 0 ≤ i ∧ i ≤ most ∧ i ≤ ns.length ∧ m = most - i.toNat) u.1 u.2.1) most ?_ ?_
  · exact ⟨rfl, by simp, by dsimp only; omega, by dsimp only; omega, by simp⟩
  · rintro m ⟨(t : Slc), (i : Int), ⟨⟩⟩ M ⟨rfl, i0, i1, i2, rfl⟩ X hX
    dsimp only at *
    have hend : (i = most ∨ i = ns.length) → Tr ρ ρ (SLc t 1 (((ns.take i.toNat).map (some1 l)).map i64) :: R) (ret (.slice t.a t.n t.c)) (SP RS (fun r M => M = [SLc r 1 ((Gr.some l ns most).map i64)]) R) := fun hc => by
      have e : (ns.take i.toNat).map (some1 l) = Gr.some l ns most := by
        unfold Gr.some
        rcases hc with e | e
        · rw [e]; rfl
        · rw [List.take_of_length_le (by omega), List.take_of_length_le (by omega)]
      rw [e]
      exact en_rets (x := t) rfl rfl tks ens
    refine en_br (fun h => ?_) (fun h => hend (.inr (by have : ¬ i < (s.n : Int) := of_decide_eq_false h; omega)))
    replace h : i < (s.n : Int) := of_decide_eq_true h
    refine en_br (fun h2 => ?_) (fun h => hend (.inl (by have : ¬ i < (most : Int) := of_decide_eq_false h; omega)))
    replace h2 : i < most := of_decide_eq_true h2
    have hi : i.toNat < ns.length := by omega
    have hv := u8_getD hb i.toNat
    have htk : ns.take (i + 1).toNat = ns.take i.toNat ++ [ns.getD i.toNat 0] := by rw [show (i + 1).toNat = i.toNat + 1 by omega, take_succ_getD 0 hi]
    have w1 : IntKind.wrap .i64 (i + 1) = i + 1 := wrap64 (by omega) (by omega)
    have happ : ∀ v : Int, v = some1 l (ns.getD i.toNat 0) → Tr ρ ρ (SLc t 1 (((ns.take i.toNat).map (some1 l)).map i64) :: R)
        (nw 3 [.int .i64 v] fun b => opr Try.prog (Builtin.append_ #[44, 44] 44 #[.slice t.a t.n t.c, .slice (some ⟨b, 0, none⟩) 1 1]) (.one (.l .slice)) fun (r12 : Slc) =>
          X (⟨r12.a, r12.n, r12.c⟩, IntKind.wrap .i64 (i + 1), ())) (SP RS (fun r M => M = [SLc r 1 ((Gr.some l ns most).map i64)]) R) := fun v hv => by
      refine en_appI (s := t) (xs := (ns.take i.toNat).map (some1 l)) appInt tk (by simp; omega) fun r hr => ?_
      rw [w1]
      refine hX (most - (i + 1).toNat) _ _ (by omega) ⟨?_, by dsimp only; omega, by dsimp only; omega, by dsimp only; omega, rfl⟩
      dsimp only
      rw [htk, hv, List.map_append (f := some1 l)]; rfl
    generalize hx : ns.getD i.toNat 0 = x at hv happ htk
    have hw : IntKind.wrap .i64 (IntKind.wrap .i64 x - 231) = x - 231 := by rw [wrap64 (n := x) (by omega) (by omega), wrap64 (by omega) (by omega)]
    refine en_br (fun h3 => ?_) (fun h3 => ?_)
    · replace h3 : ((q.n : Nat) : Int) > 0 := of_decide_eq_true h3
      refine en_getU8 ro i0 (by omega) ?_
      rw [hx]
      refine en_br (fun h4 => ?_) (fun h4 => ?_)
      · replace h4 : x < 230 := of_decide_eq_true h4
        refine en_getU8 ro i0 (by omega) ?_
        rw [hx]
        refine en_need (by omega) ?_
        have hlt2 : x.toNat % l.length < l.length := Nat.mod_lt _ (by omega)
        rw [wrap64 (n := x) (by omega) (by omega), show Int.tmod x (q.n : Nat) = ((x.toNat % l.length : Nat) : Int) by rw [hqn, ix_mod hv.1 (by omega)]]
        refine en_getRo r1 (by omega) (by omega) ?_
        rw [Int.toNat_natCast]
        exact happ _ (by unfold some1; rw [if_pos ⟨by omega, h4⟩])
      · replace h4 : ¬ x < 230 := of_decide_eq_false h4
        refine en_getU8 ro i0 (by omega) ?_
        rw [hx, hw]
        exact happ _ (by unfold some1; rw [if_neg (fun h => h4 h.2)])
    · replace h3 : ¬ ((q.n : Nat) : Int) > 0 := of_decide_eq_false h3
      refine en_getU8 ro i0 (by omega) ?_
      rw [hx, hw]
      exact happ _ (by unfold some1; rw [if_neg (fun h => by omega)])

theorem ref_in (s : Slc) (l : List Int) (ro : RoS ρ s 1 (l.map i64)) (hl : l.length < 2 ^ 62) (x : Int) : Gl.Spec ρ Try.prog 33 [.slice s.a s.n s.c, i64 x] [] RB fun r M => r = decide (x ∈ l) ∧ M = [] := by
  refine Spec.of (fun Q w hh => F.gloamingref1.In.calls s x hh) fun R => ?_
  unfold F.gloamingref1.In
  try simp only [List.cons_append, List.nil_append]
  have hsn := ro.len
  refine en_lp (fun m u M => (fun (i : Int) => M = R ∧ 0 ≤ i ∧ i ≤ l.length ∧ m = l.length - i.toNat ∧ x ∉ l.take i.toNat) u.1) l.length ?_ ?_
  · exact ⟨rfl, by simp, by dsimp only; omega, by simp, by simp⟩
  · rintro m ⟨(i : Int), ⟨⟩⟩ M ⟨rfl, i0, i1, rfl, hn⟩ X hX
    dsimp only at *
    refine en_br (fun h => ?_) (fun h => ?_)
    · replace h : i < (s.n : Int) := of_decide_eq_true h
      have hi : i.toNat < l.length := by omega
      refine en_getRo ro i0 (by omega) ?_
      refine en_br (fun h2 => ?_) (fun h2 => ?_)
      · have h2 := eq_of_beq h2
        have hin : x ∈ l := by rw [← h2, List.getD_eq_getElem?_getD, List.getElem?_eq_getElem hi]; exact List.getElem_mem hi
        refine en_rets (x := decide (x ∈ l)) ?_ ⟨rfl, rfl⟩ tks ens
        rw [decide_eq_true hin]; rfl
      · have h2 : l.getD i.toNat 0 ≠ x := by simpa using h2
        rw [wrap64 (by omega) (by omega)]
        refine hX (l.length - (i + 1).toNat) _ _ (by omega) ⟨rfl, by dsimp only; omega, by dsimp only; omega, rfl, ?_⟩
        dsimp only
        rw [show (i + 1).toNat = i.toNat + 1 by omega, take_succ_getD 0 hi, List.mem_append, List.mem_singleton]
        rintro (h | h)
        · exact hn h
        · exact h2 h.symm
    · replace h : ¬ i < (s.n : Int) := of_decide_eq_false h
      rw [List.take_of_length_le (by omega)] at hn
      refine en_rets (x := decide (x ∈ l)) ?_ ⟨rfl, rfl⟩ tks ens
      rw [decide_eq_false hn]; rfl

end Go.Proofs.Ytncpnmpfghppeaa
