/- MarkTwice. -/
import Derived.Test.YtapchggmifbfoaaGreatGlMark3
import Derived.Test.YtapchggmifbfoaaGreatGlTxMarkTwice
set_option linter.unusedSimpArgs false
set_option linter.unusedVariables false
namespace Go.Proofs.YtapchggmifbfoaaGreat
open Go Go.Gl
variable {ρ0 ρ : FR} {L L' : List Asn} {Post : Value → List Asn → Prop} {T : Tree}

theorem law_marktwice (s : Slc) (ns : List Int) (z1 : Slc) (v1 : List Int) (z2 : Slc) (v2 : List Int) (n m : Int) (hn : 0 ≤ n ∧ n < 256) (hm : 0 ≤ m ∧ m < 256)
    (ro : RoS ρ s 1 (ns.map fun x => .int .u8 x)) (hb : ∀ x ∈ ns, (Lit.int .u8 x).wf = true) (hl : ns.length < 2 ^ 63) (ro1 : RoS ρ z1 1 (v1.map fun x => .int .u8 x)) (hb1 : ∀ x ∈ v1, (Lit.int .u8 x).wf = true) (hl1 : v1.length < 2 ^ 63) (ro2 : RoS ρ z2 1 (v2.map fun x => .int .u8 x)) (hb2 : ∀ x ∈ v2, (Lit.int .u8 x).wf = true) (hl2 : v2.length < 2 ^ 63) :
    Gl.Spec ρ Tryz.prog 6 [.slice s.a s.n s.c, .slice z1.a z1.n z1.c, .slice z2.a z2.n z2.c, .int .u8 n, .int .u8 m] [] RB fun r M => r = true ∧ M = [] := by
  refine Spec.of (fun Q w h => F.gloaminglaw17.MarkTwice.calls s z1 z2 n m h) fun R => ?_
  unfold F.gloaminglaw17.MarkTwice
  try simp only [List.cons_append, List.nil_append]
  have hb := u8_all hb
  have hb1 := u8_all hb1
  have hb2 := u8_all hb2
  refine en_call (g_graph s ns ro hb hl) tks ?_
  rintro x' M ⟨p, q, rfl, rfl⟩
  try simp only [List.cons_append, List.nil_append]
  have hok := Gr.graph_ok hb
  have hhl := Gr.heads_len (ns := ns)
  generalize Gr.heads ns = hs at hok hhl
  generalize (Gr.graph ns).2 = l at *
  generalize (Gr.graph ns).1 = G at *
  have hlen := hok.hw.wf.len
  have hmost := hok.hw.wf.most
  refine en_need (by decide) ?_
  rw [wrap64 (n := n) (by omega) (by omega), Int.tmod_eq_emod_of_nonneg hn.1, wrap64 (n := 1 + n % 5) (by omega) (by omega), wrap64 (n := m) (by omega) (by omega), wrap64 (n := m * 16) (by omega) (by omega), wrap64 (n := 1 + m * 16) (by omega) (by omega)]
  have hk : 1 ≤ 1 + n % 5 ∧ 1 + n % 5 ≤ 4096 := by omega
  have hk2 : 1 ≤ 1 + m * 16 ∧ 1 + m * 16 ≤ 4096 := by omega
  generalize 1 + n % 5 = k at *
  generalize 1 + m * 16 = k2 at *
  refine en_call (mark_new p G Gr.cs hok.hw k hk.1 hk.2) tks ?_
  rintro x' M ⟨t, rfl, rfl⟩
  try simp only [List.cons_append, List.nil_append]
  refine en_call (mark_new p G Gr.cs hok.hw k2 hk2.1 hk2.2) tks ?_
  rintro x' M ⟨u, rfl, rfl⟩
  try simp only [List.cons_append, List.nil_append]
  refine en_brf rfl (en_brf rfl (en_brf rfl (en_nn (TrA.op (t := t) tk fun pb ps => ?_))))
  refine en_ld (k := .ptr) (b := t) (off := 0) (x := some ⟨pb, 0, none⟩) (by rw [fa_mk]) tk rfl ?_
  refine Tr.close tks (TrA.cl (t := t) (ph := p) (pb := pb) (ps := ps) (m := (Mk.st0 G.ws.length).m) (stk := (Mk.st0 G.ws.length).stk) (room := k.toNat) (over := (Mk.st0 G.ws.length).over) (deep := (Mk.st0 G.ws.length).deep)) ?_
  refine en_brf rfl (en_nn (TrA.op (t := u) tk fun pb ps => ?_))
  refine en_ld (k := .ptr) (b := u) (off := 0) (x := some ⟨pb, 0, none⟩) (by rw [fa_mk]) tk rfl ?_
  refine Tr.close tks (TrA.cl (t := u) (ph := p) (pb := pb) (ps := ps) (m := (Mk.st0 G.ws.length).m) (stk := (Mk.st0 G.ws.length).stk) (room := k2.toNat) (over := (Mk.st0 G.ws.length).over) (deep := (Mk.st0 G.ws.length).deep)) ?_
  refine en_brf rfl ?_
  iterate 1
    refine en_call (law_err _) .nil ?_
    rintro x' M ⟨rfl, rfl⟩
    try simp only [List.cons_append, List.nil_append]
  iterate 1
    refine en_call (law_err _) .nil ?_
    rintro x' M ⟨rfl, rfl⟩
    try simp only [List.cons_append, List.nil_append]
  refine en_brf rfl ?_
  refine Tr.keepSL (s := q) tk fun ρ1 hle1 hr1 => ?_
  refine en_call (g_some q l hr1 z1 v1 (ro1.le hle1) hb1 5 (by decide)) tks ?_
  rintro s1 M rfl
  try simp only [List.cons_append, List.nil_append]
  have hs1 : (Gr.some l v1 5).length ≤ 5 := by unfold Gr.some; simp; omega
  refine Tr.keepSL (s := s1) tk fun ρ2 hle2 hr2 => ?_
  refine en_call (g_some q l (hr1.le hle2) z2 v2 ((ro2.le hle1).le hle2) hb2 5 (by decide)) tks ?_
  rintro s2 M rfl
  try simp only [List.cons_append, List.nil_append]
  have hs2 : (Gr.some l v2 5).length ≤ 5 := by unfold Gr.some; simp; omega
  refine Tr.keepSL (s := s2) tk fun ρ3 hle3 hr3 => ?_
  have hr2 := hr2.le hle3
  generalize Gr.some l v1 5 = x at *
  generalize Gr.some l v2 5 = y at *
  refine en_call (mark_mark t p k.toNat (by omega) G Gr.cs hok.hw (Mk.st0 G.ws.length) Mk.rest0 s1 x hr2 (by omega)) tks ?_
  rintro x' M ⟨q1, rfl, H1, hq1⟩
  try simp only [List.cons_append, List.nil_append]
  refine en_call (mark_mark t p k.toNat (by omega) G Gr.cs hok.hw q1 H1 s2 y hr3 (by omega)) tks ?_
  rintro x' M ⟨q2, rfl, H2, hq2⟩
  try simp only [List.cons_append, List.nil_append]
  refine en_nw fun b14 => ?_
  refine Tr.imp (A := blk b14 []) (A' := SLc ⟨some ⟨b14, 0, none⟩, 0, 0⟩ 1 (([] : List Int).map i64)) tk (SLc.emp b14 1) ?_
  refine en_appS (s := ⟨some ⟨b14, 0, none⟩, 0, 0⟩) (x := s2) (xs := []) (ys := y) appInt tk (Rd.ro hr3) (by simp; omega) fun r15 h15 => ?_
  refine en_appS (s := r15) (x := s1) (xs := [] ++ y) (ys := x) appInt tk (Rd.ro hr2) (by simp; omega) fun r16 h16 => ?_
  rw [List.nil_append]
  refine Tr.keepSL (s := r16) tk fun ρ4 hle4 hr4 => ?_
  refine en_call (mark_mark u p k2.toNat (by omega) G Gr.cs hok.hw (Mk.st0 G.ws.length) Mk.rest0 r16 (y ++ x) hr4 (by simp; omega)) tks ?_
  rintro x' M ⟨q3, rfl, H3, hq3⟩
  try simp only [List.cons_append, List.nil_append]
  have c2 := H2.closed.len
  have c3 := H3.closed.len
  refine en_call (mark_all t p k.toNat q2 (by omega)) tks ?_
  rintro r18 M rfl
  try simp only [List.cons_append, List.nil_append]
  refine en_call (mark_mark t p k.toNat (by omega) G Gr.cs hok.hw q2 H2 s1 x (hr2.le hle4) (by omega)) tks ?_
  rintro x' M ⟨q4, rfl, H4, hq4⟩
  try simp only [List.cons_append, List.nil_append]
  refine en_call (mark_mark t p k.toNat (by omega) G Gr.cs hok.hw q4 H4 ⟨none, 0, 0⟩ [] RoS.nil1 (by simp)) tks ?_
  rintro x' M ⟨q5, rfl, H5, hq5⟩
  try simp only [List.cons_append, List.nil_append]
  have c5 := H5.closed.len
  have e3 : q3.m = q2.m := Mk.has_eq (by omega) fun a => by
    rw [hq3, hq2, hq1, Mk.has0, Mk.rch_app]
    constructor
    · rintro (h | h | h)
      · cases h
      · exact .inr h
      · exact .inl (.inr h)
    · rintro ((h | h) | h)
      · cases h
      · exact .inr (.inr h)
      · exact .inr (.inl h)
  have e5 : q5.m = q2.m := Mk.has_eq (by omega) fun a => by
    rw [hq5, hq4]
    constructor
    · rintro ((h | h) | h)
      · exact h
      · rw [hq2, hq1]; exact .inl (.inr h)
      · exact (Mk.rch_nil h).elim
    · exact fun h => .inl (.inl h)
  refine en_call (mark_all u p k2.toNat q3 (by omega)) tks ?_
  rintro r21 M rfl
  try simp only [List.cons_append, List.nil_append]
  rw [e3]
  have hal := Mk.all_len (m := q2.m)
  have hac := Mk.all_count q2.m
  refine Tr.keepSL (s := r21) tk fun ρ5 hle5 hr21 => ?_
  refine Tr.keepSL (s := r18) tk fun ρ6 hle6 hr18 => ?_
  refine en_call (same_ints r18 r21 _ _ hr18 (hr21.le hle6) (by omega)) .nil ?_
  rintro x' M ⟨rfl, rfl⟩
  try simp only [List.cons_append, List.nil_append]
  refine en_brt (by simp) ?_
  refine en_call (mark_all t p k.toNat q5 (by omega)) tks ?_
  rintro r23 M rfl
  try simp only [List.cons_append, List.nil_append]
  rw [e5]
  refine Tr.keepSL (s := r23) tk fun ρ7 hle7 hr23 => ?_
  refine en_call (same_ints r23 r18 _ _ hr23 (hr18.le hle7) (by omega)) .nil ?_
  rintro x' M ⟨rfl, rfl⟩
  try simp only [List.cons_append, List.nil_append]
  refine en_brt (by simp) (en_nn (TrA.op (t := t) tk fun pb ps => ?_))
  refine en_ld (k := .ptr) (b := t) (off := 0) (x := some ⟨pb, 0, none⟩) (by rw [fa_mk]) tk rfl ?_
  refine en_call (bits_count pb q5.m (by omega)) tks ?_
  rintro x' M ⟨rfl, rfl⟩
  try simp only [List.cons_append, List.nil_append]
  have h18 := hr18.len
  refine en_brt (beq_iff_eq.2 (show ((q5.m.count true : Nat) : Int) = ((r18.n : Nat) : Int) by rw [e5, h18, hac])) ?_
  refine en_call (law_awake17) tks ?_
  rintro x' M ⟨rfl, rfl⟩
  try simp only [List.cons_append, List.nil_append]
  exact en_rets (x := true) rfl ⟨rfl, rfl⟩ tks ens

end Go.Proofs.YtapchggmifbfoaaGreat
