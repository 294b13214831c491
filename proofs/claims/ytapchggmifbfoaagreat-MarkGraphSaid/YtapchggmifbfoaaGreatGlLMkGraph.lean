/- MarkGraph. -/
import Derived.Test.YtapchggmifbfoaaGreatGlRefM
import Derived.Test.YtapchggmifbfoaaGreatGlTxMarkGraph
set_option linter.unusedSimpArgs false
set_option linter.unusedVariables false
namespace Go.Proofs.YtapchggmifbfoaaGreat
open Go Go.Gl
variable {ρ0 ρ : FR} {L L' : List Asn} {Post : Value → List Asn → Prop} {T : Tree}

theorem _root_.Go.Gl.u16_wf {a : Int} (h : (Lit.int .u16 a).wf = true) : 0 ≤ a ∧ a < 65536 := by
  simp [Lit.wf, IntKind.min, IntKind.max, IntKind.signed, IntKind.bits] at h
  omega
theorem tr_weak {ρ' : FR} (h0 : Le ρ0 ρ) (hle : Le ρ ρ') (h : Tr ρ0 ρ L T Post) : Tr ρ0 ρ' L T Post := fun _ w hw => h h0 w (hw.weak hle)
theorem en_getBS {M M' : List Asn} {s : Slc} {xs : List Bool} {i : Int} {f : Bool → Tree} (t0 : Take L (SLc s 1 (xs.map bv)) L') (t : Take M (SLc s 1 (xs.map bv)) M') (h0 : 0 ≤ i) (h1 : i < xs.length) (h : Tr ρ0 ρ L (f (xs.getD i.toNat false)) Post) :
    Tr ρ0 ρ L (ix s.a s.n i 1 fun a => ldS (Sat ρ M) (.l .bool) a f) Post := by
  refine Tr.vlen t0 fun hn => ?_
  rw [List.length_map] at hn
  refine en_ixSL t0 h0 (by omega) fun a0 ha => ?_
  intro hle w hw
  refine ⟨xs.getD i.toNat false, fun w' hw' => ?_, h hle w hw⟩
  rcases (hw'.perm t.perm).sl with ⟨g1, _⟩ | ⟨b, off, pre, rest, g1, g2, g3, g4, g5, g6⟩
  · rw [ha] at g1; cases g1
  · rw [ha] at g1
    injection g1 with g1
    obtain ⟨ty, hb⟩ := g6.cl
    rw [g1, fa_mk, Nat.mul_one]
    refine cell_of hb ?_
    rw [List.getElem?_toArray, ← g2, mid_get (by simp; omega)]
    exact getD_bv (by omega)

theorem law_markgraph (s : Slc) (ns : List Int) (z1 : Slc) (v1 : List Int) (z2 : Slc) (v2 : List Int) (n : Int) (hn : 0 ≤ n ∧ n < 65536)
    (ro : RoS ρ s 1 (ns.map fun x => .int .u8 x)) (hb : ∀ x ∈ ns, (Lit.int .u8 x).wf = true) (hl : ns.length < 2 ^ 63) (ro1 : RoS ρ z1 1 (v1.map fun x => .int .u8 x)) (hb1 : ∀ x ∈ v1, (Lit.int .u8 x).wf = true) (hl1 : v1.length < 2 ^ 63) (ro2 : RoS ρ z2 1 (v2.map fun x => .int .u8 x)) (hb2 : ∀ x ∈ v2, (Lit.int .u8 x).wf = true) (hl2 : v2.length < 2 ^ 63) :
    Gl.Spec ρ Tryz.prog 10 [.slice s.a s.n s.c, .slice z1.a z1.n z1.c, .slice z2.a z2.n z2.c, .int .u16 n] [] RB fun r M => r = true ∧ M = [] := by
  refine Spec.of (fun Q w h => F.gloaminglaw17.MarkGraph.calls s z1 z2 n h) fun R => ?_
  unfold F.gloaminglaw17.MarkGraph
  try simp only [List.cons_append, List.nil_append]
  have hb := u8_all hb
  have hb1 := u8_all hb1
  have hb2 := u8_all hb2
  refine en_call (g_graph s ns ro hb hl) tks ?_
  rintro x' M ⟨p, q, rfl, rfl⟩
  try simp only [List.cons_append, List.nil_append]
  refine en_call (g_model s ns ro hb hl) tks ?_
  rintro x' M ⟨p2, q2, lc, hcs, hln, rfl, rfl⟩
  try simp only [List.cons_append, List.nil_append]
  refine en_brf rfl ?_
  have hok := Gr.graph_ok hb
  have hgood := Gr.heads_good hb
  have hhl := Gr.heads_len (ns := ns)
  generalize Gr.heads ns = hs at hok hhl hgood
  generalize (Gr.graph ns).2 = l at *
  generalize (Gr.graph ns).1 = G at *
  have hll := hok.len
  have hlen := hok.hw.wf.len
  have hmost := hok.hw.wf.most
  have hobj := fun a => hok.obj (a := a)
  have hwG := hok.hw
  rw [← hcs] at hwG
  have hkn := hok.kn hgood
  rw [← hcs] at hkn
  have hcls : ∀ c ∈ csO lc, c.2.length ≤ 1023 := fun c hc => by
    rw [hcs] at hc
    have : c = (3, [0, 2]) := by simpa [Gr.cs] using hc
    rw [this]; decide
  refine en_need (by decide) ?_
  rw [wrap64 (n := n) (by omega) (by omega), Int.tmod_eq_emod_of_nonneg hn.1, wrap64 (n := 1 + n % 64) (by omega) (by omega)]
  have hk : 1 ≤ 1 + n % 64 ∧ 1 + n % 64 ≤ 4096 := by omega
  generalize 1 + n % 64 = k at *
  refine en_call (mark_new p G Gr.cs hok.hw k hk.1 hk.2) tks ?_
  rintro x' M ⟨t, rfl, rfl⟩
  try simp only [List.cons_append, List.nil_append]
  refine en_brf rfl (en_nn (TrA.op (t := t) tk fun pb ps => ?_))
  refine en_ld (k := .ptr) (b := t) (off := 0) (x := some ⟨pb, 0, none⟩) (by rw [fa_mk]) tk rfl ?_
  refine Tr.close tks (TrA.cl (t := t) (ph := p) (pb := pb) (ps := ps) (m := (Mk.st0 G.ws.length).m) (stk := (Mk.st0 G.ws.length).stk) (room := k.toNat) (over := (Mk.st0 G.ws.length).over) (deep := (Mk.st0 G.ws.length).deep)) ?_
  refine en_brf rfl ?_
  iterate 1
    refine en_call (law_err _) .nil ?_
    rintro x' M ⟨rfl, rfl⟩
    try simp only [List.cons_append, List.nil_append]
  refine en_brf rfl ?_
  refine en_call (rm_new p2 G lc hok.hw.wf) tks ?_
  rintro r7 M ⟨h7, rfl⟩
  try simp only [List.cons_append, List.nil_append]
  refine Tr.keepSL (s := q) tk fun ρ1 hle1 hr1 => ?_
  refine Tr.drop (A := SLc q2 1 (l.map i64)) tk ?_
  have ro1 := ro1.le hle1
  have ro2 := ro2.le hle1
  have n1 := hr1.len
  refine Tr.take (A := RHp p2 G lc) tk (Tr.take (A := SLc r7 1 ((Mk.st0 G.ws.length).m.map bv)) tk (Tr.take (A := HeapA p G Gr.cs) tk (Tr.take (A := TrA t p k.toNat (Mk.st0 G.ws.length)) tk ?_)))
  refine en_lp (fun m u M => (fun i : Int => ∃ q1, M = TrA t p k.toNat q1 :: HeapA p G Gr.cs :: SLc r7 1 (q1.m.map bv) :: RHp p2 G lc :: R ∧ 0 ≤ i ∧ i ≤ 2 ∧ m = 2 - i.toNat ∧ Mk.Rest G Gr.cs k.toNat q1) u.1) 2 ?_ ?_
  · exact ⟨Mk.st0 G.ws.length, rfl, by simp, by simp, by simp, Mk.rest0⟩
  · rintro m ⟨(i : Int), ⟨⟩⟩ M ⟨q1, rfl, i0, i1, rfl, H1⟩ X hX
    dsimp only at i0 i1 hX ⊢
    refine en_br (fun h => ?_) (fun h => ?_)
    · replace h : i < 2 := of_decide_eq_true h
      refine en_call (g_some q l hr1 z1 v1 ro1 hb1 6 (by decide)) tks ?_
      rintro rz M rfl
      try simp only [List.cons_append, List.nil_append]
      have hrs : (Gr.some l v1 6).length ≤ 6 := by unfold Gr.some; simp; omega
      generalize Gr.some l v1 6 = rs at hrs ⊢
      refine en_br (fun h2 => ?g1) (fun h2 => ?g2)
      case' g1 =>
        refine Tr.drop (A := SLc rz 1 (rs.map i64)) tk ?_
        clear hrs rs rz
        refine en_call (g_some q l hr1 z2 v2 ro2 hb2 4 (by decide)) tks ?_
        rintro rz M rfl
        try simp only [List.cons_append, List.nil_append]
        have hrs : (Gr.some l v2 4).length ≤ 6 := by unfold Gr.some; simp; omega
        generalize Gr.some l v2 4 = rs at hrs ⊢
      all_goals
        refine Tr.keepSL (s := rz) tk fun ρ3 hle3 hrz => ?_
        refine en_call (mark_mark t p k.toNat (by omega) G Gr.cs hok.hw q1 H1 rz rs hrz (by omega)) tks ?_
        rintro x' M ⟨q3, rfl, H3, hq3⟩
        try simp only [List.cons_append, List.nil_append]
        refine en_call (rm_mark p2 G lc hwG hkn hln hcls r7 q1.m (by rw [hcs]; exact H1.closed) rz rs hrz (by omega)) tks ?_
        rintro x' M ⟨m3, rfl, hC, hm3⟩
        try simp only [List.cons_append, List.nil_append]
        have c3 := H3.closed.len
        have d3 := hC.len
        have e : m3 = q3.m := Mk.has_eq (by omega) fun a => by rw [hq3, hm3, hcs]
        rw [e]
        refine en_call (mark_all t p k.toNat q3 (by omega)) tks ?_
        rintro r14 M rfl
        try simp only [List.cons_append, List.nil_append]
        refine en_call (rm_all r7 q3.m (by omega)) tks ?_
        rintro r15 M rfl
        try simp only [List.cons_append, List.nil_append]
        have hal := Mk.all_len (m := q3.m)
        refine Tr.keepSL (s := r14) tk fun ρ4 hle4 hr14 => ?_
        refine Tr.keepSL (s := r15) tk fun ρ5 hle5 hr15 => ?_
        refine en_call (same_ints r14 r15 _ _ (hr14.le hle5) hr15 (by omega)) .nil ?_
        rintro x' M ⟨rfl, rfl⟩
        try simp only [List.cons_append, List.nil_append]
        have d0 := H3.deep0
        have d1 := H3.deep1
        refine en_brf (by simp) ?_
        refine en_call (mark_deep t p k.toNat q3) tks ?_
        rintro x' M ⟨rfl, rfl⟩
        try simp only [List.cons_append, List.nil_append]
        refine en_brf (decide_eq_false (show ¬ q3.deep > k by omega)) ?_
        refine en_call (mark_deep t p k.toNat q3) tks ?_
        rintro x' M ⟨rfl, rfl⟩
        try simp only [List.cons_append, List.nil_append]
        refine en_brf (decide_eq_false (show ¬ q3.deep < 0 by omega)) ?_
        rw [wrap64 (n := i + 1) (by omega) (by omega)]
        refine Tr.take (A := RHp p2 G lc) tk (Tr.take (A := SLc r7 1 (q3.m.map bv)) tk (Tr.take (A := HeapA p G Gr.cs) tk (Tr.take (A := TrA t p k.toNat q3) tk ?_)))
        exact tr_weak hle1 ((hle3.trans hle4).trans hle5) (hX (2 - (i + 1).toNat) _ _ (by omega) ⟨q3, rfl, by dsimp only; omega, by dsimp only; omega, rfl, H3⟩)
    · clear hX h i0 i1 i
      have c1 := H1.closed.len
      refine en_lp (fun m u M => (fun i : Int => M = TrA t p k.toNat q1 :: HeapA p G Gr.cs :: SLc r7 1 (q1.m.map bv) :: RHp p2 G lc :: R ∧ 0 ≤ i ∧ i ≤ l.length ∧ m = l.length - i.toNat) u.1) l.length ?_ ?_
      · exact ⟨rfl, by simp, by dsimp only; omega, by simp⟩
      · rintro m ⟨(i : Int), ⟨⟩⟩ M ⟨rfl, i0, i1, rfl⟩ X hX
        dsimp only at i0 i1 hX ⊢
        refine en_br (fun h => ?_) (fun h => ?_)
        · replace h : i < (q.n : Int) := of_decide_eq_true h
          have hi : i.toNat < l.length := by omega
          have hx : l.getD i.toNat 0 ∈ l := by rw [List.getD_eq_getElem?_getD, List.getElem?_eq_getElem hi]; exact List.getElem_mem hi
          obtain ⟨g1, g2⟩ := Mk.obj_in hok.hw ((hobj _).mpr hx)
          refine en_drw (en_held [SLc r7 1 (q1.m.map bv)] tks ?_)
          refine en_getRoS hr1 i0 (by omega) ?_
          refine en_getRoS hr1 i0 (by omega) ?_
          generalize l.getD i.toNat 0 = x at *
          refine en_getBS (s := r7) (xs := q1.m) tk tk g1 (by omega) ?_
          refine en_call (mark_marked t p k.toNat q1 x) tks ?_
          rintro x' M ⟨rfl, rfl⟩
          try simp only [List.cons_append, List.nil_append]
          refine en_chk tks ?_
          have e : Sp.has q1.m x = q1.m.getD x.toNat false := by unfold Sp.has; rw [decide_eq_true g1, Bool.true_and]
          rw [e]
          refine en_brf (by simp) ?_
          rw [wrap64 (n := i + 1) (by omega) (by omega)]
          exact hX (l.length - (i + 1).toNat) _ _ (by omega) ⟨rfl, by dsimp only; omega, by dsimp only; omega, rfl⟩
        · obtain ⟨ho1, ho2⟩ := objs_small hok.hw
          refine en_call (object_objects p G Gr.cs hok.hw) tks ?_
          rintro s6 M ⟨rfl, hn6⟩
          try simp only [List.cons_append, List.nil_append]
          refine en_call (rh_objects p2 G lc hwG) tks ?_
          rintro s7 M ⟨rfl, hn7⟩
          try simp only [List.cons_append, List.nil_append]
          refine Tr.keepObs (s := s6) (os := Ob.objs G) tk fun ρ5 hle5 hobs => ?_
          refine Tr.keepObs (s := s7) (os := Ob.objs G) tk fun ρ6 hle6 hobs2 => ?_
          refine en_call (same_objs s6 s7 (Ob.objs G) (RoObs.le hobs hle6) hobs2 ho1 ho2) .nil ?_
          rintro x' M ⟨rfl, rfl⟩
          try simp only [List.cons_append, List.nil_append]
          refine en_brt rfl ?_
          refine en_call (mark_marked t p k.toNat q1 0) tks ?_
          rintro x' M ⟨rfl, rfl⟩
          try simp only [List.cons_append, List.nil_append]
          have e0 : Sp.has q1.m 0 = false := by
            cases h0 : Sp.has q1.m 0 with
            | false => rfl
            | true => exact (Mk.obj_zero hok.hw (H1.closed.obj 0 h0)).elim
          refine en_brt (by rw [e0]; rfl) ?_
          refine en_call (mark_marked t p k.toNat q1 (-1)) tks ?_
          rintro x' M ⟨rfl, rfl⟩
          try simp only [List.cons_append, List.nil_append]
          refine en_brt (by rw [show Sp.has q1.m (-1) = false from rfl]; rfl) ?_
          refine en_call (law_awake17) tks ?_
          rintro x' M ⟨rfl, rfl⟩
          try simp only [List.cons_append, List.nil_append]
          exact en_rets (x := true) rfl ⟨rfl, rfl⟩ tks ens

end Go.Proofs.YtapchggmifbfoaaGreat
