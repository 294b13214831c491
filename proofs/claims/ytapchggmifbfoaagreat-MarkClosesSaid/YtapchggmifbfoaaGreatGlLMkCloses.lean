/- MarkCloses. -/
import Derived.Test.YtapchggmifbfoaaGreatGlMark3
import Derived.Test.YtapchggmifbfoaaGreatGlTxMarkCloses
set_option linter.unusedSimpArgs false
set_option linter.unusedVariables false
namespace Go.Proofs.YtapchggmifbfoaaGreat
open Go Go.Gl
variable {ρ0 ρ : FR} {L L' : List Asn} {Post : Value → List Asn → Prop} {T : Tree}

theorem Mk.mem_kids {S : Spc} {cs : List Cls} {a b : Int} : b ∈ Mk.kids S cs a ↔ ∃ f ∈ Ob.refs S cs a, (Ob.get S a f).2 = 0 ∧ (Ob.get S a f).1 = b := by
  unfold Mk.kids
  rw [List.mem_filterMap]
  constructor
  · rintro ⟨f, hf, h⟩
    unfold Mk.kid at h
    split at h
    · rename_i h0; injection h with h; exact ⟨f, hf, h0, h⟩
    · cases h
  · rintro ⟨f, hf, h0, h⟩
    exact ⟨f, hf, by unfold Mk.kid; rw [if_pos h0, h]⟩
theorem Mk.rch_by {S : Spc} {cs : List Cls} {R : List Int} {b : Int} (h : Mk.Rch S cs R b) : b ∈ R ∨ ∃ a, Mk.Rch S cs R a ∧ a ≠ b ∧ b ∈ Mk.kids S cs a := by
  induction h with
  | root h _ => exact .inl h
  | @step a b ha hb _ ih =>
    by_cases he : a = b
    · rw [← he]; exact ih
    · exact .inr ⟨a, ha, he, hb⟩
theorem Gr.OK.refs_in {S : Spc} {hs : List Hd} {l : List Int} (H : Gr.OK S hs l) (hg : ∀ h ∈ hs, Gr.Good h) {a : Int} (ha : a ∈ l) : ∀ f ∈ Ob.refs S Gr.cs a, (Ob.get S a f).2 = 0 := by
  obtain ⟨i, hi⟩ := List.mem_iff_getElem?.mp ha
  have hlt := getElem?_lt hi
  rw [H.len] at hlt
  have h2 := H.head i _ (List.getElem?_eq_getElem hlt)
  have hgd := hg _ (List.getElem_mem hlt)
  rw [show l.getD i 0 = a by rw [List.getD_eq_getElem?_getD, hi]; rfl] at h2
  generalize hs[i] = h at h2 hgd
  intro f hf
  have hb : 0 ≤ f ∧ f < h.n := by
    unfold Ob.refs at hf
    rw [h2] at hf
    dsimp only at hf
    have hm := hgd.may
    split at hf
    · rename_i hk
      unfold Ob.may at hm
      split at hm
      · cases hm
      · rw [if_neg (fun g => g hk)] at hm
        unfold Sp.clsAt at hf hm
        by_cases hc : 1 ≤ h.c ∧ h.c ≤ ((Gr.cs.length : Nat) : Int)
        · rw [if_pos hc] at hm hf
          have hc1 : h.c = 1 := by
            have : ((Gr.cs.length : Nat) : Int) = 1 := rfl
            omega
          rw [hc1] at hf hm
          have e : Gr.cs[((1 : Int) - 1).toNat]? = Option.some (3, [0, 2]) := rfl
          rw [e] at hm hf
          dsimp only at hm hf
          have hn3 : h.n = 3 := by
            split at hm
            · cases hm
            · rename_i h3; exact (Classical.not_not.mp h3).symm
          simp at hf
          omega
        · rw [if_neg hc] at hm
          cases hm
    · split at hf
      · unfold Sp.upto at hf
        obtain ⟨j, hj, rfl⟩ := List.mem_map.mp hf
        rw [List.mem_range] at hj
        omega
      · split at hf
        · rename_i h4
          have := hgd.rf h4
          simp at hf
          omega
        · cases hf
  rw [Ob.get_ok h2 hb.1 hb.2]
theorem en_getSLS' {M M' : List Asn} {s : Slc} {xs : List Int} {i : Int} {f : Int → Tree} (t0 : Take L (SLc s 1 (xs.map i64)) L') (t : Take M (SLc s 1 (xs.map i64)) M') (h0 : 0 ≤ i) (h1 : i < xs.length) (h : Tr ρ0 ρ L (f (xs.getD i.toNat 0)) Post) :
    Tr ρ0 ρ L (ix s.a s.n i 1 fun a => ldS (Sat ρ M) (.l (.int .i64)) a f) Post := by
  refine Tr.nlen t0 fun hn => ?_
  refine en_ixSL t0 h0 (by omega) fun a0 ha => ?_
  intro hle w hw
  refine ⟨xs.getD i.toNat 0, fun w' hw' => ?_, h hle w hw⟩
  rcases (hw'.perm t.perm).sl with ⟨g1, _⟩ | ⟨b, off, pre, rest, g1, g2, g3, g4, g5, g6⟩
  · rw [ha] at g1; cases g1
  · rw [ha] at g1
    injection g1 with g1
    obtain ⟨ty, hb⟩ := g6.cl
    rw [g1, fa_mk, Nat.mul_one]
    refine cell_of hb ?_
    rw [List.getElem?_toArray, ← g2, mid_get (by simp; omega)]
    exact getD_map (by omega)
/-! ### bits -/
theorem law_markcloses (s : Slc) (ns : List Int) (z1 : Slc) (v1 : List Int) (n : Int) (hn : 0 ≤ n ∧ n < 256)
    (ro : RoS ρ s 1 (ns.map fun x => .int .u8 x)) (hb : ∀ x ∈ ns, (Lit.int .u8 x).wf = true) (hl : ns.length < 2 ^ 63) (ro1 : RoS ρ z1 1 (v1.map fun x => .int .u8 x)) (hb1 : ∀ x ∈ v1, (Lit.int .u8 x).wf = true) (hl1 : v1.length < 2 ^ 63) :
    Gl.Spec ρ Tryz.prog 7 [.slice s.a s.n s.c, .slice z1.a z1.n z1.c, .int .u8 n] [] RB fun r M => r = true ∧ M = [] := by
  refine Spec.of (fun Q w h => F.gloaminglaw17.MarkCloses.calls s z1 n h) fun R => ?_
  unfold F.gloaminglaw17.MarkCloses
  try simp only [List.cons_append, List.nil_append]
  have hb := u8_all hb
  have hb1 := u8_all hb1
  refine en_call (g_graph s ns ro hb hl) tks ?_
  rintro x' M ⟨p, q, rfl, rfl⟩
  try simp only [List.cons_append, List.nil_append]
  have hok := Gr.graph_ok hb
  have hgood := Gr.heads_good hb
  have hhl := Gr.heads_len (ns := ns)
  generalize Gr.heads ns = hs at hok hhl hgood
  generalize (Gr.graph ns).2 = l at *
  generalize (Gr.graph ns).1 = G at *
  have hll := hok.len
  have hlen := hok.hw.wf.len
  have hmost := hok.hw.wf.most
  have hobj := fun a => hok.obj (a := a)
  have hnd : l.Nodup := hok.each.nodup_iff.mp ((Sp.each_sorted hok.hw.wf).imp fun h => Int.ne_of_lt h)
  have hrefs := fun a ha => hok.refs_in hgood (a := a) ha
  have hrl := refs_len hok.hw
  refine en_need (by decide) ?_
  rw [wrap64 (n := n) (by omega) (by omega), Int.tmod_eq_emod_of_nonneg hn.1, wrap64 (n := 1 + n % 40) (by omega) (by omega)]
  have hk : 1 ≤ 1 + n % 40 ∧ 1 + n % 40 ≤ 4096 := by omega
  generalize 1 + n % 40 = k at *
  refine en_call (mark_new p G Gr.cs hok.hw k hk.1 hk.2) tks ?_
  rintro x' M ⟨t, rfl, rfl⟩
  try simp only [List.cons_append, List.nil_append]
  refine en_brf rfl (en_brf rfl (en_nn (TrA.op (t := t) tk fun pb ps => ?_)))
  refine en_ld (k := .ptr) (b := t) (off := 0) (x := some ⟨pb, 0, none⟩) (by rw [fa_mk]) tk rfl ?_
  refine Tr.close tks (TrA.cl (t := t) (ph := p) (pb := pb) (ps := ps) (m := (Mk.st0 G.ws.length).m) (stk := (Mk.st0 G.ws.length).stk) (room := k.toNat) (over := (Mk.st0 G.ws.length).over) (deep := (Mk.st0 G.ws.length).deep)) ?_
  refine en_brf rfl ?_
  iterate 1
    refine en_call (law_err _) .nil ?_
    rintro x' M ⟨rfl, rfl⟩
    try simp only [List.cons_append, List.nil_append]
  refine en_brf rfl ?_
  refine Tr.keepSL (s := q) tk fun ρ1 hle1 hr1 => ?_
  refine en_call (g_some q l hr1 z1 v1 (ro1.le hle1) hb1 5 (by decide)) tks ?_
  rintro s6 M rfl
  try simp only [List.cons_append, List.nil_append]
  have hs1 : (Gr.some l v1 5).length ≤ 5 := by unfold Gr.some; simp; omega
  refine Tr.keepSL (s := s6) tk fun ρ2 hle2 hr2 => ?_
  have hr1 := hr1.le hle2
  generalize Gr.some l v1 5 = som at *
  refine en_call (mark_mark t p k.toNat (by omega) G Gr.cs hok.hw (Mk.st0 G.ws.length) Mk.rest0 s6 som hr2 (by omega)) tks ?_
  rintro x' M ⟨q1, rfl, H1, hq1⟩
  try simp only [List.cons_append, List.nil_append]
  have hcl := H1.closed
  have hm : ∀ a, Sp.has q1.m a = true ↔ Mk.Rch G Gr.cs som a := fun a => by rw [hq1, Mk.has0]; simp
  clear hq1
  have n1 := hr1.len
  have n2 := hr2.len
  have hgl : ∀ i, i < l.length → l.getD i 0 ∈ l := fun i hi => by rw [List.getD_eq_getElem?_getD, List.getElem?_eq_getElem hi]; exact List.getElem_mem hi
  refine en_lp (fun m u M => (fun i : Int => M = TrA t p k.toNat q1 :: HeapA p G Gr.cs :: R ∧ 0 ≤ i ∧ i ≤ l.length ∧ m = l.length - i.toNat) u.1) l.length ?_ ?_
  · exact ⟨rfl, by simp, by dsimp only; omega, by simp⟩
  · rintro m ⟨(i : Int), ⟨⟩⟩ M ⟨rfl, i0, i1, rfl⟩ X hX
    dsimp only at *
    refine en_br (fun h => ?_) (fun h => ?_)
    · replace h : i < (q.n : Int) := of_decide_eq_true h
      have hi : i.toNat < l.length := by omega
      have hx := hgl i.toNat hi
      refine en_getRo hr1 i0 (by omega) ?_
      refine en_call (mark_marked t p k.toNat q1 (l.getD i.toNat 0)) tks ?_
      rintro x' M ⟨rfl, rfl⟩
      try simp only [List.cons_append, List.nil_append]
      rw [wrap64 (n := i + 1) (by omega) (by omega)]
      have hgo : Tr ρ ρ2 (TrA t p k.toNat q1 :: HeapA p G Gr.cs :: R) (X (i + 1, ())) (SP RB (fun r M => r = true ∧ M = []) R) := hX (l.length - (i + 1).toNat) (i + 1, ()) _ (by omega) ⟨rfl, by dsimp only; omega, by dsimp only; omega, rfl⟩
      refine en_br (fun h2 => hgo) (fun h2 => ?_)
      have h2 : Sp.has q1.m (l.getD i.toNat 0) = true := by simpa using h2
      refine en_getRo hr1 i0 (by omega) ?_
      generalize hxx : l.getD i.toNat 0 = x at *
      refine en_call (object_refs p G Gr.cs hok.hw x) tks ?_
      rintro r15 M ⟨h15, rfl⟩
      try simp only [List.cons_append, List.nil_append]
      have hrx := hrefs x hx
      have hkx := fun b => Mk.mem_kids (S := G) (cs := Gr.cs) (a := x) (b := b)
      have hlx := hrl x
      generalize Ob.refs G Gr.cs x = xs at *
      refine en_lp (fun m u M => (fun k' : Int => M = SLc r15 1 (xs.map i64) :: HeapA p G Gr.cs :: TrA t p k.toNat q1 :: R ∧ 0 ≤ k' ∧ k' ≤ xs.length ∧ m = xs.length - k'.toNat) u.1) xs.length ?_ ?_
      · exact ⟨rfl, by simp, by dsimp only; omega, by simp⟩
      · rintro m ⟨(c : Int), ⟨⟩⟩ M ⟨rfl, c0, c1, rfl⟩ Y hY
        dsimp only at *
        refine en_br (fun h3 => ?_) (fun h3 => ?_)
        · replace h3 : c < (r15.n : Int) := of_decide_eq_true h3
          have hc : c.toNat < xs.length := by omega
          have hf : xs.getD c.toNat 0 ∈ xs := by rw [List.getD_eq_getElem?_getD, List.getElem?_eq_getElem hc]; exact List.getElem_mem hc
          refine en_drw (en_held [SLc r15 1 (xs.map i64)] tks ?_)
          refine en_getRoS hr1 i0 (by omega) ?_
          rw [hxx]
          refine en_getSLS' (s := r15) (xs := xs) tk tk c0 (by omega) ?_
          generalize xs.getD c.toNat 0 = f at *
          refine en_call (object_get p G Gr.cs hok.hw x f) tks ?_
          rintro x' M ⟨rfl, rfl⟩
          try simp only [List.cons_append, List.nil_append]
          have he := hrx f hf
          have hkid : (Ob.get G x f).1 ∈ Mk.kids G Gr.cs x := (hkx _).mpr ⟨f, hf, he, rfl⟩
          rw [he]
          generalize (Ob.get G x f).1 = v at *
          iterate 1
            refine en_call (law_err _) .nil ?_
            rintro x' M ⟨rfl, rfl⟩
            try simp only [List.cons_append, List.nil_append]
          refine en_brf rfl ?_
          refine en_call (ref_in q l hr1 (by omega) v) .nil ?_
          rintro x' M ⟨rfl, rfl⟩
          try simp only [List.cons_append, List.nil_append]
          rw [wrap64 (n := c + 1) (by omega) (by omega)]
          refine en_br (fun h4 => ?_) (fun h4 => ?_)
          · have h4 : v ∈ l := of_decide_eq_true h4
            refine en_call (mark_marked t p k.toNat q1 v) tks ?_
            rintro x' M ⟨rfl, rfl⟩
            try simp only [List.cons_append, List.nil_append]
            refine en_brf (by rw [hcl.kid x h2 v hkid ((hobj v).mpr h4)]; rfl) ?_
            refine Tr.take (A := HeapA p G Gr.cs) tk (Tr.take (A := SLc r15 1 (xs.map i64)) tk ?_)
            exact hY (xs.length - (c + 1).toNat) _ _ (by omega) ⟨rfl, by dsimp only; omega, by dsimp only; omega, rfl⟩
          · refine Tr.take (A := SLc r15 1 (xs.map i64)) tk ?_
            exact hY (xs.length - (c + 1).toNat) _ _ (by omega) ⟨rfl, by dsimp only; omega, by dsimp only; omega, rfl⟩
        · clear hY c0 c1 h3
          refine Tr.drop (A := SLc r15 1 (xs.map i64)) tk ?_
          refine en_getRo hr1 i0 (by omega) ?_
          rw [hxx]
          refine en_call (ref_in s6 som hr2 (by omega) x) .nil ?_
          rintro x' M ⟨rfl, rfl⟩
          try simp only [List.cons_append, List.nil_append]
          clear c h15 hkx hrx hlx xs
          refine en_lp (fun m u M => (fun (led : Bool) (j : Int) => M = HeapA p G Gr.cs :: TrA t p k.toNat q1 :: R ∧ 0 ≤ j ∧ j ≤ l.length ∧ m = l.length - j.toNat ∧ (x ∈ som → led = true) ∧ ∀ j' : Nat, j' < j.toNat → (j' : Int) ≠ i → Sp.has q1.m (l.getD j' 0) = true → x ∈ Mk.kids G Gr.cs (l.getD j' 0) → led = true) u.1 u.2.1) l.length ?_ ?_
          · exact ⟨rfl, by simp, by dsimp only; omega, by simp, fun h => decide_eq_true h, fun j' hj => by simp at hj⟩
          · rintro m ⟨(led : Bool), (j : Int), ⟨⟩⟩ M ⟨rfl, j0, j1, rfl, hled1, hled2⟩ Y hY
            dsimp only at j0 j1 hled1 hled2 hY ⊢
            refine en_br (fun h3 => ?_) (fun h3 => ?_)
            · replace h3 : j < (q.n : Int) := of_decide_eq_true h3
              have hj : j.toNat < l.length := by omega
              refine en_getRo hr1 j0 (by omega) ?_
              generalize hyy : l.getD j.toNat 0 = y at *
              refine en_call (object_refs p G Gr.cs hok.hw y) tks ?_
              rintro r25 M ⟨h25, rfl⟩
              try simp only [List.cons_append, List.nil_append]
              have hky := fun b => Mk.mem_kids (S := G) (cs := Gr.cs) (a := y) (b := b)
              have hly := hrl y
              generalize Ob.refs G Gr.cs y = ys at *
              rw [wrap64 (n := j + 1) (by omega) (by omega)]
              refine en_lp (fun m u M => (fun (ld : Bool) (c : Int) => M = SLc r25 1 (ys.map i64) :: HeapA p G Gr.cs :: TrA t p k.toNat q1 :: R ∧ 0 ≤ c ∧ c ≤ ys.length ∧ m = ys.length - c.toNat ∧ (led = true → ld = true) ∧ (j ≠ i → Sp.has q1.m y = true → ∀ c' : Nat, c' < c.toNat → (Ob.get G y (ys.getD c' 0)).1 = x → ld = true)) u.1 u.2.1) ys.length ?_ ?_
              · exact ⟨rfl, by simp, by dsimp only; omega, by simp, id, fun _ _ c' hc => by simp at hc⟩
              · rintro m ⟨(ld : Bool), (c : Int), ⟨⟩⟩ M ⟨rfl, c0, c1, rfl, hl1, hl2⟩ Z hZ
                dsimp only at c0 c1 hl1 hl2 hZ ⊢
                refine en_br (fun h4 => ?_) (fun h4 => ?_)
                · replace h4 : c < (r25.n : Int) := of_decide_eq_true h4
                  have hc : c.toNat < ys.length := by omega
                  refine en_drw (en_held [SLc r25 1 (ys.map i64)] tks ?_)
                  refine en_getRoS hr1 j0 (by omega) ?_
                  rw [hyy]
                  refine en_getSLS' (s := r25) (xs := ys) tk tk c0 (by omega) ?_
                  refine en_call (object_get p G Gr.cs hok.hw y (ys.getD c.toNat 0)) tks ?_
                  rintro x' M ⟨rfl, rfl⟩
                  try simp only [List.cons_append, List.nil_append]
                  rw [wrap64 (n := c + 1) (by omega) (by omega)]
                  have hgo : ∀ ld' : Bool, (ld = true → ld' = true) → (j ≠ i → Sp.has q1.m y = true → (Ob.get G y (ys.getD c.toNat 0)).1 = x → ld' = true) → Tr ρ ρ2 (SLc r25 1 (ys.map i64) :: HeapA p G Gr.cs :: TrA t p k.toNat q1 :: R) (Z (ld', c + 1, ())) (SP RB (fun r M => r = true ∧ M = []) R) := fun ld' g1 g2 =>
                    hZ (ys.length - (c + 1).toNat) _ _ (by omega) ⟨rfl, by dsimp only; omega, by dsimp only; omega, rfl, fun h => g1 (hl1 h), fun a1 a2 c' hc' h => by
                      dsimp only at hc'
                      by_cases hcc : c' = c.toNat
                      · rw [hcc] at h; exact g2 a1 a2 h
                      · exact g1 (hl2 a1 a2 c' (by omega) h)⟩
                  refine en_br (fun h5 => ?_) (fun h5 => ?_)
                  · refine Tr.take (A := SLc r25 1 (ys.map i64)) tk ?_
                    exact hgo true (fun _ => rfl) (fun _ _ _ => rfl)
                  · have h5 : ld ≠ true := by rw [h5]; simp
                    refine en_br (fun h6 => ?_) (fun h6 => ?_)
                    · have h6 : j ≠ i := by simpa using h6
                      refine en_getRo hr1 j0 (by omega) ?_
                      rw [hyy]
                      refine en_call (mark_marked t p k.toNat q1 y) tks ?_
                      rintro x' M ⟨rfl, rfl⟩
                      try simp only [List.cons_append, List.nil_append]
                      refine Tr.take (A := HeapA p G Gr.cs) tk (Tr.take (A := SLc r25 1 (ys.map i64)) tk ?_)
                      refine en_br (fun h7 => ?_) (fun h7 => ?_)
                      · refine en_getRo hr1 i0 (by omega) ?_
                        rw [hxx]
                        exact hgo _ (fun h => absurd h h5) (fun _ _ h => by rw [h]; simp)
                      · exact hgo false (fun h => absurd h h5) (fun _ h => by rw [h7] at h; cases h)
                    · have h6 : j = i := by simpa using h6
                      refine Tr.take (A := SLc r25 1 (ys.map i64)) tk ?_
                      exact hgo false (fun h => absurd h h5) (fun h => absurd h6 h)
                · replace h4 : ¬ c < (r25.n : Int) := of_decide_eq_false h4
                  refine Tr.drop (A := SLc r25 1 (ys.map i64)) tk ?_
                  refine hY (l.length - (j + 1).toNat) _ _ (by omega) ⟨rfl, by dsimp only; omega, by dsimp only; omega, rfl, fun h => hl1 (hled1 h), fun j' hj' a1 a2 a3 => ?_⟩
                  dsimp only at hj'
                  by_cases hjj : j' = j.toNat
                  · rw [hjj, hyy] at a2 a3
                    obtain ⟨f, hf, hf0, hfx⟩ := (hky x).mp a3
                    obtain ⟨c', hc'⟩ := List.mem_iff_getElem?.mp hf
                    have hlt := getElem?_lt hc'
                    refine hl2 (by omega) a2 c' (by omega) ?_
                    rw [show ys.getD c' 0 = f by rw [List.getD_eq_getElem?_getD, hc']; rfl]; exact hfx
                  · exact hl1 (hled2 j' (by omega) a1 a2 a3)
            · replace h3 : ¬ j < (q.n : Int) := of_decide_eq_false h3
              have hled : led = true := by
                rcases Mk.rch_by ((hm x).mp h2) with h | ⟨a, ha, hne, hk'⟩
                · exact hled1 h
                · obtain ⟨j', hj'⟩ := List.mem_iff_getElem?.mp ((hobj a).mp ha.obj)
                  have hlt := getElem?_lt hj'
                  have hga : l.getD j' 0 = a := by rw [List.getD_eq_getElem?_getD, hj']; rfl
                  refine hled2 j' (by omega) (fun e => hne ?_) (by rw [hga]; exact (hm a).mpr ha) (by rw [hga]; exact hk')
                  rw [← hga, ← hxx, ← e]; rfl
              refine en_brf (by rw [hled]; rfl) ?_
              refine Tr.take (A := TrA t p k.toNat q1) tk hgo
    · clear hX h i0 i1 i
      refine en_lp (fun m u M => (fun i : Int => M = TrA t p k.toNat q1 :: HeapA p G Gr.cs :: R ∧ 0 ≤ i ∧ i ≤ som.length ∧ m = som.length - i.toNat) u.1) som.length ?_ ?_
      · exact ⟨rfl, by simp, by dsimp only; omega, by simp⟩
      · rintro m ⟨(i : Int), ⟨⟩⟩ M ⟨rfl, i0, i1, rfl⟩ X hX
        dsimp only at *
        refine en_br (fun h => ?_) (fun h => ?_)
        · replace h : i < (s6.n : Int) := of_decide_eq_true h
          have hi : i.toNat < som.length := by omega
          have hx : som.getD i.toNat 0 ∈ som := by rw [List.getD_eq_getElem?_getD, List.getElem?_eq_getElem hi]; exact List.getElem_mem hi
          refine en_getRo hr2 i0 (by omega) ?_
          refine en_call (ref_in q l hr1 (by omega) (som.getD i.toNat 0)) .nil ?_
          rintro x' M ⟨rfl, rfl⟩
          try simp only [List.cons_append, List.nil_append]
          rw [wrap64 (n := i + 1) (by omega) (by omega)]
          have hgo : Tr ρ ρ2 (TrA t p k.toNat q1 :: HeapA p G Gr.cs :: R) (X (i + 1, ())) (SP RB (fun r M => r = true ∧ M = []) R) := hX (som.length - (i + 1).toNat) (i + 1, ()) _ (by omega) ⟨rfl, by dsimp only; omega, by dsimp only; omega, rfl⟩
          refine en_br (fun h2 => ?_) (fun h2 => hgo)
          have h2 : som.getD i.toNat 0 ∈ l := of_decide_eq_true h2
          refine en_getRo hr2 i0 (by omega) ?_
          refine en_call (mark_marked t p k.toNat q1 (som.getD i.toNat 0)) tks ?_
          rintro x' M ⟨rfl, rfl⟩
          try simp only [List.cons_append, List.nil_append]
          exact en_brf (by rw [(hm _).mpr (.root hx ((hobj _).mpr h2))]; rfl) hgo
        · refine en_call (law_awake17) tks ?_
          rintro x' M ⟨rfl, rfl⟩
          try simp only [List.cons_append, List.nil_append]
          exact en_rets (x := true) rfl ⟨rfl, rfl⟩ tks ens

end Go.Proofs.YtapchggmifbfoaaGreat
