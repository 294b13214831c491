/- Marks of graphs: what laws share. -/
import Derived.Test.YtapchggmifbfoaaGreatGlMark2
import Derived.Test.YtapchggmifbfoaaGreatGlGraph2
set_option linter.unusedSimpArgs false
set_option linter.unusedVariables false
namespace Go.Proofs.YtapchggmifbfoaaGreat
open Go Go.Gl
variable {ρ0 ρ : FR} {L L' : List Asn} {Post : Value → List Asn → Prop} {T : Tree}

theorem Gr.OK.obj {S : Spc} {hs : List Hd} {l : List Int} (H : Gr.OK S hs l) {a : Int} : Mk.obj S a ↔ a ∈ l := by
  constructor
  · intro h
    unfold Mk.obj at h
    cases hh : Ob.head S a with
    | none => rw [hh] at h; cases h
    | some hd =>
      obtain ⟨n, w, rfl, hf, _⟩ := Ob.head_is H.hw hh
      exact H.each.mem_iff.mp ((mem_each H.hw.wf).mpr ⟨n, w, rfl, hf⟩)
  · intro h
    obtain ⟨i, hi⟩ := List.mem_iff_getElem?.mp h
    have hlt := getElem?_lt hi
    rw [H.len] at hlt
    have h2 := H.head i _ (List.getElem?_eq_getElem hlt)
    rw [show l.getD i 0 = a by rw [List.getD_eq_getElem?_getD, hi]; rfl] at h2
    unfold Mk.obj; rw [h2]; rfl
theorem Mk.rch_nil {S : Spc} {cs : List Cls} {a : Int} : ¬ Mk.Rch S cs [] a := fun h => by
  induction h with
  | root h _ => cases h
  | step _ _ _ ih => exact ih
theorem Mk.rch_mono {S : Spc} {cs : List Cls} {l l' : List Int} (h : ∀ a ∈ l, a ∈ l') {a : Int} (ha : Mk.Rch S cs l a) : Mk.Rch S cs l' a := by
  induction ha with
  | root h' ho => exact .root (h _ h') ho
  | step _ hb ho ih => exact .step ih hb ho
theorem Mk.rch_app {S : Spc} {cs : List Cls} {l l' : List Int} {a : Int} : Mk.Rch S cs (l ++ l') a ↔ (Mk.Rch S cs l a ∨ Mk.Rch S cs l' a) := by
  constructor
  · intro ha
    induction ha with
    | root h' ho =>
      rcases List.mem_append.mp h' with h | h
      · exact .inl (.root h ho)
      · exact .inr (.root h ho)
    | step _ hb ho ih => exact ih.imp (fun h => .step h hb ho) (fun h => .step h hb ho)
  · rintro (h | h)
    · exact Mk.rch_mono (fun a ha => List.mem_append_left _ ha) h
    · exact Mk.rch_mono (fun a ha => List.mem_append_right _ ha) h
theorem Mk.all_nil {m : List Bool} (h : ∀ a, Sp.has m a = true → False) : Mk.all m = [] := by
  rcases hm : Mk.all m with _ | ⟨a, l⟩
  · rfl
  · exact (h a (Mk.mem_all.mp (by rw [hm]; exact List.mem_cons_self))).elim
theorem Mk.all_count (m : List Bool) : (Mk.all m).length = m.count true := by
  have key : ∀ n, n ≤ m.length → ((List.range n).filter fun i => m.getD i false).length = (m.take n).count true := by
    intro n
    induction n with
    | zero => intro _; simp
    | succ n ih =>
      intro hn
      rw [List.range_succ, List.filter_append, List.length_append, ih (by omega), List.take_add_one, List.getElem?_eq_getElem (by omega), List.count_append]
      have h2 : m.getD n false = m[n] := by rw [List.getD_eq_getElem?_getD, List.getElem?_eq_getElem (by omega)]; rfl
      cases hb : m[n] with
      | true => rw [List.filter_cons_of_pos (by rw [h2, hb])]; rfl
      | false => rw [List.filter_cons_of_neg (by rw [h2, hb]; simp)]; rfl
  unfold Mk.all
  rw [List.length_map, key _ (Nat.le_refl _), List.take_length]
theorem Mk.has_eq {m m' : List Bool} (hl : m.length = m'.length) (h : ∀ a, Sp.has m a = true ↔ Sp.has m' a = true) : m = m' := by
  refine Mk.has_ext hl fun a => ?_
  cases h1 : Sp.has m a with
  | true => exact ((h a).mp h1).symm
  | false =>
    cases h2 : Sp.has m' a with
    | true => rw [(h a).mpr h2] at h1; cases h1
    | false => rfl
theorem RoS.nil1 {m : Nat} : RoS ρ ⟨none, 0, 0⟩ m [] := ⟨by simp, .inl rfl⟩
/-- a slice of nothing that has a block -/
theorem SLc.emp (b m : Nat) (h : HP) (H : blk b [] h) : SLc ⟨some ⟨b, 0, none⟩, 0, 0⟩ m [] h := .inr ⟨b, 0, [], [], rfl, rfl, by simp, by simp, by simp, H⟩

theorem law_awake17 : Gl.Spec ρ Tryz.prog 43 [] [] RB fun r M => r = true ∧ M = [] := by
  refine Spec.of (fun Q w h => F.gloaminglaw17.awake.calls h) fun R => ?_
  unfold F.gloaminglaw17.awake
  try simp only [List.cons_append, List.nil_append]
  refine en_nw fun b1 => ?_
  refine Rd.bk (n := 3) (m := 1) (vs := ([1, 2, 3] : List Int).map fun x => .int .u8 x) rfl tk fun ρ1 hle1 ro => ?_
  refine en_call (g_graph ⟨some ⟨b1, 0, none⟩, 3, 3⟩ [1, 2, 3] ro (by decide) (by decide)) tks ?_
  rintro x' M ⟨p, q, rfl, rfl⟩
  try simp only [List.cons_append, List.nil_append]
  have hok := Gr.graph_ok (ns := [1, 2, 3]) (by decide)
  have h3 : (Gr.graph [1, 2, 3]).2.length = 3 := by kernel_rfl
  generalize (Gr.graph [1, 2, 3]).2 = l at *
  generalize (Gr.graph [1, 2, 3]).1 = G at *
  have hlen := hok.hw.wf.len
  have hmost := hok.hw.wf.most
  refine en_call (mark_new p G Gr.cs hok.hw 1 (by omega) (by omega)) tks ?_
  rintro x' M ⟨t, rfl, rfl⟩
  try simp only [List.cons_append, List.nil_append]
  refine en_brf rfl (en_brf rfl (en_nn (TrA.op tk fun pb ps => ?_)))
  refine en_ld (k := .ptr) (b := t) (off := 0) (x := some ⟨pb, 0, none⟩) (by rw [fa_mk]) tk rfl ?_
  refine Tr.close tks (TrA.cl (t := t) (ph := p) (pb := pb) (ps := ps) (m := (Mk.st0 G.ws.length).m) (stk := (Mk.st0 G.ws.length).stk) (room := (1 : Int).toNat) (over := (Mk.st0 G.ws.length).over) (deep := (Mk.st0 G.ws.length).deep)) ?_
  refine en_brf rfl ?_
  iterate 1
    refine en_call (law_err _) .nil ?_
    rintro x' M ⟨rfl, rfl⟩
    try simp only [List.cons_append, List.nil_append]
  refine en_brf rfl ?_
  refine en_call (mark_mark t p (1 : Int).toNat (by decide) G Gr.cs hok.hw (Mk.st0 G.ws.length) Mk.rest0 ⟨none, 0, 0⟩ [] RoS.nil1 (by simp)) tks ?_
  rintro x' M ⟨q1, rfl, H1, hq1⟩
  try simp only [List.cons_append, List.nil_append]
  have hl1 := H1.closed.len
  refine en_call (mark_all t p (1 : Int).toNat q1 (by omega)) tks ?_
  rintro r8 M rfl
  try simp only [List.cons_append, List.nil_append]
  have ha : Mk.all q1.m = [] := Mk.all_nil fun a h => by
    rcases (hq1 a).mp h with h | h
    · rw [Mk.has0] at h; cases h
    · exact Mk.rch_nil h
  rw [ha]
  refine Tr.nlen (s := r8) (xs := []) tk fun h8 => ?_
  refine en_nn (HeapA.op tk fun p1 pt => ?_)
  refine en_ld (k := .ptr) (b := p) (off := 0) (x := some ⟨p1, 0, none⟩) (by rw [fa_mk]) tk rfl ?_
  refine en_call (space_each p1 G hok.hw.wf) tks ?_
  rintro r11 M ⟨h11, rfl⟩
  try simp only [List.cons_append, List.nil_append]
  refine Tr.close tks (HeapA.cl (p := p) (ps := p1) (pt := pt) (S := G) (cs := Gr.cs)) ?_
  have hel : (Sp.each G).length = 3 := by rw [hok.each.length_eq, h3]
  refine en_brf (beq_eq_false_iff_ne.2 (show ((r11.n : Nat) : Int) ≠ 0 by omega)) ?_
  refine Tr.keepSL (s := r11) tk fun ρ2 hle2 ro2 => ?_
  refine en_getRo ro2 (by omega) (by omega) ?_
  have hin : (Sp.each G).getD (0 : Int).toNat 0 ∈ l := by
    rw [← hok.each.mem_iff, List.getD_eq_getElem?_getD, List.getElem?_eq_getElem (by simp; omega)]; exact List.getElem_mem _
  generalize hx : (Sp.each G).getD (0 : Int).toNat 0 = x at hin
  refine en_nw fun b14 => ?_
  refine Rd.bk (n := 1) (m := 1) (vs := ([x] : List Int).map i64) rfl tk fun ρ3 hle3 ro3 => ?_
  refine en_call (mark_mark t p (1 : Int).toNat (by decide) G Gr.cs hok.hw q1 H1 ⟨some ⟨b14, 0, none⟩, 1, 1⟩ [x] ro3 (by simp)) tks ?_
  rintro x' M ⟨q2, rfl, H2, hq2⟩
  try simp only [List.cons_append, List.nil_append]
  refine en_brt (beq_iff_eq.2 (show ((r8.n : Nat) : Int) = 0 by rw [h8]; rfl)) ?_
  refine en_getRo (ro2.le hle3) (by omega) (by omega) ?_
  rw [hx]
  refine en_call (mark_marked t p (1 : Int).toNat q2 x) tks ?_
  rintro x' M ⟨rfl, rfl⟩
  try simp only [List.cons_append, List.nil_append]
  have hm : Sp.has q2.m x = true := (hq2 x).mpr (.inr (.root (List.mem_singleton.mpr rfl) (hok.obj.mpr hin)))
  rw [hm]
  exact en_rets (x := true) rfl ⟨rfl, rfl⟩ tks ens

end Go.Proofs.YtapchggmifbfoaaGreat
