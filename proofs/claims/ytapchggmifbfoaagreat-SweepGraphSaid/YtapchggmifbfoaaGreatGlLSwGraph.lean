/- SweepGraph. -/
import Derived.Test.YtapchggmifbfoaaGreatGlSweep2
import Derived.Test.YtapchggmifbfoaaGreatGlModel
import Derived.Test.YtapchggmifbfoaaGreatGlTxSweepGraph
set_option linter.unusedSimpArgs false
set_option linter.unusedVariables false
namespace Go.Proofs.YtapchggmifbfoaaGreat
open Go Go.Gl
variable {ρ0 ρ : FR} {L L' : List Asn} {Post : Value → List Asn → Prop} {T : Tree}

theorem law_sweepgraph (s : Slc) (ns : List Int) (z : Slc) (vs : List Int) (ro : RoS ρ s 1 (ns.map fun x => .int .u8 x)) (hb : ∀ x ∈ ns, (Lit.int .u8 x).wf = true) (hl : ns.length < 2 ^ 63) (ro2 : RoS ρ z 1 (vs.map fun x => .int .u8 x)) (hb2 : ∀ x ∈ vs, (Lit.int .u8 x).wf = true) (hl2 : vs.length < 2 ^ 63) :
    Gl.Spec ρ Tryz.prog 3 [.slice s.a s.n s.c, .slice z.a z.n z.c] [] RB fun r M => r = true ∧ M = [] := by
  refine Spec.of (fun Q w h => F.gloaminglaw19.SweepGraph.calls s z h) fun R => ?_
  unfold F.gloaminglaw19.SweepGraph
  try simp only [List.cons_append, List.nil_append]
  have hb := u8_all hb
  have hb2 := u8_all hb2
  refine en_call (g_graph s ns ro hb hl) tks ?_
  rintro x' M ⟨p, q1, rfl, rfl⟩
  try simp only [List.cons_append, List.nil_append]
  refine en_call (g_model s ns ro hb hl) tks ?_
  rintro x' M ⟨p2, q2, lc, hcs, hln, rfl, rfl⟩
  try simp only [List.cons_append, List.nil_append]
  refine en_brf rfl ?_
  have hok := Gr.graph_ok hb
  have hhl := Gr.heads_len (ns := ns)
  generalize Gr.heads ns = hs at hok hhl
  generalize (Gr.graph ns).2 = l at *
  generalize (Gr.graph ns).1 = G at *
  have hll := hok.len
  have hwG := hok.hw
  rw [← hcs] at hwG
  refine Tr.keepSL (s := q1) tk fun ρ1 hle1 hr1 => ?_
  refine en_call (g_some q1 l hr1 z vs (ro2.le hle1) hb2 30 (by decide)) tks ?_
  rintro s3 M rfl
  try simp only [List.cons_append, List.nil_append]
  have hsl : (Gr.some l vs 30).length ≤ 30 := by unfold Gr.some; simp; omega
  generalize Gr.some l vs 30 = som at hsl ⊢
  refine Tr.keepSL (s := s3) tk fun ρ2 hle2 hr3 => ?_
  refine en_call (sweep_dead p G Gr.cs hok.hw (A := []) s3 som (Rd.ro hr3) (by omega)) tks ?_
  rintro s4 M rfl
  try simp only [List.cons_append, List.nil_append]
  refine en_call (rh_dead p2 G lc hwG s3 som hr3 (by omega)) tks ?_
  rintro s5 M rfl
  try simp only [List.cons_append, List.nil_append]
  refine Tr.keepSL (s := s4) tk fun ρ3 hle3 hr4 => ?_
  refine Tr.keepSL (s := s5) tk fun ρ4 hle4 hr5 => ?_
  have hr4 := hr4.le hle4
  have hr3 := (hr3.le hle3).le hle4
  refine en_call (sweep_sweep p G Gr.cs hok.hw (A := []) s3 som (Rd.ro hr3) (by omega)) tks ?_
  rintro x' M ⟨rfl, rfl⟩
  try simp only [List.cons_append, List.nil_append]
  refine en_call (rh_sweep p2 G lc hwG s3 som hr3 (by omega)) tks ?_
  rintro x' M ⟨rfl, rfl⟩
  try simp only [List.cons_append, List.nil_append]
  have hdl : (Sw.dead G som).length ≤ 24 := by
    have h1 : (Sw.dead G som).length ≤ (Sp.each G).length := List.length_filter_le _ _
    have h2 := hok.each.length_eq
    omega
  have hw1 := (Sw.sweep_ok hok.hw som).hw
  have hw2 := hw1
  rw [← hcs] at hw2
  generalize Sw.dead G som = d at *
  generalize Sw.sweep G som = G' at *
  have n4 := hr4.len
  refine en_drw (en_held [] .nil ?_)
  refine en_call (same_ints s4 s5 d d hr4 hr5 (by omega)) .nil ?_
  rintro x' M ⟨rfl, rfl⟩
  try simp only [List.cons_append, List.nil_append]
  refine en_chk .nil (en_cut [] .nil (fun w h => h) ?_)
  refine en_brt (by simp) (en_brt (by simp) (en_brt (by rw [n4]; simp) ?_))
  obtain ⟨ho1, ho2⟩ := objs_small hw1
  refine en_call (object_objects p G' Gr.cs hw1) tks ?_
  rintro s6 M ⟨rfl, hn6⟩
  try simp only [List.cons_append, List.nil_append]
  refine en_chk .nil (en_cut [] .nil (fun w h => h) ?_)
  refine en_call (rh_objects p2 G' lc hw2) tks ?_
  rintro s7 M ⟨rfl, hn7⟩
  try simp only [List.cons_append, List.nil_append]
  refine en_chk .nil (en_cut [] .nil (fun w h => h) ?_)
  refine Tr.keepObs (s := s6) (os := Ob.objs G') tk fun ρ5 hle5 hobs => ?_
  refine Tr.keepObs (s := s7) (os := Ob.objs G') tk fun ρ6 hle6 hobs2 => ?_
  refine en_call (same_objs s6 s7 (Ob.objs G') (hobs.le hle6) hobs2 ho1 ho2) .nil ?_
  rintro x' M ⟨rfl, rfl⟩
  try simp only [List.cons_append, List.nil_append]
  refine HeapA.op (p := p) tk fun ps pt => ?_
  refine RHp.op (p := p2) tk fun ps2 q hq => ?_
  refine en_chkW (hle5.trans hle6) .nil (en_cut [blk p [.pointer (some ⟨ps, 0, none⟩), .pointer (some ⟨pt, 0, none⟩)], blk p2 [.pointer (some ⟨ps2, 0, none⟩), slv q]] tks (fun w h => (h.sub .nil).weak (hle5.trans hle6)) ?_)
  refine en_brt rfl ?_
  refine en_nn (en_ldS (k := .ptr) (b := p) (x := some ⟨ps, 0, none⟩) (by rw [fa_mk]) tk rfl ?_)
  refine en_nn (en_ldS (k := .ptr) (b := p2) (x := some ⟨ps2, 0, none⟩) (by rw [fa_mk]) tk rfl ?_)
  refine en_call (space_used ps G' hw1.wf) tks ?_
  rintro x' M ⟨rfl, rfl⟩
  try simp only [List.cons_append, List.nil_append]
  refine en_chk tks ?_
  refine en_call (rf_used ps2 G' hw1.wf) tks ?_
  rintro x' M ⟨rfl, rfl⟩
  try simp only [List.cons_append, List.nil_append]
  refine en_brt (by simp) ?_
  refine en_call (sweep_sweep0 s3) tks ?_
  rintro x' M ⟨rfl, rfl⟩
  try simp only [List.cons_append, List.nil_append]
  refine en_brt rfl ?_
  refine en_call (sweep_dead0 ⟨none, 0, 0⟩) tks ?_
  rintro s8 M ⟨h8, rfl⟩
  try simp only [List.cons_append, List.nil_append]
  refine en_brt (by rw [h8]; rfl) ?_
  refine en_call (law_awake19) tks ?_
  rintro x' M ⟨rfl, rfl⟩
  try simp only [List.cons_append, List.nil_append]
  exact en_rets (x := true) rfl ⟨rfl, rfl⟩ tks ens

end Go.Proofs.YtapchggmifbfoaaGreat
