/- The law GcConfigs. -/
import Derived.Test.YtdplphebjhfliaaGreatGsL20a
import Derived.Test.YtdplphebjhfliaaGreatGsTr20
import Derived.Test.YtdplphebjhfliaaGreatGsTxGcConfigs
set_option linter.unusedSimpArgs false
set_option linter.unusedVariables false
namespace Go.Proofs.YtdplphebjhfliaaGreat
open Go Go.Gl
variable {ρ0 ρ : FR} {L L' : List Asn} {Post : Value → List Asn → Prop} {T : Tree}
def mayCfg (pg rate stack : Int) : Bool := decide ((1 ≤ pg ∧ pg ≤ 256) ∧ 0 ≤ rate ∧ (1 ≤ stack ∧ stack ≤ 4096))
theorem ref_maycfg (pg rate stack : Int) : Gl.Spec ρ Tryz.prog 13 [.agg #[i64 pg, i64 rate, i64 stack]] [] RB fun r M => r = mayCfg pg rate stack ∧ M = [] := by
 refine Gl.Spec.of (fun Q w h => F.gloamingref20.MayConfig.calls (pg, rate, stack, ()) h) fun R => ?_
 unfold F.gloamingref20.MayConfig
 try simp only [lca, lna]
 have no : ¬ ((1 ≤ pg ∧ pg ≤ 256) ∧ 0 ≤ rate ∧ (1 ≤ stack ∧ stack ≤ 4096)) → mayCfg pg rate stack = false := fun h => decide_eq_false h
 refine en_nw fun b => ?_
 refine en_ld (k := .int .i64) (b := b) (off := 0) (x := pg) (by rw [fa_mk]) tk rfl ?_
 refine en_br (fun h1 => ?_) (fun h1 => ?_)
 ·replace h1 : pg ≥ 1 := of_decide_eq_true h1
  refine en_ld (k := .int .i64) (b := b) (off := 0) (x := pg) (by rw [fa_mk]) tk rfl ?_
  refine en_br (fun h2 => ?_) (fun h2 => ?_)
  ·replace h2 : pg ≤ 256 := of_decide_eq_true h2
   refine en_ld (k := .int .i64) (b := b) (off := 1) (x := rate) (by rw [fa_mk]) tk rfl ?_
   refine en_br (fun h3 => ?_) (fun h3 => ?_)
   ·replace h3 : rate ≥ 0 := of_decide_eq_true h3
    refine en_ld (k := .int .i64) (b := b) (off := 2) (x := stack) (by rw [fa_mk]) tk rfl ?_
    refine en_br (fun h4 => ?_) (fun h4 => ?_)
    ·replace h4 : stack ≥ 1 := of_decide_eq_true h4
     refine en_ld (k := .int .i64) (b := b) (off := 2) (x := stack) (by rw [fa_mk]) tk rfl ?_
     have e : mayCfg pg rate stack = decide (stack ≤ 4096) := by unfold mayCfg; rw [decide_eq_decide]; omega
     rw [e]
     exact en_rets (x := decide (stack ≤ 4096)) rfl ⟨rfl, rfl⟩ tks ens
    ·rw [no (by have := of_decide_eq_false h4; omega)]
     exact en_rets (x := false) rfl ⟨rfl, rfl⟩ tks ens
   ·rw [no (by have := of_decide_eq_false h3; omega)]
    exact en_rets (x := false) rfl ⟨rfl, rfl⟩ tks ens
  ·rw [no (by have := of_decide_eq_false h2; omega)]
   exact en_rets (x := false) rfl ⟨rfl, rfl⟩ tks ens
 ·rw [no (by have := of_decide_eq_false h1; omega)]
  exact en_rets (x := false) rfl ⟨rfl, rfl⟩ tks ens
theorem gc_collect0 (all : Bool) : Gl.Spec ρ Tryz.prog 19 [.pointer none, .bool all] [] OE fun r M => r = (none4, 2, ()) ∧ M = [] := by
 refine Gl.Spec.of (fun Q w h => F.gc.Parts.Collect.calls none all h) fun R => ?_
 unfold F.gc.Parts.Collect
 try simp only [lca, lna]
 refine en_nw fun b1 => ?_
 rw [zcOut]
 refine en_brt rfl ?_
 refine en_st (b := b1) (off := 0) rfl tk (by simp) rfl ?_
 refine en_ldg (b := b1) (off := 0) (x := none4) [] rfl tk rfl ?_
 exact en_rets (x := (none4, (2 : Int), ())) rfl ⟨rfl, rfl⟩ tks ens
theorem gc_tick0 (k : Int) : Gl.Spec ρ Tryz.prog 20 [.pointer none, i64 k] [] (.many []) fun _ M => M = [] := by
 refine Gl.Spec.of (fun Q w h => F.gc.Parts.Tick.calls none k h) fun R => ?_
 unfold F.gc.Parts.Tick
 refine en_brf rfl ?_
 exact en_rets (x := ()) rfl rfl tks ens
theorem gc_clock0 : Gl.Spec ρ Tryz.prog 21 [.pointer none] [] R1 fun r M => r = 0 ∧ M = [] := by
 refine Gl.Spec.of (fun Q w h => F.gc.Parts.Clock.calls none h) fun R => ?_
 unfold F.gc.Parts.Clock
 refine en_brt rfl ?_
 exact en_rets (x := (0 : Int)) rfl ⟨rfl, rfl⟩ tks ens
theorem gc_runs0 : Gl.Spec ρ Tryz.prog 22 [.pointer none] [] R1 fun r M => r = 0 ∧ M = [] := by
 refine Gl.Spec.of (fun Q w h => F.gc.Parts.Runs.calls none h) fun R => ?_
 unfold F.gc.Parts.Runs
 refine en_brt rfl ?_
 exact en_rets (x := (0 : Int)) rfl ⟨rfl, rfl⟩ tks ens
abbrev nSl : Slc := ⟨none, 0, 0⟩
theorem gc_view0 : Gl.Spec ρ Tryz.prog 17 [.pointer none] [] (.one (.g VwL)) fun r M => r = (nSl, nSl, nSl, nSl, nSl, nSl, (0 : Int), (0 : Int), (0 : Int), (0 : Int), ()) ∧ M = [] := by
 refine Gl.Spec.of (fun Q w h => F.gc.Parts.View.calls none h) fun R => ?_
 unfold F.gc.Parts.View
 try simp only [lca, lna]
 refine en_nw fun b1 => ?_
 rw [zcView]
 refine en_brt rfl ?_
 refine en_st (b := b1) (off := 0) rfl tk (by simp) rfl ?_
 refine en_ldg (b := b1) (off := 0) (x := (nSl, nSl, nSl, nSl, nSl, nSl, (0 : Int), (0 : Int), (0 : Int), (0 : Int), ())) [] rfl tk rfl ?_
 exact en_rets (x := (nSl, nSl, nSl, nSl, nSl, nSl, (0 : Int), (0 : Int), (0 : Int), (0 : Int), ())) rfl ⟨rfl, rfl⟩ tks ens
theorem new_roots (pg rate stack : Int) : (Rt.new pg rate stack).roots = [] := by
 show Mg.merge [(Hn.all (List.replicate 512 (0, 0))).map (·.2), List.replicate 16 0, [], []] = []
 kernel_rfl
theorem new_all : Hn.all (List.replicate 512 (0, 0)) = [] := by kernel_rfl
theorem law_gcconfigs (pg rate stack : Int) (_ : pg < 9223372036854775808) (hr : rate < 9223372036854775808) (_ : stack < 9223372036854775808) : Gl.Spec ρ Tryz.prog 3 [.agg #[i64 pg, i64 rate, i64 stack]] [] RB fun r M => r = true ∧ M = [] := by
 refine Gl.Spec.of (fun Q w h => F.gloaminglaw20.GcConfigs.calls (pg, rate, stack, ()) h) fun R => ?_
 unfold F.gloaminglaw20.GcConfigs
 refine en_nw fun b1 => ?_
 refine en_ldg (b := b1) (off := 0) (x := (pg, rate, stack, ())) [] rfl tk rfl ?_
 by_cases hc : (1 ≤ pg ∧ pg ≤ 256) ∧ 0 ≤ rate ∧ (1 ≤ stack ∧ stack ≤ 4096)
 rotate_left
 ·refine en_call (gc_new0 pg rate stack hc) tks ?_
  rintro x' M ⟨rfl, rfl⟩
  try simp only [lca, lna]
  refine en_ldg (b := b1) (off := 0) (x := (pg, rate, stack, ())) [] rfl tk rfl ?_
  refine en_call (ref_maycfg pg rate stack) tks ?_
  rintro x' M ⟨rfl, rfl⟩
  try simp only [lca, lna]
  refine en_brt (by unfold mayCfg; rw [decide_eq_false hc]; rfl) (en_brt rfl ?_)
  iterate 1
   refine en_call (law_err _) .nil ?_
   rintro x' M ⟨rfl, rfl⟩
   try simp only [lca, lna]
  refine en_brt rfl ?_
  refine en_call (law_awake20) tks ?_
  rintro x' M ⟨rfl, rfl⟩
  try simp only [lca, lna]
  exact en_rets (x := true) rfl ⟨rfl, rfl⟩ tks ens
 refine en_call (gc_new pg rate stack hc) tks ?_
 rintro _ _ ⟨i, rfl, rfl⟩
 try simp only [lca, lna]
 refine en_ldg (b := b1) (off := 0) (x := (pg, rate, stack, ())) [] rfl tk rfl ?_
 refine en_call (ref_maycfg pg rate stack) tks ?_
 rintro x' M ⟨rfl, rfl⟩
 try simp only [lca, lna]
 refine en_brf (by unfold mayCfg; rw [decide_eq_true hc]; rfl) ?_
 refine en_call (law_whole20 i (Rt.new pg rate stack)) tks ?_
 rintro x' M ⟨rfl, rfl⟩
 try simp only [lca, lna]
 refine en_brf rfl ?_
 iterate 1
  refine en_call (law_err _) .nil ?_
  rintro x' M ⟨rfl, rfl⟩
  try simp only [lca, lna]
 refine en_brf rfl ?_
 have hok : Rt.Ok2 (Rt.new pg rate stack) := new_ok hc hr [] ⟨by simp, (by intro r hr; cases hr), (by intro r hr; cases hr)⟩
 have he : Sp.each (Sp.newSpc pg.toNat) = [] := new_each (by omega) (by omega)
 have hu : (Rt.new pg rate stack).used = 0 := by unfold Rt.used; rw [show Sp.each (Rt.new pg rate stack).S = [] from he]; rfl
 have hf : (Rt.new pg rate stack).free = (pg - 1) * 64 := by
  unfold Rt.free
  rw [hu]
  show (((List.replicate (pg.toNat * 64) (0 : Int)).length - 64 : Nat) : Int) - 0 = _
  rw [List.length_replicate]; omega
 refine en_call (gc_view i _ hok.toOk) tks ?_
 rintro _ _ ⟨so, sh, sr, sq, sf, sp, lv, rfl, ⟨n1, n2, n3, n4, n5, n6⟩, hl, hly, rfl⟩
 try simp only [lca, lna]
 have n1' : so.n = 0 := by rw [n1, objs_len, show Sp.each (Rt.new pg rate stack).S = [] from he]; rfl
 have n2' : sh.n = 0 := by rw [n2, show Hn.all (Rt.new pg rate stack).hs = [] from new_all]; rfl
 have n4' : sq.n = 0 := n4
 have n5' : sf.n = 0 := n5
 have n6' : sp.n = 0 := n6
 refine en_nw fun b9 => ?_
 rw [zcView]
 refine en_st (b := b9) (off := 0) rfl tk (by simp) rfl ?_
 refine en_call (gc_in i _ hok.toOk true) tks ?_
 rintro _ _ ⟨z1, z2, rfl, m1, m2, rfl⟩
 try simp only [lca, lna]
 rw [new_roots] at m1
 refine en_nw fun b11 => ?_
 rw [zcIn20]
 refine en_st (b := b11) (off := 0) rfl tk (by simp) rfl ?_
 refine en_call (gc_collect0 false) tks ?_
 rintro x' M ⟨rfl, rfl⟩
 try simp only [lca, lna]
 refine en_nw fun b13 => ?_
 rw [zcOut]
 refine en_st (b := b13) (off := 0) rfl tk (by simp) rfl ?_
 refine en_call (gc_tick0 5) tks ?_
 rintro _ _ rfl
 try simp only [lca, lna]
 refine en_ld (k := .slice) (b := b9) (off := 0) (x := so) (by rw [fa_mk]) tk rfl ?_
 refine en_ld (k := .slice) (b := b9) (off := 1) (x := sh) (by rw [fa_mk]) tk rfl ?_
 refine en_ld (k := .slice) (b := b9) (off := 3) (x := sq) (by rw [fa_mk]) tk rfl ?_
 refine en_ld (k := .slice) (b := b9) (off := 4) (x := sf) (by rw [fa_mk]) tk rfl ?_
 refine en_ld (k := .slice) (b := b9) (off := 5) (x := sp) (by rw [fa_mk]) tk rfl ?_
 refine en_brt (by rw [n1', n2', n4', n5', n6']; decide) ?_
 refine en_ld (k := .int .i64) (b := b9) (off := 8) (x := (Rt.new pg rate stack).used) (by rw [fa_mk]) tk rfl ?_
 refine en_ld (k := .int .i64) (b := b9) (off := 6) (x := 0) (by rw [fa_mk]) tk rfl ?_
 refine en_ld (k := .int .i64) (b := b9) (off := 7) (x := 0) (by rw [fa_mk]) tk rfl ?_
 refine en_ld (k := .int .i64) (b := b9) (off := 9) (x := 0) (by rw [fa_mk]) tk rfl ?_
 refine en_brt (by rw [hu]; decide) ?_
 refine en_ld (k := .int .i64) (b := b11) (off := 3) (x := (Rt.new pg rate stack).free) (by rw [fa_mk]) tk rfl ?_
 refine en_ld (k := .int .i64) (b := b1) (off := 0) (x := pg) (by rw [fa_mk]) tk rfl ?_
 refine en_brt (by rw [hf, wrap64 (n := pg - 1) (by omega) (by omega), wrap64 (by omega) (by omega)]; simp) ?_
 refine en_ld (k := .int .i64) (b := b11) (off := 4) (x := rate) (by rw [fa_mk]) tk rfl ?_
 refine en_ld (k := .int .i64) (b := b1) (off := 1) (x := rate) (by rw [fa_mk]) tk rfl ?_
 refine en_brt (by simp) ?_
 refine en_ld (k := .int .i64) (b := b11) (off := 6) (x := stack) (by rw [fa_mk]) tk rfl ?_
 refine en_ld (k := .int .i64) (b := b1) (off := 2) (x := stack) (by rw [fa_mk]) tk rfl ?_
 refine en_brt (by simp) ?_
 refine en_ld (k := .bool) (b := b11) (off := 5) (x := true) (by rw [fa_mk]) tk rfl ?_
 refine en_brt rfl ?_
 refine en_ld (k := .slice) (b := b11) (off := 0) (x := z1) (by rw [fa_mk]) tk rfl ?_
 refine en_brt (by rw [m1]; decide) ?_
 iterate 1
  refine en_call (law_err _) .nil ?_
  rintro x' M ⟨rfl, rfl⟩
  try simp only [lca, lna]
 refine en_brt rfl ?_
 refine en_call (gc_clock0) tks ?_
 rintro x' M ⟨rfl, rfl⟩
 try simp only [lca, lna]
 refine en_call (gc_runs0) tks ?_
 rintro x' M ⟨rfl, rfl⟩
 try simp only [lca, lna]
 refine en_brt rfl ?_
 refine en_call (gc_view0) tks ?_
 rintro x' M ⟨rfl, rfl⟩
 try simp only [lca, lna]
 refine en_brt rfl ?_
 refine en_call (law_awake20) tks ?_
 rintro x' M ⟨rfl, rfl⟩
 try simp only [lca, lna]
 exact en_rets (x := true) rfl ⟨rfl, rfl⟩ .nil ens
end Go.Proofs.YtdplphebjhfliaaGreat
