/- The document's answer for sizes. -/
import Derived.Test.YtapchggmifbfoaaGreatGlLaw5
import Derived.Test.YtapchggmifbfoaaGreatGlTr1
set_option linter.unusedSimpArgs false
set_option linter.unusedVariables false
namespace Go.Proofs.YtapchggmifbfoaaGreat
open Go Go.Gl
variable {ρ0 ρ : FR} {L L' : List Asn} {Post : Value → List Asn → Prop} {T : Tree}

theorem ref_sizes : Gl.Spec ρ Tryz.prog 121 [] [] (.one (.l .slice)) fun r M => r.n = 5 ∧ M = [SLc r 1 (Sp.sizes.map i64)] := by
  refine Spec.of (fun Q w h => F.gloamingref1.Sizes.calls h) fun R => ?_
  unfold F.gloamingref1.Sizes
  try simp only [List.cons_append, List.nil_append]
  refine en_nw fun b => ?_
  refine Tr.imp (A' := SLc ⟨some ⟨b, 0, none⟩, 5, 5⟩ 1 (Sp.sizes.map i64)) .here (SLc.of_cl rfl) ?_
  exact en_rets (x := (⟨some ⟨b, 0, none⟩, 5, 5⟩ : Slc)) rfl ⟨rfl, rfl⟩ tks ens

theorem ref_class (w : Int) : Gl.Spec ρ Tryz.prog 154 [i64 w] [] R1 fun r M => r = Sp.cls w ∧ M = [] := by
  refine Spec.of (fun Q w' h => F.gloamingref1.Class.calls w h) fun R => ?_
  unfold F.gloamingref1.Class
  try simp only [List.cons_append, List.nil_append]
  refine en_call (ref_sizes) tks ?_
  rintro s M ⟨hs, rfl⟩
  try simp only [List.cons_append, List.nil_append]
  refine Tr.keepSL (s := s) tk fun ρ' hle hro => ?_
  refine en_lp (fun n u M => (fun i : Int => M = R ∧ 0 ≤ i ∧ i ≤ 5 ∧ n = 5 - i.toNat ∧ (i = 0 ∨ 1 ≤ w) ∧ (1 ≤ w → Sp.cls w = Sp.clsN w (Sp.sizes.drop i.toNat) i)) u.1) 5 ?_ ?_
  · refine ⟨rfl, by simp, by simp, by simp, .inl rfl, fun h => ?_⟩
    unfold Sp.cls; rw [if_neg (by omega)]; rfl
  · rintro n ⟨(i : Int), ⟨⟩⟩ M ⟨rfl, h0, h1, rfl, hz, hc⟩ X hX
    dsimp only at *
    refine en_br (fun h2 => ?_) (fun h2 => ?_)
    · replace h2 : i < (s.n : Int) := of_decide_eq_true h2
      refine en_br (fun h4 => ?_) (fun h4 => ?_)
      · replace h4 : w ≥ 1 := of_decide_eq_true h4
        have hc := hc h4
        have hi : i.toNat < Sp.sizes.length := by rw [hs] at h2; show i.toNat < 5; omega
        refine en_ixRo hro h0 h2 fun a0 ha => ?_
        refine en_ldRo (j := i.toNat) (x := Sp.sizes.getD i.toNat 0) ha hro (by rintro b o rfl; simp [fa_mk]) (getD_map hi) ?_
        rw [drop_getD 0 hi] at hc
        unfold Sp.clsN at hc
        refine en_br (fun h3 => ?_) (fun h3 => ?_)
        · rw [if_pos (of_decide_eq_true h3)] at hc
          refine en_rets (x := Sp.cls w) ?_ ⟨rfl, rfl⟩ tks ens
          rw [hc]; rfl
        · rw [if_neg (of_decide_eq_false h3)] at hc
          rw [wrap64 (by omega) (by omega)]
          refine hX (5 - (i + 1).toNat) _ _ (by rw [hs] at h2; omega) ⟨rfl, by dsimp only; omega, by dsimp only; rw [hs] at h2; omega, rfl, .inr h4, fun _ => ?_⟩
          dsimp only; rw [hc, show (i + 1).toNat = i.toNat + 1 by omega]
      · replace h4 : ¬ w ≥ 1 := of_decide_eq_false h4
        have : Sp.cls w = -1 := by unfold Sp.cls; rw [if_pos (by omega)]
        rw [this]
        exact en_rets (x := (-1 : Int)) rfl ⟨rfl, rfl⟩ tks ens
    · replace h2 : ¬ i < (s.n : Int) := of_decide_eq_false h2
      rw [hs] at h2
      have : i = 5 := by omega
      subst this
      have hc := hc (by omega)
      refine en_rets (x := Sp.cls w) ?_ ⟨rfl, rfl⟩ tks ens
      rw [hc]; rfl

theorem ref_block (w : Int) : Gl.Spec ρ Tryz.prog 153 [i64 w] [] R1 fun r M => r = Sp.blk w ∧ M = [] := by
  refine Spec.of (fun Q w' h => F.gloamingref1.Block.calls w h) fun R => ?_
  unfold F.gloamingref1.Block
  try simp only [List.cons_append, List.nil_append]
  refine en_call (ref_class w) tks ?_
  rintro x M ⟨rfl, rfl⟩
  try simp only [List.cons_append, List.nil_append]
  have hcc := Sp.cls_cases w
  refine en_br (fun h => ?_) (fun h => ?_)
  · replace h : Sp.cls w ≥ 0 := of_decide_eq_true h
    refine en_call (ref_sizes) tks ?_
    rintro s M ⟨hs, rfl⟩
    try simp only [List.cons_append, List.nil_append]
    refine en_ixSL (s := s) (xs := Sp.sizes.map i64) tk h (by rw [hs]; omega) fun a0 ha => ?_
    refine en_ldSL (s := s) (xs := Sp.sizes.map i64) (j := (Sp.cls w).toNat) (x := Sp.sizes.getD (Sp.cls w).toNat 0) ha tk (by rintro b o rfl; simp [fa_mk]) (getD_map (by show _ < 5; omega)) ?_
    refine en_rets (x := Sp.blk w) ?_ ⟨rfl, rfl⟩ tks ens
    rw [Sp.blk, if_pos h]; rfl
  · replace h : ¬ Sp.cls w ≥ 0 := of_decide_eq_false h
    have e : Sp.blk w = Sp.pgs w * 64 := by rw [Sp.blk, if_neg h]
    refine en_br (fun h1 => ?_) (fun h1 => ?_)
    · have h1 := of_decide_eq_true h1
      refine en_rets (x := Sp.blk w) ?_ ⟨rfl, rfl⟩ tks ens
      rw [e, Sp.pgs, if_pos (.inl h1)]; rfl
    · have h1 := of_decide_eq_false h1
      refine en_br (fun h2 => ?_) (fun h2 => ?_)
      · have h2 := of_decide_eq_true h2
        refine en_rets (x := Sp.blk w) ?_ ⟨rfl, rfl⟩ tks ens
        rw [e, Sp.pgs, if_pos (.inr (.inl h2))]; rfl
      · have h2 := of_decide_eq_false h2
        refine en_need (by decide) ?_
        have e2 : Sp.pgs w = (w + 63) / 64 := by rw [Sp.pgs, if_neg (by rintro (h' | h' | h') <;> omega)]
        rw [wrap64 (n := w + 64) (by omega) (by omega), wrap64 (n := w + 64 - 1) (by omega) (by omega), Int.tdiv_eq_ediv_of_nonneg (by omega), wrap64 (n := (w + 64 - 1) / 64) (by omega) (by omega), wrap64 (by omega) (by omega)]
        refine en_rets (x := Sp.blk w) ?_ ⟨rfl, rfl⟩ tks ens
        rw [e, e2]
        show _ = Value.int .i64 _
        congr 1; omega

end Go.Proofs.YtapchggmifbfoaaGreat
