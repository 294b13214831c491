/- Marks of graphs: what laws share, more. -/
import Derived.Test.YtapchggmifbfoaaGreatGlMark3
set_option linter.unusedSimpArgs false
set_option linter.unusedVariables false
namespace Go.Proofs.YtapchggmifbfoaaGreat
open Go Go.Gl
variable {ρ0 ρ : FR} {L L' : List Asn} {Post : Value → List Asn → Prop} {T : Tree}

theorem Mk.mem_kids {S : Spc} {cs : List Cls} {a b : Int} : b ∈ Mk.kids S cs a ↔ ∃ f ∈ Ob.refs S cs a, (Ob.get S a f).2 = 0 ∧ (Ob.get S a f).1 = b := by
  unfold Mk.kids
  rw [List.mem_filterMap]
  constructor
  · rintro ⟨f, hf, h⟩
    unfold Mk.kid at h
    split at h
    · rename_i h0; injection h with h; exact ⟨f, hf, h0, h⟩
    · cases h
  · rintro ⟨f, hf, h0, h⟩
    exact ⟨f, hf, by unfold Mk.kid; rw [if_pos h0, h]⟩
theorem Mk.rch_by {S : Spc} {cs : List Cls} {R : List Int} {b : Int} (h : Mk.Rch S cs R b) : b ∈ R ∨ ∃ a, Mk.Rch S cs R a ∧ a ≠ b ∧ b ∈ Mk.kids S cs a := by
  induction h with
  | root h _ => exact .inl h
  | @step a b ha hb _ ih =>
    by_cases he : a = b
    · rw [← he]; exact ih
    · exact .inr ⟨a, ha, he, hb⟩
theorem Gr.OK.refs_in {S : Spc} {hs : List Hd} {l : List Int} (H : Gr.OK S hs l) (hg : ∀ h ∈ hs, Gr.Good h) {a : Int} (ha : a ∈ l) : ∀ f ∈ Ob.refs S Gr.cs a, (Ob.get S a f).2 = 0 := by
  obtain ⟨i, hi⟩ := List.mem_iff_getElem?.mp ha
  have hlt := getElem?_lt hi
  rw [H.len] at hlt
  have h2 := H.head i _ (List.getElem?_eq_getElem hlt)
  have hgd := hg _ (List.getElem_mem hlt)
  rw [show l.getD i 0 = a by rw [List.getD_eq_getElem?_getD, hi]; rfl] at h2
  generalize hs[i] = h at h2 hgd
  intro f hf
  have hb : 0 ≤ f ∧ f < h.n := by
    unfold Ob.refs at hf
    rw [h2] at hf
    dsimp only at hf
    have hm := hgd.may
    split at hf
    · rename_i hk
      unfold Ob.may at hm
      split at hm
      · cases hm
      · rw [if_neg (fun g => g hk)] at hm
        unfold Sp.clsAt at hf hm
        by_cases hc : 1 ≤ h.c ∧ h.c ≤ ((Gr.cs.length : Nat) : Int)
        · rw [if_pos hc] at hm hf
          have hc1 : h.c = 1 := by
            have : ((Gr.cs.length : Nat) : Int) = 1 := rfl
            omega
          rw [hc1] at hf hm
          have e : Gr.cs[((1 : Int) - 1).toNat]? = Option.some (3, [0, 2]) := rfl
          rw [e] at hm hf
          dsimp only at hm hf
          have hn3 : h.n = 3 := by
            split at hm
            · cases hm
            · rename_i h3; exact (Classical.not_not.mp h3).symm
          simp at hf
          omega
        · rw [if_neg hc] at hm
          cases hm
    · split at hf
      · unfold Sp.upto at hf
        obtain ⟨j, hj, rfl⟩ := List.mem_map.mp hf
        rw [List.mem_range] at hj
        omega
      · split at hf
        · rename_i h4
          have := hgd.rf h4
          simp at hf
          omega
        · cases hf
  rw [Ob.get_ok h2 hb.1 hb.2]
theorem en_getSLS' {M M' : List Asn} {s : Slc} {xs : List Int} {i : Int} {f : Int → Tree} (t0 : Take L (SLc s 1 (xs.map i64)) L') (t : Take M (SLc s 1 (xs.map i64)) M') (h0 : 0 ≤ i) (h1 : i < xs.length) (h : Tr ρ0 ρ L (f (xs.getD i.toNat 0)) Post) :
    Tr ρ0 ρ L (ix s.a s.n i 1 fun a => ldS (Sat ρ M) (.l (.int .i64)) a f) Post := by
  refine Tr.nlen t0 fun hn => ?_
  refine en_ixSL t0 h0 (by omega) fun a0 ha => ?_
  intro hle w hw
  refine ⟨xs.getD i.toNat 0, fun w' hw' => ?_, h hle w hw⟩
  rcases (hw'.perm t.perm).sl with ⟨g1, _⟩ | ⟨b, off, pre, rest, g1, g2, g3, g4, g5, g6⟩
  · rw [ha] at g1; cases g1
  · rw [ha] at g1
    injection g1 with g1
    obtain ⟨ty, hb⟩ := g6.cl
    rw [g1, fa_mk, Nat.mul_one]
    refine cell_of hb ?_
    rw [List.getElem?_toArray, ← g2, mid_get (by simp; omega)]
    exact getD_map (by omega)
/-! ### bits -/

/-- nothing is at 0 -/
theorem Mk.obj_zero {S : Spc} {cs : List Cls} (hw : HWf S cs) : ¬ Mk.obj S 0 := fun h => by
  unfold Mk.obj at h
  cases hh : Ob.head S 0 with
  | none => rw [hh] at h; cases h
  | some hd =>
    obtain ⟨n, w, e, hf, _⟩ := Ob.head_is hw hh
    have hn : n = 0 := by omega
    subst hn
    have h0 := (hw.wf.res 0).mpr rfl
    have hl := hw.wf.len
    have hp := hw.wf.pos
    have := Sp.find_other (S := S) (n := 0) (by omega) (fun c l h => by rw [h0] at h; cases h)
    rw [this, Sp.own_no] at hf
    · cases hf
    · intro j k hj hc
      have : j = 0 := by omega
      subst this
      rw [h0] at hj; cases hj
theorem Ob.get_in {S : Spc} {cs : List Cls} (hw : HWf S cs) {a i : Int} {h : Hd} (hh : Ob.head S a = some h) (h0 : (Ob.get S a i).2 = 0) : 0 ≤ i ∧ i < h.n := by
  unfold Ob.get at h0
  split at h0
  · rename_i hc; exact absurd h0 hc
  · rename_i hc
    obtain ⟨hd, e, g0, g1, _⟩ := Ob.fieldAt_ok hw (Classical.not_not.mp hc)
    rw [hh] at e; injection e with e; subst e
    exact ⟨g0, g1⟩

end Go.Proofs.YtapchggmifbfoaaGreat
