/- MarkKinds. -/
import Derived.Test.YtapchggmifbfoaaGreatGlMark4
import Derived.Test.YtapchggmifbfoaaGreatGlTxMarkKinds
set_option linter.unusedSimpArgs false
set_option linter.unusedVariables false
namespace Go.Proofs.YtapchggmifbfoaaGreat
open Go Go.Gl
variable {ρ0 ρ : FR} {L L' : List Asn} {Post : Value → List Asn → Prop} {T : Tree}

namespace MkKinds
def h0 : Hd := ⟨3, 0, 1, false⟩
theorem good0 : Gr.Good h0 := Gr.hd_good (n := 2) (by omega)
theorem core (h : Hd) (hg : Gr.Good h) (j : Int) (j0 : 0 ≤ j) (j1 : j < h.n) :
    ∃ (to fr : Int) (S1 S2 S3 : Spc), Ob.make (Sp.newSpc 60) Gr.cs h0 = (to, 0, S1) ∧ Ob.make S1 Gr.cs h = (fr, 0, S2) ∧ Ob.put S2 fr j to = (0, S3) ∧ HWf (Sp.newSpc 60) Gr.cs ∧ HWf S1 Gr.cs ∧ HWf S2 Gr.cs ∧ HWf S3 Gr.cs ∧
      Mk.obj S3 fr ∧ Ob.head S3 fr = some h ∧ (Mk.Rch S3 Gr.cs [fr] to ↔ j ∈ Ob.refs S3 Gr.cs fr) := by
  have K0 := Gr.OK.start
  obtain ⟨a0, K1⟩ := K0.make (by decide) good0
  rw [List.nil_append, List.nil_append] at K1
  have hA : Ob.make (Sp.newSpc 60) Gr.cs h0 = ((Ob.make (Sp.newSpc 60) Gr.cs h0).1, 0, (Ob.make (Sp.newSpc 60) Gr.cs h0).2.2) := by rw [← a0]
  generalize (Ob.make (Sp.newSpc 60) Gr.cs h0).1 = to at *
  generalize (Ob.make (Sp.newSpc 60) Gr.cs h0).2.2 = S1 at *
  obtain ⟨b0, K2⟩ := K1.make (by decide) hg
  have hne := (Ob.make_keep K1.hw b0 (K1.head 0 h0 rfl)).2.1
  have hzero := fun i i0 i1 => Ob.make_zero (i := i) K1.hw b0 i0 i1
  have hB : Ob.make S1 Gr.cs h = ((Ob.make S1 Gr.cs h).1, 0, (Ob.make S1 Gr.cs h).2.2) := by rw [← b0]
  generalize (Ob.make S1 Gr.cs h).1 = fr at *
  generalize (Ob.make S1 Gr.cs h).2.2 = S2 at *
  have hhS2 : Ob.head S2 fr = some h := K2.head 1 h rfl
  obtain ⟨p0, K3⟩ := K2.put (i := 1) (h := h) rfl j0 j1 to
  have p0 : (Ob.put S2 fr j to).1 = 0 := p0
  have K3 : Gr.OK (Ob.put S2 fr j to).2 ([h0] ++ [h]) ([to] ++ [fr]) := K3
  obtain ⟨_, hkeep⟩ := Ob.put_keep (x := to) K2.hw hhS2 j0 j1
  have hC : Ob.put S2 fr j to = (0, (Ob.put S2 fr j to).2) := by rw [← p0]
  have hget : ∀ i, 0 ≤ i → i < h.n → Ob.get (Ob.put S2 fr j to).2 fr i = if i = j then (to, 0) else (0, 0) := fun i i0 i1 => by
    rw [(hkeep fr h hhS2).2 i i0 i1, hzero i i0 i1]
    by_cases hi : i = j
    · rw [if_pos ⟨rfl, hi⟩, if_pos hi]
    · rw [if_neg (fun g => hi g.2), if_neg hi]
  clear hkeep
  generalize (Ob.put S2 fr j to).2 = S3 at *
  have hhF : Ob.head S3 fr = some h := K3.head 1 h rfl
  have hhT : Ob.head S3 to = some h0 := K3.head 0 h0 rfl
  have hobj := fun a => K3.obj (a := a)
  have hz := Mk.obj_zero K3.hw
  have hoF : Mk.obj S3 fr := (hobj fr).mpr (by simp)
  have hoT : Mk.obj S3 to := (hobj to).mpr (by simp)
  have hg2 : ∀ h' ∈ [h0] ++ [h], Gr.Good h' := fun h' hh' => by
    simp at hh'
    rcases hh' with rfl | rfl
    · exact good0
    · exact hg
  have hrefs := K3.refs_in hg2 (a := fr) (by simp)
  have key : ∀ b, Mk.Rch S3 Gr.cs [fr] b → b = fr ∨ (b = to ∧ j ∈ Ob.refs S3 Gr.cs fr) := fun b hb => by
    induction hb with
    | root h' _ => exact .inl (List.mem_singleton.mp h')
    | @step a b _ hb ho ih =>
      obtain ⟨f, hf, hf0, hfx⟩ := Mk.mem_kids.mp hb
      rcases ih with rfl | ⟨rfl, _⟩
      · obtain ⟨f0, f1⟩ := Ob.get_in K3.hw hhF hf0
        rw [hget f f0 f1] at hfx
        by_cases he : f = j
        · rw [if_pos he] at hfx
          exact .inr ⟨hfx.symm, he ▸ hf⟩
        · rw [if_neg he] at hfx
          rw [← hfx] at ho
          exact (hz ho).elim
      · have : Ob.refs S3 Gr.cs a = [] := by unfold Ob.refs; rw [hhT]; rfl
        rw [this] at hf; cases hf
  refine ⟨to, fr, S1, S2, S3, hA, hB, hC, K0.hw, K1.hw, K2.hw, K3.hw, hoF, hhF, fun hr => ?_, fun hj => ?_⟩
  · rcases key to hr with h' | h'
    · exact absurd h' hne
    · exact h'.2
  · refine .step (.root (List.mem_singleton.mpr rfl) hoF) (Mk.mem_kids.mpr ⟨j, hj, ?_, ?_⟩) hoT
    · rw [hget j j0 j1, if_pos rfl]
    · rw [hget j j0 j1, if_pos rfl]
end MkKinds

theorem law_markkinds (x y : Int) (hx : 0 ≤ x ∧ x < 256) (hy : 0 ≤ y ∧ y < 256) :
    Gl.Spec ρ Tryz.prog 8 [.int .u8 x, .int .u8 y] [] RB fun r M => r = true ∧ M = [] := by
  refine Spec.of (fun Q w h => F.gloaminglaw17.MarkKinds.calls x y h) fun R => ?_
  unfold F.gloaminglaw17.MarkKinds
  try simp only [List.cons_append, List.nil_append]
  refine en_call (g_graph ⟨none, 0, 0⟩ [] RoS.nil1 (by simp) (by simp)) tks ?_
  rintro x' M ⟨p, q, rfl, rfl⟩
  try simp only [List.cons_append, List.nil_append]
  have hG : (Gr.graph []).1 = Sp.newSpc 60 := by simp [Gr.graph, Gr.heads, Gr.made, Gr.puts]
  rw [hG]
  refine en_brf rfl ?_
  rw [wrap64 (n := y) (by omega) (by omega), wrap64 (n := x) (by omega) (by omega), Int.tmod_eq_emod_of_nonneg (a := y) (b := 3) hy.1, Int.tmod_eq_emod_of_nonneg (a := x) (b := 4) hx.1, wrap64 (n := 1 + y % 3) (by omega) (by omega)]
  obtain ⟨k, hk, hk4⟩ : ∃ k : Nat, x % 4 = k ∧ k < 4 := ⟨(x % 4).toNat, by omega, by omega⟩
  rw [hk]
  have hs3 : ∀ n : Int, 0 ≤ n → Gr.Good (Gr.hd n) := fun n hn => Gr.hd_good hn
  obtain ⟨hs, hhs⟩ : ∃ hs : List Hd, hs = [⟨2, 0, 5, false⟩, ⟨1, 1, 3, false⟩, ⟨3, 0, 5, false⟩, ⟨4, 1 + y % 3, 5, false⟩] := ⟨_, rfl⟩
  have hgood : ∀ h ∈ hs, Gr.Good h := fun h hh => by
    rw [hhs] at hh
    simp only [List.mem_cons, List.not_mem_nil, or_false] at hh
    rcases hh with rfl | rfl | rfl | rfl
    · exact hs3 17 (by omega)
    · exact hs3 0 (by omega)
    · exact hs3 18 (by omega)
    · have e : Gr.hd (4 * (y % 3) + 3) = ⟨4, 1 + y % 3, 5, false⟩ := by
        unfold Gr.hd
        rw [if_neg (by omega), if_pos (by omega), show (4 * (y % 3) + 3) / 4 % 3 = y % 3 by omega]
      rw [← e]; exact hs3 _ (by omega)
  have hsl : hs.length = 4 := by rw [hhs]; rfl
  have hh : hs[k]? = some hs[k] := List.getElem?_eq_getElem (by omega)
  have hgd := hgood _ (List.getElem_mem (by omega : k < hs.length))
  have hcase : (k = 0 ∧ hs[k] = ⟨2, 0, 5, false⟩) ∨ (k = 1 ∧ hs[k] = ⟨1, 1, 3, false⟩) ∨ (k = 2 ∧ hs[k] = ⟨3, 0, 5, false⟩) ∨ (k = 3 ∧ hs[k] = ⟨4, 1 + y % 3, 5, false⟩) := by
    subst hhs
    have : k = 0 ∨ k = 1 ∨ k = 2 ∨ k = 3 := by omega
    rcases this with rfl | rfl | rfl | rfl
    · exact .inl ⟨rfl, rfl⟩
    · exact .inr (.inl ⟨rfl, rfl⟩)
    · exact .inr (.inr (.inl ⟨rfl, rfl⟩))
    · exact .inr (.inr (.inr ⟨rfl, rfl⟩))
  have hcell : ∀ (j : Nat) (h : Hd), hs[j]? = some h → ∀ e v, (vals HL h.t)[e]? = some v → (hs.flatMap Hd.cs)[j * 4 + 0 + e]? = some v := fun j h hj e v he => by
    have hlt : e < 4 := getElem?_lt he
    rw [Nat.add_zero, flat_get (g := Hd.cs) (m := 4) hcs_len hj hlt]
    exact he
  have hcells : [.int .i64 2, .int .i64 0, .int .i64 5, .bool false, .int .i64 1, .int .i64 1, .int .i64 3, .bool false, .int .i64 3, .int .i64 0, .int .i64 5, .bool false, .int .i64 4, .int .i64 (1 + y % 3), .int .i64 5, .bool false] = hs.flatMap Hd.cs := by rw [hhs]; rfl
  have hw0 : HWf (Sp.newSpc 60) Gr.cs := Gr.OK.start.hw
  refine en_call (object_make p (Sp.newSpc 60) Gr.cs hw0 MkKinds.h0) tks ?_
  rintro x' M ⟨rfl, rfl⟩
  try simp only [List.cons_append, List.nil_append]
  refine en_need (by decide) (en_nw fun b3 => ?_)
  rw [hcells]
  refine Rd.bk (n := 4) (m := 4) (vs := hs.flatMap Hd.cs) (by rw [← hcells]; rfl) tk fun ρ1 hle1 hro => ?_
  generalize hs[k] = h at *
  have hn0 : 0 < h.n := by rcases hcase with ⟨_, rfl⟩ | ⟨_, rfl⟩ | ⟨_, rfl⟩ | ⟨_, rfl⟩ <;> (dsimp only; omega)
  obtain ⟨to, fr, S1, S2, S3, e1, e2, e3, w0, w1, w2, w3, hoF, hhF, hrch⟩ := MkKinds.core h hgd (y % h.n) (Int.emod_nonneg _ (by omega)) (Int.emod_lt_of_pos _ hn0)
  rw [e1]
  refine en_need (by decide) ?_
  refine en_ixRo hro (by omega) (show (k : Int) < ((4 : Nat) : Int) by omega) fun a0 ha => ?_
  rw [Int.toNat_natCast]
  refine en_ldRg (x := h.t) ha hro (j := k * 4) (by rintro b o rfl; simp [fa_mk]) (hcell _ _ hh) ?_
  dsimp only
  refine en_call (object_make p S1 Gr.cs w1 h) tks ?_
  rintro x' M ⟨rfl, rfl⟩
  try simp only [List.cons_append, List.nil_append]
  rw [e2]
  refine en_ixRo hro (by omega) (show (k : Int) < ((4 : Nat) : Int) by omega) fun a0 ha => ?_
  rw [Int.toNat_natCast]
  refine en_ldRo (k := .int .i64) (j := k * 4 + 2) (x := h.n) ha hro (by rintro b o rfl; rw [fa_mk, fa_mk, Nat.add_assoc]) (hcell k h hh 2 _ rfl) ?_
  refine en_need (by omega) ?_
  rw [Int.tmod_eq_emod_of_nonneg (a := y) (b := h.n) hy.1]
  dsimp only
  refine en_call (object_put p S2 Gr.cs w2 fr (y % h.n) to) tks ?_
  rintro x' M ⟨rfl, rfl⟩
  try simp only [List.cons_append, List.nil_append]
  rw [e3]
  refine en_call (mark_new p S3 Gr.cs w3 2 (by omega) (by omega)) tks ?_
  rintro x' M ⟨t, rfl, rfl⟩
  try simp only [List.cons_append, List.nil_append]
  refine en_brf rfl (en_nn (TrA.op (t := t) tk fun pb ps => ?_))
  refine en_ld (k := .ptr) (b := t) (off := 0) (x := some ⟨pb, 0, none⟩) (by rw [fa_mk]) tk rfl ?_
  refine Tr.close tks (TrA.cl (t := t) (ph := p) (pb := pb) (ps := ps) (m := (Mk.st0 S3.ws.length).m) (stk := (Mk.st0 S3.ws.length).stk) (room := (2 : Int).toNat) (over := (Mk.st0 S3.ws.length).over) (deep := (Mk.st0 S3.ws.length).deep)) ?_
  refine en_brf rfl ?_
  iterate 1
    refine en_call (law_err _) .nil ?_
    rintro x' M ⟨rfl, rfl⟩
    try simp only [List.cons_append, List.nil_append]
  iterate 1
    refine en_call (law_err _) .nil ?_
    rintro x' M ⟨rfl, rfl⟩
    try simp only [List.cons_append, List.nil_append]
  iterate 1
    refine en_call (law_err _) .nil ?_
    rintro x' M ⟨rfl, rfl⟩
    try simp only [List.cons_append, List.nil_append]
  iterate 1
    refine en_call (law_err _) .nil ?_
    rintro x' M ⟨rfl, rfl⟩
    try simp only [List.cons_append, List.nil_append]
  refine en_brf rfl ?_
  refine en_nw fun b17 => ?_
  refine Rd.bk (n := 1) (m := 1) (vs := ([fr] : List Int).map i64) rfl tk fun ρ2 hle2 ro2 => ?_
  refine en_call (mark_mark t p (2 : Int).toNat (by decide) S3 Gr.cs w3 (Mk.st0 S3.ws.length) Mk.rest0 ⟨some ⟨b17, 0, none⟩, 1, 1⟩ [fr] ro2 (by simp)) tks ?_
  rintro x' M ⟨q1, rfl, H1, hq1⟩
  try simp only [List.cons_append, List.nil_append]
  refine Tr.drop (A := SLc q 1 ((Gr.graph []).2.map i64)) tk ?_
  have hmF : Sp.has q1.m fr = true := (hq1 fr).mpr (.inr (.root (List.mem_singleton.mpr rfl) hoF))
  have hmT : Sp.has q1.m to = true ↔ y % h.n ∈ Ob.refs S3 Gr.cs fr := by rw [hq1, Mk.has0, ← hrch]; simp
  refine en_jn (fun (u : LTs [.bool]) M => M = TrA t p (2 : Int).toNat q1 :: HeapA p S3 Gr.cs :: R ∧ (u.1 = true ↔ y % h.n ∈ Ob.refs S3 Gr.cs fr)) ?_ ?_
  · rintro ⟨(w : Bool), ⟨⟩⟩ M ⟨rfl, hw'⟩
    dsimp only at hw' ⊢
    refine en_call (mark_marked t p (2 : Int).toNat q1 fr) tks ?_
    rintro x' M ⟨rfl, rfl⟩
    try simp only [List.cons_append, List.nil_append]
    refine en_brt hmF ?_
    refine en_call (mark_marked t p (2 : Int).toNat q1 to) tks ?_
    rintro x' M ⟨rfl, rfl⟩
    try simp only [List.cons_append, List.nil_append]
    have e : Sp.has q1.m to = w := by rw [Bool.eq_iff_iff, hmT, hw']
    refine en_brt (by rw [e]; simp) ?_
    refine en_call (law_awake17) tks ?_
    rintro x' M ⟨rfl, rfl⟩
    try simp only [List.cons_append, List.nil_append]
    exact en_rets (x := true) rfl ⟨rfl, rfl⟩ tks ens
  · intro J hJ
    have hrf : Ob.refs S3 Gr.cs fr = if h.k = 1 then (match Sp.clsAt Gr.cs h.c with | some c => c.2 | none => []) else if h.k = 2 then Sp.upto h.n.toNat else if h.k = 4 then [2] else [] := by unfold Ob.refs; (rw [hhF] <;> rfl)
    rcases hcase with ⟨rfl, rfl⟩ | ⟨rfl, rfl⟩ | ⟨rfl, rfl⟩ | ⟨rfl, rfl⟩
    · refine en_brt rfl (hJ _ _ ⟨rfl, ?_⟩)
      rw [hrf]
      have e : (if ((⟨2, 0, 5, false⟩ : Hd).k) = 1 then (match Sp.clsAt Gr.cs 0 with | some c => c.2 | none => []) else if ((⟨2, 0, 5, false⟩ : Hd).k) = 2 then Sp.upto (5 : Int).toNat else if ((⟨2, 0, 5, false⟩ : Hd).k) = 4 then [2] else []) = [0, 1, 2, 3, 4] := by decide
      have : y % 5 = 0 ∨ y % 5 = 1 ∨ y % 5 = 2 ∨ y % 5 = 3 ∨ y % 5 = 4 := by omega
      constructor
      · intro _
        rw [e]
        simp only [List.mem_cons, List.not_mem_nil, or_false]
        exact this
      · intro _; rfl
    · have e : Ob.refs S3 Gr.cs fr = [0, 2] := by rw [hrf]; decide
      have : y % 3 = 0 ∨ y % 3 = 1 ∨ y % 3 = 2 := by omega
      refine en_brf rfl (en_brt rfl (en_br (fun h2 => hJ _ _ ⟨rfl, ?_⟩) (fun h2 => en_brf rfl (hJ _ _ ⟨rfl, ?_⟩))))
      · have h2 : y % 3 ≠ 1 := by simpa using h2
        rw [e]; simp; omega
      · have h2 : y % 3 = 1 := by simpa using h2
        rw [e]; simp [h2]
    · have e : Ob.refs S3 Gr.cs fr = [] := by rw [hrf]; decide
      refine en_brf rfl (en_brf rfl (en_brf rfl (hJ _ _ ⟨rfl, ?_⟩)))
      rw [e]; simp
    · have e : Ob.refs S3 Gr.cs fr = [2] := by rw [hrf]; simp
      refine en_brf rfl (en_brf rfl (en_brt rfl (hJ _ _ ⟨rfl, ?_⟩)))
      rw [e]; simp

end Go.Proofs.YtapchggmifbfoaaGreat
