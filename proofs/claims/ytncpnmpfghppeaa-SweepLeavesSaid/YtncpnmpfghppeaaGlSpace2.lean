/- Spaces: open, first, place, Alloc. -/
import Derived.Test.YtncpnmpfghppeaaGlSpace
set_option linter.unusedSimpArgs false
set_option linter.unusedVariables false
namespace Go.Proofs.Ytncpnmpfghppeaa
open Go Go.Gl
variable {ρ0 ρ : FR} {L L' : List Asn} {Post : Value → List Asn → Prop} {T : Tree}

def Pg.isS : Pg → Bool | .small _ _ => true | _ => false
def Sp.smallIx (pg : List Pg) : List Nat := (List.range pg.length).filter fun p => (pg.getD p .free).isS
theorem Sp.mem_smallIx {pg : List Pg} {p : Nat} : p ∈ Sp.smallIx pg ↔ ∃ c l, pg[p]? = some (.small c l) := by
  unfold Sp.smallIx
  rw [List.mem_filter, List.mem_range]
  constructor
  · rintro ⟨h1, h2⟩
    rw [List.getD_eq_getElem?_getD, List.getElem?_eq_getElem h1] at h2
    rw [List.getElem?_eq_getElem h1]
    revert h2
    generalize pg[p] = x
    intro h2
    cases x with
    | small c l => exact ⟨c, l, rfl⟩
    | _ => cases h2
  · rintro ⟨c, l, h⟩
    exact ⟨getElem?_lt h, by rw [List.getD_eq_getElem?_getD, h]; rfl⟩
theorem Sp.smallIx_sorted (pg : List Pg) : (Sp.smallIx pg).Pairwise (· < ·) := List.Pairwise.filter _ List.pairwise_lt_range
theorem keys_perm {pg : List Pg} {ls : List (Int × Ent)} (hS : Smalls pg ls) (nS : (ls.map (·.1)).Nodup) : (ls.map (·.1)).Perm ((Sp.smallIx pg).map fun p : Nat => (p : Int)) := by
  rw [List.perm_ext_iff_of_nodup nS]
  · intro i
    rw [List.mem_map, List.mem_map]
    constructor
    · rintro ⟨⟨i', q, c, l⟩, h1, rfl⟩
      obtain ⟨h0, h2⟩ := (hS i' c l).mp ⟨q, h1⟩
      exact ⟨i'.toNat, Sp.mem_smallIx.mpr ⟨c, l, h2⟩, by dsimp only; omega⟩
    · rintro ⟨p, hp, rfl⟩
      obtain ⟨c, l, h⟩ := Sp.mem_smallIx.mp hp
      obtain ⟨q, hq⟩ := (hS p c l).mpr ⟨by omega, by simpa using h⟩
      exact ⟨_, hq, rfl⟩
  · exact List.Pairwise.map (R := (· < ·)) (S := (· ≠ ·)) _ (fun a b h => by omega) (Sp.smallIx_sorted pg)
theorem keys_sorted {pg : List Pg} {ls : List (Int × Ent)} (hS : Smalls pg ls) (nS : (ls.map (·.1)).Nodup) : Sp.sort (ls.map (·.1)) = (Sp.smallIx pg).map fun p : Nat => (p : Int) := by
  rw [Sp.sort_perm (keys_perm hS nS)]
  exact Sp.sort_id (List.Pairwise.map (R := (· < ·)) (S := (· ≤ ·)) _ (fun a b h => by omega) (Sp.smallIx_sorted pg))
theorem keys_len {pg : List Pg} {ls : List (Int × Ent)} (hS : Smalls pg ls) (nS : (ls.map (·.1)).Nodup) : ls.length = (Sp.smallIx pg).length ∧ ls.length ≤ pg.length := by
  have h := (keys_perm hS nS).length_eq
  simp only [List.length_map] at h
  refine ⟨h, ?_⟩
  rw [h, Sp.smallIx]
  exact Nat.le_trans (List.length_filter_le _ _) (by simp)

def Sp.openQ (pg : List Pg) (c : Nat) (p : Nat) : Bool := match pg[p]? with | some (Pg.small c' l) => c' == c && !decide (l.count true = l.length) | _ => false
theorem Sp.openP_ix (pg : List Pg) (c : Nat) : Sp.openP pg c = (Sp.smallIx pg).find? (Sp.openQ pg c) := by
  show _ = ((List.range pg.length).filter fun p => (pg.getD p .free).isS).find? (Sp.openQ pg c)
  rw [List.find?_filter]
  unfold Sp.openP
  congr 1
  funext p
  change Sp.openQ pg c p = _
  cases h : Sp.openQ pg c p with
  | false => simp
  | true =>
    have : (pg[p]?.getD .free).isS = true := by
      unfold Sp.openQ at h
      split at h
      · rename_i c' l hp; rw [hp]; rfl
      · cases h
    simp [this]

theorem sz_inj {c c' : Nat} (h : c < 5) (h' : c' < 5) (e : Sp.sz c = Sp.sz c') : c = c' := by
  have h1 := Sp.sz_cases h
  have h2 := Sp.sz_cases h'
  omega

theorem space_open (p : Nat) (S : Spc) (hw : Wf S) (c : Nat) (hc : c < 5) : Gl.Spec ρ Try.prog 100 [.pointer (some ⟨p, 0, none⟩), i64 c] [SpaceA p S] IB
    fun r M => r = (match Sp.openP S.pg c with | some i => ((i : Int), true, ()) | none => ((0 : Int), false, ())) ∧ M = [SpaceA p S] := by
  have hmost := hw.most
  refine Spec.of (fun Q w h => F.space.Space.open.calls (some ⟨p, 0, none⟩) c h) fun R => ?_
  unfold F.space.Space.open
  try simp only [List.cons_append, List.nil_append]
  refine en_call (size_sizes) tks ?_
  rintro s M ⟨hs, rfl⟩
  try simp only [List.cons_append, List.nil_append]
  refine en_ixSL (s := s) (xs := Sp.sizes.map i64) tk (by omega) (by rw [hs]; omega) fun a0 ha => ?_
  refine en_ldSL (s := s) (xs := Sp.sizes.map i64) (j := c) (x := Sp.sizes.getD c 0) ha tk (by rintro b o rfl; simp [fa_mk]) (getD_map (by show _ < 5; omega)) ?_
  rw [Sp.sz_get hc]
  refine en_nn (SpaceA.op tk fun pa pp ms ml ls ll hS hL nS nL => ?_)
  refine en_ld (k := .map) (x := some ms) (by rw [fa_mk]) tk rfl ?_
  refine en_call (maps_keys ms) tks ?_
  rintro x M ⟨B, rfl, rfl⟩
  try simp only [List.cons_append, List.nil_append]
  have hkl := keys_len hS nS
  refine en_call (maps_sorted ms B fS ls (fun x hx => ?_) (by omega)) tks ?_
  · obtain ⟨i, q, c', l⟩ := x
    obtain ⟨h0, h1⟩ := (hS i c' l).mp ⟨q, hx⟩
    have := getElem?_lt h1
    exact ⟨h0, by dsimp only; omega⟩
  rintro r M ⟨hr, rfl⟩
  try simp only [List.cons_append, List.nil_append]
  rw [keys_sorted hS nS]
  refine Tr.keepSL (s := r) tk fun ρ' hle hro => ?_
  have hrn : r.n = (Sp.smallIx S.pg).length := by rw [hr, hkl.1]
  have hix : (Sp.smallIx S.pg).length ≤ 256 := by omega
  refine Tr.close tks (SpaceA.cl (p := p) (pa := pa) (pp := pp) (ms := ms) (ml := ml) hS hL) ?_
  refine en_lp (fun n u M => (fun j : Int => M = SpaceA p S :: SLc s 1 (Sp.sizes.map i64) :: R ∧
      0 ≤ j ∧ j ≤ (Sp.smallIx S.pg).length ∧ n = (Sp.smallIx S.pg).length - j.toNat ∧ Sp.openP S.pg c = ((Sp.smallIx S.pg).drop j.toNat).find? (Sp.openQ S.pg c)) u.1) (Sp.smallIx S.pg).length ?_ ?_
  · exact ⟨rfl, by simp, by simp, by simp, by simpa using Sp.openP_ix S.pg c⟩
  · rintro n ⟨(j : Int), ⟨⟩⟩ M ⟨rfl, h0, h1, rfl, hf⟩ X hX
    dsimp only at *
    refine en_br (fun h => ?_) (fun h => ?_)
    · replace h : j < (r.n : Int) := of_decide_eq_true h
      rw [hrn] at h
      have hj : j.toNat < (Sp.smallIx S.pg).length := by omega
      rw [drop_getD 0 hj] at hf
      obtain ⟨k, hk⟩ : ∃ k, (Sp.smallIx S.pg).getD j.toNat 0 = k := ⟨_, rfl⟩
      rw [hk] at hf
      have hkm : k ∈ Sp.smallIx S.pg := by
        rw [← hk, List.getD_eq_getElem?_getD, List.getElem?_eq_getElem hj]; exact List.getElem_mem hj
      obtain ⟨c', l, hpg⟩ := Sp.mem_smallIx.mp hkm
      obtain ⟨hc', hll⟩ := hw.small _ _ _ hpg
      have hklt := getElem?_lt hpg
      refine en_ixRo hro h0 (by rw [hrn]; exact h) fun a0 ha => ?_
      refine en_ldRo (j := j.toNat) (x := (k : Int)) ha hro (by rintro b o rfl; simp [fa_mk]) ?_ ?_
      · rw [List.getD_eq_getElem?_getD, List.getElem?_eq_getElem hj] at hk
        simp only [Option.getD_some] at hk
        rw [List.getElem?_map, List.getElem?_map, List.getElem?_eq_getElem hj, hk]; rfl
      clear hS hL nS nL hkl hr ls ll
      refine en_nn (SpaceA.op tk fun pa pp ms ml ls ll hS hL nS nL => ?_)
      refine en_ld (k := .map) (x := some ms) (by rw [fa_mk]) tk rfl ?_
      refine en_lkp1 (kd := .ptr) (g := gS) (z0 := none) uMS uI zPg hgS tk ?_
      obtain ⟨q, hq⟩ := hS.get nS hpg
      rw [hq]
      obtain ⟨l1, l2, hl12, _, _⟩ := aget_split hq
      subst hl12
      refine Tr.mid (P := PgA) tk ?_
      refine en_call (block_words q l (Sp.sz c')) (Takes.cons .here .nil) ?_
      rintro x M ⟨rfl, rfl⟩
      try simp only [List.cons_append, List.nil_append]
      have hz' := Sp.sz_cases hc'
      have hl32 : l.length ≤ 32 := by rw [hll]; rcases hz' with ⟨_, e⟩ | ⟨_, e⟩ | ⟨_, e⟩ | ⟨_, e⟩ | ⟨_, e⟩ <;> rw [e] <;> decide
      rw [List.find?_cons] at hf
      have hQ : Sp.openQ S.pg c k = (c' == c && !decide (l.count true = l.length)) := by unfold Sp.openQ; rw [hpg]
      rw [hQ] at hf
      have w1 : IntKind.wrap .i64 (j + 1) = j + 1 := wrap64 (by omega) (by omega)
      refine en_br (fun h2 => ?_) (fun h2 => ?_)
      · replace h2 : (Sp.sz c' : Int) = Sp.sz c := by simpa using h2
        have hcc : c' = c := sz_inj hc' hc (by omega)
        refine en_call (block_full q l (Sp.sz c') hl32) (Takes.cons .here .nil) ?_
        rintro x M ⟨rfl, rfl⟩
        try simp only [List.cons_append, List.nil_append]
        refine Tr.close (M := [PageA q l (Sp.sz c'), star ((l1 ++ l2).map PgA)]) tks (pg_close (k : Int) (q := q) (c := c') (l := l)) ?_
        refine en_br (fun h3 => ?_) (fun h3 => ?_)
        · have h3 : decide (l.count true = l.length) = false := by simpa using h3
          rw [h3, hcc] at hf
          simp only [beq_self_eq_true, Bool.not_false, Bool.and_self] at hf
          rw [hf]
          refine Tr.close tks (SpaceA.cl (p := p) (pa := pa) (pp := pp) (ms := ms) (ml := ml) hS hL) ?_
          exact en_rets (x := ((k : Int), true, ())) rfl ⟨rfl, rfl⟩ tks ens
        · have h3 : decide (l.count true = l.length) = true := by simpa using h3
          rw [h3] at hf
          simp only [Bool.not_true, Bool.and_false] at hf
          rw [w1]
          refine Tr.close tks (SpaceA.cl (p := p) (pa := pa) (pp := pp) (ms := ms) (ml := ml) hS hL) ?_
          exact hX _ _ _ (by omega) ⟨rfl, by dsimp only; omega, by dsimp only; omega, rfl, by dsimp only; rw [hf, show (j + 1).toNat = j.toNat + 1 by omega]⟩
      · replace h2 : ¬ (Sp.sz c' : Int) = Sp.sz c := by simpa using h2
        have hcc : (c' == c) = false := by rw [beq_eq_false_iff_ne]; rintro rfl; exact h2 rfl
        rw [hcc] at hf
        simp only [Bool.false_and] at hf
        rw [w1]
        refine Tr.close (M := [PageA q l (Sp.sz c'), star ((l1 ++ l2).map PgA)]) tks (pg_close (k : Int) (q := q) (c := c') (l := l)) ?_
        refine Tr.close tks (SpaceA.cl (p := p) (pa := pa) (pp := pp) (ms := ms) (ml := ml) hS hL) ?_
        exact hX _ _ _ (by omega) ⟨rfl, by dsimp only; omega, by dsimp only; omega, rfl, by dsimp only; rw [hf, show (j + 1).toNat = j.toNat + 1 by omega]⟩
    · replace h : ¬ j < (r.n : Int) := of_decide_eq_false h
      rw [List.drop_eq_nil_of_le (by omega)] at hf
      rw [hf]
      exact en_rets (x := ((0 : Int), false, ())) rfl ⟨rfl, rfl⟩ tks ens

end Go.Proofs.Ytncpnmpfghppeaa
