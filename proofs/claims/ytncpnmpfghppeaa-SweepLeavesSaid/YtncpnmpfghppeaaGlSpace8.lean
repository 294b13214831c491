/- Spaces: Each, Used: contracts. -/
import Derived.Test.YtncpnmpfghppeaaGlSpace7
set_option linter.unusedSimpArgs false
set_option linter.unusedVariables false
namespace Go.Proofs.Ytncpnmpfghppeaa
open Go Go.Gl
variable {ρ0 ρ : FR} {L L' : List Asn} {Post : Value → List Asn → Prop} {T : Tree}

/-- the blocks of a small page ahead of one -/
def Sp.atTo (p c : Nat) (l : List Bool) (q : Nat) : List Int := (List.range q).filterMap fun i => if l.getD i false then some ((p * 64 + i * Sp.sz c : Nat) : Int) else none
theorem Sp.atTo_all (p c : Nat) (l : List Bool) : Sp.atTo p c l l.length = Sp.at1 p (.small c l) := rfl
theorem Sp.atTo_skip {p c q k : Nat} {l : List Bool} (h : ∀ j, q ≤ j → j < k → l.getD j false ≠ true) (hqk : q ≤ k) : Sp.atTo p c l k = Sp.atTo p c l q := by
  obtain ⟨d, rfl⟩ : ∃ d, k = q + d := ⟨k - q, by omega⟩
  clear hqk
  induction d with
  | zero => rfl
  | succ d ih =>
    have hf : l.getD (q + d) false = false := by
      have := h (q + d) (by omega) (by omega)
      cases hh : l.getD (q + d) false with
      | false => rfl
      | true => exact absurd hh this
    unfold Sp.atTo at ih ⊢
    rw [show q + (d + 1) = q + d + 1 by omega, List.range_succ, List.filterMap_append, ih fun j h1 h2 => h j h1 (by omega)]
    simp only [List.filterMap_cons, hf, List.filterMap_nil]
    simp
theorem Sp.atTo_one {p c k : Nat} {l : List Bool} (h : l.getD k false = true) : Sp.atTo p c l (k + 1) = Sp.atTo p c l k ++ [((p * 64 + k * Sp.sz c : Nat) : Int)] := by
  unfold Sp.atTo
  rw [List.range_succ, List.filterMap_append]
  simp only [List.filterMap_cons, h, List.filterMap_nil, if_true]
theorem Sp.atTo_len (p c : Nat) (l : List Bool) (q : Nat) : (Sp.atTo p c l q).length ≤ q := by
  unfold Sp.atTo
  exact Nat.le_trans (List.length_filterMap_le _ _) (by simp)

theorem space_each (p : Nat) (S : Spc) (hw : Wf S) : Gl.Spec ρ Try.prog 35 [.pointer (some ⟨p, 0, none⟩)] [SpaceA p S] RS
    fun r M => r.n = (Sp.each S).length ∧ M = [SLc r 1 ((Sp.each S).map i64), SpaceA p S] := by
  have hmost := hw.most
  have hel := Sp.each_len hw
  refine Spec.of (fun Q w' h => F.space.Space.Each.calls (some ⟨p, 0, none⟩) h) fun R => ?_
  unfold F.space.Space.Each
  try simp only [List.cons_append, List.nil_append]
  refine en_brf rfl (en_nn (SpaceA.op tk fun pa pp ms ml ls ll hS hL nS nL => ?_))
  have hperm := each_perm hS nS hL nL
  have hpl := hperm.length_eq
  rw [List.length_append, List.length_map] at hpl
  have hent : ∀ i q c l, (i, q, c, l) ∈ ls → 0 ≤ i ∧ i < 256 ∧ c < 5 ∧ l.length = 64 / Sp.sz c ∧ l.length ≤ 32 := fun i q c l h => by
    obtain ⟨h0, h1⟩ := (hS i c l).mp ⟨q, h⟩
    obtain ⟨h2, h3⟩ := hw.small _ _ _ h1
    have h4 := getElem?_lt h1
    have hz := Sp.sz_cases h2
    refine ⟨h0, by omega, h2, h3, ?_⟩
    rw [h3]; rcases hz with ⟨_, e⟩ | ⟨_, e⟩ | ⟨_, e⟩ | ⟨_, e⟩ | ⟨_, e⟩ <;> rw [e] <;> decide
  refine en_ld (k := .map) (x := some ms) (by rw [fa_mk]) tk rfl ?_
  refine en_rng uMS tk fun r => ?_
  refine Tr.nilSL 1 ?_
  refine Tr.take (A := star (ls.map PgA)) tk ?_
  refine Tr.take (A := SLc ⟨none, 0, 0⟩ 1 []) tk ?_
  refine en_lp (fun m u M => (fun s : Slc => ∃ rem cur xs, m = rem.length ∧ M = SLc s 1 (xs.map i64) :: star (ls.map PgA) :: MI ms r fS ls rem cur :: blk p [.pointer (some ⟨pa, 0, none⟩), .pointer (some ⟨pp, 0, none⟩), .map (some ms), .map (some ml)] :: ArenaA pa S.ws :: PagesA pp (S.pg.map Pg.taken) :: IM ml fL ll :: R ∧
      s.n = xs.length ∧ (∀ x ∈ rem, x ∈ ls) ∧ (xs ++ rem.flatMap Sp.atE).Perm (ls.flatMap Sp.atE)) u.1) ls.length ?_ ?_
  · exact ⟨ls, none, [], rfl, rfl, rfl, fun x hx => hx, .refl _⟩
  · rintro m ⟨(s : Slc), ⟨⟩⟩ M ⟨rem, cur, xs, rfl, rfl, hn, hsub, hpm⟩ X hX
    have hpm' := hpm.length_eq
    rw [List.length_append] at hpm'
    dsimp only at *
    refine en_nxt (kv := .ptr) (g := gS) hgS tk (fun h0 => ?_) (fun k v r1 r2 hr => ?_)
    · -- the larger ones
      subst h0
      refine MI.over tk (en_nn ?_)
      refine en_ld (k := .map) (x := some ml) (by rw [fa_mk]) tk rfl ?_
      refine en_rng uML tk fun r2 => ?_
      rw [List.flatMap_nil, List.append_nil] at hpm
      refine Tr.take (A := SLc s 1 (xs.map i64)) tk ?_
      refine en_lp (fun m u M => (fun s : Slc => ∃ rem cur ys, m = rem.length ∧ M = SLc s 1 (ys.map i64) :: MI ml r2 fL ll rem cur :: IM ms fS ls :: star (ls.map PgA) :: blk p [.pointer (some ⟨pa, 0, none⟩), .pointer (some ⟨pp, 0, none⟩), .map (some ms), .map (some ml)] :: ArenaA pa S.ws :: PagesA pp (S.pg.map Pg.taken) :: R ∧
          s.n = ys.length ∧ (∀ x ∈ rem, x ∈ ll) ∧ (ys ++ rem.map fun x : Int × Nat => x.1 * 64).Perm (xs ++ ll.map fun x : Int × Nat => x.1 * 64)) u.1) ll.length ?_ ?_
      · exact ⟨ll, none, xs, rfl, rfl, hn, fun x hx => hx, .refl _⟩
      · rintro m ⟨(s : Slc), ⟨⟩⟩ M ⟨rem, cur, ys, rfl, rfl, hn2, hsub2, hpm2⟩ X hX
        have hpm2' := hpm2.length_eq
        rw [List.length_append, List.length_append, List.length_map, List.length_map] at hpm2'
        dsimp only at *
        refine en_nxt (kv := .int .i64) (g := gL) hgL tk (fun h0 => ?_) (fun k v r3 r4 hr => ?_)
        · subst h0
          rw [List.map_nil, List.append_nil] at hpm2
          have hall : ys.Perm (Sp.each S) := hpm2.trans ((hpm.append_right _).trans hperm)
          have hyl := hall.length_eq
          refine MI.over tk ?_
          refine en_call (sort_ints s ys (by omega)) tks ?_
          rintro x M rfl
          try simp only [List.cons_append, List.nil_append]
          have hso : Sp.sort ys = Sp.each S := by
            rw [Sp.sort_perm hall]
            exact Sp.sort_id ((Sp.each_sorted hw).imp fun h => by omega)
          rw [hso]
          refine Tr.close (A := SpaceA p S) (M := [blk p [.pointer (some ⟨pa, 0, none⟩), .pointer (some ⟨pp, 0, none⟩), .map (some ms), .map (some ml)], ArenaA pa S.ws, PagesA pp (S.pg.map Pg.taken), IM ms fS ls, IM ml fL ll, star (ls.map PgA)]) tks (SpaceA.cl (p := p) (pa := pa) (pp := pp) (ms := ms) (ml := ml) hS hL) ?_
          exact en_rets (x := (s : Slc)) rfl ⟨by rw [hn2, hyl], rfl⟩ tks ens
        · refine en_ent (kv := .int .i64) (g := gL) hgL tk ?_
          have hkv : (k, v) ∈ ll := hsub2 _ (by rw [hr]; simp)
          obtain ⟨hk0, hkp⟩ := (hL k v).mp hkv
          have hk := getElem?_lt hkp
          refine en_nw fun b => ?_
          dsimp only
          rw [wrap64 (n := k * 64) (by omega) (by omega)]
          refine en_app (s := s) (x := ⟨some ⟨b, 0, none⟩, 1, 1⟩) (ys := [i64 (k * 64)]) appInt tk (Rd.cl tk rfl rfl) rfl (by dsimp only; omega) (by dsimp only; omega) fun t ht => ?_
          have e : ys.map i64 ++ [i64 (k * 64)] = (ys ++ [k * 64]).map i64 := by simp
          rw [e]
          refine Tr.drop (A := blk b [i64 (k * 64)]) tk ?_
          refine hX (r3 ++ r4).length _ _ (by rw [hr]; simp) ⟨r3 ++ r4, _, ys ++ [k * 64], rfl, rfl, by dsimp only; rw [ht, hn2]; simp, fun x hx => hsub2 x ?_, ?_⟩
          · rw [hr]; simp at hx ⊢; rcases hx with h | h <;> simp [h]
          · refine List.Perm.trans ?_ hpm2
            rw [hr, List.append_assoc]
            refine List.Perm.append_left _ ?_
            simp only [List.map_append, List.map_cons, List.singleton_append]
            exact List.perm_middle.symm
    · obtain ⟨q, c, l⟩ := v
      refine en_ent (kv := .ptr) (g := gS) hgS tk ?_
      have hkv : (k, q, c, l) ∈ ls := hsub _ (by rw [hr]; simp)
      obtain ⟨hk0, hk, hc, hl, hl32⟩ := hent k q c l hkv
      have hz := Sp.sz_cases hc
      obtain ⟨pn, rfl⟩ : ∃ n : Nat, k = n := ⟨k.toNat, by omega⟩
      obtain ⟨l1, l2, hl12⟩ : ∃ l1 l2, ls = l1 ++ ((pn : Int), q, c, l) :: l2 := List.append_of_mem hkv
      rw [hr, List.flatMap_append, List.flatMap_cons] at hpm
      have hatl : (Sp.atE ((pn : Int), q, c, l)) = Sp.at1 pn (.small c l) := by unfold Sp.atE; simp
      rw [hatl] at hpm
      have hsz : xs.length + (ls.flatMap Sp.atE).length ≤ 20000 := by
        have : rem.flatMap Sp.atE = r1.flatMap Sp.atE ++ (Sp.at1 pn (.small c l) ++ r2.flatMap Sp.atE) := by rw [hr, List.flatMap_append, List.flatMap_cons, hatl]
        omega
      dsimp only [gS]
      refine en_nn ?_
      subst hl12
      refine Tr.mid (P := PgA) tk ?_
      refine PageA.op (p := q) (l := l) (w := (Sp.sz c : Int)) .here fun b => ?_
      refine en_ld (k := .ptr) (b := q) (x := some ⟨b, 0, none⟩) (by rw [fa_mk]) tk rfl ?_
      refine en_call (bits_next b l 0 true (by omega)) tks ?_
      rintro x M ⟨rfl, rfl⟩
      try simp only [List.cons_append, List.nil_append]
      refine Tr.close (M := [blk q [.pointer (some ⟨b, 0, none⟩), i64 (Sp.sz c)], BitsA b l]) tks (PageA.cl (p := q)) ?_
      refine Tr.take (A := SLc s 1 (xs.map i64)) tk ?_
      refine en_lp (fun n u M => (fun (t : Slc) (i : Int) => ∃ (qn : Nat) (ys : List Int), n = l.length - qn ∧ i = Sp.next l qn true ∧ ys = xs ++ Sp.atTo pn c l qn ∧ qn ≤ l.length ∧ t.n = ys.length ∧
          M = SLc t 1 (ys.map i64) :: PageA q l (Sp.sz c) :: star ((l1 ++ l2).map PgA) :: MI ms r fS (l1 ++ ((pn : Int), q, c, l) :: l2) (r1 ++ r2) (some ((pn : Int), q, c, l)) :: blk p [.pointer (some ⟨pa, 0, none⟩), .pointer (some ⟨pp, 0, none⟩), .map (some ms), .map (some ml)] :: ArenaA pa S.ws :: PagesA pp (S.pg.map Pg.taken) :: IM ml fL ll :: R) u.1 u.2.1) l.length ?_ ?_
      · exact ⟨0, xs, rfl, rfl, by simp [Sp.atTo], by omega, hn, rfl⟩
      · rintro n ⟨(t : Slc), (i : Int), ⟨⟩⟩ M ⟨qn, ys, rfl, hi, hys, hql, htn, rfl⟩ Y hY
        have hyl : ys.length ≤ 30000 := by
          rw [hys, List.length_append]
          have := Sp.atTo_len pn c l qn
          omega
        dsimp only at *
        rcases Sp.next_spec l true qn with ⟨g1, g2⟩ | ⟨kk, g1, g2, g3, g4, g5⟩
        · refine en_brf (decide_eq_false (show ¬ (i : Int) ≥ 0 by rw [hi, g1]; decide)) ?_
          refine Tr.close (M := [PageA q l (Sp.sz c), star ((l1 ++ l2).map PgA)]) tks (pg_close (pn : Int) (q := q) (c := c) (l := l)) ?_
          refine Tr.take (A := SLc t 1 (ys.map i64)) tk ?_
          refine hX (r1 ++ r2).length _ _ (by rw [hr]; simp) ⟨r1 ++ r2, _, ys, rfl, rfl, htn, fun x hx => hsub x ?_, ?_⟩
          · rw [hr]; simp at hx ⊢; rcases hx with h | h <;> simp [h]
          · refine List.Perm.trans ?_ hpm
            rw [hys, ← Sp.atTo_skip (p := pn) (c := c) (q := qn) (k := l.length) (l := l) (fun j h1 h2 => g2 j h1 h2) hql, Sp.atTo_all, List.append_assoc, List.flatMap_append]
            refine List.Perm.append_left _ ?_
            rw [← List.append_assoc, ← List.append_assoc]
            exact List.perm_append_comm.append_right _
        · refine en_brt (decide_eq_true (show (i : Int) ≥ 0 by rw [hi, g1]; omega)) ?_
          refine en_call (block_words q l (Sp.sz c)) tks ?_
          rintro x M ⟨rfl, rfl⟩
          try simp only [List.cons_append, List.nil_append]
          refine en_nw fun b2 => ?_
          rw [g1] at hi
          subst hi
          obtain ⟨f1, f2, f3⟩ := sz_fit hc g3 hl
          have e1 : (kk : Int) * (Sp.sz c : Int) = ((kk * Sp.sz c : Nat) : Int) := by simp
          rw [e1]
          have hone := Sp.atTo_one (p := pn) (c := c) g4
          have hskip := Sp.atTo_skip (p := pn) (c := c) (q := qn) (k := kk) (l := l) g5 g2
          rw [hskip] at hone
          generalize kk * Sp.sz c = dd at f1 hone ⊢
          rw [wrap64 (n := (dd : Int)) (by omega) (by omega), wrap64 (n := (pn : Int) * 64) (by omega) (by omega), wrap64 (n := (pn : Int) * 64 + (dd : Int)) (by omega) (by omega)]
          refine en_app (s := t) (x := ⟨some ⟨b2, 0, none⟩, 1, 1⟩) (ys := [i64 ((pn : Int) * 64 + (dd : Int))]) appInt tk (Rd.cl tk rfl rfl) rfl (by dsimp only; omega) (by dsimp only; omega) fun t2 ht2 => ?_
          have e : ys.map i64 ++ [i64 ((pn : Int) * 64 + (dd : Int))] = (ys ++ [((pn * 64 + dd : Nat) : Int)]).map i64 := by simp
          rw [e]
          refine Tr.drop (A := blk b2 [i64 ((pn : Int) * 64 + (dd : Int))]) tk ?_
          refine en_nn ?_
          refine PageA.op (p := q) (l := l) (w := (Sp.sz c : Int)) tk fun b => ?_
          refine en_ld (k := .ptr) (b := q) (x := some ⟨b, 0, none⟩) (by rw [fa_mk]) tk rfl ?_
          have w1 : IntKind.wrap .i64 ((kk : Int) + 1) = ((kk + 1 : Nat) : Int) := by rw [wrap64 (by omega) (by omega)]; simp
          rw [w1]
          refine en_call (bits_next b l ((kk + 1 : Nat) : Int) true (by omega)) tks ?_
          rintro x M ⟨rfl, rfl⟩
          try simp only [List.cons_append, List.nil_append]
          refine Tr.close (M := [blk q [.pointer (some ⟨b, 0, none⟩), i64 (Sp.sz c)], BitsA b l]) tks (PageA.cl (p := q)) ?_
          refine Tr.take (A := SLc t2 1 ((ys ++ [((pn * 64 + dd : Nat) : Int)]).map i64)) tk ?_
          exact hY (l.length - (kk + 1)) _ _ (by omega) ⟨kk + 1, ys ++ [((pn * 64 + dd : Nat) : Int)], rfl, rfl, by rw [hys, hone, List.append_assoc], by omega, by dsimp only; rw [ht2, htn]; simp, rfl⟩

/-- what all blocks have -/
def Sp.wordsAt (S : Spc) (a : Int) : Int := match Sp.find S a with | some (_, w) => (w : Int) | none => 0
theorem space_used (p : Nat) (S : Spc) (hw : Wf S) : Gl.Spec ρ Try.prog 19 [.pointer (some ⟨p, 0, none⟩)] [SpaceA p S] R1
    fun r M => r = ((Sp.each S).map (Sp.wordsAt S)).sum ∧ M = [SpaceA p S] := by
  have hel := Sp.each_len hw
  refine Spec.of (fun Q w' h => F.space.Space.Used.calls (some ⟨p, 0, none⟩) h) fun R => ?_
  unfold F.space.Space.Used
  try simp only [List.cons_append, List.nil_append]
  refine en_call (space_each p S hw) tks ?_
  rintro s M ⟨hs, rfl⟩
  try simp only [List.cons_append, List.nil_append]
  refine Tr.keepSL (s := s) tk fun ρ' hle hro => ?_
  have hb : ∀ a ∈ Sp.each S, 0 ≤ Sp.wordsAt S a ∧ Sp.wordsAt S a ≤ 1024 := fun a ha => by
    obtain ⟨n, rfl, _, w, h1, h2, h3, _⟩ := Sp.each_find hw ha
    unfold Sp.wordsAt; rw [h1]; dsimp only; omega
  have hsum : ∀ k, k ≤ (Sp.each S).length → 0 ≤ (((Sp.each S).take k).map (Sp.wordsAt S)).sum ∧ (((Sp.each S).take k).map (Sp.wordsAt S)).sum ≤ 1024 * k := by
    intro k
    induction k with
    | zero => intro _; simp
    | succ k ih =>
      intro hk
      have := ih (by omega)
      have h2 := hb ((Sp.each S).getD k 0) (by rw [List.getD_eq_getElem?_getD, List.getElem?_eq_getElem (by omega)]; exact List.getElem_mem _)
      rw [take_succ_getD 0 (by omega), List.map_append, List.sum_append]
      simp only [List.map_cons, List.map_nil, List.sum_cons, List.sum_nil]
      omega
  refine en_lp (fun n u M => (fun c i : Int => M = SpaceA p S :: R ∧ 0 ≤ i ∧ i ≤ (Sp.each S).length ∧ n = (Sp.each S).length - i.toNat ∧ c = (((Sp.each S).take i.toNat).map (Sp.wordsAt S)).sum) u.1 u.2.1) (Sp.each S).length ?_ ?_
  · exact ⟨rfl, by simp, by simp, by simp, by simp⟩
  · rintro n ⟨(c : Int), (i : Int), ⟨⟩⟩ M ⟨rfl, h0, h1, rfl, hc⟩ X hX
    dsimp only at *
    refine en_br (fun h => ?_) (fun h => ?_)
    · replace h : i < (s.n : Int) := of_decide_eq_true h
      have hi : i.toNat < (Sp.each S).length := by omega
      refine en_ixRo hro h0 h fun a0 ha => ?_
      refine en_ldRo (j := i.toNat) (x := (Sp.each S).getD i.toNat 0) ha hro (by rintro b o rfl; simp [fa_mk]) (getD_map hi) ?_
      refine en_call (space_find p S hw ((Sp.each S).getD i.toNat 0)) tks ?_
      rintro x M ⟨rfl, rfl⟩
      try simp only [List.cons_append, List.nil_append]
      have e : (Sp.found (Sp.find S ((Sp.each S).getD i.toNat 0))).2.1 = Sp.wordsAt S ((Sp.each S).getD i.toNat 0) := by
        unfold Sp.wordsAt Sp.found
        cases Sp.find S ((Sp.each S).getD i.toNat 0) <;> rfl
      rw [e]
      have hs1 := hsum i.toNat (by omega)
      have hs2 := hsum (i.toNat + 1) (by omega)
      have hstep : (((Sp.each S).take (i.toNat + 1)).map (Sp.wordsAt S)).sum = c + Sp.wordsAt S ((Sp.each S).getD i.toNat 0) := by
        rw [take_succ_getD 0 hi, List.map_append, List.sum_append, hc]; simp
      rw [hstep] at hs2
      rw [wrap64 (n := c + Sp.wordsAt S ((Sp.each S).getD i.toNat 0)) (by omega) (by omega), wrap64 (n := i + 1) (by omega) (by omega)]
      refine hX ((Sp.each S).length - (i + 1).toNat) _ _ (by omega) ⟨rfl, by dsimp only; omega, by dsimp only; omega, rfl, ?_⟩
      dsimp only
      rw [show (i + 1).toNat = i.toNat + 1 by omega, hstep]
    · replace h : ¬ i < (s.n : Int) := of_decide_eq_false h
      rw [List.take_of_length_le (by omega)] at hc
      rw [hc]
      exact en_rets (x := ((Sp.each S).map (Sp.wordsAt S)).sum) rfl ⟨rfl, rfl⟩ tks ens

end Go.Proofs.Ytncpnmpfghppeaa
