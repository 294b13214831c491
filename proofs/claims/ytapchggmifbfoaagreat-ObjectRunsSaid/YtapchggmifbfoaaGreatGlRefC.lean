/- The document's answer for spaces: Free, Each, Used, NewSpace. -/
import Derived.Test.YtapchggmifbfoaaGreatGlRefB
set_option linter.unusedSimpArgs false
set_option linter.unusedVariables false
namespace Go.Proofs.YtapchggmifbfoaaGreat
open Go Go.Gl
variable {ρ0 ρ : FR} {L L' : List Asn} {Post : Value → List Asn → Prop} {T : Tree}

theorem freeL_kind {pg : List Pg} {i k x : Nat} (hx : x < pg.length) : ((Sp.freeL pg i k).map Pg.kind).getD x 0 = if i ≤ x ∧ x < i + k then 0 else (pg.map Pg.kind).getD x 0 := by
  have hp := freeL_get (pg := pg) (i := i) (k := k) (j := x)
  rw [if_pos hx] at hp
  rw [kindD hp]
  split
  · rfl
  · rw [List.getD_eq_getElem?_getD, List.getD_eq_getElem?_getD, List.getElem?_map, List.getElem?_eq_getElem hx]; rfl
theorem freeL_many {pg : List Pg} {i k x : Nat} (hx : x < pg.length) : ((Sp.freeL pg i k).map Pg.many).getD x 0 = if i ≤ x ∧ x < i + k then 0 else (pg.map Pg.many).getD x 0 := by
  have hp := freeL_get (pg := pg) (i := i) (k := k) (j := x)
  rw [if_pos hx] at hp
  rw [manyD hp]
  split
  · rfl
  · rw [List.getD_eq_getElem?_getD, List.getD_eq_getElem?_getD, List.getElem?_map, List.getElem?_eq_getElem hx]; rfl
theorem freeL_bits {pg : List Pg} {i k : Nat} (h0 : ∀ x : Nat, i ≤ x → x < i + k → (pg.map Pg.bits).getD x [] = []) : (Sp.freeL pg i k).map Pg.bits = pg.map Pg.bits := by
  refine ext_getD [] (by simp [freeL_len]) fun x hx => ?_
  rw [List.length_map, freeL_len] at hx
  have hp := freeL_get (pg := pg) (i := i) (k := k) (j := x)
  rw [if_pos hx] at hp
  rw [bitsD hp]
  split
  · rename_i h; rw [h0 x h.1 h.2]; rfl
  · rw [List.getD_eq_getElem?_getD, List.getD_eq_getElem?_getD, List.getElem?_map, List.getElem?_eq_getElem hx]; rfl

theorem rf_free (p : Nat) (S : Spc) (hw : Wf S) (a : Int) : Gl.Spec ρ Tryz.prog 75 [.pointer (some ⟨p, 0, none⟩), i64 a] [RSpaceA p S] R1
    fun r M => r = (Sp.freeS S a).1 ∧ M = [RSpaceA p (Sp.freeS S a).2] := by
  have hmost := hw.most
  have hlen := hw.len
  refine Spec.of (fun Q w' h => F.gloamingref1.Space.Free.calls (some ⟨p, 0, none⟩) a h) fun R => ?_
  unfold F.gloamingref1.Space.Free
  try simp only [List.cons_append, List.nil_append]
  refine en_call (rf_find p S hw a) tks ?_
  rintro x' M ⟨rfl, rfl⟩
  try simp only [List.cons_append, List.nil_append]
  refine en_nw fun b2 => ?_
  rw [zcF]
  cases hf : Sp.find S a with
  | none =>
    have e : Sp.freeS S a = (2, S) := by unfold Sp.freeS; rw [hf]
    rw [e]
    simp only [Rf.fnd]
    refine en_st (b := b2) (off := 0) rfl tk (by simp) rfl ?_
    refine en_ld (k := .bool) (b := b2) (off := 2) (x := false) (by rw [fa_mk]) tk rfl ?_
    refine en_brt rfl ?_
    exact en_rets (x := (2 : Int)) rfl ⟨rfl, rfl⟩ tks ens
  | some x =>
    obtain ⟨s, w⟩ := x
    simp only [Rf.fnd]
    refine en_st (b := b2) (off := 0) rfl tk (by simp) rfl ?_
    refine en_ld (k := .bool) (b := b2) (off := 2) (x := true) (by rw [fa_mk]) tk rfl ?_
    refine en_brf rfl ?_
    refine en_ld (k := .int .i64) (b := b2) (off := 0) (x := (s : Int)) (by rw [fa_mk]) tk rfl ?_
    refine en_br (fun h => ?_) (fun h => ?_)
    · have hs : ¬ (s : Int) = a := by simpa using h
      have e : Sp.freeS S a = (2, S) := by unfold Sp.freeS; rw [hf]; dsimp only; rw [if_neg hs]
      rw [e]
      exact en_rets (x := (2 : Int)) rfl ⟨rfl, rfl⟩ tks ens
    · have hs : (s : Int) = a := by simpa using h
      subst hs
      obtain ⟨hn, hcase⟩ := Sp.find_at hw hf rfl
      have hP : s / 64 < S.pg.length := by omega
      have hw1 : IntKind.wrap .i64 (Int.tdiv (s : Int) 64) = ((s / 64 : Nat) : Int) := by rw [Int.tdiv_eq_ediv_of_nonneg (by omega), wrap64 (by omega) (by omega)]; omega
      have hw2 : Int.tmod (s : Int) 64 = ((s % 64 : Nat) : Int) := by rw [Int.tmod_eq_emod_of_nonneg (by omega)]; omega
      have e0 : Sp.freeS S s = match S.pg[s / 64]? with
         | some (.small c l) => (0, ⟨S.ws, S.pg.set (s / 64) (if (l.set (s % 64 / Sp.sz c) false).count true = 0 then .free else .small c (l.set (s % 64 / Sp.sz c) false))⟩)
         | some (.head k) => (0, ⟨S.ws, Sp.freeL S.pg (s / 64) k⟩)
         | _ => (0, S) := by
        unfold Sp.freeS; rw [hf]; dsimp only; rw [if_pos rfl]; rfl
      rw [hw1, hw2]
      refine en_need (by decide) (en_nn (RSpaceA.op tk fun sa sk sm sq ql hql => ?_))
      refine en_ld (k := .slice) (b := p) (off := 1) (x := sk) (by rw [fa_mk]) tk rfl ?_
      refine en_getSL (s := sk) (xs := S.pg.map Pg.kind) tk (by omega) (by simp; omega) ?_
      rw [Int.toNat_natCast]
      rcases hcase with ⟨c, l, k, g1, g2, g3, g4, g5, g6, g7⟩ | ⟨k, g1, g2, g3⟩
      · rw [g1] at e0
        dsimp only at e0
        rw [← g4] at e0
        have hkl : k < l.length := by
          rcases Nat.lt_or_ge k l.length with c | c
          · exact c
          · rw [List.getD_eq_getElem?_getD, List.getElem?_eq_none c] at g5; cases g5
        have hz := Sp.sz_cases g2
        rw [kindD g1]
        refine en_brf (by simp [Pg.kind]; omega) (en_drw (en_nn ?_))
        refine en_ld (k := .slice) (b := p) (off := 3) (x := sq) (by rw [fa_mk]) tk rfl ?_
        refine en_getQ (s := sq) (xs := ql) tk (by omega) (by omega) ?_
        rw [Int.toNat_natCast]
        refine en_need (by decide) ?_
        refine en_ld (k := .int .i64) (b := b2) (off := 1) (x := (w : Int)) (by rw [fa_mk]) tk rfl ?_
        refine en_need (by omega) ?_
        have hd : IntKind.wrap .i64 (Int.tdiv ((s % 64 : Nat) : Int) (w : Nat)) = (k : Int) := by
          have hkle : k ≤ s % 64 := by rw [g4]; exact Nat.div_le_self _ _
          rw [Int.tdiv_eq_ediv_of_nonneg (by omega), g7, show ((s % 64 : Nat) : Int) / (Sp.sz c : Nat) = ((s % 64 / Sp.sz c : Nat) : Int) from rfl, ← g4, wrap64 (by omega) (by omega)]
        rw [hd]
        refine bk_at (i := s / 64) (bl := S.pg.map Pg.bits) (ql := ql) (by simp [hql]) (by simp; omega) tk ?_
        rw [bitsD g1, show Pg.bits (.small c l) = l from rfl]
        refine en_setB (s := ql.getD (s / 64) nilS) (xs := l) tk (by omega) (by omega) ?_
        rw [Int.toNat_natCast]
        refine en_nn ?_
        refine en_ld (k := .slice) (b := p) (off := 3) (x := sq) (by rw [fa_mk]) tk rfl ?_
        refine en_getQ (s := sq) (xs := ql) tk (by omega) (by omega) ?_
        rw [Int.toNat_natCast]
        have h32 : l.length ≤ 32 := by rw [g3]; rcases hz with ⟨_, e⟩ | ⟨_, e⟩ | ⟨_, e⟩ | ⟨_, e⟩ | ⟨_, e⟩ <;> rw [e] <;> decide
        refine en_call (rf_count (ql.getD (s / 64) nilS) (l.set k false) (by simp; omega)) tks ?_
        rintro x' M ⟨rfl, rfl⟩
        try simp only [List.cons_append, List.nil_append]
        have hbs : ∀ (x : Pg), x.bits = l.set k false → (S.pg.map Pg.bits).set (s / 64) (l.set k false) = (S.pg.set (s / 64) x).map Pg.bits := fun x hx => by rw [map_set', hx]
        have hm : (S.pg.map Pg.many) = S.pg.map Pg.many := rfl
        have hsame : ∀ (f : Pg → Int) (x : Pg), f x = f (.small c l) → (S.pg.set (s / 64) x).map f = S.pg.map f := fun f x hf => by
          rw [map_set']
          refine ext_getD 0 (by simp) fun y hy => ?_
          rw [List.length_set, List.length_map] at hy
          rw [set_getD (by simpa using hy)]
          by_cases hyi : s / 64 = y
          · subst hyi; rw [if_pos rfl, hf, List.getD_eq_getElem?_getD, List.getElem?_map, g1]; rfl
          · rw [if_neg hyi]
        have hqs : ql.set (s / 64) (ql.getD (s / 64) nilS) = ql := by
          refine ext_getD nilS (by simp) fun x hx => ?_
          rw [List.length_set] at hx
          rw [set_getD hx]
          by_cases hxi : s / 64 = x
          · rw [if_pos hxi, hxi]
          · rw [if_neg hxi]
        refine en_br (fun h0 => ?_) (fun h0 => ?_)
        · have h0 : (l.set k false).count true = 0 := by have := eq_of_beq h0; omega
          rw [if_pos h0] at e0
          rw [e0]
          refine en_nn ?_
          refine en_ld (k := .slice) (b := p) (off := 1) (x := sk) (by rw [fa_mk]) tk rfl ?_
          refine en_setSL (s := sk) (xs := S.pg.map Pg.kind) tk (by omega) (by simp; omega) ?_
          refine en_nn ?_
          refine en_ld (k := .slice) (b := p) (off := 3) (x := sq) (by rw [fa_mk]) tk rfl ?_
          refine en_setQ (s := sq) (v := nilS) (xs := ql) tk (by omega) (by omega) ?_
          rw [Int.toNat_natCast]
          refine Tr.drop (A := SLc (ql.getD (s / 64) nilS) 1 ((l.set k false).map bv)) tk ?_
          refine Tr.nilSL 1 ?_
          refine Tr.imp (A := SLc ⟨none, 0, 0⟩ 1 []) (A' := SLc nilS 1 (([] : List Bool).map bv)) tk (fun _ h => h) ?_
          refine bk_cl (bl := S.pg.map Pg.bits) (ql := ql) (i := s / 64) (b := []) (q := nilS) (by simp [hql]) (by simp; omega) tks ?_
          rw [show (S.pg.map Pg.bits).set (s / 64) [] = (S.pg.set (s / 64) .free).map Pg.bits by rw [map_set']; rfl, show (S.pg.map Pg.kind).set (s / 64) 0 = (S.pg.set (s / 64) .free).map Pg.kind by rw [map_set']; rfl, ← hsame Pg.many .free rfl]
          refine Tr.close tks (RSpaceA.cl (p := p) (S := ⟨S.ws, S.pg.set (s / 64) .free⟩) (a := sa) (k := sk) (m := sm) (q := sq) (ql := ql.set (s / 64) nilS) (by simp [hql])) ?_
          exact en_rets (x := (0 : Int)) rfl ⟨rfl, rfl⟩ tks ens
        · have h0 : ¬ (l.set k false).count true = 0 := by intro h; rw [h] at h0; simp at h0
          rw [if_neg h0] at e0
          rw [e0]
          refine bk_cl (bl := S.pg.map Pg.bits) (ql := ql) (i := s / 64) (b := l.set k false) (q := ql.getD (s / 64) nilS) (by simp [hql]) (by simp; omega) tks ?_
          rw [hqs, hbs (.small c (l.set k false)) rfl, ← hsame Pg.many (.small c (l.set k false)) rfl, ← hsame Pg.kind (.small c (l.set k false)) rfl]
          refine Tr.close tks (RSpaceA.cl (p := p) (S := ⟨S.ws, S.pg.set (s / 64) (.small c (l.set k false))⟩) (a := sa) (k := sk) (m := sm) (q := sq) (ql := ql) (by simp [hql])) ?_
          exact en_rets (x := (0 : Int)) rfl ⟨rfl, rfl⟩ tks ens
      · rw [g1] at e0
        dsimp only at e0
        obtain ⟨k1, k2, k3, k4⟩ := hw.head _ _ g1
        rw [e0, kindD g1]
        refine en_brt rfl (en_nn ?_)
        refine en_ld (k := .slice) (b := p) (off := 2) (x := sm) (by rw [fa_mk]) tk rfl ?_
        refine en_getSL (s := sm) (xs := S.pg.map Pg.many) tk (by omega) (by simp; omega) ?_
        rw [Int.toNat_natCast, manyD g1, show Pg.many (.head k) = (k : Int) from rfl, wrap64 (n := ((s / 64 : Nat) : Int) + k) (by omega) (by omega)]
        refine Tr.take (A := SLc sk 1 ((S.pg.map Pg.kind).map i64)) tk ?_
        refine Tr.drop (A := blk b2 _) tk ?_
        have hnb : ∀ x : Nat, s / 64 ≤ x → x < s / 64 + k → (S.pg.map Pg.bits).getD x [] = [] := fun x h1 h2 => by
          rcases Nat.lt_or_ge (s / 64) x with c | c
          · rw [bitsD (k4 x c h2)]; rfl
          · rw [show x = s / 64 by omega, bitsD g1]; rfl
        have hnm : ∀ x : Nat, s / 64 < x → x < s / 64 + k → (S.pg.map Pg.many).getD x 0 = 0 := fun x h1 h2 => by
          rw [manyD (k4 x h1 h2)]; rfl
        refine en_lp (fun m u M => (fun j : Int => ∃ ks : List Int, M = SLc sk 1 (ks.map i64) :: blk p [slv sa, slv sk, slv sm, slv sq] :: SLc sa 1 (S.ws.map i64) :: SLc sm 1 ((S.pg.map Pg.many).map i64) :: SLc sq 1 (ql.map slv) :: star (((S.pg.map Pg.bits).zip ql).map BkA) :: R ∧
          ((s / 64 : Nat) : Int) ≤ j ∧ j ≤ ((s / 64 : Nat) : Int) + k ∧ m = s / 64 + k - j.toNat ∧ ks.length = S.pg.length ∧ ∀ x : Nat, x < S.pg.length → ks.getD x 0 = if s / 64 ≤ x ∧ x < j.toNat then 0 else (S.pg.map Pg.kind).getD x 0) u.1) k ?_ ?_
        · exact ⟨S.pg.map Pg.kind, rfl, by simp, by dsimp only; omega, by dsimp only; omega, by simp, fun x hx => by dsimp only; rw [if_neg (by omega)]⟩
        · rintro m ⟨(j : Int), ⟨⟩⟩ M ⟨ks, rfl, j0, j1, rfl, hkl, hks⟩ X hX
          dsimp only at *
          refine en_br (fun h3 => ?_) (fun h3 => ?_)
          · replace h3 : j < ((s / 64 : Nat) : Int) + k := of_decide_eq_true h3
            refine en_nn ?_
            refine en_ld (k := .slice) (b := p) (off := 1) (x := sk) (by rw [fa_mk]) tk rfl ?_
            refine en_setSL (s := sk) (xs := ks) tk (by omega) (by omega) ?_
            rw [wrap64 (n := j + 1) (by omega) (by omega)]
            refine hX (s / 64 + k - (j + 1).toNat) _ _ (by omega) ⟨_, rfl, by dsimp only; omega, by dsimp only; omega, rfl, by simp [hkl], fun x hx => ?_⟩
            dsimp only
            rw [set_getD (by omega), hks x hx]
            by_cases hxj : j.toNat = x
            · rw [if_pos hxj, if_pos (by omega)]
            · rw [if_neg hxj]
              by_cases hc : s / 64 ≤ x ∧ x < j.toNat
              · rw [if_pos hc, if_pos (by omega)]
              · rw [if_neg hc, if_neg (by omega)]
          · replace h3 : ¬ j < ((s / 64 : Nat) : Int) + k := of_decide_eq_false h3
            rw [show j.toNat = s / 64 + k by omega] at hks
            refine en_nn ?_
            refine en_ld (k := .slice) (b := p) (off := 2) (x := sm) (by rw [fa_mk]) tk rfl ?_
            refine en_setSL (s := sm) (xs := S.pg.map Pg.many) tk (by omega) (by simp; omega) ?_
            rw [Int.toNat_natCast]
            have e1 : ks = (Sp.freeL S.pg (s / 64) k).map Pg.kind := by
              refine ext_getD 0 (by simp [hkl, freeL_len]) fun x hx => ?_
              rw [freeL_kind (by omega), hks x (by omega)]
            have e2 : (S.pg.map Pg.many).set (s / 64) 0 = (Sp.freeL S.pg (s / 64) k).map Pg.many := by
              refine ext_getD 0 (by simp [freeL_len]) fun x hx => ?_
              rw [List.length_set, List.length_map] at hx
              rw [set_getD (by simpa using hx), freeL_many hx]
              by_cases hxi : s / 64 = x
              · rw [if_pos hxi, if_pos (by omega)]
              · rw [if_neg hxi]
                by_cases hc : s / 64 ≤ x ∧ x < s / 64 + k
                · rw [if_pos hc, hnm x (by omega) hc.2]
                · rw [if_neg hc]
            rw [e1, e2]
            refine Tr.imp (A := star (((S.pg.map Pg.bits).zip ql).map BkA)) (A' := star ((((Sp.freeL S.pg (s / 64) k).map Pg.bits).zip ql).map BkA)) tk (fun h H => by rw [freeL_bits hnb]; exact H) ?_
            refine Tr.close tks (RSpaceA.cl (p := p) (S := ⟨S.ws, Sp.freeL S.pg (s / 64) k⟩) (a := sa) (k := sk) (m := sm) (q := sq) (ql := ql) (by dsimp only; rw [freeL_len]; exact hql)) ?_
            exact en_rets (x := (0 : Int)) rfl ⟨rfl, rfl⟩ tks ens

/-- where the first blocks of a page begin -/
def Pg.upto (p : Nat) (x : Pg) (i : Nat) : List Int := match x with | .small c l => Sp.atTo p c l i | .head _ => [((p * 64 : Nat) : Int)] | _ => []
theorem upto_all {p : Nat} {x : Pg} : Pg.upto p x x.bits.length = Sp.at1 p x := by
  cases x <;> first | rfl | exact Sp.atTo_all _ _ _
theorem at1_len' {p : Nat} {x : Pg} {i : Nat} (h : i ≤ x.bits.length) (hb : x.bits.length ≤ 32) : (Pg.upto p x i).length ≤ 32 := by
  cases x with
  | small c l => exact Nat.le_trans (Sp.atTo_len p c l i) (by simp [Pg.bits] at h hb; omega)
  | head k => simp [Pg.upto]
  | _ => simp [Pg.upto]
theorem each_part_len {pg : List Pg} (hb : ∀ x ∈ pg, x.bits.length ≤ 32) (q : Nat) (hq : q ≤ pg.length) : ((List.range q).flatMap fun p => Sp.at1 p (pg.getD p .free)).length ≤ 32 * q := by
  induction q with
  | zero => simp
  | succ q ih =>
    rw [List.range_succ, List.flatMap_append, List.length_append]
    have := ih (by omega)
    have h2 : (Sp.at1 q (pg.getD q .free)).length ≤ 32 := by
      rw [← upto_all]
      refine at1_len' (Nat.le_refl _) (hb _ ?_)
      rw [List.getD_eq_getElem?_getD, List.getElem?_eq_getElem (by omega)]; exact List.getElem_mem _
    simp only [List.flatMap_cons, List.flatMap_nil, List.append_nil]
    omega

theorem rf_each (p : Nat) (S : Spc) (hw : Wf S) : Gl.Spec ρ Tryz.prog 73 [.pointer (some ⟨p, 0, none⟩)] [RSpaceA p S] RS
    fun r M => M = [SLc r 1 ((Sp.each S).map i64), RSpaceA p S] := by
  have hmost := hw.most
  have hbits : ∀ x ∈ S.pg, x.bits.length ≤ 32 := fun x hx => by
    obtain ⟨i, hi⟩ := List.mem_iff_getElem?.mp hx
    cases x with
    | small c l =>
      obtain ⟨h1, h2⟩ := hw.small i c l hi
      simp only [Pg.bits]
      rw [h2]
      rcases Sp.sz_cases h1 with ⟨_, e⟩ | ⟨_, e⟩ | ⟨_, e⟩ | ⟨_, e⟩ | ⟨_, e⟩ <;> rw [e] <;> decide
    | _ => simp [Pg.bits]
  refine Spec.of (fun Q w' h => F.gloamingref1.Space.Each.calls (some ⟨p, 0, none⟩) h) fun R => ?_
  unfold F.gloamingref1.Space.Each
  try simp only [List.cons_append, List.nil_append]
  refine Tr.nilSL 1 ?_
  refine en_lp (fun m u M => (fun (t : Slc) (i : Int) => M = SLc t 1 (((List.range i.toNat).flatMap fun p => Sp.at1 p (S.pg.getD p .free)).map i64) :: RSpaceA p S :: R ∧ 0 ≤ i ∧ i ≤ S.pg.length ∧ m = S.pg.length - i.toNat) u.1 u.2.1) S.pg.length ?_ ?_
  · exact ⟨rfl, by simp, by dsimp only; omega, by simp⟩
  · rintro m ⟨(t : Slc), (i : Int), ⟨⟩⟩ M ⟨rfl, i0, i1, rfl⟩ X hX
    dsimp only at *
    refine en_nn (RSpaceA.op tk fun sa sk sm sq ql hql => ?_)
    refine en_ld (k := .slice) (b := p) (off := 1) (x := sk) (by rw [fa_mk]) tk rfl ?_
    refine Tr.nlen (s := sk) (xs := S.pg.map Pg.kind) tk fun hsk => ?_
    rw [List.length_map] at hsk
    refine en_br (fun h => ?_) (fun h => ?_)
    · replace h : i < (sk.n : Int) := of_decide_eq_true h
      obtain ⟨P, rfl⟩ := Int.eq_ofNat_of_zero_le i0
      simp only [Int.toNat_natCast] at *
      have hP : P < S.pg.length := by omega
      have hx : S.pg[P]? = some S.pg[P] := List.getElem?_eq_getElem hP
      have hpl := each_part_len hbits P (by omega)
      have hgd : S.pg.getD P .free = S.pg[P] := getD_of hx
      have hxb := hbits _ (List.getElem_mem hP)
      have hnext : (List.range (P + 1)).flatMap (fun p => Sp.at1 p (S.pg.getD p .free)) = ((List.range P).flatMap fun p => Sp.at1 p (S.pg.getD p .free)) ++ Sp.at1 P S.pg[P] := by
        rw [List.range_succ, List.flatMap_append, List.flatMap_cons, List.flatMap_nil, List.append_nil, hgd]
      generalize (List.range P).flatMap (fun p => Sp.at1 p (S.pg.getD p .free)) = acc at *
      generalize hxx : S.pg[P] = x at *
      refine en_nn ?_
      refine en_ld (k := .slice) (b := p) (off := 1) (x := sk) (by rw [fa_mk]) tk rfl ?_
      refine en_getSL (s := sk) (xs := S.pg.map Pg.kind) tk (by omega) (by simp; omega) ?_
      rw [Int.toNat_natCast, kindD hx]
      have w1 : IntKind.wrap .i64 ((P : Int) + 1) = (P : Int) + 1 := wrap64 (by omega) (by omega)
      have w2 : IntKind.wrap .i64 ((P : Int) * 64) = (P : Int) * 64 := wrap64 (by omega) (by omega)
      rw [w1, w2]
      refine Tr.close tks (RSpaceA.cl (p := p) (S := S) (a := sa) (k := sk) (m := sm) (q := sq) hql) ?_
      refine Tr.take (A := SLc t 1 (acc.map i64)) tk ?_
      have hdone : ∀ t' : Slc, Tr ρ ρ (SLc t' 1 ((acc ++ Sp.at1 P x).map i64) :: RSpaceA p S :: R) (X (⟨t'.a, t'.n, t'.c⟩, (P : Int) + 1, ())) (SP RS (fun r M => M = [SLc r 1 ((Sp.each S).map i64), RSpaceA p S]) R) := fun t' => by
        refine hX (S.pg.length - (P + 1)) _ _ (by omega) ⟨?_, by dsimp only; omega, by dsimp only; omega, by dsimp only; omega⟩
        dsimp only
        rw [show ((P : Int) + 1).toNat = P + 1 by omega, hnext]
      refine en_br (fun h6 => ?g1) (fun h6 => ?g2)
      case' g1 =>
        have h6 : x.kind = 6 := eq_of_beq h6
        obtain ⟨k, rfl⟩ : ∃ k, x = .head k := by
          cases x with
          | head k => exact ⟨k, rfl⟩
          | small c l => have := (hw.small _ _ _ hx).1; simp [Pg.kind] at h6; omega
          | _ => simp [Pg.kind] at h6
        refine en_appI (s := t) (xs := acc) appInt tk (by omega) fun t r => ?_
        have e0 : acc ++ [(P : Int) * 64] = acc ++ Pg.upto P (.head k) 0 := by unfold Pg.upto; simp
        rw [e0]
        have hc : ∀ c l, Pg.head k ≠ .small c l → True := fun _ _ _ => trivial
        generalize Pg.head k = x at *
      case' g2 =>
        have h6 : x.kind ≠ 6 := by simpa using h6
        have e0 : acc = acc ++ Pg.upto P x 0 := by
          cases x with
          | head k => exact absurd rfl h6
          | small c l => simp [Pg.upto, Sp.atTo]
          | _ => simp [Pg.upto]
        conv in (SLc t 1 (acc.map i64)) => rw [e0]
      all_goals
        refine en_lp (fun m u M => (fun (t : Slc) (j : Int) => M = SLc t 1 ((acc ++ Pg.upto P x j.toNat).map i64) :: RSpaceA p S :: R ∧ 0 ≤ j ∧ j ≤ x.bits.length ∧ m = x.bits.length - j.toNat) u.1 u.2.1) x.bits.length ?_ ?_
        · exact ⟨rfl, by simp, by dsimp only; omega, by simp⟩
        · rintro m ⟨(t : Slc), (j : Int), ⟨⟩⟩ M ⟨rfl, j0, j1, rfl⟩ Y hY
          dsimp only at *
          refine en_nn (RSpaceA.op tk fun sa sk sm sq ql hql => ?_)
          refine en_ld (k := .slice) (b := p) (off := 3) (x := sq) (by rw [fa_mk]) tk rfl ?_
          refine en_getQ (s := sq) (xs := ql) tk (by omega) (by omega) ?_
          rw [Int.toNat_natCast]
          refine bk_at (i := P) (bl := S.pg.map Pg.bits) (ql := ql) (by simp [hql]) (by simp; omega) tk ?_
          rw [bitsD hx]
          refine Tr.vlen (s := ql.getD P nilS) (xs := x.bits.map bv) tk fun hqn => ?_
          rw [List.length_map] at hqn
          refine en_br (fun h3 => ?_) (fun h3 => ?_)
          · replace h3 : j < ((ql.getD P nilS).n : Int) := of_decide_eq_true h3
            obtain ⟨c, l, rfl⟩ : ∃ c l, x = .small c l := by
              cases x with
              | small c l => exact ⟨c, l, rfl⟩
              | _ => simp only [Pg.bits, List.length_nil] at hqn; omega
            obtain ⟨c5, hll⟩ := hw.small _ _ _ hx
            have hz := Sp.sz_cases c5
            simp only [Pg.bits] at *
            refine en_nn ?_
            refine en_ld (k := .slice) (b := p) (off := 3) (x := sq) (by rw [fa_mk]) tk rfl ?_
            refine en_getQ (s := sq) (xs := ql) tk (by omega) (by omega) ?_
            rw [Int.toNat_natCast]
            refine en_getB (s := ql.getD P nilS) (xs := l) tk j0 (by omega) ?_
            rw [wrap64 (n := j + 1) (by omega) (by omega)]
            have hal := Sp.atTo_len P c l j.toNat
            refine en_br (fun h4 => ?_) (fun h4 => ?_)
            · have hone := Sp.atTo_one (p := P) (c := c) h4
              refine en_drw (en_held [blk p [slv sa, slv sk, slv sm, slv sq], SLc sk 1 ((S.pg.map Pg.kind).map i64)] tks (en_nn ?_))
              refine en_ldS (k := .slice) (b := p) (off := 1) (x := sk) (by rw [fa_mk]) tk rfl ?_
              refine en_getSLS (s := sk) (xs := S.pg.map Pg.kind) tk tk (by omega) (by simp; omega) ?_
              rw [Int.toNat_natCast, kindD hx]
              refine en_call (ref_sizes) tks ?_
              rintro s M ⟨hs, rfl⟩
              try simp only [List.cons_append, List.nil_append]
              refine en_chk tks (en_cut [SLc s 1 (Sp.sizes.map i64), blk p [slv sa, slv sk, slv sm, slv sq], SLc sk 1 ((S.pg.map Pg.kind).map i64)] tks (fun w h => h.sub tks) ?_)
              rw [show IntKind.wrap .i64 (Pg.kind (.small c l) - 1) = (c : Int) by simp only [Pg.kind]; rw [wrap64 (by omega) (by omega)]; omega]
              refine en_getSLS (s := s) (xs := Sp.sizes) tk tk (by omega) (by show (c : Int) < 5; omega) ?_
              rw [Int.toNat_natCast, Sp.sz_get c5]
              refine Tr.drop (A := SLc s 1 (Sp.sizes.map i64)) tk ?_
              have hjl : j.toNat < l.length := by omega
              obtain ⟨f1, f2, f3⟩ := sz_fit c5 hjl hll
              have em : j * (Sp.sz c : Nat) = ((j.toNat * Sp.sz c : Nat) : Int) := by rw [Int.natCast_mul]; congr 1; omega
              rw [em, wrap64 (n := ((j.toNat * Sp.sz c : Nat) : Int)) (by omega) (by omega), wrap64 (n := (P : Int) * 64 + ((j.toNat * Sp.sz c : Nat) : Int)) (by omega) (by omega)]
              refine bk_cl0 (bl := S.pg.map Pg.bits) (ql := ql) (i := P) (by simp [hql]) (by simp; omega) (by rw [bitsD hx]; exact tks) ?_
              refine Tr.close tks (RSpaceA.cl (p := p) (S := S) (a := sa) (k := sk) (m := sm) (q := sq) hql) ?_
              refine en_appI (s := t) (xs := acc ++ Pg.upto P (.small c l) j.toNat) appInt tk (by simp only [Pg.upto, List.length_append]; omega) fun r hr => ?_
              refine hY (l.length - (j + 1).toNat) _ _ (by omega) ⟨?_, by dsimp only; omega, by dsimp only; omega, rfl⟩
              dsimp only
              rw [show (j + 1).toNat = j.toNat + 1 by omega, List.append_assoc]
              simp only [Pg.upto]
              rw [hone, show ((P : Int) * 64 + ((j.toNat * Sp.sz c : Nat) : Int)) = ((P * 64 + j.toNat * Sp.sz c : Nat) : Int) by omega]
            · have hskip := Sp.atTo_skip (p := P) (c := c) (l := l) (q := j.toNat) (k := j.toNat + 1) (fun j' h1 h2 => by rw [show j' = j.toNat by omega, h4]; simp) (by omega)
              refine bk_cl0 (bl := S.pg.map Pg.bits) (ql := ql) (i := P) (by simp [hql]) (by simp; omega) (by rw [bitsD hx]; exact tks) ?_
              refine Tr.close tks (RSpaceA.cl (p := p) (S := S) (a := sa) (k := sk) (m := sm) (q := sq) hql) ?_
              refine Tr.take (A := SLc t 1 ((acc ++ Pg.upto P (.small c l) j.toNat).map i64)) tk ?_
              refine hY (l.length - (j + 1).toNat) _ _ (by omega) ⟨?_, by dsimp only; omega, by dsimp only; omega, rfl⟩
              dsimp only
              rw [show (j + 1).toNat = j.toNat + 1 by omega]
              simp only [Pg.upto]
              rw [hskip]
          · replace h3 : ¬ j < ((ql.getD P nilS).n : Int) := of_decide_eq_false h3
            rw [show j.toNat = x.bits.length by omega, upto_all]
            refine bk_cl0 (bl := S.pg.map Pg.bits) (ql := ql) (i := P) (by simp [hql]) (by simp; omega) (by rw [bitsD hx]; exact tks) ?_
            refine Tr.close tks (RSpaceA.cl (p := p) (S := S) (a := sa) (k := sk) (m := sm) (q := sq) hql) ?_
            refine Tr.take (A := SLc t 1 ((acc ++ Sp.at1 P x).map i64)) tk ?_
            exact hdone t
    · replace h : ¬ i < (sk.n : Int) := of_decide_eq_false h
      refine Tr.close tks (RSpaceA.cl (p := p) (S := S) (a := sa) (k := sk) (m := sm) (q := sq) hql) ?_
      rw [show i.toNat = S.pg.length by omega]
      exact en_rets (x := t) rfl rfl tks ens

theorem rf_used (p : Nat) (S : Spc) (hw : Wf S) : Gl.Spec ρ Tryz.prog 33 [.pointer (some ⟨p, 0, none⟩)] [RSpaceA p S] R1
    fun r M => r = ((Sp.each S).map (Sp.wordsAt S)).sum ∧ M = [RSpaceA p S] := by
  have hel := Sp.each_len hw
  refine Spec.of (fun Q w' h => F.gloamingref1.Space.Used.calls (some ⟨p, 0, none⟩) h) fun R => ?_
  unfold F.gloamingref1.Space.Used
  try simp only [List.cons_append, List.nil_append]
  refine en_call (rf_each p S hw) tks ?_
  rintro s M rfl
  try simp only [List.cons_append, List.nil_append]
  refine Tr.keepSL (s := s) tk fun ρ' hle hro => ?_
  have hsn := hro.len
  refine en_lp (fun m u M => (fun (n i : Int) => M = RSpaceA p S :: R ∧ 0 ≤ i ∧ i ≤ (Sp.each S).length ∧ m = (Sp.each S).length - i.toNat ∧ n = (((Sp.each S).take i.toNat).map (Sp.wordsAt S)).sum ∧ 0 ≤ n ∧ n ≤ 1024 * i) u.1 u.2.1) (Sp.each S).length ?_ ?_
  · exact ⟨rfl, by simp, by dsimp only; omega, by simp, by simp, by simp, by simp⟩
  · rintro m ⟨(n : Int), (i : Int), ⟨⟩⟩ M ⟨rfl, i0, i1, rfl, hn, n0, n1⟩ X hX
    dsimp only at *
    refine en_br (fun h => ?_) (fun h => ?_)
    · replace h : i < (s.n : Int) := of_decide_eq_true h
      have hi : i.toNat < (Sp.each S).length := by omega
      have ht : (Sp.each S).take (i + 1).toNat = (Sp.each S).take i.toNat ++ [(Sp.each S).getD i.toNat 0] := by rw [show (i + 1).toNat = i.toNat + 1 by omega, take_succ_getD 0 hi]
      have hmem : (Sp.each S).getD i.toNat 0 ∈ Sp.each S := by rw [List.getD_eq_getElem?_getD, List.getElem?_eq_getElem hi]; exact List.getElem_mem hi
      refine en_getRo hro i0 (by omega) ?_
      generalize (Sp.each S).getD i.toNat 0 = a at ht hmem ⊢
      obtain ⟨b, rfl, _, w, hf, w1, w2, _⟩ := Sp.each_find hw hmem
      refine en_call (rf_find p S hw (b : Int)) tks ?_
      rintro x' M ⟨rfl, rfl⟩
      try simp only [List.cons_append, List.nil_append]
      rw [hf]
      simp only [Rf.fnd]
      have hwa : Sp.wordsAt S b = w := by unfold Sp.wordsAt; rw [hf]
      rw [wrap64 (n := n + (w : Int)) (by omega) (by omega), wrap64 (n := i + 1) (by omega) (by omega)]
      refine hX ((Sp.each S).length - (i + 1).toNat) _ _ (by omega) ⟨rfl, by dsimp only; omega, by dsimp only; omega, rfl, ?_, by dsimp only; omega, by dsimp only; omega⟩
      dsimp only
      rw [ht, List.map_append, List.sum_append, ← hn]
      simp [hwa]
    · replace h : ¬ i < (s.n : Int) := of_decide_eq_false h
      rw [List.take_of_length_le (by omega)] at hn
      refine en_rets (x := ((Sp.each S).map (Sp.wordsAt S)).sum) ?_ ⟨rfl, rfl⟩ tks ens
      rw [← hn]; rfl

/-! ### a new one -/
theorem star_nils : ∀ (n : Nat) (h : HP), emp h → star (((List.replicate n ([] : List Bool)).zip (List.replicate n nilS)).map BkA) h
  | 0, h, H => H
  | n + 1, h, H => by
    rw [List.replicate_succ, List.replicate_succ]
    exact ⟨fun _ => none, h, fun _ => .inl rfl, by funext b; simp, SLc.nil 1 _ (fun _ => rfl), star_nils n h H⟩
theorem RSpaceA.cl0 {b : Nat} {n : Int} {a k m q : Slc} (h : HP) (H : star [blk b [slv a, slv k, slv m, slv q], SLc a 1 (List.replicate (n * 64).toNat (Value.cells (.int .i64 0)).toList).flatten, SLc k 1 (List.replicate n.toNat (Value.cells (.int .i64 0)).toList).flatten,
    SLc m 1 (List.replicate n.toNat (Value.cells (.int .i64 0)).toList).flatten, SLc q 1 (List.replicate n.toNat (Value.cells (.slice none 0 0)).toList).flatten] h) : RSpaceA b ⟨List.replicate (n * 64).toNat 0, List.replicate n.toNat .free⟩ h := by
  refine ⟨((a, k, m, q), List.replicate n.toNat nilS), by simp, ?_⟩
  dsimp only
  rw [show (Value.cells (.int .i64 0)).toList = [i64 0] from rfl, show (Value.cells (.slice none 0 0)).toList = [slv nilS] from rfl, rep1, rep1, rep1] at H
  rw [List.map_replicate, List.map_replicate, List.map_replicate, List.map_replicate, List.map_replicate, List.map_replicate, List.map_replicate, show Pg.bits .free = [] from rfl, show Pg.kind .free = 0 from rfl, show Pg.many .free = 0 from rfl]
  refine sep_mono (fun _ h => h) (fun _ => sep_mono (fun _ h => h) (fun _ => sep_mono (fun _ h => h) (fun _ => sep_mono (fun _ h => h) (fun _ => sep_mono (fun _ h => h) (fun h' he => ?_))))) H
  exact sep_emp (star_nils _ _ he)

theorem rf_new (n : Int) (h0 : 1 ≤ n) (h1 : n ≤ 256) : Gl.Spec ρ Tryz.prog 114 [i64 n] [] (.one (.l .ptr))
    fun r M => ∃ b, r = some ⟨b, 0, none⟩ ∧ M = [RSpaceA b (Sp.newSpc n.toNat)] := by
  refine Spec.of (fun Q w' h => F.gloamingref1.NewSpace.calls n h) fun R => ?_
  unfold F.gloamingref1.NewSpace
  try simp only [List.cons_append, List.nil_append]
  rw [wrap64 (n := n * 64) (by omega) (by omega)]
  refine en_jn (fun (u : LTs [.adr]) M => ∃ b, u.1 = ⟨b, 0, none⟩ ∧ M = RSpaceA b ⟨List.replicate (n * 64).toNat 0, List.replicate n.toNat .free⟩ :: R) ?_ ?_
  · rintro ⟨(u : Addr), ⟨⟩⟩ M ⟨b, rfl, rfl⟩
    dsimp only
    refine RSpaceA.op tk fun sa sk sm sq ql hql => ?_
    refine en_ld (k := .slice) (b := b) (off := 1) (x := sk) (by rw [fa_mk]) tk rfl ?_
    refine en_setSL (s := sk) (xs := (List.replicate n.toNat Pg.free).map Pg.kind) tk (by omega) (by simp; omega) ?_
    obtain ⟨k, hk⟩ : ∃ k, n.toNat = k + 1 := ⟨n.toNat - 1, by omega⟩
    have e1 : ((List.replicate n.toNat Pg.free).map Pg.kind).set (0 : Int).toNat (-1) = (Sp.newSpc n.toNat).pg.map Pg.kind := by
      rw [hk]; simp [Sp.newSpc, List.replicate_succ, Pg.kind]
    have e2 : (List.replicate n.toNat Pg.free).map Pg.many = (Sp.newSpc n.toNat).pg.map Pg.many := by rw [hk]; simp [Sp.newSpc, List.replicate_succ, Pg.many]
    have e3 : (List.replicate n.toNat Pg.free).map Pg.bits = (Sp.newSpc n.toNat).pg.map Pg.bits := by rw [hk]; simp [Sp.newSpc, List.replicate_succ, Pg.bits]
    have e4 : List.replicate (n * 64).toNat (0 : Int) = (Sp.newSpc n.toNat).ws := by unfold Sp.newSpc; rw [show (n * 64).toNat = n.toNat * 64 by omega]
    rw [e1, e2, e3, e4]
    refine Tr.close tks (RSpaceA.cl (p := b) (S := Sp.newSpc n.toNat) (a := sa) (k := sk) (m := sm) (q := sq) (ql := ql) (by rw [hql, hk]; simp [Sp.newSpc])) ?_
    exact en_rets (x := some ⟨b, 0, none⟩) rfl ⟨b, rfl, rfl⟩ tks ens
  · intro J hJ
    refine en_drw (en_held [] .nil ?_)
    have m1 : ∀ {ρ0 ρ : FR} {L : List Asn} {Post : Value → List Asn → Prop} {k : RT (.one (.l .slice)) → Tree}, (∀ b, Tr ρ0 ρ (SLc ⟨some ⟨b, 0, none⟩, (n * 64).toNat, (n * 64).toNat⟩ 1 (List.replicate (n * 64).toNat (Value.cells (.int .i64 0)).toList).flatten :: L) (k ⟨some ⟨b, 0, none⟩, (n * 64).toNat, (n * 64).toNat⟩) Post) →
        Tr ρ0 ρ L (opr Tryz.prog (Instr.makeSlice 24 (.int .i64 (n * 64)) (.int .i64 (n * 64))) (.one (.l .slice)) k) Post := fun h =>
      en_mks (e := 3) (m := 1) (bytes := 8) (z := .int .i64 0) (by kernel_rfl) (by kernel_rfl) rfl (by omega) (by omega) (by omega) h
    have m2 : ∀ {ρ0 ρ : FR} {L : List Asn} {Post : Value → List Asn → Prop} {k : RT (.one (.l .slice)) → Tree}, (∀ b, Tr ρ0 ρ (SLc ⟨some ⟨b, 0, none⟩, n.toNat, n.toNat⟩ 1 (List.replicate n.toNat (Value.cells (.int .i64 0)).toList).flatten :: L) (k ⟨some ⟨b, 0, none⟩, n.toNat, n.toNat⟩) Post) →
        Tr ρ0 ρ L (opr Tryz.prog (Instr.makeSlice 24 (.int .i64 n) (.int .i64 n)) (.one (.l .slice)) k) Post := fun h =>
      en_mks (e := 3) (m := 1) (bytes := 8) (z := .int .i64 0) (by kernel_rfl) (by kernel_rfl) rfl (by omega) (by omega) (by omega) h
    have m3 : ∀ {ρ0 ρ : FR} {L : List Asn} {Post : Value → List Asn → Prop} {k : RT (.one (.l .slice)) → Tree}, (∀ b, Tr ρ0 ρ (SLc ⟨some ⟨b, 0, none⟩, n.toNat, n.toNat⟩ 1 (List.replicate n.toNat (Value.cells (.slice none 0 0)).toList).flatten :: L) (k ⟨some ⟨b, 0, none⟩, n.toNat, n.toNat⟩) Post) →
        Tr ρ0 ρ L (opr Tryz.prog (Instr.makeSlice 132 (.int .i64 n) (.int .i64 n)) (.one (.l .slice)) k) Post := fun h =>
      en_mks (e := 188) (m := 1) (bytes := 24) (z := .slice none 0 0) (by kernel_rfl) (by kernel_rfl) rfl (by omega) (by omega) (by omega) h
    repeat' first
      | with_reducible refine en_both ?_ ?_
      | with_reducible refine en_chk .nil ?_
      | with_reducible refine m3 fun _ => ?_
      | with_reducible refine m2 fun _ => ?_
      | with_reducible refine m1 fun _ => ?_
      | refine en_nw fun b => Tr.close tks (RSpaceA.cl0 (b := b) (n := n)) (hJ _ _ ⟨b, rfl, rfl⟩)

end Go.Proofs.YtapchggmifbfoaaGreat
