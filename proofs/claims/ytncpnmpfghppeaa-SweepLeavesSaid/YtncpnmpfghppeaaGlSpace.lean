/- Spaces: contracts. -/
import Derived.Test.YtncpnmpfghppeaaGlSort
set_option linter.unusedSimpArgs false
set_option linter.unusedVariables false
namespace Go.Proofs.Ytncpnmpfghppeaa
open Go Go.Gl
variable {ρ0 ρ : FR} {L L' : List Asn} {Post : Value → List Asn → Prop} {T : Tree}

def PgA (x : Int × Ent) : Asn := PageA x.2.1 x.2.2.2 (Sp.sz x.2.2.1)
theorem pg_close {l1 l2 : List (Int × Ent)} (i : Int) {q c : Nat} {l : List Bool} (h : HP) (H : star [PageA q l (Sp.sz c), star ((l1 ++ l2).map PgA)] h) : star ((l1 ++ (i, q, c, l) :: l2).map PgA) h :=
  star_mid' (P := PgA) (x := (i, q, c, l)) h H
structure SpI where
  pa : Nat
  pp : Nat
  ms : Nat
  ml : Nat
  ls : List (Int × Ent)
  ll : List (Int × Nat)
/-- a space -/
def SpaceA (p : Nat) (S : Spc) : Asn := fun h => ∃ i : SpI, (Smalls S.pg i.ls ∧ Larges S.pg i.ll) ∧
  star [blk p [.pointer (some ⟨i.pa, 0, none⟩), .pointer (some ⟨i.pp, 0, none⟩), .map (some i.ms), .map (some i.ml)], ArenaA i.pa S.ws, PagesA i.pp (S.pg.map Pg.taken), IM i.ms fS i.ls, IM i.ml fL i.ll, star (i.ls.map PgA)] h
theorem SpaceA.op {p : Nat} {S : Spc} (t : Take L (SpaceA p S) L') (h : ∀ (pa pp ms ml : Nat) (ls : List (Int × Ent)) (ll : List (Int × Nat)), Smalls S.pg ls → Larges S.pg ll → (ls.map (·.1)).Nodup → (ll.map (·.1)).Nodup →
    Tr ρ0 ρ (blk p [.pointer (some ⟨pa, 0, none⟩), .pointer (some ⟨pp, 0, none⟩), .map (some ms), .map (some ml)] :: ArenaA pa S.ws :: PagesA pp (S.pg.map Pg.taken) :: IM ms fS ls :: IM ml fL ll :: star (ls.map PgA) :: L') T Post) : Tr ρ0 ρ L T Post :=
  Tr.openL (M := fun i : SpI => [blk p [.pointer (some ⟨i.pa, 0, none⟩), .pointer (some ⟨i.pp, 0, none⟩), .map (some i.ms), .map (some i.ml)], ArenaA i.pa S.ws, PagesA i.pp (S.pg.map Pg.taken), IM i.ms fS i.ls, IM i.ml fL i.ll, star (i.ls.map PgA)]) t (fun _ h => h)
    fun i hi => Tr.keys (b := i.ms) (f := fS) (l := i.ls) tk fun n1 => Tr.keys (b := i.ml) (f := fL) (l := i.ll) tk fun n2 => h i.pa i.pp i.ms i.ml i.ls i.ll hi.1 hi.2 n1 n2
theorem SpaceA.cl {p pa pp ms ml : Nat} {S : Spc} {ls : List (Int × Ent)} {ll : List (Int × Nat)} (h1 : Smalls S.pg ls) (h2 : Larges S.pg ll) (h : HP)
    (H : star [blk p [.pointer (some ⟨pa, 0, none⟩), .pointer (some ⟨pp, 0, none⟩), .map (some ms), .map (some ml)], ArenaA pa S.ws, PagesA pp (S.pg.map Pg.taken), IM ms fS ls, IM ml fL ll, star (ls.map PgA)] h) : SpaceA p S h := ⟨⟨pa, pp, ms, ml, ls, ll⟩, ⟨h1, h2⟩, H⟩

abbrev tMS : TypeId := 77
abbrev tML : TypeId := 78
theorem uMS : Try.prog.underlying tMS = some (.map 3 85) := by kernel_rfl
theorem uML : Try.prog.underlying tML = some (.map 3 3) := by kernel_rfl
theorem uI : Try.prog.underlying 3 = some (.int .i64) := by kernel_rfl
theorem zPg : (Try.prog.info? 85).bind (·.zero) = some (LK.ptr.val none) := by kernel_rfl
theorem zI : (Try.prog.info? 3).bind (·.zero) = some ((LK.int .i64).val (0 : Int)) := by kernel_rfl
def gS (x : Ent) : LT .ptr := some ⟨x.1, 0, none⟩
def gL (k : Nat) : LT (.int .i64) := (k : Int)
theorem hgS (x : Ent) : fS x = LK.ptr.val (gS x) := rfl
theorem hgL (k : Nat) : fL k = (LK.int .i64).val (gL k) := rfl

def Sp.newSpc (n : Nat) : Spc := ⟨List.replicate (n * 64) 0, .res :: List.replicate (n - 1) .free⟩
theorem Sp.newSpc_wf {n : Nat} (h0 : 1 ≤ n) (h1 : n ≤ 256) : Wf (Sp.newSpc n) := by
  have hg : ∀ i : Nat, (Sp.newSpc n).pg[i]? = if i = 0 then some .res else if i < n then some .free else none := by
    intro i
    unfold Sp.newSpc
    cases i with
    | zero => rfl
    | succ i =>
      simp only [List.getElem?_cons_succ, List.getElem?_replicate]
      by_cases hi : i < n - 1
      · rw [if_pos hi, if_neg (by omega), if_pos (by omega)]
      · rw [if_neg hi, if_neg (by omega), if_neg (by omega)]
  refine ⟨by simp [Sp.newSpc]; omega, by simp [Sp.newSpc]; omega, by simp [Sp.newSpc], ?_, ?_, ?_, ?_⟩
  · intro i; rw [hg]; split
    · simp [*]
    · split <;> simp [*]
  · intro i c l h; rw [hg] at h; split at h
    · cases h
    · split at h <;> cases h
  · intro i k h; rw [hg] at h; split at h
    · cases h
    · split at h <;> cases h
  · intro i h; rw [hg] at h; split at h
    · cases h
    · split at h <;> cases h

theorem space_new (n : Int) (h0 : 1 ≤ n) (h1 : n ≤ 256) : Gl.Spec ρ Try.prog 38 [i64 n] [] PE
    fun r M => ∃ b, r = (some ⟨b, 0, none⟩, 0, ()) ∧ M = [SpaceA b (Sp.newSpc n.toNat)] := by
  refine Spec.of (fun Q w h => F.space.New.calls n h) fun R => ?_
  unfold F.space.New
  try simp only [List.cons_append, List.nil_append]
  refine en_call (arena_new n h0 h1) tks ?_
  rintro x M ⟨pa, rfl, rfl⟩
  try simp only [List.cons_append, List.nil_append]
  refine en_brf rfl ?_
  refine en_call (pages_new n h0 h1) tks ?_
  rintro x M ⟨pp, rfl, rfl⟩
  try simp only [List.cons_append, List.nil_append]
  refine en_brf rfl (en_nwIM fS fun ms => en_nwIM fL fun ml => en_nw fun b => ?_)
  have e : true :: List.replicate (n.toNat - 1) false = (Sp.newSpc n.toNat).pg.map Pg.taken := by simp [Sp.newSpc, Pg.taken]
  rw [e]
  refine Tr.none ?_
  have hw := Sp.newSpc_wf (n := n.toNat) (by omega) (by omega)
  refine Tr.close (M := [blk b [.pointer (some ⟨pa, 0, none⟩), .pointer (some ⟨pp, 0, none⟩), .map (some ms), .map (some ml)], ArenaA pa (Sp.newSpc n.toNat).ws, PagesA pp ((Sp.newSpc n.toNat).pg.map Pg.taken), IM ms fS [], IM ml fL [], star (([] : List (Int × Ent)).map PgA)]) tks (SpaceA.cl (S := Sp.newSpc n.toNat) (p := b) ?_ ?_) ?_
  · intro i c l
    simp only [List.not_mem_nil, exists_false, false_iff, not_and]
    intro _ h
    unfold Sp.newSpc at h
    cases hi : i.toNat with
    | zero => rw [hi] at h; cases h
    | succ j => rw [hi] at h; simp [List.getElem?_replicate] at h
  · intro i k
    simp only [List.not_mem_nil, false_iff, not_and]
    intro _ h
    unfold Sp.newSpc at h
    cases hi : i.toNat with
    | zero => rw [hi] at h; cases h
    | succ j => rw [hi] at h; simp [List.getElem?_replicate] at h
  exact en_rets (x := (some ⟨b, 0, none⟩, 0, ())) rfl ⟨b, rfl, rfl⟩ tks ens

theorem space_new0 (n : Int) (h : ¬ (1 ≤ n ∧ n ≤ 256)) : Gl.Spec ρ Try.prog 38 [i64 n] [] PE fun r M => r = (none, 1, ()) ∧ M = [] := by
  refine Spec.of (fun Q w h => F.space.New.calls n h) fun R => ?_
  unfold F.space.New
  try simp only [List.cons_append, List.nil_append]
  refine en_call (arena_new0 n h) tks ?_
  rintro x M ⟨rfl, rfl⟩
  try simp only [List.cons_append, List.nil_append]
  refine en_brt rfl ?_
  exact en_rets (x := (none, 1, ())) rfl ⟨rfl, rfl⟩ tks ens

theorem tdiv64 (n : Nat) : Int.tdiv (n : Int) 64 = ((n / 64 : Nat) : Int) := rfl
theorem tmod64 (n : Nat) : Int.tmod (n : Int) 64 = ((n % 64 : Nat) : Int) := rfl
theorem tdivN (n k : Nat) : Int.tdiv (n : Int) (k : Int) = ((n / k : Nat) : Int) := rfl

abbrev P3 : RK := .many [.l (.int .i64), .l (.int .i64), .l .bool]
def Sp.found : Option (Nat × Nat) → RT P3
  | some (s, w) => ((s : Int), (w : Int), true, ()) | none => ((0 : Int), (0 : Int), false, ())

theorem space_find (p : Nat) (S : Spc) (hw : Wf S) (a : Int) : Gl.Spec ρ Try.prog 15 [.pointer (some ⟨p, 0, none⟩), i64 a] [SpaceA p S] P3
    fun r M => r = Sp.found (Sp.find S a) ∧ M = [SpaceA p S] := by
  have hlen := hw.len
  have hmost := hw.most
  refine Spec.of (fun Q w h => F.space.Space.Find.calls (some ⟨p, 0, none⟩) a h) fun R => ?_
  unfold F.space.Space.Find
  try simp only [List.cons_append, List.nil_append]
  refine en_brf rfl (en_br (fun h => ?_) (fun h => ?_))
  · replace h := of_decide_eq_true h
    rw [Sp.find_out (by omega)]
    exact en_rets (x := Sp.found none) rfl ⟨rfl, rfl⟩ tks ens
  · replace h := of_decide_eq_false h
    obtain ⟨n, rfl⟩ : ∃ n : Nat, a = n := ⟨a.toNat, by omega⟩
    refine en_nn (SpaceA.op tk fun pa pp ms ml ls ll hS hL nS nL => ?_)
    refine en_ld (k := .ptr) (x := some ⟨pa, 0, none⟩) (by rw [fa_mk]) tk rfl ?_
    refine en_call (arena_len pa S.ws) tks ?_
    rintro x M ⟨rfl, rfl⟩
    try simp only [List.cons_append, List.nil_append]
    refine en_br (fun h2 => ?_) (fun h2 => ?_)
    · replace h2 := of_decide_eq_true h2
      rw [Sp.find_out (by omega)]
      refine Tr.close tks (SpaceA.cl (p := p) (pa := pa) (pp := pp) (ms := ms) (ml := ml) hS hL) ?_
      exact en_rets (x := Sp.found none) rfl ⟨rfl, rfl⟩ tks ens
    · replace h2 := of_decide_eq_false h2
      have hn : n < S.ws.length := by omega
      have hp : n / 64 < S.pg.length := by omega
      refine en_need (by decide) (en_nn ?_)
      refine en_ld (k := .map) (x := some ms) (by rw [fa_mk]) tk rfl ?_
      rw [tdiv64, wrap64 (n := ((n / 64 : Nat) : Int)) (by omega) (by omega)]
      refine en_lkp2 (kd := .ptr) (g := gS) (z0 := none) uMS uI zPg hgS tk ?_
      by_cases hsm : ∃ c l, S.pg[n / 64]? = some (.small c l)
      · obtain ⟨c, l, hsm⟩ := hsm
        obtain ⟨hc, hll⟩ := hw.small _ _ _ hsm
        obtain ⟨q, hq⟩ := hS.get nS hsm
        rw [hq, Sp.find_small hn hsm]
        obtain ⟨l1, l2, rfl, _, _⟩ := aget_split hq
        refine en_brt rfl (en_need (by decide) ?_)
        refine Tr.mid (P := PgA) tk ?_
        refine en_call (block_words q l (Sp.sz c)) (Takes.cons .here .nil) ?_
        rintro x M ⟨rfl, rfl⟩
        try simp only [List.cons_append, List.nil_append]
        have hz := Sp.sz_cases hc
        refine en_need (by omega) (en_nn ?_)
        refine PageA.op tk fun b => ?_
        refine en_ld (k := .ptr) (b := q) (x := some ⟨b, 0, none⟩) (by rw [fa_mk]) tk rfl ?_
        have hm : n % 64 / Sp.sz c * Sp.sz c ≤ n % 64 := Nat.div_mul_le_self _ _
        have hd2 : n % 64 / Sp.sz c ≤ n % 64 := Nat.div_le_self _ _
        rw [tmod64, tdivN]
        generalize n % 64 / Sp.sz c = d at hm hd2 ⊢
        rw [wrap64 (n := (d : Int)) (by omega) (by omega)]
        refine en_call (bits_has b l (d : Int)) tks ?_
        rintro x M ⟨rfl, rfl⟩
        try simp only [List.cons_append, List.nil_append]
        refine Tr.close (M := [blk q [.pointer (some ⟨b, 0, none⟩), i64 (Sp.sz c)], BitsA b l]) tks (PageA.cl (p := q)) ?_
        have hh : Sp.has l (d : Int) = l.getD d false := by simp [Sp.has]
        rw [hh]
        refine en_br (fun h3 => ?_) (fun h3 => ?_)
        · rw [if_neg (by simpa using h3)]
          refine Tr.close (M := [PageA q l (Sp.sz c), star ((l1 ++ l2).map PgA)]) tks (pg_close ((n / 64 : Nat) : Int) (q := q) (c := c) (l := l)) ?_
          refine Tr.close tks (SpaceA.cl (p := p) (pa := pa) (pp := pp) (ms := ms) (ml := ml) hS hL) ?_
          exact en_rets (x := Sp.found none) rfl ⟨rfl, rfl⟩ tks ens
        · rw [if_pos (by simpa using h3)]
          refine en_call (block_words q l (Sp.sz c)) tks ?_
          rintro x M ⟨rfl, rfl⟩
          try simp only [List.cons_append, List.nil_append]
          refine en_call (block_words q l (Sp.sz c)) tks ?_
          rintro x M ⟨rfl, rfl⟩
          try simp only [List.cons_append, List.nil_append]
          refine Tr.close (M := [PageA q l (Sp.sz c), star ((l1 ++ l2).map PgA)]) tks (pg_close ((n / 64 : Nat) : Int) (q := q) (c := c) (l := l)) ?_
          refine Tr.close tks (SpaceA.cl (p := p) (pa := pa) (pp := pp) (ms := ms) (ml := ml) hS hL) ?_
          have e1 : (d : Int) * (Sp.sz c : Int) = ((d * Sp.sz c : Nat) : Int) := by simp
          rw [e1]
          generalize d * Sp.sz c = dd at hm ⊢
          rw [wrap64 (n := (dd : Int)) (by omega) (by omega), wrap64 (n := ((n / 64 : Nat) : Int) * 64) (by omega) (by omega), wrap64 (by omega) (by omega)]
          refine en_rets (x := Sp.found (some (n / 64 * 64 + dd, Sp.sz c))) ?_ ⟨rfl, rfl⟩ tks ens
          simp [Sp.found, RK.val, KD.val, LK.val, kvals]
      · have hns : ∀ c l, S.pg[n / 64]? ≠ some (.small c l) := fun c l h => hsm ⟨c, l, h⟩
        rw [hS.none hns, Sp.find_other hn hns]
        refine en_brf rfl (en_nn ?_)
        refine en_ld (k := .map) (x := some ml) (by rw [fa_mk]) tk rfl ?_
        refine en_rng uML tk fun r => ?_
        refine en_lp (fun m _ M => ∃ rem cur, m = rem.length ∧ M = MI ml r fL ll rem cur :: ArenaA pa S.ws :: blk p [.pointer (some ⟨pa, 0, none⟩), .pointer (some ⟨pp, 0, none⟩), .map (some ms), .map (some ml)] :: PagesA pp (S.pg.map Pg.taken) :: IM ms fS ls :: star (ls.map PgA) :: R ∧
            (∀ x ∈ rem, x ∈ ll) ∧ ∀ x ∈ ll, x ∈ rem ∨ ¬ (x.1 ≤ ((n / 64 : Nat) : Int) ∧ ((n / 64 : Nat) : Int) < x.1 + (x.2 : Int))) ll.length ?_ ?_
        · exact ⟨ll, none, rfl, rfl, fun x hx => hx, fun x hx => .inl hx⟩
        · rintro m ⟨⟩ M ⟨rem, cur, rfl, rfl, hsub, hrem⟩ X hX
          refine en_nxt (kv := .int .i64) (g := gL) hgL .here (fun h0 => ?_) (fun k v r1 r2 hr => ?_)
          · subst h0
            have hno : Sp.own S.pg (n / 64) = none := by
              refine Sp.own_no fun j k hj hjk => ?_
              have := hrem ((j : Int), k) ((hL j k).mpr ⟨by omega, by simpa using hj⟩)
              rcases this with h | h
              · cases h
              · exact h ⟨by dsimp only; omega, by dsimp only; omega⟩
            rw [hno]
            refine MI.over .here ?_
            refine Tr.close tks (SpaceA.cl (p := p) (pa := pa) (pp := pp) (ms := ms) (ml := ml) hS hL) ?_
            exact en_rets (x := Sp.found none) rfl ⟨rfl, rfl⟩ tks ens
          · refine en_ent (kv := .int .i64) (g := gL) hgL .here ?_
            have hkv : (k, v) ∈ ll := hsub _ (by rw [hr]; simp)
            obtain ⟨hk0, hkp⟩ := (hL k v).mp hkv
            obtain ⟨j, rfl⟩ : ∃ j : Nat, k = j := ⟨k.toNat, by omega⟩
            rw [Int.toNat_natCast] at hkp
            have next : ¬ ((j : Int) ≤ ((n / 64 : Nat) : Int) ∧ ((n / 64 : Nat) : Int) < (j : Int) + (v : Int)) → (∀ x ∈ r1 ++ r2, x ∈ ll) ∧ ∀ x ∈ ll, x ∈ r1 ++ r2 ∨ ¬ (x.1 ≤ ((n / 64 : Nat) : Int) ∧ ((n / 64 : Nat) : Int) < x.1 + (x.2 : Int)) := by
              intro hno
              refine ⟨fun x hx => hsub x ?_, fun x hx => ?_⟩
              · rw [hr]; simp at hx ⊢; rcases hx with h | h <;> simp [h]
              · rcases hrem x hx with h | h
                · rw [hr] at h; simp at h
                  rcases h with h | h | h
                  · exact .inl (by simp [h])
                  · right; rw [h]; exact hno
                  · exact .inl (by simp [h])
                · exact .inr h
            obtain ⟨v1, v2, v3, _⟩ := hw.head _ _ hkp
            have w1 : IntKind.wrap .i64 ((j : Int) + gL v) = (j : Int) + (v : Int) := wrap64 (by unfold gL; omega) (by unfold gL; omega)
            dsimp only
            rw [w1]
            refine en_br (fun h1 => ?_) (fun h1 => ?_)
            · replace h1 := of_decide_eq_true h1
              refine en_br (fun h2 => ?_) (fun h2 => ?_)
              · replace h2 := of_decide_eq_true h2
                have ho : Sp.own S.pg (n / 64) = some (j, v) := Sp.own_of hw hkp ⟨by omega, by omega⟩
                rw [ho]
                refine MI.over .here ?_
                refine Tr.close tks (SpaceA.cl (p := p) (pa := pa) (pp := pp) (ms := ms) (ml := ml) hS hL) ?_
                have w2 : IntKind.wrap .i64 ((j : Int) * 64) = (j : Int) * 64 := wrap64 (by omega) (by omega)
                have w3 : IntKind.wrap .i64 (gL v * 64) = (v : Int) * 64 := wrap64 (by unfold gL; omega) (by unfold gL; omega)
                rw [w2, w3]
                refine en_rets (x := Sp.found (some (j * 64, v * 64))) ?_ ⟨rfl, rfl⟩ tks ens
                simp [Sp.found, RK.val, KD.val, LK.val, kvals]
              · replace h2 := of_decide_eq_false h2
                exact hX (r1 ++ r2).length _ _ (by rw [hr]; simp) ⟨r1 ++ r2, _, rfl, rfl, next (by omega)⟩
            · replace h1 := of_decide_eq_false h1
              exact hX (r1 ++ r2).length _ _ (by rw [hr]; simp) ⟨r1 ++ r2, _, rfl, rfl, next (by omega)⟩

end Go.Proofs.Ytncpnmpfghppeaa
