/- The document's answer for spaces: Alloc. -/
import Derived.Test.YtapchggmifbfoaaGreatGlRefA
set_option linter.unusedSimpArgs false
set_option linter.unusedVariables false
namespace Go.Proofs.YtapchggmifbfoaaGreat
open Go Go.Gl
variable {ρ0 ρ : FR} {L L' : List Asn} {Post : Value → List Asn → Prop} {T : Tree}

theorem kind_putL {pg : List Pg} {i k : Nat} (hk : i + k ≤ pg.length) {x : Nat} (hx : x < pg.length) : ((Sp.putL pg i k).map Pg.kind).getD x 0 = if x = i then 6 else if i < x ∧ x < i + k then 7 else (pg.map Pg.kind).getD x 0 := by
  have hp := putL_get (pg := pg) (i := i) (k := k) (j := x)
  rw [if_pos hx] at hp
  rw [kindD hp]
  split
  · rfl
  · split
    · rfl
    · rw [List.getD_eq_getElem?_getD, List.getD_eq_getElem?_getD, List.getElem?_map, List.getElem?_eq_getElem hx]; rfl
theorem many_putL {pg : List Pg} {i k : Nat} (hk : i + k ≤ pg.length) (hf : ∀ j : Nat, i ≤ j → j < i + k → pg[j]? = some .free) {x : Nat} (hx : x < pg.length) : ((Sp.putL pg i k).map Pg.many).getD x 0 = if x = i then (k : Int) else (pg.map Pg.many).getD x 0 := by
  have hp := putL_get (pg := pg) (i := i) (k := k) (j := x)
  rw [if_pos hx] at hp
  rw [manyD hp]
  split
  · rfl
  · split
    · rename_i h1 h2
      rw [manyD (hf x (by omega) h2.2)]; rfl
    · rw [List.getD_eq_getElem?_getD, List.getD_eq_getElem?_getD, List.getElem?_map, List.getElem?_eq_getElem hx]; rfl
theorem bits_putL {pg : List Pg} {i k : Nat} (hk : i + k ≤ pg.length) (hk0 : 1 ≤ k) (hf : ∀ j : Nat, i ≤ j → j < i + k → pg[j]? = some .free) : (Sp.putL pg i k).map Pg.bits = pg.map Pg.bits := by
  refine ext_getD [] (by simp [putL_len]) fun x hx => ?_
  rw [List.length_map, putL_len] at hx
  have hp := putL_get (pg := pg) (i := i) (k := k) (j := x)
  rw [if_pos hx] at hp
  rw [bitsD hp]
  split
  · rename_i h1
    subst h1
    rw [bitsD (hf x (by omega) (by omega))]; rfl
  · split
    · rename_i h1 h2
      rw [bitsD (hf x (by omega) h2.2)]; rfl
    · rw [List.getD_eq_getElem?_getD, List.getD_eq_getElem?_getD, List.getElem?_map, List.getElem?_eq_getElem hx]; rfl
theorem set_getD {α : Type} {l : List α} {i j : Nat} {x d : α} (hj : j < l.length) : (l.set i x).getD j d = if i = j then x else l.getD j d := by
  rw [List.getD_eq_getElem?_getD, List.getElem?_set]
  by_cases h : i = j
  · subst h; rw [if_pos rfl, if_pos hj, if_pos rfl]; rfl
  · rw [if_neg h, if_neg h, ← List.getD_eq_getElem?_getD]
theorem map_set' {α β : Type} {f : α → β} {l : List α} {i : Nat} {x : α} : (l.set i x).map f = (l.map f).set i (f x) := by rw [List.map_set]

/-- has a page of a class room? -/
theorem openP_none {pg : List Pg} {c : Nat} (h : ∀ x : Nat, x < pg.length → Sp.openQ pg c x = false) : Sp.openP pg c = none := by
  show (List.range pg.length).find? (Sp.openQ pg c) = none
  rw [List.find?_range_eq_none]
  intro x hx; rw [h x hx]; rfl
theorem openP_some {pg : List Pg} {c j : Nat} (hj : j < pg.length) (h1 : Sp.openQ pg c j = true) (h : ∀ x : Nat, x < j → Sp.openQ pg c x = false) : Sp.openP pg c = some j := by
  show (List.range pg.length).find? (Sp.openQ pg c) = some j
  rw [List.find?_range_eq_some]
  exact ⟨h1, by simpa using hj, fun x hx => by rw [h x hx]; rfl⟩

theorem rf_alloc (p : Nat) (S : Spc) (hw : Wf S) (w : Int) : Gl.Spec ρ Tryz.prog 117 [.pointer (some ⟨p, 0, none⟩), i64 w] [RSpaceA p S] G2
    fun r M => r = ((Sp.alloc S w).1, (Sp.alloc S w).2.1, ()) ∧ M = [RSpaceA p (Sp.alloc S w).2.2] := by
  have hmost := hw.most
  have hlen := hw.len
  refine Spec.of (fun Q w' h => F.gloamingref1.Space.Alloc.calls (some ⟨p, 0, none⟩) w h) fun R => ?_
  unfold F.gloamingref1.Space.Alloc
  try simp only [List.cons_append, List.nil_append]
  refine en_nw fun b1 => ?_
  rw [zcGot]
  have fin : ∀ (x y : Int) (S' : Spc), Sp.alloc S w = (x, y, S') → Tr ρ ρ (blk b1 [.int .i64 0, .int .i64 0] :: RSpaceA p S' :: R)
      (st ⟨b1, 0, none⟩ [.int .i64 x, .int .i64 y] <| ld (.g [.int .i64, .int .i64]) ⟨b1, 0, none⟩ fun (x : LTs [.int .i64, .int .i64]) => ret (.agg #[.int .i64 x.1, .int .i64 x.2.1]))
      (SP G2 (fun r M => r = ((Sp.alloc S w).1, (Sp.alloc S w).2.1, ()) ∧ M = [RSpaceA p (Sp.alloc S w).2.2]) R) := fun x y S' hf => by
    refine en_st (b := b1) (off := 0) rfl tk (by simp) rfl ?_
    refine en_ldg (b := b1) (x := (x, y, ())) [] rfl tk rfl ?_
    rw [hf]
    exact en_rets (x := (x, y, ())) rfl ⟨rfl, rfl⟩ tks ens
  refine en_call (ref_block w) .nil ?_
  rintro x' M ⟨rfl, rfl⟩
  try simp only [List.cons_append, List.nil_append]
  refine en_br (fun h => ?_) (fun h => ?_)
  · exact fin 0 1 S (by unfold Sp.alloc; rw [if_pos (eq_of_beq h)])
  · have hb : Sp.blk w ≠ 0 := by simpa using h
    have hal : Sp.alloc S w = if (Sp.place S.pg w).2.1 = 0 then ((Sp.place S.pg w).1, 0, ⟨Sp.clr S.ws (Sp.place S.pg w).1.toNat (Sp.blk w).toNat, (Sp.place S.pg w).2.2⟩) else (0, (Sp.place S.pg w).2.1, S) := by
      unfold Sp.alloc; rw [if_neg hb]
    have hfull : Sp.place S.pg w = (0, 3, S.pg) → Sp.alloc S w = (0, 3, S) := fun e => by rw [hal, e, if_neg (by simp)]
    refine en_call (ref_class w) .nil ?_
    rintro x' M ⟨rfl, rfl⟩
    try simp only [List.cons_append, List.nil_append]
    refine en_br (fun h2 => ?_) (fun h2 => ?_)
    · replace h2 : Sp.cls w < 0 := of_decide_eq_true h2
      obtain ⟨k1, k2, k3⟩ := Sp.pgs_pos hb h2
      obtain ⟨k, hk⟩ : ∃ k : Nat, Sp.pgs w = k := ⟨(Sp.pgs w).toNat, by omega⟩
      have hpl : Sp.place S.pg w = (match Sp.run (S.pg.map Pg.taken) k with | some p => (((p * 64 : Nat) : Int), 0, Sp.putL S.pg p k) | none => (0, 3, S.pg)) := by
        unfold Sp.place; rw [if_pos h2, hk, Int.toNat_natCast]; rfl
      have hdv : IntKind.wrap .i64 (Int.tdiv (Sp.blk w) 64) = (k : Int) := by
        rw [k3, hk, Int.tdiv_eq_ediv_of_nonneg (by omega), wrap64 (by omega) (by omega)]; omega
      rw [hdv]
      refine en_need (by decide) ?_
      refine en_call (rf_pages p S hw) tks ?_
      rintro r M rfl
      try simp only [List.cons_append, List.nil_append]
      refine en_call (rf_run r (S.pg.map Pg.taken) k (by omega) (by omega) (by simp; omega)) tks ?_
      rintro x' M ⟨rfl, rfl⟩
      try simp only [List.cons_append, List.nil_append]
      refine Tr.drop (A := SLc r 1 ((S.pg.map Pg.taken).map bv)) tk ?_
      cases hr : Sp.run (S.pg.map Pg.taken) k with
      | none =>
        rw [hr] at hpl
        refine en_brt rfl ?_
        refine Tr.take (A := blk b1 [.int .i64 0, .int .i64 0]) tk ?_
        exact fin 0 3 S (hfull hpl)
      | some i =>
        rw [hr] at hpl
        dsimp only at hpl
        obtain ⟨hi, hfree⟩ := run_free hr
        refine en_brf (decide_eq_false (by simp only [Sp.oI]; omega)) ?_
        rw [show Sp.oI (some i) = (i : Int) from rfl]
        rw [wrap64 (n := (i : Int) + k) (by omega) (by omega), wrap64 (n := (i : Int) * 64) (by omega) (by omega)]
        refine RSpaceA.op tk fun sa sk sm sq ql hql => ?_
        refine Tr.take (A := SLc sk 1 ((S.pg.map Pg.kind).map i64)) tk ?_
        refine en_lp (fun m u M => (fun j : Int => ∃ ks : List Int, M = SLc sk 1 (ks.map i64) :: blk p [slv sa, slv sk, slv sm, slv sq] :: SLc sa 1 (S.ws.map i64) :: SLc sm 1 ((S.pg.map Pg.many).map i64) :: SLc sq 1 (ql.map slv) :: star (((S.pg.map Pg.bits).zip ql).map BkA) :: blk b1 [.int .i64 0, .int .i64 0] :: R ∧
          i ≤ j ∧ j ≤ i + k ∧ m = i + k - j.toNat ∧ ks.length = S.pg.length ∧ ∀ x : Nat, x < S.pg.length → ks.getD x 0 = if i ≤ x ∧ x < j.toNat then 7 else (S.pg.map Pg.kind).getD x 0) u.1) k ?_ ?_
        · exact ⟨S.pg.map Pg.kind, rfl, by simp, by dsimp only; omega, by dsimp only; omega, by simp, fun x hx => by dsimp only; rw [if_neg (by omega)]⟩
        · rintro m ⟨(j : Int), ⟨⟩⟩ M ⟨ks, rfl, j0, j1, rfl, hkl, hks⟩ X hX
          dsimp only at *
          refine en_br (fun h3 => ?_) (fun h3 => ?_)
          · replace h3 : j < (i : Int) + k := of_decide_eq_true h3
            refine en_nn ?_
            refine en_ld (k := .slice) (b := p) (off := 1) (x := sk) (by rw [fa_mk]) tk rfl ?_
            refine en_setSL (s := sk) (xs := ks) tk (by omega) (by omega) ?_
            rw [wrap64 (n := j + 1) (by omega) (by omega)]
            refine hX (i + k - (j + 1).toNat) _ _ (by omega) ⟨_, rfl, by dsimp only; omega, by dsimp only; omega, rfl, by simp [hkl], fun x hx => ?_⟩
            dsimp only
            rw [set_getD (by omega), hks x hx]
            by_cases hxj : j.toNat = x
            · rw [if_pos hxj, if_pos (by omega)]
            · rw [if_neg hxj]
              by_cases hc : i ≤ x ∧ x < j.toNat
              · rw [if_pos hc, if_pos (by omega)]
              · rw [if_neg hc, if_neg (by omega)]
          · replace h3 : ¬ j < (i : Int) + k := of_decide_eq_false h3
            have hjk : j.toNat = i + k := by omega
            rw [hjk] at hks
            refine en_nn ?_
            refine en_ld (k := .slice) (b := p) (off := 1) (x := sk) (by rw [fa_mk]) tk rfl ?_
            refine en_setSL (s := sk) (xs := ks) tk (by omega) (by omega) ?_
            refine en_nn ?_
            refine en_ld (k := .slice) (b := p) (off := 2) (x := sm) (by rw [fa_mk]) tk rfl ?_
            refine en_setSL (s := sm) (xs := S.pg.map Pg.many) tk (by omega) (by simp; omega) ?_
            rw [Int.toNat_natCast]
            have e1 : ks.set i 6 = (Sp.putL S.pg i k).map Pg.kind := by
              refine ext_getD 0 (by simp [hkl, putL_len]) fun x hx => ?_
              rw [List.length_set] at hx
              rw [set_getD (by omega), kind_putL (by omega) (by omega), hks x (by omega)]
              by_cases hxi : x = i
              · rw [if_pos hxi.symm, if_pos hxi]
              · rw [if_neg (fun e => hxi e.symm), if_neg hxi]
                by_cases hc : i < x ∧ x < i + k
                · rw [if_pos ⟨by omega, hc.2⟩, if_pos hc]
                · rw [if_neg (by omega), if_neg hc]
            have e2 : (S.pg.map Pg.many).set i (k : Int) = (Sp.putL S.pg i k).map Pg.many := by
              refine ext_getD 0 (by simp [putL_len]) fun x hx => ?_
              rw [List.length_set, List.length_map] at hx
              rw [set_getD (by simpa using hx), many_putL (by omega) hfree hx]
              by_cases hxi : x = i
              · rw [if_pos hxi.symm, if_pos hxi]
              · rw [if_neg (fun e => hxi e.symm), if_neg hxi]
            rw [e1, e2]
            refine Tr.imp (A := star (((S.pg.map Pg.bits).zip ql).map BkA)) (A' := star ((((Sp.putL S.pg i k).map Pg.bits).zip ql).map BkA)) tk (fun h H => by rw [bits_putL (by omega) (by omega) hfree]; exact H) ?_
            refine Tr.close tks (RSpaceA.cl (p := p) (S := ⟨S.ws, Sp.putL S.pg i k⟩) (a := sa) (k := sk) (m := sm) (q := sq) (ql := ql) (by dsimp only; rw [putL_len]; exact hql)) ?_
            have e3 : (i : Int) * 64 = ((i * 64 : Nat) : Int) := by omega
            have e4 : Sp.blk w = ((k * 64 : Nat) : Int) := by omega
            rw [e3]
            rw [e4] at hal ⊢
            refine en_call (rf_fill p ⟨S.ws, Sp.putL S.pg i k⟩ (i * 64) (k * 64) (by dsimp only; omega) (by dsimp only; omega)) tks ?_
            rintro x' M rfl
            try simp only [List.cons_append, List.nil_append]
            refine Tr.take (A := blk b1 [.int .i64 0, .int .i64 0]) tk ?_
            refine fin _ _ _ ?_
            rw [hal, hpl, if_pos rfl, Int.toNat_natCast, Int.toNat_natCast]
    · replace h2 : ¬ Sp.cls w < 0 := of_decide_eq_false h2
      have hcc := Sp.cls_cases w
      obtain ⟨c, hc⟩ : ∃ c : Nat, Sp.cls w = c := ⟨(Sp.cls w).toNat, by omega⟩
      have hc5 : c < 5 := by omega
      have hz := Sp.sz_cases hc5
      have hblk : Sp.blk w = (Sp.sz c : Int) := by unfold Sp.blk; rw [if_pos (by omega), hc, Int.toNat_natCast, Sp.sz_get hc5]
      have h32 : 0 < 64 / Sp.sz c := by rcases hz with ⟨_, e⟩ | ⟨_, e⟩ | ⟨_, e⟩ | ⟨_, e⟩ | ⟨_, e⟩ <;> rw [e] <;> decide
      have h64 : 64 / Sp.sz c ≤ 32 := by rcases hz with ⟨_, e⟩ | ⟨_, e⟩ | ⟨_, e⟩ | ⟨_, e⟩ | ⟨_, e⟩ <;> rw [e] <;> decide
      have hpl : Sp.place S.pg w = (match Sp.openP S.pg c with
        | some p => Sp.placeS S.pg p c (Sp.blocks S.pg p)
        | none => (match Sp.run (S.pg.map Pg.taken) 1 with
          | some p => Sp.placeS S.pg p c (List.replicate (64 / Sp.sz c) false)
          | none => (0, 3, S.pg))) := by unfold Sp.place; rw [if_neg h2, hc, Int.toNat_natCast]; rfl
      rw [hc, hblk, wrap64 (n := (c : Int) + 1) (by omega) (by omega)]
      rw [hblk, Int.toNat_natCast] at hal
      have hfit : ∀ {i k : Nat}, i < S.pg.length → k < 64 / Sp.sz c → k * Sp.sz c + Sp.sz c ≤ 64 ∧ i * 64 + k * Sp.sz c + Sp.sz c ≤ S.ws.length := fun {i k} hi hk => by
        have := (sz_fit hc5 hk rfl).1
        omega
      -- what is left when the page is known
      have tail : ∀ (i : Nat) (l : List Bool) (S1 : Spc) (k : Nat), i < S.pg.length → Sp.place S.pg w = Sp.placeS S.pg i c l → l.length = 64 / Sp.sz c → Sp.next l 0 false = k → k < l.length → S1.ws = S.ws → S1.pg = S.pg.set i (.small c (l.set k true)) →
          Tr ρ ρ (RSpaceA p S1 :: blk b1 [.int .i64 0, .int .i64 0] :: R) (call Tryz.prog 157 [.pointer (some ⟨p, 0, none⟩), .int .i64 (IntKind.wrap .i64 (IntKind.wrap .i64 ((i : Int) * 64) + IntKind.wrap .i64 ((k : Int) * (Sp.sz c : Nat)))), .int .i64 (Sp.sz c : Nat)] (.many []) fun (_ : KTs []) =>
            st ⟨b1, 0, none⟩ [.int .i64 (IntKind.wrap .i64 (IntKind.wrap .i64 ((i : Int) * 64) + IntKind.wrap .i64 ((k : Int) * (Sp.sz c : Nat)))), .int .i64 0] <| ld (.g [.int .i64, .int .i64]) ⟨b1, 0, none⟩ fun (x : LTs [.int .i64, .int .i64]) => ret (.agg #[.int .i64 x.1, .int .i64 x.2.1]))
          (SP G2 (fun r M => r = ((Sp.alloc S w).1, (Sp.alloc S w).2.1, ()) ∧ M = [RSpaceA p (Sp.alloc S w).2.2]) R) := fun i l S1 k hi hp hl hk hkl hS1 hS2 => by
        obtain ⟨f1, f2⟩ := hfit hi (show k < 64 / Sp.sz c by omega)
        have em : (k : Int) * (Sp.sz c : Nat) = ((k * Sp.sz c : Nat) : Int) := by rw [Int.natCast_mul]
        have ea : IntKind.wrap .i64 (IntKind.wrap .i64 ((i : Int) * 64) + IntKind.wrap .i64 ((k : Int) * (Sp.sz c : Nat))) = ((i * 64 + k * Sp.sz c : Nat) : Int) := by
          rw [em, wrap64 (n := (i : Int) * 64) (by omega) (by omega), wrap64 (n := ((k * Sp.sz c : Nat) : Int)) (by omega) (by omega), wrap64 (by omega) (by omega)]; omega
        rw [ea]
        refine en_call (rf_fill p S1 (i * 64 + k * Sp.sz c) (Sp.sz c) (by rw [hS1]; omega) (by rw [hS1]; omega)) tks ?_
        rintro x' M rfl
        try simp only [List.cons_append, List.nil_append]
        refine Tr.take (A := blk b1 [.int .i64 0, .int .i64 0]) tk ?_
        refine fin _ _ _ ?_
        rw [hal, hp, Sp.placeS, if_pos rfl, Int.toNat_natCast, hk, Int.toNat_natCast, hS1, hS2]
      refine en_jn (fun (u : LTs [.int .i64]) M => M = blk b1 [.int .i64 0, .int .i64 0] :: RSpaceA p S :: R ∧ ((u.1 = ((S.pg.length : Nat) : Int) ∧ Sp.openP S.pg c = none) ∨ ∃ j : Nat, u.1 = (j : Int) ∧ Sp.openP S.pg c = some j)) ?_ ?_
      · rintro ⟨(u : Int), ⟨⟩⟩ M ⟨rfl, hu⟩
        dsimp only at hu ⊢
        refine en_nn (RSpaceA.op tk fun sa sk sm sq ql hql => ?_)
        refine en_ld (k := .slice) (b := p) (off := 1) (x := sk) (by rw [fa_mk]) tk rfl ?_
        refine Tr.nlen (s := sk) (xs := S.pg.map Pg.kind) tk fun hsk => ?_
        rw [List.length_map] at hsk
        rcases hu with ⟨rfl, ho⟩ | ⟨j, rfl, ho⟩
        · rw [ho] at hpl
          dsimp only at hpl
          refine en_brt (by rw [hsk]; simp) ?_
          refine Tr.close tks (RSpaceA.cl (p := p) (S := S) (a := sa) (k := sk) (m := sm) (q := sq) hql) ?_
          refine en_call (rf_pages p S hw) tks ?_
          rintro r M rfl
          try simp only [List.cons_append, List.nil_append]
          refine en_call (rf_run r (S.pg.map Pg.taken) 1 (by omega) (by omega) (by simp; omega)) tks ?_
          rintro x' M ⟨rfl, rfl⟩
          try simp only [List.cons_append, List.nil_append]
          refine Tr.drop (A := SLc r 1 ((S.pg.map Pg.taken).map bv)) tk ?_
          cases hr : Sp.run (S.pg.map Pg.taken) 1 with
          | none =>
            rw [hr] at hpl
            refine en_brt rfl ?_
            refine Tr.take (A := blk b1 [.int .i64 0, .int .i64 0]) tk ?_
            exact fin 0 3 S (hfull hpl)
          | some i =>
            rw [hr] at hpl
            dsimp only at hpl
            obtain ⟨hi, hfree⟩ := run_free hr
            have hfi := hfree i (by omega) (by omega)
            obtain ⟨k, g1, g2, g3⟩ := next_rep (n := 64 / Sp.sz c) h32
            rw [List.length_replicate] at g2
            refine en_brf (decide_eq_false (by simp only [Sp.oI]; omega)) ?_
            rw [show Sp.oI (some i) = (i : Int) from rfl]
            refine en_nn (RSpaceA.op tk fun sa sk sm sq ql hql => ?_)
            refine en_ld (k := .slice) (b := p) (off := 1) (x := sk) (by rw [fa_mk]) tk rfl ?_
            refine en_setSL (s := sk) (xs := S.pg.map Pg.kind) tk (by omega) (by simp; omega) ?_
            refine en_drw (en_held [blk p [slv sa, slv sk, slv sm, slv sq]] tks (en_nn ?_))
            refine en_ldS (k := .slice) (b := p) (off := 3) (x := sq) (by rw [fa_mk]) tk rfl ?_
            refine en_need (by omega) ?_
            have hdv : IntKind.wrap .i64 (Int.tdiv 64 (Sp.sz c : Nat)) = ((64 / Sp.sz c : Nat) : Int) := by
              rcases hz with ⟨_, e⟩ | ⟨_, e⟩ | ⟨_, e⟩ | ⟨_, e⟩ | ⟨_, e⟩ <;> rw [e] <;> decide
            rw [hdv]
            refine en_mks (e := 4) (m := 1) (bytes := 1) (z := .bool false) (by kernel_rfl) (by kernel_rfl) rfl (by omega) (by omega) (by omega) fun b => ?_
            have e : (List.replicate ((64 / Sp.sz c : Nat) : Int).toNat (Value.cells (.bool false)).toList).flatten = (List.replicate (64 / Sp.sz c) false).map bv := by
              rw [show (Value.cells (.bool false)).toList = [bv false] from rfl, rep1, Int.toNat_natCast]; simp
            rw [e, Int.toNat_natCast]
            refine en_chk tks ?_
            refine en_setQ (s := sq) (v := ⟨some ⟨b, 0, none⟩, 64 / Sp.sz c, 64 / Sp.sz c⟩) (xs := ql) tk (by omega) (by omega) ?_
            refine en_nn ?_
            refine en_ld (k := .slice) (b := p) (off := 3) (x := sq) (by rw [fa_mk]) tk rfl ?_
            have hqi : (ql.set i ⟨some ⟨b, 0, none⟩, 64 / Sp.sz c, 64 / Sp.sz c⟩).getD i nilS = (⟨some ⟨b, 0, none⟩, 64 / Sp.sz c, 64 / Sp.sz c⟩ : Slc) := by rw [set_getD (by omega), if_pos rfl]
            refine en_getQ (s := sq) tk (by omega) (by simp; omega) ?_
            rw [Int.toNat_natCast, hqi]
            refine en_call (rf_next ⟨some ⟨b, 0, none⟩, 64 / Sp.sz c, 64 / Sp.sz c⟩ (List.replicate (64 / Sp.sz c) false) false (by simp; omega)) tks ?_
            rintro x' M ⟨rfl, rfl⟩
            try simp only [List.cons_append, List.nil_append]
            rw [g1]
            refine en_nn ?_
            refine en_ld (k := .slice) (b := p) (off := 3) (x := sq) (by rw [fa_mk]) tk rfl ?_
            refine en_getQ (s := sq) tk (by omega) (by simp; omega) ?_
            rw [Int.toNat_natCast, hqi]
            refine en_setB (s := ⟨some ⟨b, 0, none⟩, 64 / Sp.sz c, 64 / Sp.sz c⟩) (xs := List.replicate (64 / Sp.sz c) false) tk (by omega) (by rw [List.length_replicate]; omega) ?_
            rw [Int.toNat_natCast]
            refine bk_at (i := i) (bl := S.pg.map Pg.bits) (ql := ql) (by simp [hql]) (by simp; omega) tk ?_
            refine Tr.drop (A := SLc (ql.getD i nilS) 1 (((S.pg.map Pg.bits).getD i []).map bv)) tk ?_
            refine bk_cl (bl := S.pg.map Pg.bits) (ql := ql) (i := i) (b := (List.replicate (64 / Sp.sz c) false).set k true) (q := ⟨some ⟨b, 0, none⟩, 64 / Sp.sz c, 64 / Sp.sz c⟩) (by simp [hql]) (by simp; omega) tks ?_
            have hset : ∀ (β : Type) (f : Pg → β) (v : β), f (.small c ((List.replicate (64 / Sp.sz c) false).set k true)) = v → (S.pg.map f).set i v = (S.pg.set i (.small c ((List.replicate (64 / Sp.sz c) false).set k true))).map f := fun β f v hv => by rw [map_set', hv]
            have hm : (S.pg.set i (.small c ((List.replicate (64 / Sp.sz c) false).set k true))).map Pg.many = S.pg.map Pg.many := by
              rw [map_set']
              refine ext_getD 0 (by simp) fun x hx => ?_
              rw [List.length_set, List.length_map] at hx
              rw [set_getD (by simpa using hx)]
              by_cases hxi : i = x
              · subst hxi; rw [if_pos rfl, manyD hfi]; rfl
              · rw [if_neg hxi]
            rw [hset Int Pg.kind ((c : Int) + 1) rfl, hset (List Bool) Pg.bits ((List.replicate (64 / Sp.sz c) false).set k true) rfl, ← hm]
            refine Tr.close tks (RSpaceA.cl (p := p) (S := ⟨S.ws, S.pg.set i (.small c ((List.replicate (64 / Sp.sz c) false).set k true))⟩) (a := sa) (k := sk) (m := sm) (q := sq) (ql := ql.set i ⟨some ⟨b, 0, none⟩, 64 / Sp.sz c, 64 / Sp.sz c⟩) (by simp [hql])) ?_
            exact tail i _ ⟨S.ws, S.pg.set i (.small c ((List.replicate (64 / Sp.sz c) false).set k true))⟩ k (by omega) hpl (by simp) g1 (by simpa using g2) rfl rfl
        · rw [ho] at hpl
          dsimp only at hpl
          obtain ⟨l, hp, hcnt⟩ := Sp.openP_is ho
          obtain ⟨k, g1, g2, g3⟩ := next_of_count hcnt
          have hbl : Sp.blocks S.pg j = l := by unfold Sp.blocks; rw [hp]
          rw [hbl] at hpl
          have hj := getElem?_lt hp
          have hll := (hw.small _ _ _ hp).2
          refine en_brf (beq_eq_false_iff_ne.2 (show ((j : Nat) : Int) ≠ ((sk.n : Nat) : Int) by omega)) ?_
          refine en_nn ?_
          refine en_ld (k := .slice) (b := p) (off := 3) (x := sq) (by rw [fa_mk]) tk rfl ?_
          refine en_getQ (s := sq) (xs := ql) tk (by omega) (by omega) ?_
          rw [Int.toNat_natCast]
          refine bk_at (i := j) (bl := S.pg.map Pg.bits) (ql := ql) (by simp [hql]) (by simp; omega) tk ?_
          rw [bitsD hp, show Pg.bits (.small c l) = l from rfl]
          refine en_call (rf_next (ql.getD j nilS) l false (by omega)) tks ?_
          rintro x' M ⟨rfl, rfl⟩
          try simp only [List.cons_append, List.nil_append]
          rw [g1]
          refine en_nn ?_
          refine en_ld (k := .slice) (b := p) (off := 3) (x := sq) (by rw [fa_mk]) tk rfl ?_
          refine en_getQ (s := sq) (xs := ql) tk (by omega) (by omega) ?_
          rw [Int.toNat_natCast]
          refine en_setB (s := ql.getD j nilS) (xs := l) tk (by omega) (by omega) ?_
          rw [Int.toNat_natCast]
          refine bk_cl (bl := S.pg.map Pg.bits) (ql := ql) (i := j) (b := l.set k true) (q := ql.getD j nilS) (by simp [hql]) (by simp; omega) tks ?_
          have hqs : ql.set j (ql.getD j nilS) = ql := by
            refine ext_getD nilS (by simp) fun x hx => ?_
            rw [List.length_set] at hx
            rw [set_getD hx]
            by_cases hxi : j = x
            · rw [if_pos hxi, hxi]
            · rw [if_neg hxi]
          have hm : ∀ f : Pg → Int, f (.small c (l.set k true)) = f (.small c l) → (S.pg.set j (.small c (l.set k true))).map f = S.pg.map f := fun f hf => by
            rw [map_set']
            refine ext_getD 0 (by simp) fun x hx => ?_
            rw [List.length_set, List.length_map] at hx
            rw [set_getD (by simpa using hx)]
            by_cases hxi : j = x
            · subst hxi; rw [if_pos rfl, hf, List.getD_eq_getElem?_getD, List.getElem?_map, hp]; rfl
            · rw [if_neg hxi]
          rw [hqs, show (S.pg.map Pg.bits).set j (l.set k true) = (S.pg.set j (.small c (l.set k true))).map Pg.bits by rw [map_set']; rfl, ← hm Pg.kind rfl, ← hm Pg.many rfl]
          refine Tr.close tks (RSpaceA.cl (p := p) (S := ⟨S.ws, S.pg.set j (.small c (l.set k true))⟩) (a := sa) (k := sk) (m := sm) (q := sq) (ql := ql) (by simp [hql])) ?_
          exact tail j l ⟨S.ws, S.pg.set j (.small c (l.set k true))⟩ k hj hpl hll g1 g2 rfl rfl
      · intro J hJ
        refine en_lp (fun m u M => (fun j : Int => M = blk b1 [.int .i64 0, .int .i64 0] :: RSpaceA p S :: R ∧ 0 ≤ j ∧ j ≤ S.pg.length ∧ m = S.pg.length - j.toNat ∧ ∀ x : Nat, x < j.toNat → Sp.openQ S.pg c x = false) u.1) S.pg.length ?_ ?_
        · exact ⟨rfl, by simp, by dsimp only; omega, by simp, fun x hx => by simp at hx⟩
        · rintro m ⟨(j : Int), ⟨⟩⟩ M ⟨rfl, j0, j1, rfl, hop⟩ X hX
          dsimp only at *
          refine en_nn (RSpaceA.op tk fun sa sk sm sq ql hql => ?_)
          refine en_ld (k := .slice) (b := p) (off := 1) (x := sk) (by rw [fa_mk]) tk rfl ?_
          refine Tr.nlen (s := sk) (xs := S.pg.map Pg.kind) tk fun hsk => ?_
          rw [List.length_map] at hsk
          refine en_br (fun h3 => ?_) (fun h3 => ?_)
          · replace h3 : j < (sk.n : Int) := of_decide_eq_true h3
            have hx : S.pg[j.toNat]? = some S.pg[j.toNat] := List.getElem?_eq_getElem (by omega)
            generalize S.pg[j.toNat] = x at hx
            have hoq : Sp.openQ S.pg c j.toNat = (match x with | .small c' l => c' == c && !decide (l.count true = l.length) | _ => false) := by
              cases x <;> simp [Sp.openQ, hx]
            have w1 : IntKind.wrap .i64 (j + 1) = j + 1 := wrap64 (by omega) (by omega)
            have hgo : Sp.openQ S.pg c j.toNat = false → Tr ρ ρ (blk b1 [.int .i64 0, .int .i64 0] :: RSpaceA p S :: R) (X (j + 1, ())) (SP G2 (fun r M => r = ((Sp.alloc S w).1, (Sp.alloc S w).2.1, ()) ∧ M = [RSpaceA p (Sp.alloc S w).2.2]) R) := fun hq =>
              hX (S.pg.length - (j + 1).toNat) _ _ (by omega) ⟨rfl, by dsimp only; omega, by dsimp only; omega, rfl, fun x hx => by
                dsimp only at hx
                by_cases hc : x = j.toNat
                · rw [hc]; exact hq
                · exact hop x (by omega)⟩
            refine en_nn ?_
            refine en_ld (k := .slice) (b := p) (off := 1) (x := sk) (by rw [fa_mk]) tk rfl ?_
            refine en_getSL (s := sk) (xs := S.pg.map Pg.kind) tk j0 (by simp; omega) ?_
            rw [kindD hx, w1]
            refine en_br (fun h4 => ?_) (fun h4 => ?_)
            · have h4 : x.kind ≠ (c : Int) + 1 := by simpa using h4
              refine Tr.close tks (RSpaceA.cl (p := p) (S := S) (a := sa) (k := sk) (m := sm) (q := sq) hql) ?_
              refine Tr.take (A := blk b1 [.int .i64 0, .int .i64 0]) tk (hgo ?_)
              rw [hoq]
              cases x with
              | small c' l =>
                have : c' ≠ c := by rintro rfl; exact h4 rfl
                simp [this]
              | _ => rfl
            · have h4 : x.kind = (c : Int) + 1 := by simpa using h4
              obtain ⟨l, rfl⟩ : ∃ l, x = .small c l := by
                cases x with
                | small c' l => exact ⟨l, by have : c' = c := by { simp [Pg.kind] at h4; omega }
                                             rw [this]⟩
                | _ => simp [Pg.kind] at h4 <;> omega
              have hll := (hw.small _ _ _ hx).2
              dsimp only at hoq
              refine en_nn ?_
              refine en_ld (k := .slice) (b := p) (off := 3) (x := sq) (by rw [fa_mk]) tk rfl ?_
              refine en_getQ (s := sq) (xs := ql) tk j0 (by omega) ?_
              refine bk_at (i := j.toNat) (bl := S.pg.map Pg.bits) (ql := ql) (by simp [hql]) (by simp; omega) tk ?_
              rw [bitsD hx, show Pg.bits (.small c l) = l from rfl]
              refine en_call (rf_next (ql.getD j.toNat nilS) l false (by omega)) tks ?_
              rintro x' M ⟨rfl, rfl⟩
              try simp only [List.cons_append, List.nil_append]
              refine bk_cl0 (bl := S.pg.map Pg.bits) (ql := ql) (i := j.toNat) (by simp [hql]) (by simp; omega) (by rw [bitsD hx]; exact tks) ?_
              refine Tr.close tks (RSpaceA.cl (p := p) (S := S) (a := sa) (k := sk) (m := sm) (q := sq) hql) ?_
              refine Tr.take (A := blk b1 [.int .i64 0, .int .i64 0]) tk ?_
              by_cases hcnt : l.count true = l.length
              · have hn1 : Sp.next l 0 false = -1 := by
                  rcases Sp.next_spec l false 0 with ⟨g1, _⟩ | ⟨k, g1, g2, g3, g4, g5⟩
                  · exact g1
                  · exfalso
                    rw [List.count_eq_length] at hcnt
                    have hm : l[k] ∈ l := List.getElem_mem g3
                    have := hcnt _ hm
                    rw [List.getD_eq_getElem?_getD, List.getElem?_eq_getElem g3, Option.getD_some] at g4
                    rw [g4] at this; cases this
                rw [hn1]
                refine en_brt rfl (hgo ?_)
                rw [hoq]; simp [hcnt]
              · obtain ⟨k, g1, g2, g3⟩ := next_of_count hcnt
                rw [g1]
                refine en_brf (decide_eq_false (by omega)) ?_
                refine hJ _ _ ⟨rfl, .inr ⟨j.toNat, (show (j : Int) = ((j.toNat : Nat) : Int) by omega), openP_some (by omega) (by rw [hoq]; simp [hcnt]) hop⟩⟩
          · replace h3 : ¬ j < (sk.n : Int) := of_decide_eq_false h3
            refine Tr.close tks (RSpaceA.cl (p := p) (S := S) (a := sa) (k := sk) (m := sm) (q := sq) hql) ?_
            refine Tr.take (A := blk b1 [.int .i64 0, .int .i64 0]) tk ?_
            exact hJ _ _ ⟨rfl, .inl ⟨(show (j : Int) = ((S.pg.length : Nat) : Int) by omega), openP_none fun x hx => hop x (by omega)⟩⟩

end Go.Proofs.YtapchggmifbfoaaGreat
