/- head. -/
import Derived.Test.YtncpnmpfghppeaaGlBlk
set_option linter.unusedSimpArgs false
set_option linter.unusedVariables false
namespace Go.Gl
open Go
variable {ρ0 ρ : FR} {L L' : List Asn} {Post : Value → List Asn → Prop}
theorem en_ldGo {a : Addr} {b off : Nat} {cs rest : List Value} (ha : a = ⟨b, off, none⟩) (t : Take L (blk b cs) L') : ∀ (ks : List LK) (i : Nat) {f : LTs ks → Tree} {x : LTs ks} (_ : cs.drop (off + i) = vals ks x ++ rest) (_ : Tr ρ0 ρ L (f x) Post), Tr ρ0 ρ L (ldG a i ks f) Post
  | [], _, _, _, _, h => h
  | k :: ks, i, f, x, hv, h => by
    unfold ldG
    simp only [vals, List.cons_append] at hv
    have h0 : cs[off + i]? = some (k.val x.1) := by
      have := congrArg (fun l => l[0]?) hv
      simpa using this
    refine en_ld (k := k) (x := x.1) (off := off + i) (by rw [ha, fa_mk]) t h0 ?_
    have h1 : cs.drop (off + (i + 1)) = vals ks x.2 ++ rest := by
      have := congrArg (fun l => l.drop 1) hv
      simpa [List.drop_drop, Nat.add_assoc, Nat.add_comm 1] using this
    exact en_ldGo ha t ks (i + 1) h1 h
theorem en_ldg {ks : List LK} {a : Addr} {f : LTs ks → Tree} {b off : Nat} {cs : List Value} {x : LTs ks} (rest : List Value) (ha : a = ⟨b, off, none⟩) (t : Take L (blk b cs) L') (hv : cs.drop off = vals ks x ++ rest) (h : Tr ρ0 ρ L (f x) Post) : Tr ρ0 ρ L (ld (.g ks) a f) Post :=
  en_ldGo ha t ks 0 (rest := rest) (by simpa using hv) h
theorem en_ldGSo {M : List Asn} {a : Addr} {b off : Nat} {cs rest : List Value} (ha : a = ⟨b, off, none⟩) (t : Take M (blk b cs) L') : ∀ (ks : List LK) (i : Nat) {f : LTs ks → Tree} {x : LTs ks} (_ : cs.drop (off + i) = vals ks x ++ rest) (_ : Tr ρ0 ρ L (f x) Post), Tr ρ0 ρ L (ldGS (Sat ρ M) a i ks f) Post
  | [], _, _, _, _, h => h
  | k :: ks, i, f, x, hv, h => by
    unfold ldGS
    simp only [vals, List.cons_append] at hv
    have h0 : cs[off + i]? = some (k.val x.1) := by
      have := congrArg (fun l => l[0]?) hv
      simpa using this
    refine en_ldS (k := k) (x := x.1) (off := off + i) (by rw [ha, fa_mk]) t h0 ?_
    have h1 : cs.drop (off + (i + 1)) = vals ks x.2 ++ rest := by
      have := congrArg (fun l => l.drop 1) hv
      simpa [List.drop_drop, Nat.add_assoc, Nat.add_comm 1] using this
    exact en_ldGSo ha t ks (i + 1) h1 h
theorem en_ldgS {ks : List LK} {M : List Asn} {a : Addr} {f : LTs ks → Tree} {b off : Nat} {cs : List Value} {x : LTs ks} (rest : List Value) (ha : a = ⟨b, off, none⟩) (t : Take M (blk b cs) L') (hv : cs.drop off = vals ks x ++ rest) (h : Tr ρ0 ρ L (f x) Post) : Tr ρ0 ρ L (ldS (Sat ρ M) (.g ks) a f) Post :=
  en_ldGSo ha t ks 0 (rest := rest) (by simpa using hv) h
end Go.Gl
namespace Go.Proofs.Ytncpnmpfghppeaa
open Go Go.Gl
variable {ρ0 ρ : FR} {L L' : List Asn} {Post : Value → List Asn → Prop} {T : Tree}

abbrev HL : List LK := [.int .i64, .int .i64, .int .i64, .bool]
abbrev HT := LTs HL
/-- a head: kind, class, fields, final -/
structure Hd where
  k : Int
  c : Int
  n : Int
  f : Bool
  deriving DecidableEq
abbrev Hd.t (h : Hd) : HT := (h.k, h.c, h.n, h.f, ())
abbrev Hd.cs (h : Hd) : List Value := [.int .i64 h.k, .int .i64 h.c, .int .i64 h.n, .bool h.f]
abbrev hval (h : Hd) : Value := .agg #[.int .i64 h.k, .int .i64 h.c, .int .i64 h.n, .bool h.f]
abbrev IB : RK := .many [.l (.int .i64), .l .bool]
abbrev HB : RK := .many [.g HL, .l .bool]
abbrev HE : RK := .many [.g HL, .l (.int .i64)]

theorem head_in (x a b : Int) (s : Slc) (hs : RoS ρ s 1 ([a, b].map i64)) : Spec ρ Try.prog 85 [i64 x, .slice s.a s.n s.c] [] RB fun r M => r = decide (a ≤ x ∧ x ≤ b) ∧ M = [] := by
  refine Spec.of (fun Q w h => F.head.in.calls x s h) fun R => ?_
  unfold F.head.in
  try simp only [List.cons_append, List.nil_append]
  have hn : s.n = 2 := by have := hs.1; simpa using this.symm
  refine en_lp (fun n u M => (fun i : Int => M = R ∧ ((i = 0 ∧ n = 1) ∨ (i = 2 ∧ n = 0 ∧ ¬ (a ≤ x ∧ x ≤ b)))) u.1) 1 ⟨rfl, .inl ⟨rfl, rfl⟩⟩ ?_
  rintro n ⟨(i : Int), ⟨⟩⟩ M ⟨rfl, hi⟩ X hX
  dsimp only at *
  rcases hi with ⟨rfl, rfl⟩ | ⟨rfl, rfl, hc⟩
  · refine en_brt (by rw [hn]; rfl) ?_
    refine en_ixRo hs (by omega) (by omega) fun a0 ha => ?_
    refine en_ldRo (j := 0) (x := a) ha hs (by rintro b o rfl; simp [fa_mk]) rfl ?_
    refine en_br (fun h => ?_) (fun h => ?_)
    · replace h : x ≥ a := of_decide_eq_true h
      have e : IntKind.wrap .i64 (0 + 1) = 1 := by decide
      rw [e]
      refine en_ixRo hs (by omega) (by omega) fun a0 ha => ?_
      refine en_ldRo (j := 1) (x := b) ha hs (by rintro b o rfl; simp [fa_mk]) rfl ?_
      refine en_br (fun h2 => ?_) (fun h2 => ?_)
      · replace h2 : x ≤ b := of_decide_eq_true h2
        refine en_rets (x := decide (a ≤ x ∧ x ≤ b)) ?_ ⟨rfl, rfl⟩ tks ens
        rw [decide_eq_true ⟨h, h2⟩]; rfl
      · replace h2 : ¬ x ≤ b := of_decide_eq_false h2
        exact hX 0 _ _ (by omega) ⟨rfl, .inr ⟨by decide, rfl, fun h => h2 h.2⟩⟩
    · replace h : ¬ x ≥ a := of_decide_eq_false h
      exact hX 0 _ _ (by omega) ⟨rfl, .inr ⟨by decide, rfl, fun h' => h h'.1⟩⟩
  · refine en_brf (by rw [hn]; rfl) ?_
    refine en_rets (x := decide (a ≤ x ∧ x ≤ b)) ?_ ⟨rfl, rfl⟩ tks ens
    rw [decide_eq_false hc]; rfl

def Sp.mayH (h : Hd) : Bool :=
  decide (0 ≤ h.n ∧ h.n ≤ 1023) &&
  (if h.k = 1 then decide (1 ≤ h.c ∧ h.c ≤ 256) else if h.k = 2 ∨ h.k = 3 then decide (0 ≤ h.c ∧ h.c ≤ 0)
   else if h.k = 4 then decide (1 ≤ h.c ∧ h.c ≤ 3) && (h.n == 5) && !h.f else false)

theorem head_may (h : Hd) : Spec ρ Try.prog 66 [hval h] [] RB fun r M => r = Sp.mayH h ∧ M = [] := by
  refine Spec.of (fun Q w hh => F.head.May.calls h.t hh) fun R => ?_
  obtain ⟨k, c, n, f⟩ := h
  unfold F.head.May
  try simp only [List.cons_append, List.nil_append]
  have call2 : ∀ {ρ' : FR} {L : List Asn} (x a b : Int) (K : Bool → Tree) (_ : ∀ ρ', Le ρ ρ' → Tr ρ ρ' L (K (decide (a ≤ x ∧ x ≤ b))) (SP RB (fun r M => r = Sp.mayH (Hd.mk k c n f) ∧ M = []) R)) (_ : Le ρ ρ'),
      Tr ρ ρ' L (nw 3 [.int .i64 a, .int .i64 b] fun b3 => call Try.prog 85 [.int .i64 x, .slice (some ⟨b3, 0, none⟩) 2 2] RB K) (SP RB (fun r M => r = Sp.mayH (Hd.mk k c n f) ∧ M = []) R) := by
    intro ρ' L x a b K hK hle
    refine en_nw fun b3 => ?_
    refine Rd.bk (n := 2) (m := 1) rfl .here fun ρ'' hle2 hro => ?_
    refine en_call (head_in x a b ⟨some ⟨b3, 0, none⟩, 2, 2⟩ hro) .nil ?_
    rintro r M ⟨rfl, rfl⟩
    exact hK ρ'' (hle.trans hle2)
  refine en_nw fun b1 => ?_
  refine en_ld (k := .int .i64) (x := n) (by rw [fa_mk]) tk rfl ?_
  refine call2 n 0 1023 _ (fun ρ' hle => ?_) (Le.refl _)
  refine en_br (fun h1 => ?_) (fun h1 => ?_)
  · refine en_rets (x := Sp.mayH (Hd.mk k c n f)) ?_ ⟨rfl, rfl⟩ tks ens
    have : decide (0 ≤ n ∧ n ≤ 1023) = false := by rw [← Bool.not_eq_true']; exact h1
    simp only [Sp.mayH, this, Bool.false_and]; rfl
  · have h1 : decide (0 ≤ n ∧ n ≤ 1023) = true := by simpa using h1
    refine en_ld (k := .int .i64) (x := k) (by rw [fa_mk]) tk rfl ?_
    refine en_br (fun h2 => ?_) (fun h2 => ?_)
    · replace h2 : k = 1 := by simpa using h2
      refine en_ld (k := .int .i64) (x := c) (by rw [fa_mk]) tk rfl ?_
      refine call2 c 1 256 _ (fun ρ' hle => ?_) hle
      refine en_rets (x := Sp.mayH (Hd.mk k c n f)) ?_ ⟨rfl, rfl⟩ tks ens
      simp only [Sp.mayH, h1, h2, if_true, Bool.true_and]; rfl
    · replace h2 : ¬ k = 1 := by simpa using h2
      refine en_br (fun h3 => ?_) (fun h3 => ?_)
      · refine en_brt h3 ?_
        replace h3 : k = 2 := by simpa using h3
        refine en_ld (k := .int .i64) (x := c) (by rw [fa_mk]) tk rfl ?_
        refine call2 c 0 0 _ (fun ρ' hle => ?_) hle
        refine en_rets (x := Sp.mayH (Hd.mk k c n f)) ?_ ⟨rfl, rfl⟩ tks ens
        simp only [Sp.mayH, h1, h3, Bool.true_and]; rfl
      · replace h3 : ¬ k = 2 := by simpa using h3
        refine en_br (fun h4 => ?_) (fun h4 => ?_)
        · replace h4 : k = 3 := by simpa using h4
          refine en_ld (k := .int .i64) (x := c) (by rw [fa_mk]) tk rfl ?_
          refine call2 c 0 0 _ (fun ρ' hle => ?_) hle
          refine en_rets (x := Sp.mayH (Hd.mk k c n f)) ?_ ⟨rfl, rfl⟩ tks ens
          simp only [Sp.mayH, h1, h4, Bool.true_and]; rfl
        · replace h4 : ¬ k = 3 := by simpa using h4
          refine en_br (fun h5 => ?_) (fun h5 => ?_)
          · replace h5 : k = 4 := by simpa using h5
            refine en_ld (k := .int .i64) (x := c) (by rw [fa_mk]) tk rfl ?_
            refine call2 c 1 3 _ (fun ρ' hle => ?_) hle
            have e : Sp.mayH (Hd.mk k c n f) = (decide (1 ≤ c ∧ c ≤ 3) && (n == 5) && !f) := by simp only [Sp.mayH, h1, h5, Bool.true_and]; rfl
            refine en_br (fun h6 => ?_) (fun h6 => ?_)
            · refine en_ld (k := .int .i64) (x := n) (by rw [fa_mk]) tk rfl ?_
              refine en_br (fun h7 => ?_) (fun h7 => ?_)
              · refine en_ld (k := .bool) (x := f) (by rw [fa_mk]) tk rfl ?_
                refine en_rets (x := Sp.mayH (Hd.mk k c n f)) ?_ ⟨rfl, rfl⟩ tks ens
                rw [e, h6, h7]; rfl
              · refine en_rets (x := Sp.mayH (Hd.mk k c n f)) ?_ ⟨rfl, rfl⟩ tks ens
                rw [e, h6, h7]; rfl
            · refine en_rets (x := Sp.mayH (Hd.mk k c n f)) ?_ ⟨rfl, rfl⟩ tks ens
              rw [e, h6]; rfl
          · replace h5 : ¬ k = 4 := by simpa using h5
            refine en_rets (x := Sp.mayH (Hd.mk k c n f)) ?_ ⟨rfl, rfl⟩ tks ens
            simp only [Sp.mayH, h1, h2, h3, h4, h5, if_false, or_self, Bool.true_and]; rfl

def Sp.putH (h : Hd) : Int := h.k + 16 * h.c + 65536 * h.n + if h.f then 8 else 0
theorem Sp.mayH_is {h : Hd} (hm : Sp.mayH h = true) : 0 ≤ h.n ∧ h.n ≤ 1023 ∧ 1 ≤ h.k ∧ h.k ≤ 4 ∧ 0 ≤ h.c ∧ h.c ≤ 256 := by
  obtain ⟨k, c, n, f⟩ := h
  unfold Sp.mayH at hm
  dsimp only at *
  rw [Bool.and_eq_true] at hm
  obtain ⟨h1, h2⟩ := hm
  simp only [decide_eq_true_eq] at h1
  split at h2
  · simp at h2; omega
  · split at h2
    · simp at h2; omega
    · split at h2
      · simp at h2; omega
      · cases h2

theorem head_put (h : Hd) : Spec ρ Try.prog 41 [hval h] [] IB fun r M => r = (if Sp.mayH h then (Sp.putH h, true, ()) else (0, false, ())) ∧ M = [] := by
  refine Spec.of (fun Q w hh => F.head.Put.calls h.t hh) fun R => ?_
  obtain ⟨k, c, n, f⟩ := h
  unfold F.head.Put
  try simp only [List.cons_append, List.nil_append]
  refine en_nw fun b1 => ?_
  refine en_ldg (x := (k, c, n, f, ())) [] rfl tk rfl ?_
  refine en_call (head_may (Hd.mk k c n f)) tks ?_
  rintro x M ⟨rfl, rfl⟩
  try simp only [List.cons_append, List.nil_append]
  refine en_br (fun h => ?_) (fun h => ?_)
  · have h : ¬ Sp.mayH (Hd.mk k c n f) = true := by simpa using h
    rw [if_neg h]
    exact en_rets (x := (0, false, ())) rfl ⟨rfl, rfl⟩ tks ens
  · have h : Sp.mayH (Hd.mk k c n f) = true := by simpa using h
    rw [if_pos h]
    have hb := Sp.mayH_is h
    dsimp only at hb
    refine en_ld (k := .int .i64) (x := k) (by rw [fa_mk]) tk rfl ?_
    refine en_ld (k := .int .i64) (x := c) (by rw [fa_mk]) tk rfl ?_
    refine en_ld (k := .int .i64) (x := n) (by rw [fa_mk]) tk rfl ?_
    refine en_ld (k := .bool) (x := f) (by rw [fa_mk]) tk rfl ?_
    rw [wrap64 (n := 16 * c) (by omega) (by omega), wrap64 (n := k + 16 * c) (by omega) (by omega), wrap64 (n := 65536 * n) (by omega) (by omega), wrap64 (n := k + 16 * c + 65536 * n) (by omega) (by omega), wrap64 (n := k + 16 * c + 65536 * n + 8) (by omega) (by omega)]
    cases f with
    | true =>
      refine en_brt rfl ?_
      exact en_rets (x := (Sp.putH (Hd.mk k c n true), true, ())) rfl ⟨rfl, rfl⟩ tks ens
    | false =>
      refine en_brf rfl ?_
      refine en_rets (x := (Sp.putH (Hd.mk k c n false), true, ())) ?_ ⟨rfl, rfl⟩ tks ens
      simp [Sp.putH, RK.val, KD.val, LK.val, kvals]

theorem Sp.putH_get {h : Hd} (hm : Sp.mayH h = true) : Int.tmod (Sp.putH h) 8 = h.k ∧ (Int.tmod (Int.tdiv (Sp.putH h) 8) 2 == 1) = h.f ∧ Int.tdiv (Int.tmod (Sp.putH h) 65536) 16 = h.c ∧ Int.tdiv (Sp.putH h) 65536 = h.n ∧ 0 ≤ Sp.putH h ∧ Sp.putH h < 2 ^ 27 := by
  have hb := Sp.mayH_is hm
  obtain ⟨k, c, n, f⟩ := h
  dsimp only at hb
  have h0 : 0 ≤ Sp.putH (Hd.mk k c n f) := by unfold Sp.putH; dsimp only; split <;> omega
  rw [Int.tmod_eq_emod_of_nonneg h0, Int.tdiv_eq_ediv_of_nonneg h0, Int.tmod_eq_emod_of_nonneg h0, Int.tdiv_eq_ediv_of_nonneg h0, Int.tmod_eq_emod_of_nonneg (by omega), Int.tdiv_eq_ediv_of_nonneg (by omega)]
  unfold Sp.putH
  dsimp only
  cases f with
  | true => simp only [if_true, beq_iff_eq]; refine ⟨?_, ?_, ?_, ?_, ?_, ?_⟩ <;> omega
  | false => simp only [Bool.false_eq_true, if_false, beq_eq_false_iff_ne]; refine ⟨?_, ?_, ?_, ?_, ?_, ?_⟩ <;> omega

theorem head_get (h : Hd) (hm : Sp.mayH h = true) : Spec ρ Try.prog 50 [i64 (Sp.putH h)] [] HB fun r M => r = (h.t, true, ()) ∧ M = [] := by
  refine Spec.of (fun Q w hh => F.head.Get.calls (Sp.putH h) hh) fun R => ?_
  obtain ⟨g1, g2, g3, g4, g5, g6⟩ := Sp.putH_get hm
  have hb := Sp.mayH_is hm
  unfold F.head.Get
  try simp only [List.cons_append, List.nil_append]
  refine en_nw fun b1 => ?_
  have hz : zc Try.prog 32 = [.int .i64 0, .int .i64 0, .int .i64 0, .bool false] := by kernel_rfl
  rw [hz]
  refine en_brf (by simp; omega) ?_
  refine en_need (by decide) (en_need (by decide) (en_need (by decide) (en_need (by decide) (en_need (by decide) (en_need (by decide) ?_)))))
  refine en_nw fun b2 => ?_
  rw [wrap64 (n := Int.tdiv (Sp.putH h) 8) (by rw [Int.tdiv_eq_ediv_of_nonneg g5]; omega) (by rw [Int.tdiv_eq_ediv_of_nonneg g5]; omega), g1, g2, g3, g4, wrap64 (by omega) (by omega), wrap64 (by omega) (by omega)]
  obtain ⟨k, c, n, f⟩ := h
  dsimp only at *
  refine en_st (off := 0) rfl tk (by simp) rfl ?_
  refine en_ldg (b := b2) (x := (k, c, n, f, ())) [] rfl tk rfl ?_
  refine en_call (head_put (Hd.mk k c n f)) tks ?_
  rintro x M ⟨rfl, rfl⟩
  try simp only [List.cons_append, List.nil_append]
  rw [if_pos hm]
  refine en_brf rfl (en_brf (by simp) ?_)
  refine en_ldg (b := b2) (x := (k, c, n, f, ())) [] rfl tk rfl ?_
  refine en_st (b := b1) (off := 0) rfl tk (by simp) rfl ?_
  refine en_ldg (b := b1) (x := (k, c, n, f, ())) [] rfl tk rfl ?_
  exact en_rets (x := ((k, c, n, f, ()), true, ())) rfl ⟨rfl, rfl⟩ tks ens

end Go.Proofs.Ytncpnmpfghppeaa
