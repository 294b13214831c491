/- size, block, head. -/
import Derived.Test.YtncpnmpfghppeaaGlMid
import Derived.Test.YtncpnmpfghppeaaGlMap
set_option linter.unusedSimpArgs false
set_option linter.unusedVariables false
namespace Go.Proofs.Ytncpnmpfghppeaa
open Go Go.Gl
variable {ρ0 ρ : FR} {L L' : List Asn} {Post : Value → List Asn → Prop} {T : Tree}

theorem drop_getD {α : Type} {l : List α} {k : Nat} (d : α) (h : k < l.length) : l.drop k = l.getD k d :: l.drop (k + 1) := by
  rw [List.drop_eq_getElem_cons h]; simp [List.getD_eq_getElem?_getD, h]
theorem Rd.bk {b n m : Nat} {vs : List Value} (hl : vs.length = n * m) (t : Take L (blk b vs) L') (h : ∀ ρ', Le ρ ρ' → RoS ρ' ⟨some ⟨b, 0, none⟩, n, n⟩ m vs → Tr ρ0 ρ' L' T Post) : Tr ρ0 ρ L T Post :=
  Tr.keep t fun ρ' ⟨ty, hr⟩ hle => h ρ' hle ⟨hl, .inr ⟨b, 0, _, ty, _, rfl, hr, fun i hi => by simp⟩⟩

/-! ### size -/
def Sp.sizes : List Int := [2, 4, 8, 16, 32]
def Sp.clsN (w : Int) : List Int → Int → Int
  | [], _ => -1 | x :: l, i => if x ≥ w then i else Sp.clsN w l (i + 1)
def Sp.cls (w : Int) : Int := if w < 1 then -1 else Sp.clsN w Sp.sizes 0
theorem Sp.cls_cases (w : Int) : (w < 1 ∧ Sp.cls w = -1) ∨ (1 ≤ w ∧ w ≤ 2 ∧ Sp.cls w = 0) ∨ (3 ≤ w ∧ w ≤ 4 ∧ Sp.cls w = 1) ∨ (5 ≤ w ∧ w ≤ 8 ∧ Sp.cls w = 2) ∨ (9 ≤ w ∧ w ≤ 16 ∧ Sp.cls w = 3) ∨ (17 ≤ w ∧ w ≤ 32 ∧ Sp.cls w = 4) ∨ (33 ≤ w ∧ Sp.cls w = -1) := by
  unfold Sp.cls Sp.sizes
  simp only [Sp.clsN]
  repeat' split
  all_goals omega

theorem size_sizes : Spec ρ Try.prog 79 [] [] (.one (.l .slice)) fun r M => r.n = 5 ∧ M = [SLc r 1 (Sp.sizes.map i64)] := by
  refine Spec.of (fun Q w h => F.size.Sizes.calls h) fun R => ?_
  unfold F.size.Sizes
  try simp only [List.cons_append, List.nil_append]
  refine en_nw fun b => ?_
  refine Tr.imp (A' := SLc ⟨some ⟨b, 0, none⟩, 5, 5⟩ 1 (Sp.sizes.map i64)) .here (SLc.of_cl rfl) ?_
  exact en_rets (x := (⟨some ⟨b, 0, none⟩, 5, 5⟩ : Slc)) rfl ⟨rfl, rfl⟩ tks ens

theorem size_class (w : Int) : Spec ρ Try.prog 78 [i64 w] [] R1 fun r M => r = Sp.cls w ∧ M = [] := by
  refine Spec.of (fun Q w' h => F.size.Class.calls w h) fun R => ?_
  unfold F.size.Class
  try simp only [List.cons_append, List.nil_append]
  refine en_br (fun h => ?_) (fun h => ?_)
  · replace h : w < 1 := of_decide_eq_true h
    refine en_rets (x := Sp.cls w) ?_ ⟨rfl, rfl⟩ tks ens
    simp [Sp.cls, h, RK.val, KD.val, LK.val]
  · replace h : ¬ w < 1 := of_decide_eq_false h
    refine en_call (size_sizes) tks ?_
    rintro s M ⟨hs, rfl⟩
    try simp only [List.cons_append, List.nil_append]
    refine Tr.keepSL (s := s) tk fun ρ' hle hro => ?_
    refine en_lp (fun n u M => (fun i : Int => M = R ∧ 0 ≤ i ∧ i ≤ 5 ∧ n = 5 - i.toNat ∧ Sp.cls w = Sp.clsN w (Sp.sizes.drop i.toNat) i) u.1) 5 ?_ ?_
    · refine ⟨rfl, by simp, by simp, by simp, ?_⟩
      simp [Sp.cls, h]
    · rintro n ⟨(i : Int), ⟨⟩⟩ M ⟨rfl, h0, h1, rfl, hc⟩ X hX
      dsimp only at *
      refine en_br (fun h2 => ?_) (fun h2 => ?_)
      · replace h2 : i < (s.n : Int) := of_decide_eq_true h2
        have hi : i.toNat < Sp.sizes.length := by rw [hs] at h2; show i.toNat < 5; omega
        refine en_ixRo hro h0 h2 fun a0 ha => ?_
        refine en_ldRo (j := i.toNat) (x := Sp.sizes.getD i.toNat 0) ha hro (by rintro b o rfl; simp [fa_mk]) (getD_map hi) ?_
        rw [drop_getD 0 hi] at hc
        unfold Sp.clsN at hc
        refine en_br (fun h3 => ?_) (fun h3 => ?_)
        · rw [if_pos (of_decide_eq_true h3)] at hc
          refine en_rets (x := Sp.cls w) ?_ ⟨rfl, rfl⟩ tks ens
          rw [hc]; rfl
        · rw [if_neg (of_decide_eq_false h3)] at hc
          rw [wrap64 (by omega) (by omega)]
          refine hX (5 - (i + 1).toNat) _ _ (by rw [hs] at h2; omega) ⟨rfl, by dsimp only; omega, by dsimp only; rw [hs] at h2; omega, rfl, ?_⟩
          dsimp only; rw [hc, show (i + 1).toNat = i.toNat + 1 by omega]
      · replace h2 : ¬ i < (s.n : Int) := of_decide_eq_false h2
        rw [hs] at h2
        have : i = 5 := by omega
        subst this
        refine en_rets (x := Sp.cls w) ?_ ⟨rfl, rfl⟩ tks ens
        rw [hc]; rfl

def Sp.pgs (w : Int) : Int := if w < 1 ∨ w > 1024 ∨ 0 ≤ Sp.cls w then 0 else (w + 63) / 64
theorem size_pages (w : Int) : Spec ρ Try.prog 80 [i64 w] [] R1 fun r M => r = Sp.pgs w ∧ M = [] := by
  refine Spec.of (fun Q w' h => F.size.Pages.calls w h) fun R => ?_
  unfold F.size.Pages
  try simp only [List.cons_append, List.nil_append]
  refine en_br (fun h => ?_) (fun h => ?_)
  · replace h : w < 1 := of_decide_eq_true h
    refine en_rets (x := Sp.pgs w) ?_ ⟨rfl, rfl⟩ tks ens
    simp [Sp.pgs, h, RK.val, KD.val, LK.val]
  · replace h : ¬ w < 1 := of_decide_eq_false h
    refine en_br (fun h2 => ?_) (fun h2 => ?_)
    · replace h2 : w > 1024 := of_decide_eq_true h2
      refine en_rets (x := Sp.pgs w) ?_ ⟨rfl, rfl⟩ tks ens
      simp [Sp.pgs, h2, RK.val, KD.val, LK.val]
    · replace h2 : ¬ w > 1024 := of_decide_eq_false h2
      refine en_call (size_class w) tks ?_
      rintro x M ⟨rfl, rfl⟩
      try simp only [List.cons_append, List.nil_append]
      refine en_br (fun h3 => ?_) (fun h3 => ?_)
      · replace h3 : Sp.cls w ≥ 0 := of_decide_eq_true h3
        refine en_rets (x := Sp.pgs w) ?_ ⟨rfl, rfl⟩ tks ens
        rw [Sp.pgs, if_pos (.inr (.inr h3))]; rfl
      · replace h3 : ¬ Sp.cls w ≥ 0 := of_decide_eq_false h3
        refine en_need (by decide) ?_
        rw [wrap64 (n := w + 64) (by omega) (by omega), wrap64 (n := w + 64 - 1) (by omega) (by omega)]
        rw [Int.tdiv_eq_ediv_of_nonneg (by omega), wrap64 (by omega) (by omega)]
        refine en_rets (x := Sp.pgs w) ?_ ⟨rfl, rfl⟩ tks ens
        rw [Sp.pgs, if_neg (by rintro (h' | h' | h') <;> omega)]
        show _ = Value.int .i64 _
        congr 1; omega

def Sp.blk (w : Int) : Int := if 0 ≤ Sp.cls w then Sp.sizes.getD (Sp.cls w).toNat 0 else Sp.pgs w * 64
theorem size_block (w : Int) : Spec ρ Try.prog 61 [i64 w] [] R1 fun r M => r = Sp.blk w ∧ M = [] := by
  refine Spec.of (fun Q w' h => F.size.Block.calls w h) fun R => ?_
  unfold F.size.Block
  try simp only [List.cons_append, List.nil_append]
  refine en_call (size_class w) tks ?_
  rintro x M ⟨rfl, rfl⟩
  try simp only [List.cons_append, List.nil_append]
  have hcc := Sp.cls_cases w
  refine en_br (fun h => ?_) (fun h => ?_)
  · replace h : Sp.cls w ≥ 0 := of_decide_eq_true h
    refine en_call (size_sizes) tks ?_
    rintro s M ⟨hs, rfl⟩
    try simp only [List.cons_append, List.nil_append]
    refine en_ixSL (s := s) (xs := Sp.sizes.map i64) tk h (by rw [hs]; omega) fun a0 ha => ?_
    refine en_ldSL (s := s) (xs := Sp.sizes.map i64) (j := (Sp.cls w).toNat) (x := Sp.sizes.getD (Sp.cls w).toNat 0) ha tk (by rintro b o rfl; simp [fa_mk]) (getD_map (by show _ < 5; omega)) ?_
    refine en_rets (x := Sp.blk w) ?_ ⟨rfl, rfl⟩ tks ens
    rw [Sp.blk, if_pos h]; rfl
  · replace h : ¬ Sp.cls w ≥ 0 := of_decide_eq_false h
    refine en_call (size_pages w) tks ?_
    rintro x M ⟨rfl, rfl⟩
    try simp only [List.cons_append, List.nil_append]
    have hb : 0 ≤ Sp.pgs w ∧ Sp.pgs w ≤ 16 := by unfold Sp.pgs; split <;> omega
    rw [wrap64 (by omega) (by omega)]
    refine en_rets (x := Sp.blk w) ?_ ⟨rfl, rfl⟩ tks ens
    rw [Sp.blk, if_neg h]; rfl

/-! ### block -/
def PageA (p : Nat) (l : List Bool) (w : Int) : Asn := fun h => ∃ b : Nat, star [blk p [.pointer (some ⟨b, 0, none⟩), i64 w], BitsA b l] h
theorem PageA.op {p : Nat} {l : List Bool} {w : Int} (t : Take L (PageA p l w) L') (h : ∀ b : Nat, Tr ρ0 ρ (blk p [.pointer (some ⟨b, 0, none⟩), i64 w] :: BitsA b l :: L') T Post) : Tr ρ0 ρ L T Post :=
  Tr.openL (M := fun b : Nat => [blk p [.pointer (some ⟨b, 0, none⟩), i64 w], BitsA b l]) (c := fun _ => True) t (fun _ ⟨b, h⟩ => ⟨b, trivial, h⟩) fun b _ => h b
theorem PageA.cl {p b : Nat} {l : List Bool} {w : Int} (h : HP) (H : star [blk p [.pointer (some ⟨b, 0, none⟩), i64 w], BitsA b l] h) : PageA p l w h := ⟨b, H⟩

def Sp.sz (c : Nat) : Nat := (Sp.sizes.getD c 0).toNat
theorem Sp.sz_cases {c : Nat} (h : c < 5) : (c = 0 ∧ Sp.sz c = 2) ∨ (c = 1 ∧ Sp.sz c = 4) ∨ (c = 2 ∧ Sp.sz c = 8) ∨ (c = 3 ∧ Sp.sz c = 16) ∨ (c = 4 ∧ Sp.sz c = 32) := by
  match c, h with
  | 0, _ => decide
  | 1, _ => decide
  | 2, _ => decide
  | 3, _ => decide
  | 4, _ => decide
theorem Sp.sz_get {c : Nat} (h : c < 5) : Sp.sizes.getD c 0 = (Sp.sz c : Int) := by
  match c, h with
  | 0, _ => decide
  | 1, _ => decide
  | 2, _ => decide
  | 3, _ => decide
  | 4, _ => decide

theorem block_new (c : Nat) (hc : c < 5) : Spec ρ Try.prog 101 [i64 c] [] PE
    fun r M => ∃ b, r = (some ⟨b, 0, none⟩, 0, ()) ∧ M = [PageA b (List.replicate (64 / Sp.sz c) false) (Sp.sz c)] := by
  refine Spec.of (fun Q w' h => F.block.New.calls c h) fun R => ?_
  unfold F.block.New
  try simp only [List.cons_append, List.nil_append]
  have hz := Sp.sz_cases hc
  refine en_call (size_sizes) tks ?_
  rintro s M ⟨hs, rfl⟩
  try simp only [List.cons_append, List.nil_append]
  refine en_brf (by simp) (en_brf (by simp [hs]; omega) ?_)
  refine en_ixSL (s := s) (xs := Sp.sizes.map i64) tk (by omega) (by rw [hs]; omega) fun a0 ha => ?_
  refine en_ldSL (s := s) (xs := Sp.sizes.map i64) (j := c) (x := Sp.sizes.getD c 0) ha tk (by rintro b o rfl; simp [fa_mk]) (getD_map (by show _ < 5; omega)) ?_
  rw [Sp.sz_get hc]
  refine en_need (by omega) ?_
  have e : Int.tdiv 64 (Sp.sz c : Int) = ((64 / Sp.sz c : Nat) : Int) := by
    rcases hz with ⟨_, h⟩ | ⟨_, h⟩ | ⟨_, h⟩ | ⟨_, h⟩ | ⟨_, h⟩ <;> rw [h] <;> rfl
  have e2 : 64 / Sp.sz c ≤ 32 := by
    rcases hz with ⟨_, h⟩ | ⟨_, h⟩ | ⟨_, h⟩ | ⟨_, h⟩ | ⟨_, h⟩ <;> rw [h] <;> decide
  rw [e]
  generalize 64 / Sp.sz c = q at e2
  rw [wrap64 (by omega) (by omega)]
  refine en_call (bits_new (q : Int) (by omega) (by omega)) tks ?_
  rintro x M ⟨b, rfl, rfl⟩
  try simp only [List.cons_append, List.nil_append]
  refine en_brf rfl ?_
  refine en_ixSL (s := s) (xs := Sp.sizes.map i64) tk (by omega) (by rw [hs]; omega) fun a0 ha => ?_
  refine en_ldSL (s := s) (xs := Sp.sizes.map i64) (j := c) (x := Sp.sizes.getD c 0) ha tk (by rintro b o rfl; simp [fa_mk]) (getD_map (by show _ < 5; omega)) ?_
  rw [Sp.sz_get hc]
  refine en_nw fun b2 => ?_
  rw [Int.toNat_natCast]
  refine Tr.close (M := [blk b2 [.pointer (some ⟨b, 0, none⟩), i64 (Sp.sz c)], BitsA b (List.replicate q false)]) tks (PageA.cl (p := b2)) ?_
  exact en_rets (x := (some ⟨b2, 0, none⟩, 0, ())) rfl ⟨b2, rfl, rfl⟩ tks ens

theorem block_words (p : Nat) (l : List Bool) (w : Int) : Spec ρ Try.prog 44 [.pointer (some ⟨p, 0, none⟩)] [PageA p l w] R1 fun r M => r = w ∧ M = [PageA p l w] := by
  refine Spec.of (fun Q w' h => F.block.Page.Words.calls (some ⟨p, 0, none⟩) h) fun R => ?_
  unfold F.block.Page.Words
  try simp only [List.cons_append, List.nil_append]
  refine en_brf rfl (en_nn (PageA.op tk fun b => ?_))
  refine en_ld (k := .int .i64) (x := w) (by rw [fa_mk]) tk rfl ?_
  refine Tr.close (M := [blk p [.pointer (some ⟨b, 0, none⟩), i64 w], BitsA b l]) tks (PageA.cl (p := p)) ?_
  exact en_rets (x := w) rfl ⟨rfl, rfl⟩ tks ens

theorem block_take (p : Nat) (l : List Bool) (w : Int) (hl : l.length ≤ 32) : Spec ρ Try.prog 83 [.pointer (some ⟨p, 0, none⟩)] [PageA p l w] P2
    fun r M => (Sp.next l 0 false = -1 ∧ r = (0, 3, ()) ∧ M = [PageA p l w]) ∨ ∃ i : Nat, Sp.next l 0 false = i ∧ i < l.length ∧ r = ((i : Int), 0, ()) ∧ M = [PageA p (l.set i true) w] := by
  refine Spec.of (fun Q w' h => F.block.Page.Take.calls (some ⟨p, 0, none⟩) h) fun R => ?_
  unfold F.block.Page.Take
  try simp only [List.cons_append, List.nil_append]
  refine en_brf rfl (en_nn (PageA.op tk fun b => ?_))
  refine en_ld (k := .ptr) (x := some ⟨b, 0, none⟩) (by rw [fa_mk]) tk rfl ?_
  refine en_call (bits_next b l 0 false (by omega)) tks ?_
  rintro x M ⟨rfl, rfl⟩
  try simp only [List.cons_append, List.nil_append]
  rcases Sp.next_spec l false 0 with ⟨g1, g2⟩ | ⟨i, g1, g2, g3, g4, g5⟩
  · rw [Int.natCast_zero] at g1
    rw [g1]
    refine en_brt rfl ?_
    refine Tr.close (M := [blk p [.pointer (some ⟨b, 0, none⟩), i64 w], BitsA b l]) tks (PageA.cl (p := p)) ?_
    exact en_rets (x := (0, 3, ())) rfl (.inl ⟨rfl, rfl, rfl⟩) tks ens
  · rw [Int.natCast_zero] at g1
    rw [g1]
    refine en_brf (by simp) (en_nn ?_)
    refine en_ld (k := .ptr) (x := some ⟨b, 0, none⟩) (by rw [fa_mk]) tk rfl ?_
    refine en_nw fun b2 => ?_
    refine Rd.one tk fun ρ' hle hro => ?_
    refine en_call (bits_set b l true ⟨some ⟨b2, 0, none⟩, 1, 1⟩ [(i : Int)] hro (by simp)) tks ?_
    rintro x M ⟨rfl, rfl⟩
    try simp only [List.cons_append, List.nil_append]
    have ok : Sp.setOk l [(i : Int)] = true := by simp [Sp.setOk, g3]
    rw [if_pos ok, if_pos ok]
    have e : Sp.setAll l true [(i : Int)] = l.set i true := by simp [Sp.setAll]
    rw [e]
    refine Tr.close (M := [blk p [.pointer (some ⟨b, 0, none⟩), i64 w], BitsA b (l.set i true)]) tks (PageA.cl (p := p)) ?_
    exact en_rets (x := ((i : Int), 0, ())) rfl (.inr ⟨i, rfl, g3, rfl, rfl⟩) tks ens

theorem block_give (p : Nat) (l : List Bool) (w : Int) (i : Nat) (hi : l.getD i false = true) : Spec ρ Try.prog 53 [.pointer (some ⟨p, 0, none⟩), i64 i] [PageA p l w] R1
    fun r M => r = 0 ∧ M = [PageA p (l.set i false) w] := by
  have hl : i < l.length := by
    rcases Nat.lt_or_ge i l.length with h | h
    · exact h
    · rw [List.getD_eq_getElem?_getD, List.getElem?_eq_none h] at hi; cases hi
  refine Spec.of (fun Q w' h => F.block.Page.Give.calls (some ⟨p, 0, none⟩) i h) fun R => ?_
  unfold F.block.Page.Give
  try simp only [List.cons_append, List.nil_append]
  refine en_brf rfl (en_nn (PageA.op tk fun b => ?_))
  refine en_ld (k := .ptr) (x := some ⟨b, 0, none⟩) (by rw [fa_mk]) tk rfl ?_
  refine en_call (bits_has b l i) tks ?_
  rintro x M ⟨rfl, rfl⟩
  try simp only [List.cons_append, List.nil_append]
  refine en_brf (by simp [Sp.has, List.getD_eq_getElem?_getD] at hi ⊢; exact hi) (en_nn ?_)
  refine en_ld (k := .ptr) (x := some ⟨b, 0, none⟩) (by rw [fa_mk]) tk rfl ?_
  refine en_nw fun b2 => ?_
  refine Rd.one tk fun ρ' hle hro => ?_
  refine en_call (bits_set b l false ⟨some ⟨b2, 0, none⟩, 1, 1⟩ [(i : Int)] hro (by simp)) tks ?_
  rintro x M ⟨rfl, rfl⟩
  try simp only [List.cons_append, List.nil_append]
  have ok : Sp.setOk l [(i : Int)] = true := by simp [Sp.setOk, hl]
  rw [if_pos ok, if_pos ok]
  have e : Sp.setAll l false [(i : Int)] = l.set i false := by simp [Sp.setAll]
  rw [e]
  refine Tr.close (M := [blk p [.pointer (some ⟨b, 0, none⟩), i64 w], BitsA b (l.set i false)]) tks (PageA.cl (p := p)) ?_
  exact en_rets (x := (0 : Int)) rfl ⟨rfl, rfl⟩ tks ens

theorem block_empty (p : Nat) (l : List Bool) (w : Int) (hl : l.length ≤ 32) : Spec ρ Try.prog 54 [.pointer (some ⟨p, 0, none⟩)] [PageA p l w] RB
    fun r M => r = decide (l.count true = 0) ∧ M = [PageA p l w] := by
  refine Spec.of (fun Q w' h => F.block.Page.Empty.calls (some ⟨p, 0, none⟩) h) fun R => ?_
  unfold F.block.Page.Empty
  try simp only [List.cons_append, List.nil_append]
  refine en_brt rfl (en_nn (PageA.op tk fun b => ?_))
  refine en_ld (k := .ptr) (x := some ⟨b, 0, none⟩) (by rw [fa_mk]) tk rfl ?_
  refine en_call (bits_count b l (by omega)) tks ?_
  rintro x M ⟨rfl, rfl⟩
  try simp only [List.cons_append, List.nil_append]
  refine Tr.close (M := [blk p [.pointer (some ⟨b, 0, none⟩), i64 w], BitsA b l]) tks (PageA.cl (p := p)) ?_
  refine en_rets (x := decide (l.count true = 0)) ?_ ⟨rfl, rfl⟩ tks ens
  simp only [RK.val, KD.val, LK.val]
  congr 1
  rw [Bool.eq_iff_iff]; simp

theorem block_full (p : Nat) (l : List Bool) (w : Int) (hl : l.length ≤ 32) : Spec ρ Try.prog 111 [.pointer (some ⟨p, 0, none⟩)] [PageA p l w] RB
    fun r M => r = decide (l.count true = l.length) ∧ M = [PageA p l w] := by
  refine Spec.of (fun Q w' h => F.block.Page.Full.calls (some ⟨p, 0, none⟩) h) fun R => ?_
  unfold F.block.Page.Full
  try simp only [List.cons_append, List.nil_append]
  refine PageA.op tk fun b => ?_
  refine en_drw (en_held [blk p [.pointer (some ⟨b, 0, none⟩), i64 w], BitsA b l] tks ?_)
  refine en_brt rfl (en_nn ?_)
  refine en_ldS (k := .ptr) (x := some ⟨b, 0, none⟩) (by rw [fa_mk]) tk rfl (en_nn ?_)
  refine en_ldS (k := .ptr) (x := some ⟨b, 0, none⟩) (by rw [fa_mk]) tk rfl ?_
  refine en_call (bits_count b l (by omega)) tks ?_
  rintro x M ⟨rfl, rfl⟩
  try simp only [List.cons_append, List.nil_append]
  refine en_chk tks ?_
  refine en_call (bits_size b l) tks ?_
  rintro x M ⟨rfl, rfl⟩
  try simp only [List.cons_append, List.nil_append]
  refine Tr.close (M := [blk p [.pointer (some ⟨b, 0, none⟩), i64 w], BitsA b l]) tks (PageA.cl (p := p)) ?_
  refine en_rets (x := decide (l.count true = l.length)) ?_ ⟨rfl, rfl⟩ tks ens
  simp only [RK.val, KD.val, LK.val]
  congr 1
  rw [Bool.eq_iff_iff]; simp only [beq_iff_eq, decide_eq_true_eq]; omega

end Go.Proofs.Ytncpnmpfghppeaa
