/- The document's answer for heaps: what it holds; heads; New, May, Make, Head, Field, Put. -/
import Derived.Test.YtapchggmifbfoaaGreatGlRefC
import Derived.Test.YtapchggmifbfoaaGreatGlTr9
set_option linter.unusedSimpArgs false
set_option linter.unusedVariables false
namespace Go.Proofs.YtapchggmifbfoaaGreat
open Go Go.Gl
variable {ρ0 ρ : FR} {L L' : List Asn} {Post : Value → List Asn → Prop} {T : Tree}

/-! ### heads -/
abbrev HX : RK := .one (.g [.int .i64, .int .i64, .int .i64, .bool, .bool])
def Rf.hd : Option Hd → RT HX
  | some h => (h.k, h.c, h.n, h.f, true, ()) | none => ((0 : Int), (0 : Int), (0 : Int), false, false, ())
theorem zcHX : zc Tryz.prog 130 = [.int .i64 0, .int .i64 0, .int .i64 0, .bool false, .bool false] := by kernel_rfl

theorem rf_mayhead (h : Hd) : Gl.Spec ρ Tryz.prog 152 [hval h] [] RB fun r M => r = Sp.mayH h ∧ M = [] := by
  refine Spec.of (fun Q w hh => F.gloamingref1.MayHead.calls h.t hh) fun R => ?_
  obtain ⟨k, c, n, f⟩ := h
  unfold F.gloamingref1.MayHead
  try simp only [List.cons_append, List.nil_append]
  refine en_nw fun b1 => ?_
  refine en_ld (k := .int .i64) (b := b1) (off := 2) (x := n) (by rw [fa_mk]) tk rfl ?_
  refine en_br (fun h => ?_) (fun h => ?_)
  · replace h : n < 0 := of_decide_eq_true h
    refine en_rets (x := Sp.mayH ⟨k, c, n, f⟩) ?_ ⟨rfl, rfl⟩ tks ens
    rw [show Sp.mayH ⟨k, c, n, f⟩ = false by unfold Sp.mayH; rw [decide_eq_false (by dsimp only; omega)]; rfl]; rfl
  · replace h : ¬ n < 0 := of_decide_eq_false h
    refine en_ld (k := .int .i64) (b := b1) (off := 2) (x := n) (by rw [fa_mk]) tk rfl ?_
    refine en_br (fun h2 => ?_) (fun h2 => ?_)
    · replace h2 : n > 1023 := of_decide_eq_true h2
      refine en_rets (x := Sp.mayH ⟨k, c, n, f⟩) ?_ ⟨rfl, rfl⟩ tks ens
      rw [show Sp.mayH ⟨k, c, n, f⟩ = false by unfold Sp.mayH; rw [decide_eq_false (by dsimp only; omega)]; rfl]; rfl
    · replace h2 : ¬ n > 1023 := of_decide_eq_false h2
      have e0 : Sp.mayH ⟨k, c, n, f⟩ = (if k = 1 then decide (1 ≤ c ∧ c ≤ 256) else if k = 2 ∨ k = 3 then decide (0 ≤ c ∧ c ≤ 0) else if k = 4 then decide (1 ≤ c ∧ c ≤ 3) && (n == 5) && !f else false) := by
        unfold Sp.mayH; rw [decide_eq_true (by dsimp only; omega), Bool.true_and]
      rw [e0]
      refine en_ld (k := .int .i64) (b := b1) (off := 0) (x := k) (by rw [fa_mk]) tk rfl ?_
      refine en_br (fun h3 => ?_) (fun h3 => ?_)
      · have h3 : k = 1 := eq_of_beq h3
        rw [if_pos h3]
        refine en_ld (k := .int .i64) (b := b1) (off := 1) (x := c) (by rw [fa_mk]) tk rfl ?_
        refine en_br (fun h4 => ?_) (fun h4 => ?_)
        · replace h4 : c ≥ 1 := of_decide_eq_true h4
          refine en_ld (k := .int .i64) (b := b1) (off := 1) (x := c) (by rw [fa_mk]) tk rfl ?_
          refine en_rets (x := decide (1 ≤ c ∧ c ≤ 256)) ?_ ⟨rfl, rfl⟩ tks ens
          rw [show decide (1 ≤ c ∧ c ≤ 256) = decide (c ≤ 256) by rw [decide_eq_decide]; omega]; rfl
        · replace h4 : ¬ c ≥ 1 := of_decide_eq_false h4
          refine en_rets (x := decide (1 ≤ c ∧ c ≤ 256)) ?_ ⟨rfl, rfl⟩ tks ens
          rw [decide_eq_false (by omega)]; rfl
      · have h3 : k ≠ 1 := by simpa using h3
        rw [if_neg h3]
        have z0 : decide (0 ≤ c ∧ c ≤ 0) = (c == 0) := by rw [Bool.eq_iff_iff, decide_eq_true_iff, beq_iff_eq]; omega
        rw [z0]
        refine en_br (fun h4 => ?_) (fun h4 => ?_)
        · have h5 : k = 2 := eq_of_beq h4
          rw [if_pos (.inl h5)]
          refine en_brt h4 ?_
          refine en_ld (k := .int .i64) (b := b1) (off := 1) (x := c) (by rw [fa_mk]) tk rfl ?_
          exact en_rets (x := (c == 0)) rfl ⟨rfl, rfl⟩ tks ens
        · have h5 : k ≠ 2 := by simpa using h4
          refine en_br (fun h6 => ?_) (fun h6 => ?_)
          · rw [if_pos (.inr (eq_of_beq h6))]
            refine en_ld (k := .int .i64) (b := b1) (off := 1) (x := c) (by rw [fa_mk]) tk rfl ?_
            exact en_rets (x := (c == 0)) rfl ⟨rfl, rfl⟩ tks ens
          · have h7 : k ≠ 3 := by simpa using h6
            rw [if_neg (by omega)]
            refine en_br (fun h8 => ?_) (fun h8 => ?_)
            · rw [if_pos (eq_of_beq h8)]
              refine en_ld (k := .int .i64) (b := b1) (off := 1) (x := c) (by rw [fa_mk]) tk rfl ?_
              refine en_br (fun h9 => ?_) (fun h9 => ?_)
              · replace h9 : c ≥ 1 := of_decide_eq_true h9
                refine en_ld (k := .int .i64) (b := b1) (off := 1) (x := c) (by rw [fa_mk]) tk rfl ?_
                refine en_br (fun ha => ?_) (fun ha => ?_)
                · replace ha : c ≤ 3 := of_decide_eq_true ha
                  rw [decide_eq_true ⟨h9, ha⟩, Bool.true_and]
                  refine en_ld (k := .int .i64) (b := b1) (off := 2) (x := n) (by rw [fa_mk]) tk rfl ?_
                  refine en_br (fun hb => ?_) (fun hb => ?_)
                  · rw [hb, Bool.true_and]
                    refine en_ld (k := .bool) (b := b1) (off := 3) (x := f) (by rw [fa_mk]) tk rfl ?_
                    exact en_rets (x := (!f)) rfl ⟨rfl, rfl⟩ tks ens
                  · rw [hb]
                    exact en_rets (x := false) rfl ⟨rfl, rfl⟩ tks ens
                · replace ha : ¬ c ≤ 3 := of_decide_eq_false ha
                  rw [decide_eq_false (by omega)]
                  exact en_rets (x := false) rfl ⟨rfl, rfl⟩ tks ens
              · replace h9 : ¬ c ≥ 1 := of_decide_eq_false h9
                rw [decide_eq_false (by omega)]
                exact en_rets (x := false) rfl ⟨rfl, rfl⟩ tks ens
            · have : k ≠ 4 := by simpa using h8
              rw [if_neg this]
              exact en_rets (x := false) rfl ⟨rfl, rfl⟩ tks ens

theorem rf_puthead (h : Hd) (hm : Sp.mayH h = true) : Gl.Spec ρ Tryz.prog 118 [hval h] [] R1 fun r M => r = Sp.putH h ∧ M = [] := by
  refine Spec.of (fun Q w hh => F.gloamingref1.PutHead.calls h.t hh) fun R => ?_
  have hb := Sp.mayH_is hm
  obtain ⟨k, c, n, f⟩ := h
  dsimp only at hb
  unfold F.gloamingref1.PutHead
  try simp only [List.cons_append, List.nil_append]
  refine en_nw fun b1 => ?_
  refine en_ld (k := .int .i64) (b := b1) (off := 0) (x := k) (by rw [fa_mk]) tk rfl ?_
  refine en_ld (k := .int .i64) (b := b1) (off := 1) (x := c) (by rw [fa_mk]) tk rfl ?_
  refine en_ld (k := .int .i64) (b := b1) (off := 2) (x := n) (by rw [fa_mk]) tk rfl ?_
  refine en_ld (k := .bool) (b := b1) (off := 3) (x := f) (by rw [fa_mk]) tk rfl ?_
  rw [wrap64 (n := 16 * c) (by omega) (by omega), wrap64 (n := k + 16 * c) (by omega) (by omega), wrap64 (n := 65536 * n) (by omega) (by omega), wrap64 (n := k + 16 * c + 65536 * n) (by omega) (by omega), wrap64 (n := k + 16 * c + 65536 * n + 8) (by omega) (by omega)]
  cases f with
  | true =>
    refine en_brt rfl ?_
    exact en_rets (x := Sp.putH (Hd.mk k c n true)) rfl ⟨rfl, rfl⟩ tks ens
  | false =>
    refine en_brf rfl ?_
    refine en_rets (x := Sp.putH (Hd.mk k c n false)) ?_ ⟨rfl, rfl⟩ tks ens
    simp [Sp.putH, RK.val, KD.val, LK.val]

theorem rf_gethead (h : Hd) (hm : Sp.mayH h = true) : Gl.Spec ρ Tryz.prog 126 [i64 (Sp.putH h)] [] HX fun r M => r = Rf.hd (some h) ∧ M = [] := by
  refine Spec.of (fun Q w hh => F.gloamingref1.GetHead.calls (Sp.putH h) hh) fun R => ?_
  obtain ⟨g1, g2, g3, g4, g5, g6⟩ := Sp.putH_get hm
  have hb := Sp.mayH_is hm
  unfold F.gloamingref1.GetHead
  try simp only [List.cons_append, List.nil_append]
  refine en_nw fun b1 => ?_
  rw [zcHX]
  have hlt : Sp.putH h < 67108864 := by unfold Sp.putH; split <;> omega
  have g7 : Int.tmod (IntKind.wrap .i64 (Int.tdiv (Sp.putH h) 16)) 4096 = h.c := by
    rw [Int.tdiv_eq_ediv_of_nonneg g5, wrap64 (by omega) (by omega), Int.tmod_eq_emod_of_nonneg (by omega)]
    unfold Sp.putH; split <;> omega
  refine en_brf (decide_eq_false (by omega)) (en_brf (decide_eq_false (by omega)) ?_)
  refine en_need (by decide) (en_need (by decide) (en_need (by decide) (en_need (by decide) (en_need (by decide) (en_need (by decide) ?_)))))
  refine en_nw fun b2 => ?_
  rw [zcH, g7, wrap64 (n := Int.tdiv (Sp.putH h) 8) (by rw [Int.tdiv_eq_ediv_of_nonneg g5]; omega) (by rw [Int.tdiv_eq_ediv_of_nonneg g5]; omega), g1, g2, g4, wrap64 (n := h.n) (by omega) (by omega)]
  obtain ⟨k, c, n, f⟩ := h
  dsimp only at *
  refine en_st (b := b2) (off := 0) rfl tk (by simp) rfl ?_
  refine en_ldg (b := b2) (x := (k, c, n, f, ())) [] rfl tk rfl ?_
  refine en_call (rf_mayhead (Hd.mk k c n f)) tks ?_
  rintro x' M ⟨rfl, rfl⟩
  try simp only [List.cons_append, List.nil_append]
  rw [hm]
  refine en_brf rfl ?_
  refine en_ldg (b := b2) (x := (k, c, n, f, ())) [] rfl tk rfl ?_
  refine en_st (b := b1) (off := 0) rfl tk (by simp) rfl ?_
  refine en_ldg (b := b1) (x := (k, c, n, f, true, ())) [] rfl tk rfl ?_
  exact en_rets (x := (k, c, n, f, true, ())) rfl ⟨rfl, rfl⟩ tks ens

/-! ### what a heap holds -/
/-- a heap of the document: with its classes' own slices -/
def RHp (p : Nat) (S : Spc) (l : List (Cls × Slc)) : Asn := fun h => ∃ i : Nat × Slc, i.2.n = l.length ∧ star [blk p [.pointer (some ⟨i.1, 0, none⟩), slv i.2], RSpaceA i.1 S, SLc i.2 2 (l.flatMap clsCs), star (l.map ClsA)] h
abbrev csO (l : List (Cls × Slc)) : List Cls := l.map (·.1)
theorem RHp.op {p : Nat} {S : Spc} {l : List (Cls × Slc)} (t : Take L (RHp p S l) L') (h : ∀ (ps : Nat) (s : Slc), s.n = l.length → Tr ρ0 ρ (blk p [.pointer (some ⟨ps, 0, none⟩), slv s] :: RSpaceA ps S :: SLc s 2 (l.flatMap clsCs) :: star (l.map ClsA) :: L') T Post) : Tr ρ0 ρ L T Post :=
  Tr.openL (M := fun i : Nat × Slc => [blk p [.pointer (some ⟨i.1, 0, none⟩), slv i.2], RSpaceA i.1 S, SLc i.2 2 (l.flatMap clsCs), star (l.map ClsA)]) t (fun _ h => h) fun i hi => h i.1 i.2 hi
theorem RHp.cl {p ps : Nat} {S : Spc} {l : List (Cls × Slc)} {s : Slc} (hs : s.n = l.length) (h : HP) (H : star [blk p [.pointer (some ⟨ps, 0, none⟩), slv s], RSpaceA ps S, SLc s 2 (l.flatMap clsCs), star (l.map ClsA)] h) : RHp p S l h := ⟨(ps, s), hs, H⟩

theorem rh_new (n : Int) (h0 : 1 ≤ n) (h1 : n ≤ 256) : Gl.Spec ρ Tryz.prog 68 [i64 n] [] (.one (.l .ptr)) fun r M => ∃ b, r = some ⟨b, 0, none⟩ ∧ M = [RHp b (Sp.newSpc n.toNat) []] := by
  refine Spec.of (fun Q w hh => F.gloamingref9.NewHeap.calls n hh) fun R => ?_
  unfold F.gloamingref9.NewHeap
  try simp only [List.cons_append, List.nil_append]
  refine en_call (rf_new n h0 h1) tks ?_
  rintro x' M ⟨ps, rfl, rfl⟩
  try simp only [List.cons_append, List.nil_append]
  refine en_nw fun b => ?_
  refine Tr.none (Tr.nilSL 2 ?_)
  refine Tr.close (M := [blk b [.pointer (some ⟨ps, 0, none⟩), slv nilS], RSpaceA ps (Sp.newSpc n.toNat), SLc nilS 2 (([] : List (Cls × Slc)).flatMap clsCs), star (([] : List (Cls × Slc)).map ClsA)]) tks (RHp.cl (p := b) (ps := ps) (S := Sp.newSpc n.toNat) (l := []) (s := nilS) rfl) ?_
  exact en_rets (x := some ⟨b, 0, none⟩) rfl ⟨b, rfl, rfl⟩ tks ens

theorem en_getCls {s : Slc} {l : List (Cls × Slc)} {c : Cls × Slc} {i : Int} {f : Addr → Tree} (t : Take L (SLc s 2 (l.flatMap clsCs)) L') (h0 : 0 ≤ i) (hi : l[i.toNat]? = some c) (h : ∀ a0, s.a = some a0 → (∀ e v, e < 2 → (clsCs c)[e]? = some v → (l.flatMap clsCs)[i.toNat * 2 + e]? = some v) → Tr ρ0 ρ L (f (fa a0 (i.toNat * 2))) Post) :
    Tr ρ0 ρ L (ix s.a s.n i 2 f) Post := by
  have hlt := getElem?_lt hi
  refine Tr.sl_len t fun hn _ => ?_
  rw [flat_len (g := clsCs) (m := 2) (fun _ => rfl)] at hn
  exact en_ixSL t h0 (by omega) fun a0 ha => h a0 ha fun e v he hv => by rw [flat_get (g := clsCs) (m := 2) (fun _ => rfl) hi he]; exact hv

theorem clsAt_get {cs : List Cls} {c : Int} {x : Cls} (h : Sp.clsAt cs c = some x) : 1 ≤ c ∧ c ≤ cs.length ∧ cs[(c - 1).toNat]? = some x := by
  obtain ⟨i, rfl, hi⟩ := Sp.clsAt_some h
  have := getElem?_lt hi
  refine ⟨by omega, by omega, ?_⟩
  rw [show ((i : Int) + 1 - 1).toNat = i by omega]; exact hi

theorem rh_may (p : Nat) (S : Spc) (l : List (Cls × Slc)) (hw : HWf S (csO l)) (h : Hd) : Gl.Spec ρ Tryz.prog 116 [.pointer (some ⟨p, 0, none⟩), hval h] [RHp p S l] R1
    fun r M => r = Ob.may (csO l) h ∧ M = [RHp p S l] := by
  have hcs := hw.cls
  refine Spec.of (fun Q w hh => F.gloamingref9.Heap.May.calls (some ⟨p, 0, none⟩) h.t hh) fun R => ?_
  obtain ⟨k, c, n, f⟩ := h
  unfold F.gloamingref9.Heap.May
  try simp only [List.cons_append, List.nil_append]
  refine en_nw fun b1 => ?_
  refine en_ldg (b := b1) (x := (k, c, n, f, ())) [] rfl tk rfl ?_
  refine en_call (rf_mayhead ⟨k, c, n, f⟩) tks ?_
  rintro x' M ⟨rfl, rfl⟩
  try simp only [List.cons_append, List.nil_append]
  refine en_br (fun h => ?_) (fun h => ?_)
  · have h : Sp.mayH ⟨k, c, n, f⟩ = false := by simpa using h
    rw [show Ob.may (csO l) ⟨k, c, n, f⟩ = 1 by unfold Ob.may; rw [if_pos (.inl h)]]
    exact en_rets (x := (1 : Int)) rfl ⟨rfl, rfl⟩ tks ens
  · have h : Sp.mayH ⟨k, c, n, f⟩ = true := by simpa using h
    have hb := Sp.mayH_is h
    dsimp only at hb
    refine en_ld (k := .bool) (b := b1) (off := 3) (x := f) (by rw [fa_mk]) tk rfl ?_
    refine en_br (fun h2 => ?_) (fun h2 => ?_)
    · rw [show Ob.may (csO l) ⟨k, c, n, f⟩ = 1 by unfold Ob.may; rw [if_pos (.inr h2)]]
      exact en_rets (x := (1 : Int)) rfl ⟨rfl, rfl⟩ tks ens
    · have e0 : Ob.may (csO l) ⟨k, c, n, f⟩ = if k ≠ 1 then 0 else match Sp.clsAt (csO l) c with | some c => if c.1 ≠ n then 1 else 0 | none => 2 := by
        unfold Ob.may; rw [if_neg (by rintro (e | e) <;> simp_all)]; rfl
      rw [e0]
      refine en_ld (k := .int .i64) (b := b1) (off := 0) (x := k) (by rw [fa_mk]) tk rfl ?_
      refine en_br (fun h3 => ?_) (fun h3 => ?_)
      · have h3 : k = 1 := eq_of_beq h3
        have hc1 : 1 ≤ c := by
          unfold Sp.mayH at h; dsimp only at h
          rw [if_pos h3, Bool.and_eq_true, decide_eq_true_iff, decide_eq_true_iff] at h
          exact h.2.1
        rw [if_neg (by simp [h3])]
        refine en_drw ?_
        refine en_ld (k := .int .i64) (b := b1) (off := 1) (x := c) (by rw [fa_mk]) tk rfl ?_
        refine en_nn (RHp.op tk fun ps s hs => ?_)
        refine en_ld (k := .slice) (b := p) (off := 1) (x := s) (by rw [fa_mk]) tk rfl ?_
        have hll : (csO l).length = l.length := by simp
        refine en_br (fun h4 => ?_) (fun h4 => ?_)
        · replace h4 : c > (s.n : Int) := of_decide_eq_true h4
          have : Sp.clsAt (csO l) c = none := by unfold Sp.clsAt; rw [if_neg (by omega)]
          rw [this]
          refine Tr.close tks (RHp.cl (p := p) (ps := ps) (S := S) (l := l) (s := s) hs) ?_
          exact en_rets (x := (2 : Int)) rfl ⟨rfl, rfl⟩ tks ens
        · replace h4 : ¬ c > (s.n : Int) := of_decide_eq_false h4
          have hlt : (c - 1).toNat < l.length := by omega
          have hx : l[(c - 1).toNat]? = some l[(c - 1).toNat] := List.getElem?_eq_getElem hlt
          generalize l[(c - 1).toNat] = x at hx
          have : Sp.clsAt (csO l) c = some x.1 := by unfold Sp.clsAt; rw [if_pos (by omega), List.getElem?_map, hx]; rfl
          rw [this]
          dsimp only
          refine en_drw (en_nn ?_)
          refine en_ld (k := .slice) (b := p) (off := 1) (x := s) (by rw [fa_mk]) tk rfl ?_
          refine en_ld (k := .int .i64) (b := b1) (off := 1) (x := c) (by rw [fa_mk]) tk rfl ?_
          rw [wrap64 (n := c - 1) (by omega) (by omega)]
          refine en_getCls (s := s) tk (by omega) hx fun a0 ha hcell => ?_
          refine en_ldSL (k := .int .i64) (s := s) (j := (c - 1).toNat * 2 + 0) (x := x.1.1) ha tk (by rintro b o rfl; simp [fa_mk]) (hcell 0 _ (by decide) rfl) ?_
          refine en_ld (k := .int .i64) (b := b1) (off := 2) (x := n) (by rw [fa_mk]) tk rfl ?_
          refine Tr.close tks (RHp.cl (p := p) (ps := ps) (S := S) (l := l) (s := s) hs) ?_
          refine en_br (fun h5 => ?_) (fun h5 => ?_)
          · rw [if_pos (by simpa using h5)]
            exact en_rets (x := (1 : Int)) rfl ⟨rfl, rfl⟩ tks ens
          · rw [if_neg (by simpa using h5)]
            exact en_rets (x := (0 : Int)) rfl ⟨rfl, rfl⟩ tks ens
      · have h3 : k ≠ 1 := by simpa using h3
        rw [if_pos h3]
        exact en_rets (x := (0 : Int)) rfl ⟨rfl, rfl⟩ tks ens

theorem rh_make (p : Nat) (S : Spc) (l : List (Cls × Slc)) (hw : HWf S (csO l)) (h : Hd) : Gl.Spec ρ Tryz.prog 70 [.pointer (some ⟨p, 0, none⟩), hval h] [RHp p S l] G2
    fun r M => r = ((Ob.make S (csO l) h).1, (Ob.make S (csO l) h).2.1, ()) ∧ M = [RHp p (Ob.make S (csO l) h).2.2 l] := by
  refine Spec.of (fun Q w hh => F.gloamingref9.Heap.Make.calls (some ⟨p, 0, none⟩) h.t hh) fun R => ?_
  obtain ⟨k, c, n, f⟩ := h
  unfold F.gloamingref9.Heap.Make
  try simp only [List.cons_append, List.nil_append]
  refine en_nw fun b1 => en_nw fun b2 => ?_
  rw [zcGot]
  refine en_ldg (b := b1) (x := (k, c, n, f, ())) [] rfl tk rfl ?_
  refine en_call (rh_may p S l hw ⟨k, c, n, f⟩) tks ?_
  rintro x' M ⟨rfl, rfl⟩
  try simp only [List.cons_append, List.nil_append]
  refine en_br (fun h1 => ?_) (fun h1 => ?_)
  · have h1 : Ob.may (csO l) ⟨k, c, n, f⟩ ≠ 0 := by simpa using h1
    have e : Ob.make S (csO l) ⟨k, c, n, f⟩ = (0, Ob.may (csO l) ⟨k, c, n, f⟩, S) := by unfold Ob.make; rw [if_pos h1]
    rw [e]
    refine en_st (b := b2) (off := 0) rfl tk (by simp) rfl ?_
    refine en_ldg (b := b2) (x := ((0 : Int), Ob.may (csO l) ⟨k, c, n, f⟩, ())) [] rfl tk rfl ?_
    exact en_rets (x := ((0 : Int), Ob.may (csO l) ⟨k, c, n, f⟩, ())) rfl ⟨rfl, rfl⟩ tks ens
  · have h1 : Ob.may (csO l) ⟨k, c, n, f⟩ = 0 := by simpa using h1
    obtain ⟨hm, hf⟩ := Ob.may_ok h1
    have hb := Sp.mayH_is hm
    dsimp only at hb
    refine RHp.op tk fun ps s hs => ?_
    refine en_drw (en_held [blk p [.pointer (some ⟨ps, 0, none⟩), slv s], blk b1 [.int .i64 k, .int .i64 c, .int .i64 n, .bool f]] tks (en_nn ?_))
    refine en_ldS (k := .ptr) (b := p) (off := 0) (x := some ⟨ps, 0, none⟩) (by rw [fa_mk]) tk rfl ?_
    refine en_ldS (k := .int .i64) (b := b1) (off := 2) (x := n) (by rw [fa_mk]) tk rfl ?_
    rw [wrap64 (n := n + 1) (by omega) (by omega)]
    refine en_both ?g1 ?g2
    case' g1 =>
      refine en_call (rf_alloc ps S hw.wf (n + 1)) tks ?_
      rintro x' M ⟨rfl, rfl⟩
      try simp only [List.cons_append, List.nil_append]
      refine en_nw fun b3 => ?_
    case' g2 =>
      refine en_nw fun b3 => ?_
      refine en_chk tks ?_
      refine en_call (rf_alloc ps S hw.wf (n + 1)) tks ?_
      rintro x' M ⟨rfl, rfl⟩
      try simp only [List.cons_append, List.nil_append]
    all_goals
      refine en_st (b := b3) (off := 0) rfl tk (by simp) rfl ?_
      refine en_ld (k := .int .i64) (b := b3) (off := 1) (x := (Sp.alloc S (n + 1)).2.1) (by rw [fa_mk]) tk rfl ?_
      refine en_br (fun h2 => ?_) (fun h2 => ?_)
      · have h2 : (Sp.alloc S (n + 1)).2.1 = 0 := eq_of_beq h2
        have e : Ob.make S (csO l) ⟨k, c, n, f⟩ = ((Sp.alloc S (n + 1)).1, 0, ⟨(Sp.alloc S (n + 1)).2.2.ws.set (Sp.alloc S (n + 1)).1.toNat (Sp.putH ⟨k, c, n, f⟩), (Sp.alloc S (n + 1)).2.2.pg⟩) := by
          unfold Ob.make; rw [if_neg (by simp [h1]), if_neg (by simp [h2])]
        rw [e]
        obtain ⟨a, m, ha, hm2, m1, m2, m3, m4, m5⟩ := Sp.alloc_ok hw.wf h2
        rw [h2]
        generalize Sp.alloc S (n + 1) = al at *
        obtain ⟨a', e', S'⟩ := al
        dsimp only at *
        subst ha
        refine RSpaceA.op tk fun sa sk sm sq ql hql => ?_
        refine en_drw (en_held [blk p [.pointer (some ⟨ps, 0, none⟩), slv s], blk ps [slv sa, slv sk, slv sm, slv sq], blk b3 [i64 (a : Int), i64 0], blk b1 [.int .i64 k, .int .i64 c, .int .i64 n, .bool f]] tks (en_nn ?_))
        refine en_ldS (k := .ptr) (b := p) (off := 0) (x := some ⟨ps, 0, none⟩) (by rw [fa_mk]) tk rfl (en_nn ?_)
        refine en_ldS (k := .slice) (b := ps) (off := 0) (x := sa) (by rw [fa_mk]) tk rfl ?_
        refine en_ldS (k := .int .i64) (b := b3) (off := 0) (x := (a : Int)) (by rw [fa_mk]) tk rfl ?_
        refine en_ldgS (b := b1) (x := (k, c, n, f, ())) [] rfl tk rfl ?_
        refine en_call (rf_puthead ⟨k, c, n, f⟩ hm) tks ?_
        rintro x' M ⟨rfl, rfl⟩
        try simp only [List.cons_append, List.nil_append]
        refine en_chk tks ?_
        refine en_setSL (s := sa) (xs := S'.ws) tk (by omega) (by omega) ?_
        refine Tr.close tks (RSpaceA.cl (p := ps) (S := ⟨S'.ws.set (a : Int).toNat (Sp.putH ⟨k, c, n, f⟩), S'.pg⟩) (a := sa) (k := sk) (m := sm) (q := sq) hql) ?_
        refine Tr.close tks (RHp.cl (p := p) (ps := ps) (S := ⟨S'.ws.set (a : Int).toNat (Sp.putH ⟨k, c, n, f⟩), S'.pg⟩) (l := l) (s := s) hs) ?_
        refine en_ldg (b := b3) (x := ((a : Int), (0 : Int), ())) [] rfl tk rfl ?_
        refine en_st (b := b2) (off := 0) rfl tk (by simp) rfl ?_
        refine en_ldg (b := b2) (x := ((a : Int), (0 : Int), ())) [] rfl tk rfl ?_
        exact en_rets (x := ((a : Int), (0 : Int), ())) rfl ⟨rfl, rfl⟩ tks ens
      · have h2 : (Sp.alloc S (n + 1)).2.1 ≠ 0 := by simpa using h2
        have e : Ob.make S (csO l) ⟨k, c, n, f⟩ = (0, (Sp.alloc S (n + 1)).2.1, S) := by unfold Ob.make; rw [if_neg (by simp [h1]), if_pos h2]
        have e1 : (Sp.alloc S (n + 1)).1 = 0 := by
          unfold Sp.alloc at h2 ⊢
          split
          · rfl
          · rename_i hc
            rw [if_neg hc] at h2
            split
            · rename_i hd; rw [if_pos hd] at h2; exact absurd rfl h2
            · rfl
        rw [e, Sp.alloc_err h2]
        refine Tr.close tks (RHp.cl (p := p) (ps := ps) (S := S) (l := l) (s := s) hs) ?_
        refine en_ldg (b := b3) (x := ((Sp.alloc S (n + 1)).1, (Sp.alloc S (n + 1)).2.1, ())) [] rfl tk rfl ?_
        refine en_st (b := b2) (off := 0) rfl tk (by simp) rfl ?_
        refine en_ldg (b := b2) (x := ((Sp.alloc S (n + 1)).1, (Sp.alloc S (n + 1)).2.1, ())) [] rfl tk rfl ?_
        rw [e1]
        exact en_rets (x := ((0 : Int), (Sp.alloc S (n + 1)).2.1, ())) rfl ⟨rfl, rfl⟩ tks ens

theorem rh_head (p : Nat) (S : Spc) (l : List (Cls × Slc)) (hw : HWf S (csO l)) (a : Int) : Gl.Spec ρ Tryz.prog 76 [.pointer (some ⟨p, 0, none⟩), i64 a] [RHp p S l] HX
    fun r M => r = Rf.hd (Ob.head S a) ∧ M = [RHp p S l] := by
  refine Spec.of (fun Q w hh => F.gloamingref9.Heap.Head.calls (some ⟨p, 0, none⟩) a hh) fun R => ?_
  unfold F.gloamingref9.Heap.Head
  try simp only [List.cons_append, List.nil_append]
  refine en_nw fun b1 => ?_
  rw [zcHX]
  refine en_nn (RHp.op tk fun ps s hs => ?_)
  refine en_ld (k := .ptr) (b := p) (off := 0) (x := some ⟨ps, 0, none⟩) (by rw [fa_mk]) tk rfl ?_
  refine en_call (rf_find ps S hw.wf a) tks ?_
  rintro x' M ⟨rfl, rfl⟩
  try simp only [List.cons_append, List.nil_append]
  refine en_nw fun b5 => ?_
  rw [zcF]
  cases hf : Sp.find S a with
  | none =>
    have e : Ob.head S a = none := by unfold Ob.head; rw [hf]
    rw [e]
    simp only [Rf.fnd]
    refine en_st (b := b5) (off := 0) rfl tk (by simp) rfl ?_
    refine en_ld (k := .bool) (b := b5) (off := 2) (x := false) (by rw [fa_mk]) tk rfl ?_
    refine en_brt rfl ?_
    refine en_st (b := b1) (off := 0) rfl tk (by simp) rfl ?_
    refine en_ldg (b := b1) (x := ((0 : Int), (0 : Int), (0 : Int), false, false, ())) [] rfl tk rfl ?_
    refine Tr.close tks (RHp.cl (p := p) (ps := ps) (S := S) (l := l) (s := s) hs) ?_
    exact en_rets (x := Rf.hd none) rfl ⟨rfl, rfl⟩ tks ens
  | some x =>
    obtain ⟨b, w⟩ := x
    simp only [Rf.fnd]
    refine en_st (b := b5) (off := 0) rfl tk (by simp) rfl ?_
    refine en_ld (k := .bool) (b := b5) (off := 2) (x := true) (by rw [fa_mk]) tk rfl ?_
    refine en_brf rfl ?_
    refine en_ld (k := .int .i64) (b := b5) (off := 0) (x := (b : Int)) (by rw [fa_mk]) tk rfl ?_
    refine en_br (fun h => ?_) (fun h => ?_)
    · have h : ¬ (b : Int) = a := by simpa using h
      have e : Ob.head S a = none := by unfold Ob.head; rw [hf]; dsimp only; rw [if_neg h]
      rw [e]
      refine en_st (b := b1) (off := 0) rfl tk (by simp) rfl ?_
      refine en_ldg (b := b1) (x := ((0 : Int), (0 : Int), (0 : Int), false, false, ())) [] rfl tk rfl ?_
      refine Tr.close tks (RHp.cl (p := p) (ps := ps) (S := S) (l := l) (s := s) hs) ?_
      exact en_rets (x := Rf.hd none) rfl ⟨rfl, rfl⟩ tks ens
    · have h : (b : Int) = a := by simpa using h
      subst h
      have e : Ob.head S b = some (Sp.getH (S.ws.getD b 0)) := by unfold Ob.head; rw [hf]; dsimp only; rw [if_pos rfl]
      obtain ⟨n, w', en, g1, g2, g3, g4, g5⟩ := Ob.head_is hw e
      have en : n = b := by omega
      subst en
      rw [e]
      generalize Sp.getH (S.ws.getD n 0) = hd at g2 g3 g4 ⊢
      have hb := Sp.mayH_is g3
      refine en_nn ?_
      refine en_ld (k := .ptr) (b := p) (off := 0) (x := some ⟨ps, 0, none⟩) (by rw [fa_mk]) tk rfl ?_
      refine en_nn (RSpaceA.op tk fun sa sk sm sq ql hql => ?_)
      refine en_ld (k := .slice) (b := ps) (off := 0) (x := sa) (by rw [fa_mk]) tk rfl ?_
      refine en_getSL (s := sa) (xs := S.ws) tk (by omega) (by omega) ?_
      rw [Int.toNat_natCast, g2]
      refine Tr.close tks (RSpaceA.cl (p := ps) (S := S) (a := sa) (k := sk) (m := sm) (q := sq) hql) ?_
      refine Tr.close tks (RHp.cl (p := p) (ps := ps) (S := S) (l := l) (s := s) hs) ?_
      refine en_call (rf_gethead hd g3) tks ?_
      rintro x' M ⟨rfl, rfl⟩
      try simp only [List.cons_append, List.nil_append]
      simp only [Rf.hd]
      refine en_st (b := b1) (off := 0) rfl tk (by simp) rfl ?_
      refine en_ldg (b := b1) (x := (hd.k, hd.c, hd.n, hd.f, true, ())) [] rfl tk rfl ?_
      exact en_rets (x := Rf.hd (some hd)) rfl ⟨rfl, rfl⟩ tks ens

theorem rh_field (p : Nat) (S : Spc) (l : List (Cls × Slc)) (hw : HWf S (csO l)) (a i : Int) : Gl.Spec ρ Tryz.prog 83 [.pointer (some ⟨p, 0, none⟩), i64 a, i64 i] [RHp p S l] G2
    fun r M => r = ((Ob.get S a i).1, (Ob.get S a i).2, ()) ∧ M = [RHp p S l] := by
  have hmost := hw.wf.most
  have hlen := hw.wf.len
  refine Spec.of (fun Q w hh => F.gloamingref9.Heap.Field.calls (some ⟨p, 0, none⟩) a i hh) fun R => ?_
  unfold F.gloamingref9.Heap.Field
  try simp only [List.cons_append, List.nil_append]
  refine en_nw fun b1 => ?_
  rw [zcGot]
  refine en_call (rh_head p S l hw a) tks ?_
  rintro x' M ⟨rfl, rfl⟩
  try simp only [List.cons_append, List.nil_append]
  refine en_nw fun b3 => ?_
  rw [zcHX]
  cases hh : Ob.head S a with
  | none =>
    have e : Ob.get S a i = (0, 2) := by unfold Ob.get Ob.fieldAt; rw [hh]; rfl
    rw [e]
    simp only [Rf.hd]
    refine en_st (b := b3) (off := 0) rfl tk (by simp) rfl ?_
    refine en_ld (k := .bool) (b := b3) (off := 4) (x := false) (by rw [fa_mk]) tk rfl ?_
    refine en_brt rfl ?_
    refine en_st (b := b1) (off := 0) rfl tk (by simp) rfl ?_
    refine en_ldg (b := b1) (x := ((0 : Int), (2 : Int), ())) [] rfl tk rfl ?_
    exact en_rets (x := ((0 : Int), (2 : Int), ())) rfl ⟨rfl, rfl⟩ tks ens
  | some hd =>
    obtain ⟨n, w, rfl, _, _, g3, g4, g5⟩ := Ob.head_is hw hh
    have hb := Sp.mayH_is g3
    simp only [Rf.hd]
    refine en_st (b := b3) (off := 0) rfl tk (by simp) rfl ?_
    refine en_ld (k := .bool) (b := b3) (off := 4) (x := true) (by rw [fa_mk]) tk rfl ?_
    have bad : (i < 0 ∨ i ≥ hd.n) → Ob.get S n i = (0, 1) := fun hc => by unfold Ob.get Ob.fieldAt; rw [hh]; dsimp only; simp only [if_pos hc]; rfl
    refine en_brf rfl (en_br (fun h1 => ?_) (fun h1 => ?_))
    · rw [bad (.inl (of_decide_eq_true h1))]
      refine en_st (b := b1) (off := 0) rfl tk (by simp) rfl ?_
      refine en_ldg (b := b1) (x := ((0 : Int), (1 : Int), ())) [] rfl tk rfl ?_
      exact en_rets (x := ((0 : Int), (1 : Int), ())) rfl ⟨rfl, rfl⟩ tks ens
    · have h1 := of_decide_eq_false h1
      refine en_ld (k := .int .i64) (b := b3) (off := 2) (x := hd.n) (by rw [fa_mk, fa_mk]) tk rfl ?_
      refine en_br (fun h2 => ?_) (fun h2 => ?_)
      · rw [bad (.inr (of_decide_eq_true h2))]
        refine en_st (b := b1) (off := 0) rfl tk (by simp) rfl ?_
        refine en_ldg (b := b1) (x := ((0 : Int), (1 : Int), ())) [] rfl tk rfl ?_
        exact en_rets (x := ((0 : Int), (1 : Int), ())) rfl ⟨rfl, rfl⟩ tks ens
      · have h2 := of_decide_eq_false h2
        rw [Ob.get_ok hh (by omega) (by omega)]
        refine en_nn (RHp.op tk fun ps s hs => ?_)
        refine en_ld (k := .ptr) (b := p) (off := 0) (x := some ⟨ps, 0, none⟩) (by rw [fa_mk]) tk rfl ?_
        refine en_nn (RSpaceA.op tk fun sa sk sm sq ql hql => ?_)
        refine en_ld (k := .slice) (b := ps) (off := 0) (x := sa) (by rw [fa_mk]) tk rfl ?_
        rw [wrap64 (n := (n : Int) + 1) (by omega) (by omega), wrap64 (n := (n : Int) + 1 + i) (by omega) (by omega)]
        refine en_getSL (s := sa) (xs := S.ws) tk (by omega) (by omega) ?_
        refine Tr.close tks (RSpaceA.cl (p := ps) (S := S) (a := sa) (k := sk) (m := sm) (q := sq) hql) ?_
        refine Tr.close tks (RHp.cl (p := p) (ps := ps) (S := S) (l := l) (s := s) hs) ?_
        refine en_st (b := b1) (off := 0) rfl tk (by simp) rfl ?_
        refine en_ldg (b := b1) (x := (S.ws.getD ((n : Int) + 1 + i).toNat 0, (0 : Int), ())) [] rfl tk rfl ?_
        exact en_rets (x := (S.ws.getD ((n : Int) + 1 + i).toNat 0, (0 : Int), ())) rfl ⟨rfl, rfl⟩ tks ens

theorem rh_put (p : Nat) (S : Spc) (l : List (Cls × Slc)) (hw : HWf S (csO l)) (a i x : Int) : Gl.Spec ρ Tryz.prog 71 [.pointer (some ⟨p, 0, none⟩), i64 a, i64 i, i64 x] [RHp p S l] R1
    fun r M => r = (Ob.put S a i x).1 ∧ M = [RHp p (Ob.put S a i x).2 l] := by
  have hmost := hw.wf.most
  have hlen := hw.wf.len
  refine Spec.of (fun Q w hh => F.gloamingref9.Heap.Put.calls (some ⟨p, 0, none⟩) a i x hh) fun R => ?_
  unfold F.gloamingref9.Heap.Put
  try simp only [List.cons_append, List.nil_append]
  refine en_call (rh_field p S l hw a i) tks ?_
  rintro x' M ⟨rfl, rfl⟩
  try simp only [List.cons_append, List.nil_append]
  refine en_nw fun b2 => ?_
  rw [zcGot]
  refine en_st (b := b2) (off := 0) rfl tk (by simp) rfl ?_
  refine en_ld (k := .int .i64) (b := b2) (off := 1) (x := (Ob.get S a i).2) (by rw [fa_mk]) tk rfl ?_
  have hge : (Ob.get S a i).2 = (Ob.fieldAt S a i).2 := by unfold Ob.get; split <;> simp_all
  refine en_br (fun h => ?_) (fun h => ?_)
  · have h : (Ob.get S a i).2 = 0 := eq_of_beq h
    rw [hge] at h
    obtain ⟨hd, h1, h2, h3, h4, h5, h6⟩ := Ob.fieldAt_ok hw h
    have e : Ob.put S a i x = (0, ⟨S.ws.set (Ob.fieldAt S a i).1.toNat x, S.pg⟩) := by unfold Ob.put; rw [if_neg (by simp [h])]
    rw [e, h4, wrap64 (n := a + 1) (by omega) (by omega), wrap64 (n := a + 1 + i) (by omega) (by omega)]
    refine en_nn (RHp.op tk fun ps s hs => ?_)
    refine en_ld (k := .ptr) (b := p) (off := 0) (x := some ⟨ps, 0, none⟩) (by rw [fa_mk]) tk rfl ?_
    refine en_nn (RSpaceA.op tk fun sa sk sm sq ql hql => ?_)
    refine en_ld (k := .slice) (b := ps) (off := 0) (x := sa) (by rw [fa_mk]) tk rfl ?_
    refine en_setSL (s := sa) (xs := S.ws) tk (by omega) (by omega) ?_
    refine Tr.close tks (RSpaceA.cl (p := ps) (S := ⟨S.ws.set (a + 1 + i).toNat x, S.pg⟩) (a := sa) (k := sk) (m := sm) (q := sq) hql) ?_
    refine Tr.close tks (RHp.cl (p := p) (ps := ps) (S := ⟨S.ws.set (a + 1 + i).toNat x, S.pg⟩) (l := l) (s := s) hs) ?_
    refine en_ld (k := .int .i64) (b := b2) (off := 1) (x := (Ob.get S a i).2) (by rw [fa_mk]) tk rfl ?_
    rw [hge, h]
    exact en_rets (x := (0 : Int)) rfl ⟨rfl, rfl⟩ tks ens
  · have h : (Ob.get S a i).2 ≠ 0 := by simpa using h
    rw [hge] at h
    have e : Ob.put S a i x = ((Ob.fieldAt S a i).2, S) := by unfold Ob.put; rw [if_pos h]
    rw [e]
    refine en_ld (k := .int .i64) (b := b2) (off := 1) (x := (Ob.get S a i).2) (by rw [fa_mk]) tk rfl ?_
    rw [hge]
    exact en_rets (x := (Ob.fieldAt S a i).2) rfl ⟨rfl, rfl⟩ tks ens

end Go.Proofs.YtapchggmifbfoaaGreat
