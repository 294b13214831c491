/- ObjectMakes. -/
import Derived.Test.YtncpnmpfghppeaaGlRef1
set_option linter.unusedSimpArgs false
set_option linter.unusedVariables false
namespace Go.Proofs.Ytncpnmpfghppeaa
open Go Go.Gl
variable {ρ0 ρ : FR} {L L' : List Asn} {Post : Value → List Asn → Prop} {T : Tree}

namespace Makes
theorem sum_perm : ∀ {l l' : List Int}, l.Perm l' → l.sum = l'.sum := by
  intro l l' h
  induction h with
  | nil => rfl
  | cons x _ ih => simp [ih]
  | swap x y l => simp; omega
  | trans _ _ h1 h2 => exact h1.trans h2
def good (S : Spc) (a : Int) : Prop := ∃ n : Int, Ob.head S a = some ⟨3, 0, n, false⟩ ∧ 0 ≤ n ∧ (0 < n → 100 ≤ (Ob.get S a (n - 1)).1)
structure Inv (S : Spc) (i : Nat) (used : Int) : Prop where
  hw : HWf S []
  pfx : ∃ m, Pfx S.pg m ∧ m ≤ 1 + 2 * i
  len : S.pg.length = 100
  num : (Sp.each S).length = i
  sum : ((Sp.each S).map (Sp.wordsAt S)).sum = used
  all : ∀ a ∈ Sp.each S, good S a
theorem Inv.start : Inv (Sp.newSpc 100) 0 0 := by
  refine ⟨newSpc_hwf (by omega) (by omega), ⟨1, Pfx.new (by omega), by omega⟩, by kernel_rfl, by kernel_rfl, by kernel_rfl, fun a ha => ?_⟩
  have : Sp.each (Sp.newSpc 100) = [] := by kernel_rfl
  rw [this] at ha; cases ha
theorem sum_bd : ∀ {l : List Int}, (∀ x ∈ l, 0 ≤ x ∧ x ≤ 1024) → 0 ≤ l.sum ∧ l.sum ≤ 1024 * l.length
  | [], _ => by simp
  | x :: l, h => by
    have h1 := h x List.mem_cons_self
    have h2 := sum_bd fun y hy => h y (List.mem_cons_of_mem _ hy)
    simp only [List.sum_cons, List.length_cons]
    omega
theorem Inv.bound {S : Spc} {i : Nat} {used : Int} (h : Inv S i used) : 0 ≤ used ∧ used ≤ 1024 * i := by
  have := sum_bd (l := (Sp.each S).map (Sp.wordsAt S)) fun x hx => by
    obtain ⟨a, ha, rfl⟩ := List.mem_map.mp hx
    obtain ⟨n, rfl, _, w, hf, h1, h2, _⟩ := Sp.each_find h.hw.wf ha
    unfold Sp.wordsAt; rw [hf]; dsimp only; omega
  rw [h.sum, List.length_map, h.num] at this
  exact this
theorem may_ok {k : Int} (h0 : 0 ≤ k) (h1 : k < 100) : Ob.may [] ⟨3, 0, k, false⟩ = 0 := by
  have hm : Sp.mayH ⟨3, 0, k, false⟩ = true := by
    unfold Sp.mayH
    dsimp only
    rw [if_neg (by decide), if_pos (by decide), Bool.and_eq_true]
    exact ⟨decide_eq_true (by omega), rfl⟩
  unfold Ob.may
  rw [hm]
  rfl
theorem need_le {k : Int} (h0 : 0 ≤ k) (h1 : k < 100) : Sp.need (k + 1) ≤ 2 := by
  unfold Sp.need
  split
  · unfold Sp.pgs
    split <;> omega
  · omega
theorem Inv.next {S : Spc} {i : Nat} {used : Int} (h : Inv S i used) (hi : i < 30) {k : Int} (k0 : 0 ≤ k) (k1 : k < 100) (x : Int) (hx : 100 ≤ x) :
    (Ob.make S [] ⟨3, 0, k, false⟩).2.1 = 0 ∧ (∃ n : Nat, Sp.find (Ob.make S [] ⟨3, 0, k, false⟩).2.2 (Ob.make S [] ⟨3, 0, k, false⟩).1 = some ((Ob.make S [] ⟨3, 0, k, false⟩).1.toNat, n) ∧ Sp.blk (k + 1) = n) ∧ HWf (Ob.make S [] ⟨3, 0, k, false⟩).2.2 [] ∧
    Inv (Ob.put (Ob.make S [] ⟨3, 0, k, false⟩).2.2 (Ob.make S [] ⟨3, 0, k, false⟩).1 (k - 1) x).2 (i + 1) (used + Sp.blk (k + 1)) := by
  obtain ⟨hw, ⟨m, hp, hm⟩, hl, hn, hs, hall⟩ := h
  have hneed := need_le k0 k1
  obtain ⟨h0, ⟨m', p1, p2⟩, p3⟩ := make_pfx hw hp (may_ok k0 k1) (by dsimp only; omega)
  dsimp only at p2
  obtain ⟨a, n, e1, e2, e3, e4, e5, e6, e7, e8, e9⟩ := Ob.make_ok hw h0
  dsimp only at e3 e4
  have hperm := each_make hw h0
  have hhd := Ob.make_head hw h0
  have hkeep := fun (b : Int) (h' : Hd) hh => Ob.make_keep hw h0 (a := b) (h' := h') hh
  have hfa : Sp.find (Ob.make S [] ⟨3, 0, k, false⟩).2.2 a = some (a, n) := by rw [e7 a, if_pos ⟨by omega, by omega⟩]
  rw [e1] at hperm hhd
  refine ⟨h0, ⟨n, by rw [e1, Int.toNat_natCast]; exact hfa, e3⟩, e9, ?_⟩
  rw [e1, e3]
  have hge : ∀ b ∈ Sp.each S, ∃ mm w : Nat, b = mm ∧ Sp.find S mm = some (mm, w) ∧ Sp.find (Ob.make S [] ⟨3, 0, k, false⟩).2.2 mm = some (mm, w) := fun b hb => by
    obtain ⟨mm, w, rfl, hf⟩ := (mem_each hw.wf).mp hb
    refine ⟨mm, w, rfl, hf, ?_⟩
    rw [e7, if_neg (fun hc => by rw [e8 mm hc.1 hc.2] at hf; cases hf)]
    exact hf
  have hlen1 := make_len hw h0
  have hne : ∀ b ∈ Sp.each S, b ≠ a := fun b hb e => by
    obtain ⟨mm, w, rfl, hf, _⟩ := hge b hb
    have : mm = a := by omega
    subst this
    rw [e8 mm (by omega) (by omega)] at hf; cases hf
  have hk2 : ∀ b ∈ Sp.each S, ∃ q : Int, Ob.head (Ob.make S [] ⟨3, 0, k, false⟩).2.2 b = some ⟨3, 0, q, false⟩ ∧ 0 ≤ q ∧ (0 < q → 100 ≤ (Ob.get (Ob.make S [] ⟨3, 0, k, false⟩).2.2 b (q - 1)).1) := fun b hb => by
    obtain ⟨q, q1, q2, q3⟩ := hall b hb
    obtain ⟨t1, _, t3⟩ := hkeep b _ q1
    exact ⟨q, t1, q2, fun h => by rw [t3 (q - 1) (by omega) (by dsimp only; omega)]; exact q3 h⟩
  clear hkeep
  have hw1 : ∀ b ∈ Sp.each S, Sp.wordsAt (Ob.make S [] ⟨3, 0, k, false⟩).2.2 b = Sp.wordsAt S b := fun b hb => by
    obtain ⟨mm, w, rfl, hf, hf1⟩ := hge b hb
    unfold Sp.wordsAt; rw [hf, hf1]
  generalize (Ob.make S [] ⟨3, 0, k, false⟩).2.2 = S1 at *
  obtain ⟨ws', ep, elp⟩ := put_pg S1 a (k - 1) x
  have heach := put_each e9 a (k - 1) x
  have hfind : ∀ b, Sp.find (Ob.put S1 a (k - 1) x).2 b = Sp.find S1 b := fun b => by rw [ep]; exact find_ws elp b
  have hwa : ∀ b, Sp.wordsAt (Ob.put S1 a (k - 1) x).2 b = Sp.wordsAt S1 b := fun b => by unfold Sp.wordsAt; rw [hfind]
  refine ⟨e9.put a (k - 1) x, ⟨m', by rw [ep]; exact p1, by omega⟩, by rw [ep]; dsimp only; omega, by rw [heach, hlen1, hn], ?_, fun b hb => ?_⟩
  · rw [heach, List.map_congr_left (fun b _ => hwa b), sum_perm (hperm.map (Sp.wordsAt S1)), List.map_cons, List.sum_cons, List.map_congr_left hw1, hs]
    have : Sp.wordsAt S1 a = n := by unfold Sp.wordsAt; rw [hfa]
    rw [this]; omega
  · rw [heach] at hb
    rcases Int.lt_or_le 0 k with hk | hk
    · obtain ⟨_, keep⟩ := Ob.put_keep e9 (x := x) hhd (i := k - 1) (by omega) (by dsimp only; omega)
      rcases List.mem_cons.mp (hperm.mem_iff.mp hb) with rfl | hb
      · obtain ⟨t1, t2⟩ := keep _ _ hhd
        refine ⟨k, t1, k0, fun _ => ?_⟩
        rw [t2 (k - 1) (by omega) (by dsimp only; omega), if_pos ⟨rfl, rfl⟩]; exact hx
      · obtain ⟨q, q1, q2, q3⟩ := hk2 b hb
        obtain ⟨t1, t2⟩ := keep _ _ q1
        refine ⟨q, t1, q2, fun h => ?_⟩
        rw [t2 (q - 1) (by omega) (by dsimp only; omega), if_neg (fun hc => hne b hb hc.1)]; exact q3 h
    · have hk0 : k = 0 := by omega
      subst hk0
      have e : Ob.fieldAt S1 a (0 - 1) = (0, 1) := by unfold Ob.fieldAt; rw [hhd]; dsimp only; rw [if_pos (.inl (by omega))]
      have epu : (Ob.put S1 a (0 - 1) x).2 = S1 := by unfold Ob.put; rw [e, if_pos (by decide)]
      rw [epu]
      rcases List.mem_cons.mp (hperm.mem_iff.mp hb) with rfl | hb
      · exact ⟨0, hhd, by omega, fun h => absurd h (by omega)⟩
      · exact hk2 b hb
end Makes
open Makes in
theorem law_makes (s : Slc) (l : List Int) (ro : RoS ρ s 1 (l.map fun x => .int .u8 x)) (hb : ∀ x ∈ l, (Lit.int .u8 x).wf = true) (hl : l.length < 2 ^ 63) : Gl.Spec ρ Try.prog 3 [.slice s.a s.n s.c] [] RB fun r M => r = true ∧ M = [] := by
  refine Spec.of (fun Q w h => F.gloaminglaw9.ObjectMakes.calls s h) fun R => ?_
  unfold F.gloaminglaw9.ObjectMakes
  try simp only [List.cons_append, List.nil_append]
  have hsn : s.n = l.length := by have := ro.1; simpa using this.symm
  have hbd : ∀ i, i < l.length → 0 ≤ l.getD i 0 ∧ l.getD i 0 < 256 := fun i hi => by
    have := hb (l.getD i 0) (by rw [List.getD_eq_getElem?_getD, List.getElem?_eq_getElem hi]; exact List.getElem_mem hi)
    generalize l.getD i 0 = y at this ⊢
    simp [Lit.wf, IntKind.min, IntKind.max, IntKind.signed, IntKind.bits] at this
    omega
  refine en_call (object_new 100 (by omega) (by omega)) tks ?_
  rintro x' M ⟨p, rfl, rfl⟩
  try simp only [List.cons_append, List.nil_append]
  refine en_call (law_whole p (Sp.newSpc 100) []) tks ?_
  rintro x' M ⟨rfl, rfl⟩
  try simp only [List.cons_append, List.nil_append]
  refine en_brf rfl ?_
  refine en_call (law_err _) .nil ?_
  rintro x' M ⟨rfl, rfl⟩
  try simp only [List.cons_append, List.nil_append]
  refine en_brf rfl ?_
  refine en_jn (fun (u : LTs [.int .i64]) M => ∃ (S : Spc) (i : Nat), M = HeapA p S [] :: R ∧ Inv S i u.1 ∧ i ≤ 30 ∧ (if (30 : Int) < (s.n : Nat) then (30 : Int) else (s.n : Nat)) = i) ?_ ?_
  · rintro ⟨(used : Int), ⟨⟩⟩ M ⟨S, i, rfl, ⟨hw, _, hpl, hn, hs, hall⟩, hi, hN⟩
    have hb30 := Inv.bound ⟨hw, ‹_›, hpl, hn, hs, hall⟩
    dsimp only at hs ⊢
    refine en_call (object_objects p S [] hw) tks ?_
    rintro r M ⟨rfl, hrn⟩
    try simp only [List.cons_append, List.nil_append]
    rw [objs_len, hn] at hrn
    refine en_brf (by rw [hN, hrn]; simp) (en_nn ?_)
    refine HeapA.op tk fun ps pt => ?_
    refine en_ld (k := .ptr) (b := p) (x := some ⟨ps, 0, none⟩) (by rw [fa_mk]) tk rfl ?_
    refine en_call (space_used ps S hw.wf) tks ?_
    rintro x' M ⟨rfl, rfl⟩
    try simp only [List.cons_append, List.nil_append]
    rw [hs]
    refine Tr.close tks (HeapA.cl (p := p) (ps := ps) (pt := pt) (S := S) (cs := [])) ?_
    refine en_brf (by simp) ?_
    refine Tr.keepObs (s := r) (os := Ob.objs S) tk fun ρ' hle hobs => ?_
    obtain ⟨_, lo, hlo, hro, hqs⟩ := hobs
    refine en_lp (fun n u M => (fun j : Int => M = HeapA p S [] :: R ∧ 0 ≤ j ∧ j ≤ i ∧ n = i - j.toNat) u.1) i ?_ ?_
    · exact ⟨rfl, by simp, by dsimp only; omega, by simp⟩
    · rintro m ⟨(j : Int), ⟨⟩⟩ M ⟨rfl, j0, j1, rfl⟩ X hX
      dsimp only at *
      have el : ∀ j : Nat, j < i → ∃ (q : Slc) (n : Int), lo[j]? = some (⟨(Sp.each S).getD j 0, ⟨3, 0, n, false⟩, (List.range n.toNat).map fun i : Nat => (Ob.get S ((Sp.each S).getD j 0) i).1⟩, q) ∧ 0 ≤ n ∧ n ≤ 1023 ∧ (0 < n → 100 ≤ (Ob.get S ((Sp.each S).getD j 0) (n - 1)).1) := fun j hj => by
        have hj2 : j < (Sp.each S).length := by omega
        have hmem : (Sp.each S).getD j 0 ∈ Sp.each S := by rw [List.getD_eq_getElem?_getD, List.getElem?_eq_getElem hj2]; exact List.getElem_mem hj2
        obtain ⟨n, g1, g2, g3⟩ := hall _ hmem
        have hn2 : n ≤ 1023 := by
          obtain ⟨_, _, _, _, _, g, _⟩ := Ob.head_is hw g1
          exact (Sp.mayH_is g).2.1
        have hat : Ob.at1 S ((Sp.each S).getD j 0) = ⟨(Sp.each S).getD j 0, ⟨3, 0, n, false⟩, (List.range n.toNat).map fun i : Nat => (Ob.get S ((Sp.each S).getD j 0) i).1⟩ := by
          unfold Ob.at1; rw [g1]
        have hlj : j < lo.length := by have := congrArg List.length hlo; rw [List.length_map, objs_len] at this; omega
        have h1 := congrArg (fun l => l[j]?) hlo
        simp only [List.getElem?_map, List.getElem?_eq_getElem hlj, Option.map_some] at h1
        unfold Ob.objs at h1
        rw [List.getElem?_map, List.getElem?_eq_getElem hj2, Option.map_some] at h1
        injection h1 with h1
        have h2 : (Sp.each S)[j] = (Sp.each S).getD j 0 := by rw [List.getD_eq_getElem?_getD, List.getElem?_eq_getElem hj2]; rfl
        rw [h2, hat] at h1
        refine ⟨lo[j].2, n, ?_, g2, hn2, g3⟩
        rw [List.getElem?_eq_getElem hlj]
        congr 1
        exact Prod.ext h1 rfl
      refine en_br (fun h => ?_) (fun h => ?_)
      · replace h : j < (r.n : Int) := of_decide_eq_true h
        have hgo : Tr ρ ρ' (HeapA p S [] :: R) (X (IntKind.wrap .i64 (j + 1), ())) (SP RB (fun r M => r = true ∧ M = []) R) := by
          rw [wrap64 (by omega) (by omega)]
          exact hX (i - (j + 1).toNat) _ _ (by omega) ⟨rfl, by dsimp only; omega, by dsimp only; omega, rfl⟩
        obtain ⟨q, n, hlj, hn0', hn1, hg⟩ := el j.toNat (by omega)
        obtain ⟨hqro, hqn⟩ := hqs _ (List.mem_of_getElem? hlj)
        dsimp only at hqro hqn
        rw [List.length_map, List.length_range] at hqn
        have hcell := fun e (he : e < 6) => flat_get (g := obCs) (m := 6) (fun _ => rfl) hlj he
        have hprev : 0 < j → ∃ (q' : Slc) (n' : Int), lo[j.toNat - 1]? = some (⟨(Sp.each S).getD (j.toNat - 1) 0, ⟨3, 0, n', false⟩, (List.range n'.toNat).map fun i : Nat => (Ob.get S ((Sp.each S).getD (j.toNat - 1) 0) i).1⟩, q') := fun hj => by
          obtain ⟨q', n', h, _⟩ := el (j.toNat - 1) (by omega)
          exact ⟨q', n', h⟩
        have hlt : 0 < j → (Sp.each S).getD (j.toNat - 1) 0 < (Sp.each S).getD j.toNat 0 := fun hj => by
          have hp := List.pairwise_iff_getElem.mp (Sp.each_sorted hw.wf) (j.toNat - 1) j.toNat (by omega) (by omega) (by omega)
          rw [List.getD_eq_getElem?_getD, List.getD_eq_getElem?_getD, List.getElem?_eq_getElem (by omega), List.getElem?_eq_getElem (by omega)]
          exact hp
        generalize (Sp.each S).getD j.toNat 0 = a at hlj hg hqro hcell hlt
        refine en_drw (en_br (fun h3 => ?_) (fun h3 => ?_))
        · replace h3 : j > 0 := of_decide_eq_true h3
          have hlt := hlt h3
          obtain ⟨q', n', hlj'⟩ := hprev h3
          generalize (Sp.each S).getD (j.toNat - 1) 0 = a' at hlj' hlt
          have hcell' := fun e (he : e < 6) => flat_get (g := obCs) (m := 6) (fun _ => rfl) hlj' he
          refine en_ixRo hro j0 (by omega) fun a0 ha0 => ?_
          refine en_ldRo (k := .int .i64) (j := j.toNat * 6 + 0) (x := a) ha0 hro (by rintro b o rfl; simp [fa_mk]) (by rw [hcell 0 (by decide)]; rfl) ?_
          rw [wrap64 (n := j - 1) (by omega) (by omega)]
          refine en_ixRo hro (by omega) (by omega) fun a0 ha0 => ?_
          refine en_ldRo (k := .int .i64) (j := (j.toNat - 1) * 6 + 0) (x := a') ha0 hro (by rintro b o rfl; rw [show (j - 1).toNat = j.toNat - 1 by omega]; simp [fa_mk]) (by rw [hcell' 0 (by decide)]; rfl) ?_
          refine en_brf (decide_eq_false (by omega)) ?_
          refine en_ixRo hro j0 (by omega) fun a0 ha0 => ?_
          refine en_ldRo (k := .int .i64) (j := j.toNat * 6 + 1) (x := (3 : Int)) ha0 hro (by rintro b o rfl; simp [fa_mk, Nat.add_assoc]) (by rw [hcell 1 (by decide)]; rfl) ?_
          refine en_brf rfl ?_
          refine en_ixRo hro j0 (by omega) fun a0 ha0 => ?_
          refine en_ldRo (k := .slice) (j := j.toNat * 6 + 5) (x := q) ha0 hro (by rintro b o rfl; simp [fa_mk, Nat.add_assoc]) (by rw [hcell 5 (by decide)]; rfl) ?_
          refine en_ixRo hro j0 (by omega) fun a0 ha0 => ?_
          refine en_ldRo (k := .int .i64) (j := j.toNat * 6 + 3) (x := n) ha0 hro (by rintro b o rfl; simp [fa_mk, Nat.add_assoc]) (by rw [hcell 3 (by decide)]; rfl) ?_
          refine en_brf (by rw [hqn]; simp; omega) ?_
          refine en_ixRo hro j0 (by omega) fun a0 ha0 => ?_
          refine en_ldRo (k := .slice) (j := j.toNat * 6 + 5) (x := q) ha0 hro (by rintro b o rfl; simp [fa_mk, Nat.add_assoc]) (by rw [hcell 5 (by decide)]; rfl) ?_
          refine en_br (fun h5 => ?_) (fun h5 => ?_)
          · replace h5 := of_decide_eq_true h5
            refine en_ixRo hro j0 (by omega) fun a0 ha0 => ?_
            refine en_ldRo (k := .slice) (j := j.toNat * 6 + 5) (x := q) ha0 hro (by rintro b o rfl; simp [fa_mk, Nat.add_assoc]) (by rw [hcell 5 (by decide)]; rfl) ?_
            have hn0 : 0 < n := by omega
            have hnm : n ≤ 1023 := hn1
            rw [wrap64 (n := ((q.n : Nat) : Int) - 1) (by omega) (by omega)]
            refine en_ixRo hqro (by omega) (by omega) fun a1 ha1 => ?_
            refine en_ldRo (k := .int .i64) (j := (((q.n : Nat) : Int) - 1).toNat) (x := (Ob.get S a (n - 1)).1) ha1 hqro (by rintro b o rfl; simp [fa_mk]) ?_ ?_
            · rw [List.getElem?_map, List.getElem?_map, List.getElem?_range (by omega), show (((q.n : Nat) : Int) - 1).toNat = (n - 1).toNat by omega]
              rw [Option.map_some, Option.map_some, show (((n - 1).toNat : Nat) : Int) = n - 1 by omega]; rfl
            have := hg hn0
            refine en_brf (decide_eq_false (by omega)) ?_
            exact hgo
          · exact hgo
        · clear hlt hprev
          refine en_ixRo hro j0 (by omega) fun a0 ha0 => ?_
          refine en_ldRo (k := .int .i64) (j := j.toNat * 6 + 1) (x := (3 : Int)) ha0 hro (by rintro b o rfl; simp [fa_mk, Nat.add_assoc]) (by rw [hcell 1 (by decide)]; rfl) ?_
          refine en_brf rfl ?_
          refine en_ixRo hro j0 (by omega) fun a0 ha0 => ?_
          refine en_ldRo (k := .slice) (j := j.toNat * 6 + 5) (x := q) ha0 hro (by rintro b o rfl; simp [fa_mk, Nat.add_assoc]) (by rw [hcell 5 (by decide)]; rfl) ?_
          refine en_ixRo hro j0 (by omega) fun a0 ha0 => ?_
          refine en_ldRo (k := .int .i64) (j := j.toNat * 6 + 3) (x := n) ha0 hro (by rintro b o rfl; simp [fa_mk, Nat.add_assoc]) (by rw [hcell 3 (by decide)]; rfl) ?_
          refine en_brf (by rw [hqn]; simp; omega) ?_
          refine en_ixRo hro j0 (by omega) fun a0 ha0 => ?_
          refine en_ldRo (k := .slice) (j := j.toNat * 6 + 5) (x := q) ha0 hro (by rintro b o rfl; simp [fa_mk, Nat.add_assoc]) (by rw [hcell 5 (by decide)]; rfl) ?_
          refine en_br (fun h5 => ?_) (fun h5 => ?_)
          · replace h5 := of_decide_eq_true h5
            refine en_ixRo hro j0 (by omega) fun a0 ha0 => ?_
            refine en_ldRo (k := .slice) (j := j.toNat * 6 + 5) (x := q) ha0 hro (by rintro b o rfl; simp [fa_mk, Nat.add_assoc]) (by rw [hcell 5 (by decide)]; rfl) ?_
            have hn0 : 0 < n := by omega
            have hnm : n ≤ 1023 := hn1
            rw [wrap64 (n := ((q.n : Nat) : Int) - 1) (by omega) (by omega)]
            refine en_ixRo hqro (by omega) (by omega) fun a1 ha1 => ?_
            refine en_ldRo (k := .int .i64) (j := (((q.n : Nat) : Int) - 1).toNat) (x := (Ob.get S a (n - 1)).1) ha1 hqro (by rintro b o rfl; simp [fa_mk]) ?_ ?_
            · rw [List.getElem?_map, List.getElem?_map, List.getElem?_range (by omega), show (((q.n : Nat) : Int) - 1).toNat = (n - 1).toNat by omega]
              rw [Option.map_some, Option.map_some, show (((n - 1).toNat : Nat) : Int) = n - 1 by omega]; rfl
            have := hg hn0
            refine en_brf (decide_eq_false (by omega)) ?_
            exact hgo
          · exact hgo
      · refine en_call (law_awake) tks ?_
        rintro x' M ⟨rfl, rfl⟩
        try simp only [List.cons_append, List.nil_append]
        exact en_rets (x := true) rfl ⟨rfl, rfl⟩ tks ens
  · intro J hJ
    refine en_lp (fun n u M => (fun (used i : Int) => ∃ S : Spc, M = HeapA p S [] :: R ∧ Inv S i.toNat used ∧ 0 ≤ i ∧ i ≤ 30 ∧ i ≤ l.length ∧ n = 30 - i.toNat) u.1 u.2.1) 30 ?_ ?_
    · exact ⟨Sp.newSpc 100, rfl, Inv.start, by simp, by simp, by dsimp only; omega, by simp⟩
    · rintro n ⟨(used : Int), (i : Int), ⟨⟩⟩ M ⟨S, rfl, hI, i0, i1, i2, rfl⟩ X hX
      dsimp only at *
      refine en_br (fun h => ?_) (fun h => ?_)
      · replace h : i < (s.n : Int) := of_decide_eq_true h
        refine en_br (fun h2 => ?_) (fun h2 => ?_)
        · replace h2 : i < 30 := of_decide_eq_true h2
          have hi : i.toNat < l.length := by omega
          have hx := hbd i.toNat hi
          have hget : (l.map fun x => Value.int .u8 x)[i.toNat]? = some ((LK.int .u8).val (l.getD i.toNat 0)) := by
            rw [List.getElem?_map, List.getElem?_eq_getElem hi, List.getD_eq_getElem?_getD, List.getElem?_eq_getElem hi]; rfl
          generalize l.getD i.toNat 0 = x at hx hget
          refine en_ixRo ro i0 (by omega) fun a0 ha => ?_
          refine en_ldRo (k := .int .u8) (j := i.toNat) (x := x) ha ro (by rintro b o rfl; simp [fa_mk]) hget ?_
          refine en_need (by decide) ?_
          obtain ⟨k, hk, k0, k1⟩ : ∃ k : Int, Int.tmod (IntKind.wrap .i64 x) 100 = k ∧ 0 ≤ k ∧ k < 100 := by
            refine ⟨x % 100, ?_, by omega, by omega⟩
            rw [wrap64 (by omega) (by omega), Int.tmod_eq_emod_of_nonneg hx.1]
          rw [hk]
          obtain ⟨n1, ⟨n, n2, n3⟩, n4, n5⟩ := hI.next (by omega) k0 k1 (100 + i) (by omega)
          have hhd := Ob.make_head hI.hw n1
          obtain ⟨av, _, ea, _⟩ := Ob.make_ok hI.hw n1
          refine en_call (object_make p S [] hI.hw ⟨3, 0, k, false⟩) tks ?_
          rintro x' M ⟨rfl, rfl⟩
          try simp only [List.cons_append, List.nil_append]
          rw [n1]
          generalize (Ob.make S [] ⟨3, 0, k, false⟩).2.2 = S1 at n2 n4 n5 hhd ⊢
          generalize (Ob.make S [] ⟨3, 0, k, false⟩).1 = at0 at ea n2 n5 hhd ⊢
          subst ea
          rw [Int.toNat_natCast] at n2
          refine en_nn (HeapA.op tk fun ps pt => ?_)
          refine en_ld (k := .ptr) (b := p) (x := some ⟨ps, 0, none⟩) (by rw [fa_mk]) tk rfl ?_
          refine en_call (space_find ps S1 n4.wf (av : Int)) tks ?_
          rintro x' M ⟨rfl, rfl⟩
          try simp only [List.cons_append, List.nil_append]
          rw [n2]
          refine Tr.close tks (HeapA.cl (p := p) (ps := ps) (pt := pt) (S := S1) (cs := [])) ?_
          refine en_call (law_err _) .nil ?_
          rintro x' M ⟨rfl, rfl⟩
          try simp only [List.cons_append, List.nil_append]
          refine en_brf rfl (en_brf rfl (en_brf (by simp [Sp.found]) ?_))
          rw [wrap64 (n := k + 1) (by omega) (by omega)]
          refine en_call (ref_block (k + 1)) .nil ?_
          rintro x' M ⟨rfl, rfl⟩
          try simp only [List.cons_append, List.nil_append]
          rw [n3] at n5 ⊢
          refine en_brf (by simp [Sp.found]) ?_
          have hu := hI.bound
          have hnb : n ≤ 1024 := by
            obtain ⟨m, em, _, w, hf, _, hw2, _⟩ := Sp.each_find n4.wf (mem_each_of_find n4.wf n2)
            have : m = av := by omega
            subst this
            rw [n2] at hf; injection hf with hf; injection hf with _ hf; omega
          have w1 : IntKind.wrap .i64 (used + (Sp.found (some (av, n))).2.1) = used + n := wrap64 (by simp only [Sp.found]; omega) (by simp only [Sp.found]; omega)
          have w2 : IntKind.wrap .i64 (i + 1) = i + 1 := wrap64 (by omega) (by omega)
          have e2 : (i + 1).toNat = i.toNat + 1 := by omega
          rw [w1, w2]
          refine en_br (fun h3 => ?_) (fun h3 => ?_)
          · replace h3 : k > 0 := of_decide_eq_true h3
            rw [wrap64 (n := k - 1) (by omega) (by omega), wrap64 (n := 100 + i) (by omega) (by omega)]
            refine en_call (object_put p S1 [] n4 (av : Int) (k - 1) (100 + i)) tks ?_
            rintro x' M ⟨rfl, rfl⟩
            try simp only [List.cons_append, List.nil_append]
            exact hX (30 - (i + 1).toNat) _ _ (by omega) ⟨_, rfl, by dsimp only; rw [e2]; exact n5, by dsimp only; omega, by dsimp only; omega, by dsimp only; omega, rfl⟩
          · replace h3 : ¬ k > 0 := of_decide_eq_false h3
            have hk0 : k = 0 := by omega
            subst hk0
            have e : Ob.fieldAt S1 av (0 - 1) = (0, 1) := by unfold Ob.fieldAt; rw [hhd]; dsimp only; rw [if_pos (.inl (by omega))]
            have epu : (Ob.put S1 av (0 - 1) (100 + i)).2 = S1 := by unfold Ob.put; rw [e, if_pos (by decide)]
            rw [epu] at n5
            exact hX (30 - (i + 1).toNat) _ _ (by omega) ⟨S1, rfl, by dsimp only; rw [e2]; exact n5, by dsimp only; omega, by dsimp only; omega, by dsimp only; omega, rfl⟩
        · replace h2 : ¬ i < 30 := of_decide_eq_false h2
          refine hJ _ _ ⟨S, i.toNat, rfl, hI, by omega, ?_⟩
          split <;> omega
      · replace h : ¬ i < (s.n : Int) := of_decide_eq_false h
        refine hJ _ _ ⟨S, i.toNat, rfl, hI, by omega, ?_⟩
        split <;> omega

end Go.Proofs.Ytncpnmpfghppeaa
