/- ObjectClasses. -/
import Derived.Test.YtncpnmpfghppeaaGlLaw4
set_option linter.unusedSimpArgs false
set_option linter.unusedVariables false
namespace Go.Gl
open Go
variable {ρ0 ρ : FR} {L L' : List Asn} {Post : Value → List Asn → Prop}
theorem en_ldRoS {M : List Asn} {s : Slc} {m : Nat} {xs : List Value} {k : LK} {a a0 : Addr} {f : LT k → Tree} {j : Nat} {x : LT k} (hs : s.a = some a0) (hr : RoS ρ s m xs) (ha : ∀ b o, a0 = ⟨b, o, none⟩ → a = ⟨b, o + j, none⟩)
    (hx : xs[j]? = some (k.val x)) (h : Tr ρ0 ρ L (f x) Post) : Tr ρ0 ρ L (ldLS (Sat ρ M) k a f) Post := by
  have hj : j < xs.length := by
    rcases Nat.lt_or_ge j xs.length with h | h
    · exact h
    · rw [List.getElem?_eq_none h] at hx; cases hx
  obtain ⟨h1, hr | ⟨b, off, cs, ty, fr, g1, g2, g3⟩⟩ := hr
  · rw [hr] at h1; simp at h1; rw [h1] at hj; simp at hj
  · rw [hs] at g1
    injection g1 with g1
    exact en_ldSR (ha b off g1) g2 (by rw [g3 j hj, hx]) h
end Go.Gl
namespace Go.Proofs.Ytncpnmpfghppeaa
open Go Go.Gl
variable {ρ0 ρ : FR} {L L' : List Asn} {Post : Value → List Asn → Prop} {T : Tree}

namespace Classes
def K (x : Int) : Int := 2 + x % 20
def cl (x : Int) : Cls := (K x, [x % K x])
def csOf (l : List Int) (i : Nat) : List Cls := (l.take i).map cl
theorem csOf_succ {l : List Int} {i : Nat} (h : i < l.length) : csOf l (i + 1) = csOf l i ++ [cl (l.getD i 0)] := by
  unfold csOf; rw [take_succ_getD 0 h, List.map_append]; rfl
theorem csOf_len {l : List Int} {i : Nat} (h : i ≤ l.length) : (csOf l i).length = i := by unfold csOf; simp; omega
theorem hwf_app {S : Spc} {cs : List Cls} (hw : HWf S cs) {c : Cls} (h1 : cs.length < 256) (h2 : c.2.length ≤ 2 ^ 20) : HWf S (cs ++ [c]) :=
  ⟨hw.wf, hw.obj, by simp; omega, fun x hx => by
    rcases List.mem_append.mp hx with hx | hx
    · exact hw.refs x hx
    · simp at hx; subst hx; exact h2⟩
/-- behind so many rounds -/
def Inv (l : List Int) (S : Spc) (xs : List Int) (i : Nat) : Prop :=
  HWf S (csOf l i) ∧ (∃ m, Pfx S.pg m ∧ m ≤ 1 + i) ∧ S.pg.length = 60 ∧ (Sp.each S).length = i ∧ xs.length = i ∧ ∀ j, j < i → Ob.head S (xs.getD j 0) = some ⟨1, j + 1, K (l.getD j 0), false⟩
theorem Inv.start (l : List Int) : Inv l (Sp.newSpc 60) [] 0 := by
  have h := newSpc_hwf (n := 60) (by omega) (by omega)
  refine ⟨⟨h.wf, h.obj, by simp [csOf], by simp [csOf]⟩, ⟨1, Pfx.new (by omega), by omega⟩, by kernel_rfl, by kernel_rfl, rfl, fun j hj => by omega⟩
theorem K_bd {x : Int} (h : 0 ≤ x) : 2 ≤ K x ∧ K x ≤ 21 ∧ 0 ≤ x % K x ∧ x % K x < K x := by
  have h1 : 2 ≤ K x ∧ K x ≤ 21 := by unfold K; omega
  exact ⟨h1.1, h1.2, Int.emod_nonneg _ (by omega), Int.emod_lt_of_pos _ (by omega)⟩
theorem getD_app1 {xs : List Int} {y : Int} {j : Nat} (h : j < xs.length) : (xs ++ [y]).getD j 0 = xs.getD j 0 := by
  rw [List.getD_eq_getElem?_getD, List.getElem?_append_left h, List.getD_eq_getElem?_getD]
theorem getD_app2 {xs : List Int} {y : Int} {j : Nat} (h : j = xs.length) : (xs ++ [y]).getD j 0 = y := by
  subst h
  rw [List.getD_eq_getElem?_getD, List.getElem?_append_right (Nat.le_refl _), Nat.sub_self]; rfl
theorem Inv.next {l : List Int} {S : Spc} {xs : List Int} {i : Nat} (h : Inv l S xs i) (hi : i < l.length) (h20 : i < 20) (hx : 0 ≤ l.getD i 0) :
    Sp.addC (csOf l i) (cl (l.getD i 0)) = ((i : Int) + 1, 0, csOf l (i + 1)) ∧ HWf S (csOf l (i + 1)) ∧
    (Ob.make S (csOf l (i + 1)) ⟨1, (i : Int) + 1, K (l.getD i 0), false⟩).2.1 = 0 ∧
    Inv l (Ob.make S (csOf l (i + 1)) ⟨1, (i : Int) + 1, K (l.getD i 0), false⟩).2.2 (xs ++ [(Ob.make S (csOf l (i + 1)) ⟨1, (i : Int) + 1, K (l.getD i 0), false⟩).1]) (i + 1) := by
  obtain ⟨hw, ⟨m, hp, hm⟩, hpg, hel, hxl, hhd⟩ := h
  obtain ⟨k1, k2, k3, k4⟩ := K_bd hx
  have hcl := csOf_len (l := l) (i := i) (by omega)
  have hw' : HWf S (csOf l (i + 1)) := by rw [csOf_succ hi]; exact hwf_app hw (by omega) (by show (1 : Nat) ≤ 2 ^ 20; omega)
  have hadd : Sp.addC (csOf l i) (cl (l.getD i 0)) = ((i : Int) + 1, 0, csOf l (i + 1)) := by
    have hmay : Sp.mayC (cl (l.getD i 0)).1 (cl (l.getD i 0)).2 = true := by
      unfold Sp.mayC cl
      dsimp only
      rw [if_neg (by omega), if_neg (by omega)]
      unfold Sp.mayR
      rw [if_neg (by omega), if_neg (by omega)]
      rfl
    unfold Sp.addC
    rw [if_neg (fun h => h hmay), if_neg (by omega), hcl, csOf_succ hi]
  have hmay : Ob.may (csOf l (i + 1)) ⟨1, (i : Int) + 1, K (l.getD i 0), false⟩ = 0 := by
    have hm1 : Sp.mayH ⟨1, (i : Int) + 1, K (l.getD i 0), false⟩ = true := by
      unfold Sp.mayH
      dsimp only
      rw [if_pos rfl, Bool.and_eq_true]
      exact ⟨decide_eq_true (by omega), decide_eq_true (by omega)⟩
    have hc : Sp.clsAt (csOf l (i + 1)) ((i : Int) + 1) = some (cl (l.getD i 0)) := by
      unfold Sp.clsAt
      rw [csOf_len (by omega), if_pos (by omega), csOf_succ hi, List.getElem?_append_right (by omega)]
      rw [hcl, show ((i : Int) + 1 - 1).toNat - i = 0 by omega]; rfl
    unfold Ob.may
    rw [hm1, hc]
    simp [cl]
  have hneed : Sp.need (K (l.getD i 0) + 1) = 1 := by
    unfold Sp.need
    rw [if_neg ?_]
    rcases Sp.cls_cases (K (l.getD i 0) + 1) with ⟨h1, c⟩ | ⟨_, _, c⟩ | ⟨_, _, c⟩ | ⟨_, _, c⟩ | ⟨_, _, c⟩ | ⟨_, _, c⟩ | ⟨h1, c⟩ <;> rw [c] <;> omega
  obtain ⟨h0, ⟨m', p1, p2⟩, p3⟩ := make_pfx hw' hp hmay (by dsimp only; rw [hneed]; omega)
  dsimp only at p2
  rw [hneed] at p2
  refine ⟨hadd, hw', h0, hw'.make _, ⟨m', p1, by omega⟩, by omega, by rw [make_len hw' h0, hel], by simp [hxl], fun j hj => ?_⟩
  rcases Nat.lt_or_ge j i with c | c
  · rw [getD_app1 (by omega)]
    exact (Ob.make_keep hw' h0 (hhd j c)).1
  · have : j = i := by omega
    subst this
    rw [getD_app2 (by omega)]
    exact Ob.make_head hw' h0
end Classes
open Classes in
theorem law_classes (s : Slc) (l : List Int) (ro : RoS ρ s 1 (l.map fun x => .int .u8 x)) (hb : ∀ x ∈ l, (Lit.int .u8 x).wf = true) (hl : l.length < 2 ^ 63) : Gl.Spec ρ Try.prog 7 [.slice s.a s.n s.c] [] RB fun r M => r = true ∧ M = [] := by
  refine Spec.of (fun Q w h => F.gloaminglaw9.ObjectClasses.calls s h) fun R => ?_
  unfold F.gloaminglaw9.ObjectClasses
  try simp only [List.cons_append, List.nil_append]
  have hsn : s.n = l.length := by have := ro.1; simpa using this.symm
  have hbd : ∀ i, i < l.length → 0 ≤ l.getD i 0 ∧ l.getD i 0 < 256 := fun i hi => by
    have := hb (l.getD i 0) (by rw [List.getD_eq_getElem?_getD, List.getElem?_eq_getElem hi]; exact List.getElem_mem hi)
    generalize l.getD i 0 = y at this ⊢
    simp [Lit.wf, IntKind.min, IntKind.max, IntKind.signed, IntKind.bits] at this
    omega
  refine en_call (object_new 60 (by omega) (by omega)) (by repeat (first | apply Takes.nil | (apply Takes.cons; focus (repeat (first | apply Take.here | apply Take.skip))))) ?_
  rintro x' M ⟨p, rfl, rfl⟩
  try simp only [List.cons_append, List.nil_append]
  refine en_call (law_whole p (Sp.newSpc 60) []) (by repeat (first | apply Takes.nil | (apply Takes.cons; focus (repeat (first | apply Take.here | apply Take.skip))))) ?_
  rintro x' M ⟨rfl, rfl⟩
  try simp only [List.cons_append, List.nil_append]
  refine en_brf rfl ?_
  refine en_call (law_err _) .nil ?_
  rintro x' M ⟨rfl, rfl⟩
  try simp only [List.cons_append, List.nil_append]
  refine en_brf rfl ?_
  obtain ⟨N, hN⟩ : ∃ N : Nat, (if (20 : Int) < (s.n : Nat) then (20 : Int) else (s.n : Nat)) = N ∧ N ≤ 20 ∧ N ≤ l.length := by
    by_cases h : 20 < l.length
    · exact ⟨20, by rw [hsn, if_pos (by omega)]; rfl, by omega, by omega⟩
    · exact ⟨l.length, by rw [hsn, if_neg (by omega)], by omega, by omega⟩
  obtain ⟨hN, n20, nl⟩ := hN
  rw [hN]
  refine Tr.nilSL 1 ?_
  refine en_lp (fun n u M => (fun (t : Slc) (i : Int) => ∃ (S : Spc) (xs : List Int), M = SLc t 1 (xs.map i64) :: HeapA p S (csOf l i.toNat) :: R ∧ Inv l S xs i.toNat ∧ t.n = i.toNat ∧ 0 ≤ i ∧ i ≤ N ∧ n = N - i.toNat) u.1 u.2.1) N ?_ ?_
  · exact ⟨Sp.newSpc 60, [], rfl, Inv.start l, rfl, by simp, by dsimp only; omega, by simp⟩
  · rintro n ⟨(t : Slc), (i : Int), ⟨⟩⟩ M ⟨S, xs, rfl, hI, htn, i0, i1, rfl⟩ X hX
    dsimp only at *
    refine en_br (fun h => ?_) (fun h => ?_)
    · replace h : i < (N : Int) := of_decide_eq_true h
      have hi : i.toNat < l.length := by omega
      have hx := hbd i.toNat hi
      obtain ⟨k1, k2, k3, k4⟩ := K_bd hx.1
      obtain ⟨a1, a2, a3, a4⟩ := hI.next hi (by omega) hx.1
      have hget : (l.map fun x => Value.int .u8 x)[i.toNat]? = some ((LK.int .u8).val (l.getD i.toNat 0)) := by
        rw [List.getElem?_map, List.getElem?_eq_getElem hi, List.getD_eq_getElem?_getD, List.getElem?_eq_getElem hi]; rfl
      generalize hx0 : l.getD i.toNat 0 = x at hx k1 k2 k3 k4 a1 a2 a3 a4 hget
      refine en_ixRo ro i0 (by omega) fun a0 ha => ?_
      refine en_ldRo (k := .int .u8) (j := i.toNat) (x := x) ha ro (by rintro b o rfl; simp [fa_mk]) hget ?_
      refine en_need (by decide) ?_
      have hK : IntKind.wrap .i64 (2 + Int.tmod (IntKind.wrap .i64 x) 20) = K x := by
        rw [wrap64 (n := x) (by omega) (by omega), Int.tmod_eq_emod_of_nonneg hx.1, wrap64 (by omega) (by omega)]; rfl
      rw [hK]
      refine HeapA.op (by repeat (first | apply Take.here | apply Take.skip)) fun ps pt => ?_
      refine en_drw (en_held [blk p [.pointer (some ⟨ps, 0, none⟩), .pointer (some ⟨pt, 0, none⟩)]] (by repeat (first | apply Takes.nil | (apply Takes.cons; focus (repeat (first | apply Take.here | apply Take.skip))))) ?_)
      refine en_nn (en_ldS (k := .ptr) (x := some ⟨pt, 0, none⟩) (by rw [fa_mk]) (by repeat (first | apply Take.here | apply Take.skip)) rfl ?_)
      refine en_ixRo ro i0 (by omega) fun ad had => ?_
      refine en_ldRoS (k := .int .u8) (j := i.toNat) (x := x) had ro (by rintro b o rfl; simp [fa_mk]) hget ?_
      refine en_need (by omega) ?_
      refine en_nw fun b13 => ?_
      refine en_chk (by repeat (first | apply Takes.nil | (apply Takes.cons; focus (repeat (first | apply Take.here | apply Take.skip))))) ?_
      have hM : Int.tmod (IntKind.wrap .i64 x) (K x) = x % K x := by rw [wrap64 (by omega) (by omega), Int.tmod_eq_emod_of_nonneg hx.1]
      rw [hM]
      refine Rd.bk (n := 1) (m := 1) rfl (by repeat (first | apply Take.here | apply Take.skip)) fun ρ' hle hro => ?_
      refine en_call (class_of pt (csOf l i.toNat) (K x) ⟨some ⟨b13, 0, none⟩, 1, 1⟩ [x % K x] hro (by show (1 : Nat) ≤ 2 ^ 30; omega)) (by repeat (first | apply Takes.nil | (apply Takes.cons; focus (repeat (first | apply Take.here | apply Take.skip))))) ?_
      rintro x' M ⟨rfl, rfl⟩
      try simp only [List.cons_append, List.nil_append]
      rw [show ((K x, [x % K x]) : Cls) = cl x from rfl, a1]
      refine Tr.close (by repeat (first | apply Takes.nil | (apply Takes.cons; focus (repeat (first | apply Take.here | apply Take.skip))))) (HeapA.cl (p := p) (ps := ps) (pt := pt) (S := S) (cs := csOf l (i.toNat + 1))) ?_
      dsimp only
      refine en_call (object_make p S (csOf l (i.toNat + 1)) a2 ⟨1, (i.toNat : Int) + 1, K x, false⟩) (by repeat (first | apply Takes.nil | (apply Takes.cons; focus (repeat (first | apply Take.here | apply Take.skip))))) ?_
      rintro x' M ⟨rfl, rfl⟩
      try simp only [List.cons_append, List.nil_append]
      rw [a3]
      have w1 : IntKind.wrap .i64 (i + 1) = i + 1 := wrap64 (by omega) (by omega)
      rw [w1]
      refine en_brf (by simp; omega) ?_
      iterate 2
        refine en_call (law_err _) .nil ?_
        rintro x' M ⟨rfl, rfl⟩
        try simp only [List.cons_append, List.nil_append]
      refine en_brf rfl (en_nw fun b18 => ?_)
      refine en_app (s := t) (x := ⟨some ⟨b18, 0, none⟩, 1, 1⟩) (ys := [i64 (Ob.make S (csOf l (i.toNat + 1)) ⟨1, (i.toNat : Int) + 1, K x, false⟩).1]) appInt (by repeat (first | apply Take.here | apply Take.skip)) (Rd.cl (by repeat (first | apply Take.here | apply Take.skip)) rfl rfl) rfl (by rw [htn]; dsimp only; omega) (by rw [htn]; dsimp only; omega) fun r hr => ?_
      refine Tr.drop (A := blk b18 [i64 (Ob.make S (csOf l (i.toNat + 1)) ⟨1, (i.toNat : Int) + 1, K x, false⟩).1]) (by repeat (first | apply Take.here | apply Take.skip)) ?_
      have e : xs.map i64 ++ [i64 (Ob.make S (csOf l (i.toNat + 1)) ⟨1, (i.toNat : Int) + 1, K x, false⟩).1] = (xs ++ [(Ob.make S (csOf l (i.toNat + 1)) ⟨1, (i.toNat : Int) + 1, K x, false⟩).1]).map i64 := by simp
      rw [e]
      refine Tr.weak (Le.refl _) hle ?_
      have e2 : (i + 1).toNat = i.toNat + 1 := by omega
      exact hX (N - (i + 1).toNat) _ _ (by omega) ⟨_, _, by dsimp only; rw [e2], by dsimp only; rw [e2]; exact a4, by dsimp only; rw [hr, htn, e2], by dsimp only; omega, by dsimp only; omega, rfl⟩
    · replace h : ¬ i < (N : Int) := of_decide_eq_false h
      have hiN : i.toNat = N := by omega
      rw [hiN] at hI htn ⊢
      obtain ⟨hw, _, _, hel, hxl, hhd⟩ := hI
      have hcl := csOf_len (l := l) (i := N) nl
      refine Tr.keepSL (s := t) (by repeat (first | apply Take.here | apply Take.skip)) fun ρ' hle hro => ?_
      refine en_lp (fun n u M => (fun i : Int => M = HeapA p S (csOf l N) :: R ∧ 0 ≤ i ∧ i ≤ N ∧ n = N - i.toNat) u.1) N ?_ ?_
      · exact ⟨rfl, by simp, by dsimp only; omega, by simp⟩
      · clear hX h i0 i1 hiN i
        rintro n ⟨(i : Int), ⟨⟩⟩ M ⟨rfl, i0, i1, rfl⟩ X hX
        dsimp only at *
        refine en_br (fun h => ?_) (fun h => ?_)
        · replace h : i < (N : Int) := of_decide_eq_true h
          have hi : i.toNat < l.length := by omega
          have hx := hbd i.toNat hi
          obtain ⟨k1, k2, k3, k4⟩ := K_bd hx.1
          have hh := hhd i.toNat (by omega)
          have hget : (l.map fun x => Value.int .u8 x)[i.toNat]? = some ((LK.int .u8).val (l.getD i.toNat 0)) := by
            rw [List.getElem?_map, List.getElem?_eq_getElem hi, List.getD_eq_getElem?_getD, List.getElem?_eq_getElem hi]; rfl
          have hci : (csOf l N)[i.toNat]? = some (cl (l.getD i.toNat 0)) := by
            unfold csOf
            rw [List.getElem?_map, List.getElem?_take, if_pos (by omega), List.getElem?_eq_getElem hi, List.getD_eq_getElem?_getD, List.getElem?_eq_getElem hi]; rfl
          generalize l.getD i.toNat 0 = x at hx k1 k2 k3 k4 hh hget hci
          have hK : IntKind.wrap .i64 (2 + Int.tmod (IntKind.wrap .i64 x) 20) = K x := by
            rw [wrap64 (n := x) (by omega) (by omega), Int.tmod_eq_emod_of_nonneg hx.1, wrap64 (by omega) (by omega)]; rfl
          have hM : Int.tmod (IntKind.wrap .i64 x) (K x) = x % K x := by rw [wrap64 (by omega) (by omega), Int.tmod_eq_emod_of_nonneg hx.1]
          refine en_ixRo (ro.le hle) i0 (by omega) fun a0 ha => ?_
          refine en_ldRo (k := .int .u8) (j := i.toNat) (x := x) ha (ro.le hle) (by rintro b o rfl; simp [fa_mk]) hget ?_
          refine en_need (by decide) ?_
          refine en_ixRo hro i0 (by omega) fun ad had => ?_
          refine en_ldRo (k := .int .i64) (j := i.toNat) (x := xs.getD i.toNat 0) had hro (by rintro b o rfl; simp [fa_mk]) (getD_map (by omega)) ?_
          have hgx : (xs.map i64)[i.toNat]? = some (i64 (xs.getD i.toNat 0)) := getD_map (by omega)
          generalize xs.getD i.toNat 0 = at0 at hh hgx ⊢
          refine en_call (object_head p S (csOf l N) hw at0) (by repeat (first | apply Takes.nil | (apply Takes.cons; focus (repeat (first | apply Take.here | apply Take.skip))))) ?_
          rintro x' M ⟨rfl, rfl⟩
          try simp only [List.cons_append, List.nil_append]
          rw [hh, hK]
          refine en_nw fun b13 => ?_
          rw [zcH]
          refine en_st (b := b13) (off := 0) rfl (by repeat (first | apply Take.here | apply Take.skip)) (by simp) rfl ?_
          have w1 : IntKind.wrap .i64 (i + 1) = i + 1 := wrap64 (by omega) (by omega)
          rw [w1]
          have hrefs : Ob.refs S (csOf l N) at0 = [x % K x] := by
            unfold Ob.refs
            rw [hh]
            dsimp only
            rw [if_pos rfl]
            have : Sp.clsAt (csOf l N) ((i.toNat : Int) + 1) = some (cl x) := by
              unfold Sp.clsAt
              rw [hcl, if_pos (by omega), show ((i.toNat : Int) + 1 - 1).toNat = i.toNat by omega, hci]
            rw [this]; rfl
          have hgo : ∀ {ρ2 : FR} {L2 : List Asn} (_ : Le ρ' ρ2) (_ : ∃ L3, Takes L2 [HeapA p S (csOf l N)] L3 ∧ L3 = R), Tr ρ ρ2 L2 (X (i + 1, ())) (SP RB (fun r M => r = true ∧ M = []) R) := by
            rintro ρ2 L2 hle2 ⟨L3, ht, rfl⟩
            refine Tr.perm ht.perm (Tr.weak hle hle2 ?_)
            exact hX (N - (i + 1).toNat) _ _ (by omega) ⟨rfl, by dsimp only; omega, by dsimp only; omega, rfl⟩
          refine en_jn (fun (u : LTs [.adr, .int .i64]) M => ∃ (b : Nat) (q : Slc), u.1 = ⟨b, 0, none⟩ ∧ (u.2.1 : Int) = 0 ∧ M = blk b [i64 (K x), .slice q.a q.n q.c] :: blk b13 [i64 1, i64 ((i.toNat : Int) + 1), i64 (K x), .bool false] :: HeapA p S (csOf l N) :: R) ?_ ?_
          · rintro ⟨(a : Addr), (g : Int), ⟨⟩⟩ M ⟨b, q, rfl, rfl, rfl⟩
            refine en_drw (en_held [blk b [i64 (K x), .slice q.a q.n q.c], blk b13 [i64 1, i64 ((i.toNat : Int) + 1), i64 (K x), .bool false]] (by repeat (first | apply Takes.nil | (apply Takes.cons; focus (repeat (first | apply Take.here | apply Take.skip))))) ?_)
            refine en_call (law_err _) .nil ?_
            rintro x' M ⟨rfl, rfl⟩
            try simp only [List.cons_append, List.nil_append]
            refine en_chk (by repeat (first | apply Takes.nil | (apply Takes.cons; focus (repeat (first | apply Take.here | apply Take.skip))))) ?_
            refine en_call (law_err _) .nil ?_
            rintro x' M ⟨rfl, rfl⟩
            try simp only [List.cons_append, List.nil_append]
            refine en_chk (by repeat (first | apply Takes.nil | (apply Takes.cons; focus (repeat (first | apply Take.here | apply Take.skip))))) (en_brf rfl ?_)
            refine en_ldS (k := .int .i64) (b := b13) (off := 1) (x := (i.toNat : Int) + 1) (by rw [fa_mk]) (by repeat (first | apply Take.here | apply Take.skip)) rfl (en_brf (by simp; omega) ?_)
            refine en_ldS (k := .int .i64) (b := b13) (off := 2) (x := K x) (by rw [fa_mk]) (by repeat (first | apply Take.here | apply Take.skip)) rfl (en_brf (by simp) ?_)
            refine en_ldS (k := .int .i64) (b := b) (off := 0) (x := K x) (by rw [fa_mk]) (by repeat (first | apply Take.here | apply Take.skip)) rfl (en_brf (by simp) ?_)
            refine en_ixRo hro i0 (by omega) fun ae hae => ?_
            refine en_ldRoS (k := .int .i64) (j := i.toNat) (x := at0) hae hro (by rintro b o rfl; simp [fa_mk]) hgx ?_
            refine en_ixRo (ro.le hle) i0 (by omega) fun af haf => ?_
            refine en_ldRoS (k := .int .u8) (j := i.toNat) (x := x) haf (ro.le hle) (by rintro b o rfl; simp [fa_mk]) hget ?_
            refine en_need (by omega) ?_
            rw [hM]
            refine en_both ?_ ?_
            · refine en_call (object_refs p S (csOf l N) hw at0) (by repeat (first | apply Takes.nil | (apply Takes.cons; focus (repeat (first | apply Take.here | apply Take.skip))))) ?_
              rintro r M ⟨hrn, rfl⟩
              try simp only [List.cons_append, List.nil_append]
              rw [hrefs]
              refine en_chk (by repeat (first | apply Takes.nil | (apply Takes.cons; focus (repeat (first | apply Take.here | apply Take.skip))))) (en_nw fun b27 => ?_)
              refine en_chk (by repeat (first | apply Takes.nil | (apply Takes.cons; focus (repeat (first | apply Take.here | apply Take.skip))))) ?_
              refine Tr.keepSL (s := r) (by repeat (first | apply Take.here | apply Take.skip)) fun ρ1 hl1 ro1 => ?_
              refine Rd.bk (b := b27) (n := 1) (m := 1) (vs := [i64 (x % K x)]) rfl (by repeat (first | apply Take.here | apply Take.skip)) fun ρ2 hl2 ro2 => ?_
              refine en_call (same_ints r ⟨some ⟨b27, 0, none⟩, 1, 1⟩ [x % K x] [x % K x] (ro1.le hl2) ro2 (by show (1 : Nat) < 2 ^ 62; omega)) .nil ?_
              rintro x' M ⟨rfl, rfl⟩
              try simp only [List.cons_append, List.nil_append]
              refine en_brf (by simp) ?_
              refine Tr.drop (A := blk b [i64 (K x), .slice q.a q.n q.c]) (by repeat (first | apply Take.here | apply Take.skip)) (Tr.drop (A := blk b13 [i64 1, i64 ((i.toNat : Int) + 1), i64 (K x), .bool false]) (by repeat (first | apply Take.here | apply Take.skip)) ?_)
              exact hgo (hl1.trans hl2) ⟨_, (by repeat (first | apply Takes.nil | (apply Takes.cons; focus (repeat (first | apply Take.here | apply Take.skip))))), rfl⟩
            · refine en_nw fun b27 => ?_
              refine en_chk (by repeat (first | apply Takes.nil | (apply Takes.cons; focus (repeat (first | apply Take.here | apply Take.skip))))) ?_
              refine en_call (object_refs p S (csOf l N) hw at0) (by repeat (first | apply Takes.nil | (apply Takes.cons; focus (repeat (first | apply Take.here | apply Take.skip))))) ?_
              rintro r M ⟨hrn, rfl⟩
              try simp only [List.cons_append, List.nil_append]
              rw [hrefs]
              refine en_chk (by repeat (first | apply Takes.nil | (apply Takes.cons; focus (repeat (first | apply Take.here | apply Take.skip))))) ?_
              refine Tr.keepSL (s := r) (by repeat (first | apply Take.here | apply Take.skip)) fun ρ1 hl1 ro1 => ?_
              refine Rd.bk (b := b27) (n := 1) (m := 1) (vs := [i64 (x % K x)]) rfl (by repeat (first | apply Take.here | apply Take.skip)) fun ρ2 hl2 ro2 => ?_
              refine en_call (same_ints r ⟨some ⟨b27, 0, none⟩, 1, 1⟩ [x % K x] [x % K x] (ro1.le hl2) ro2 (by show (1 : Nat) < 2 ^ 62; omega)) .nil ?_
              rintro x' M ⟨rfl, rfl⟩
              try simp only [List.cons_append, List.nil_append]
              refine en_brf (by simp) ?_
              refine Tr.drop (A := blk b [i64 (K x), .slice q.a q.n q.c]) (by repeat (first | apply Take.here | apply Take.skip)) (Tr.drop (A := blk b13 [i64 1, i64 ((i.toNat : Int) + 1), i64 (K x), .bool false]) (by repeat (first | apply Take.here | apply Take.skip)) ?_)
              exact hgo (hl1.trans hl2) ⟨_, (by repeat (first | apply Takes.nil | (apply Takes.cons; focus (repeat (first | apply Take.here | apply Take.skip))))), rfl⟩
          · intro J hJ
            refine HeapA.op (by repeat (first | apply Take.here | apply Take.skip)) fun ps pt => ?_
            change Tr _ _ (_ :: _ :: _ :: blk b13 [i64 1, i64 ((i.toNat : Int) + 1), i64 (K x), .bool false] :: R) _ _
            refine en_drw (en_held [blk p [.pointer (some ⟨ps, 0, none⟩), .pointer (some ⟨pt, 0, none⟩)], blk b13 [i64 1, i64 ((i.toNat : Int) + 1), i64 (K x), .bool false]] (by repeat (first | apply Takes.nil | (apply Takes.cons; focus (repeat (first | apply Take.here | apply Take.skip))))) ?_)
            refine en_nn (en_ldS (k := .ptr) (b := p) (x := some ⟨pt, 0, none⟩) (by rw [fa_mk]) (by repeat (first | apply Take.here | apply Take.skip)) rfl ?_)
            refine en_ldS (k := .int .i64) (b := b13) (off := 1) (x := (i.toNat : Int) + 1) (by rw [fa_mk]) (by repeat (first | apply Take.here | apply Take.skip)) rfl ?_
            refine en_both ?_ ?_
            · refine en_call (class_class pt (csOf l N) i.toNat (cl x) hci (by omega) (by show (1 : Nat) ≤ 2 ^ 30; omega)) (by repeat (first | apply Takes.nil | (apply Takes.cons; focus (repeat (first | apply Take.here | apply Take.skip))))) ?_
              rintro x' M ⟨q, rfl, hq, rfl⟩
              try simp only [List.cons_append, List.nil_append]
              refine en_nw fun b37 => ?_
              rw [zcC]
              refine en_st (b := b37) (off := 0) rfl (by repeat (first | apply Take.here | apply Take.skip)) (by simp) rfl ?_
              refine Tr.close (by repeat (first | apply Takes.nil | (apply Takes.cons; focus (repeat (first | apply Take.here | apply Take.skip))))) (HeapA.cl (p := p) (ps := ps) (pt := pt) (S := S) (cs := csOf l N)) ?_
              refine Tr.drop (A := SLc q 1 ((cl x).2.map i64)) (by repeat (first | apply Take.here | apply Take.skip)) ?_
              refine Tr.take (A := blk b13 [i64 1, i64 ((i.toNat : Int) + 1), i64 (K x), .bool false]) (by repeat (first | apply Take.here | apply Take.skip)) (Tr.take (A := blk b37 [i64 (K x), .slice q.a q.n q.c]) (by repeat (first | apply Take.here | apply Take.skip)) ?_)
              exact hJ _ _ ⟨b37, q, rfl, rfl, rfl⟩
            · refine en_nw fun b37 => ?_
              rw [zcC]
              refine en_chk (by repeat (first | apply Takes.nil | (apply Takes.cons; focus (repeat (first | apply Take.here | apply Take.skip))))) ?_
              refine en_call (class_class pt (csOf l N) i.toNat (cl x) hci (by omega) (by show (1 : Nat) ≤ 2 ^ 30; omega)) (by repeat (first | apply Takes.nil | (apply Takes.cons; focus (repeat (first | apply Take.here | apply Take.skip))))) ?_
              rintro x' M ⟨q, rfl, hq, rfl⟩
              try simp only [List.cons_append, List.nil_append]
              refine en_st (b := b37) (off := 0) rfl (by repeat (first | apply Take.here | apply Take.skip)) (by simp) rfl ?_
              refine Tr.close (by repeat (first | apply Takes.nil | (apply Takes.cons; focus (repeat (first | apply Take.here | apply Take.skip))))) (HeapA.cl (p := p) (ps := ps) (pt := pt) (S := S) (cs := csOf l N)) ?_
              refine Tr.drop (A := SLc q 1 ((cl x).2.map i64)) (by repeat (first | apply Take.here | apply Take.skip)) ?_
              refine Tr.take (A := blk b13 [i64 1, i64 ((i.toNat : Int) + 1), i64 (K x), .bool false]) (by repeat (first | apply Take.here | apply Take.skip)) (Tr.take (A := blk b37 [i64 (K x), .slice q.a q.n q.c]) (by repeat (first | apply Take.here | apply Take.skip)) ?_)
              exact hJ _ _ ⟨b37, q, rfl, rfl, rfl⟩
        · replace h : ¬ i < (N : Int) := of_decide_eq_false h
          refine en_nn (HeapA.op (by repeat (first | apply Take.here | apply Take.skip)) fun ps pt => ?_)
          refine en_ld (k := .ptr) (b := p) (x := some ⟨pt, 0, none⟩) (by rw [fa_mk]) (by repeat (first | apply Take.here | apply Take.skip)) rfl ?_
          refine en_call (class_classes pt (csOf l N)) (by repeat (first | apply Takes.nil | (apply Takes.cons; focus (repeat (first | apply Take.here | apply Take.skip))))) ?_
          rintro x' M ⟨rfl, rfl⟩
          try simp only [List.cons_append, List.nil_append]
          rw [hcl]
          refine Tr.close (by repeat (first | apply Takes.nil | (apply Takes.cons; focus (repeat (first | apply Take.here | apply Take.skip))))) (HeapA.cl (p := p) (ps := ps) (pt := pt) (S := S) (cs := csOf l N)) ?_
          refine en_brt (by simp) ?_
          refine en_call (object_objects p S (csOf l N) hw) (by repeat (first | apply Takes.nil | (apply Takes.cons; focus (repeat (first | apply Take.here | apply Take.skip))))) ?_
          rintro r M ⟨rfl, hrn⟩
          try simp only [List.cons_append, List.nil_append]
          rw [objs_len, hel] at hrn
          refine en_brt (by rw [hrn]; simp) ?_
          refine en_call (law_awake) (by repeat (first | apply Takes.nil | (apply Takes.cons; focus (repeat (first | apply Take.here | apply Take.skip))))) ?_
          rintro x' M ⟨rfl, rfl⟩
          try simp only [List.cons_append, List.nil_append]
          exact en_rets (x := true) rfl ⟨rfl, rfl⟩ (by repeat (first | apply Takes.nil | (apply Takes.cons; focus (repeat (first | apply Take.here | apply Take.skip))))) (by repeat (first | apply Ends.refl | apply Ends.skip))

end Go.Proofs.Ytncpnmpfghppeaa
