/- Objects: Make, Head, Field, Put, Final: contracts. -/
import Derived.Test.YtncpnmpfghppeaaGlObj
set_option linter.unusedSimpArgs false
set_option linter.unusedVariables false
namespace Go.Proofs.Ytncpnmpfghppeaa
open Go Go.Gl
variable {ρ0 ρ : FR} {L L' : List Asn} {Post : Value → List Asn → Prop} {T : Tree}

theorem space_store (ps : Nat) (S : Spc) (a x : Int) {T : Tree} {k : Int → Tree} (ha : 0 ≤ a ∧ a < S.ws.length) (t : Take L (SpaceA ps S) L')
    (h : Tr ρ0 ρ (SpaceA ps ⟨S.ws.set a.toNat x, S.pg⟩ :: L') (k 0) Post) :
    Tr ρ0 ρ L (nn (some ⟨ps, 0, none⟩) fun a3 => ldL .ptr (fa a3 0) fun x4 : Option Addr => call Try.prog 42 [.pointer x4, .int .i64 a, .int .i64 x] R1 k) Post := by
  refine Tr.take t ?_
  refine en_nn (SpaceA.op .here fun pa pp ms ml ls ll hS hL nS nL => ?_)
  refine en_ld (k := .ptr) (x := some ⟨pa, 0, none⟩) (by rw [fa_mk]) tk rfl ?_
  refine en_call (arena_store pa S.ws a x) tks ?_
  rintro r M ⟨rfl, rfl⟩
  try simp only [List.cons_append, List.nil_append]
  have e1 : Sp.storeE S.ws a = 0 := by unfold Sp.storeE; rw [if_pos ha]
  have e2 : Sp.store S.ws a x = S.ws.set a.toNat x := by unfold Sp.store; rw [if_pos ha]
  rw [e1, e2]
  refine Tr.close tks (SpaceA.cl (p := ps) (pa := pa) (pp := pp) (ms := ms) (ml := ml) (S := ⟨S.ws.set a.toNat x, S.pg⟩) hS hL) ?_
  exact h
theorem space_load (ps : Nat) (S : Spc) (a : Int) {k : RT P2 → Tree} (ha : 0 ≤ a ∧ a < S.ws.length) (t : Take L (SpaceA ps S) L')
    (h : Tr ρ0 ρ (SpaceA ps S :: L') (k (S.ws.getD a.toNat 0, 0, ())) Post) :
    Tr ρ0 ρ L (nn (some ⟨ps, 0, none⟩) fun a3 => ldL .ptr (fa a3 0) fun x4 : Option Addr => call Try.prog 49 [.pointer x4, .int .i64 a] P2 k) Post := by
  refine Tr.take t ?_
  refine en_nn (SpaceA.op .here fun pa pp ms ml ls ll hS hL nS nL => ?_)
  refine en_ld (k := .ptr) (x := some ⟨pa, 0, none⟩) (by rw [fa_mk]) tk rfl ?_
  refine en_call (arena_load pa S.ws a) tks ?_
  rintro r M ⟨rfl, rfl⟩
  try simp only [List.cons_append, List.nil_append]
  have e1 : Sp.load S.ws a = (S.ws.getD a.toNat 0, 0, ()) := by unfold Sp.load; rw [if_pos ha]
  rw [e1]
  refine Tr.close tks (SpaceA.cl (p := ps) (pa := pa) (pp := pp) (ms := ms) (ml := ml) hS hL) ?_
  exact h

theorem Sp.alloc_ok {S : Spc} (hw : Wf S) {w : Int} (h : (Sp.alloc S w).2.1 = 0) : ∃ a n : Nat, (Sp.alloc S w).1 = a ∧ Sp.blk w = n ∧ 2 ≤ n ∧ n ≤ 1024 ∧ a + n ≤ S.ws.length ∧ (Sp.alloc S w).2.2.ws = Sp.clr S.ws a n ∧ (Sp.alloc S w).2.2.ws.length = S.ws.length := by
  unfold Sp.alloc at h ⊢
  split at h
  · cases h
  · rename_i hb
    rw [if_neg hb]
    split at h
    · rename_i h0
      rw [if_pos h0]
      rcases Sp.place_fit hw hb with hp | ⟨_, a, n, ha, hn, n1, n2, n3⟩
      · rw [hp] at h0; cases h0
      · refine ⟨a, n, ha, hn, n1, n2, n3, by dsimp only; rw [ha, hn, Int.toNat_natCast, Int.toNat_natCast], ?_⟩
        dsimp only; rw [ha, hn, Int.toNat_natCast, Int.toNat_natCast]; exact clr_len n3
    · rename_i h0; exact absurd h h0
theorem Sp.alloc_err {S : Spc} {w : Int} (h : (Sp.alloc S w).2.1 ≠ 0) : (Sp.alloc S w).2.2 = S := by
  unfold Sp.alloc at h ⊢
  split
  · rfl
  · rename_i hb
    rw [if_neg hb] at h
    split
    · rename_i h0; rw [if_pos h0] at h; exact absurd rfl h
    · rfl

/-- an object is made: its address, an error, the space behind it -/
def Ob.make (S : Spc) (cs : List Cls) (h : Hd) : Int × Int × Spc :=
  if Ob.may cs h ≠ 0 then (0, Ob.may cs h, S)
  else if (Sp.alloc S (h.n + 1)).2.1 ≠ 0 then (0, (Sp.alloc S (h.n + 1)).2.1, S)
  else ((Sp.alloc S (h.n + 1)).1, 0, ⟨(Sp.alloc S (h.n + 1)).2.2.ws.set (Sp.alloc S (h.n + 1)).1.toNat (Sp.putH h), (Sp.alloc S (h.n + 1)).2.2.pg⟩)

theorem Ob.may_ok {cs : List Cls} {h : Hd} (hm : Ob.may cs h = 0) : Sp.mayH h = true ∧ h.f = false := by
  unfold Ob.may at hm
  split at hm
  · cases hm
  · rename_i hc
    constructor
    · cases hh : Sp.mayH h with
      | true => rfl
      | false => exact absurd (.inl hh) hc
    · cases hh : h.f with
      | false => rfl
      | true => exact absurd (.inr hh) hc

theorem object_make (p : Nat) (S : Spc) (cs : List Cls) (hw : HWf S cs) (h : Hd) : Gl.Spec ρ Try.prog 14 [.pointer (some ⟨p, 0, none⟩), hval h] [HeapA p S cs] P2
    fun r M => r = ((Ob.make S cs h).1, (Ob.make S cs h).2.1, ()) ∧ M = [HeapA p (Ob.make S cs h).2.2 cs] := by
  refine Spec.of (fun Q w hh => F.object.Heap.Make.calls (some ⟨p, 0, none⟩) h.t hh) fun R => ?_
  obtain ⟨k, c, n, f⟩ := h
  unfold F.object.Heap.Make
  try simp only [List.cons_append, List.nil_append]
  refine en_nw fun b1 => ?_
  refine en_brf rfl ?_
  refine en_ldg (b := b1) (x := (k, c, n, f, ())) [] rfl tk rfl ?_
  refine en_call (object_may p S cs hw ⟨k, c, n, f⟩) tks ?_
  rintro x M ⟨rfl, rfl⟩
  try simp only [List.cons_append, List.nil_append]
  refine en_br (fun h1 => ?_) (fun h1 => ?_)
  · have h1 : Ob.may cs ⟨k, c, n, f⟩ ≠ 0 := by simpa using h1
    have e : Ob.make S cs ⟨k, c, n, f⟩ = (0, Ob.may cs ⟨k, c, n, f⟩, S) := by unfold Ob.make; rw [if_pos h1]
    rw [e]
    exact en_rets (x := ((0 : Int), Ob.may cs ⟨k, c, n, f⟩, ())) rfl ⟨rfl, rfl⟩ tks ens
  · have h1 : Ob.may cs ⟨k, c, n, f⟩ = 0 := by simpa using h1
    obtain ⟨hm, hf⟩ := Ob.may_ok h1
    have hb := Sp.mayH_is hm
    dsimp only at hb
    refine HeapA.op tk fun ps pt => ?_
    refine en_drw (en_held [blk p [.pointer (some ⟨ps, 0, none⟩), .pointer (some ⟨pt, 0, none⟩)], blk b1 [.int .i64 k, .int .i64 c, .int .i64 n, .bool f]] tks ?_)
    refine en_nn (en_ldS (k := .ptr) (x := some ⟨ps, 0, none⟩) (by rw [fa_mk]) tk rfl ?_)
    refine en_ldS (k := .int .i64) (b := b1) (x := n) (by rw [fa_mk]) tk rfl ?_
    rw [wrap64 (by omega) (by omega)]
    refine en_call (space_alloc ps S hw.wf (n + 1)) tks ?_
    rintro x M ⟨rfl, rfl⟩
    try simp only [List.cons_append, List.nil_append]
    refine en_br (fun h2 => ?_) (fun h2 => ?_)
    · have h2 : (Sp.alloc S (n + 1)).2.1 ≠ 0 := by simpa using h2
      have e : Ob.make S cs ⟨k, c, n, f⟩ = (0, (Sp.alloc S (n + 1)).2.1, S) := by unfold Ob.make; rw [if_neg (by simp [h1]), if_pos h2]
      rw [e, Sp.alloc_err h2]
      refine Tr.close tks (HeapA.cl (p := p) (ps := ps) (pt := pt) (S := S) (cs := cs)) ?_
      exact en_rets (x := ((0 : Int), (Sp.alloc S (n + 1)).2.1, ())) rfl ⟨rfl, rfl⟩ tks ens
    · have h2 : (Sp.alloc S (n + 1)).2.1 = 0 := by simpa using h2
      have e : Ob.make S cs ⟨k, c, n, f⟩ = ((Sp.alloc S (n + 1)).1, 0, ⟨(Sp.alloc S (n + 1)).2.2.ws.set (Sp.alloc S (n + 1)).1.toNat (Sp.putH ⟨k, c, n, f⟩), (Sp.alloc S (n + 1)).2.2.pg⟩) := by
        unfold Ob.make; rw [if_neg (by simp [h1]), if_neg (by simp [h2])]
      rw [e]
      obtain ⟨a, m, ha, hm2, m1, m2, m3, m4, m5⟩ := Sp.alloc_ok hw.wf h2
      refine en_ldg (b := b1) (x := (k, c, n, f, ())) [] rfl tk rfl ?_
      refine en_call (head_put ⟨k, c, n, f⟩) tks ?_
      rintro x M ⟨rfl, rfl⟩
      try simp only [List.cons_append, List.nil_append]
      rw [if_pos hm]
      refine en_nn ?_
      refine en_ld (k := .ptr) (b := p) (x := some ⟨ps, 0, none⟩) (by rw [fa_mk]) tk rfl ?_
      refine space_store ps (Sp.alloc S (n + 1)).2.2 (Sp.alloc S (n + 1)).1 (Sp.putH ⟨k, c, n, f⟩) (T := bad) (by omega) tk ?_
      refine Tr.close tks (HeapA.cl (p := p) (ps := ps) (pt := pt) (S := ⟨(Sp.alloc S (n + 1)).2.2.ws.set (Sp.alloc S (n + 1)).1.toNat (Sp.putH ⟨k, c, n, f⟩), (Sp.alloc S (n + 1)).2.2.pg⟩) (cs := cs)) ?_
      exact en_rets (x := ((Sp.alloc S (n + 1)).1, (0 : Int), ())) rfl ⟨rfl, rfl⟩ tks ens

/-- the head of an object -/
def Ob.head (S : Spc) (a : Int) : Option Hd := match Sp.find S a with
  | some (s, _) => if (s : Int) = a then some (Sp.getH (S.ws.getD s 0)) else none | none => none
def Ob.headR : Option Hd → RT HE
  | some h => (h.t, (0 : Int), ()) | none => (((0 : Int), (0 : Int), (0 : Int), false, ()), (2 : Int), ())

theorem Ob.head_is {S : Spc} {cs : List Cls} (hw : HWf S cs) {a : Int} {h : Hd} (hh : Ob.head S a = some h) : ∃ n w : Nat, a = n ∧ Sp.find S n = some (n, w) ∧ S.ws.getD n 0 = Sp.putH h ∧ Sp.mayH h = true ∧ h.n + 1 ≤ w ∧ n + w ≤ S.ws.length := by
  unfold Ob.head at hh
  split at hh
  · rename_i s w hf
    split at hh
    · rename_i e
      subst e
      injection hh with hh
      obtain ⟨h', h1, h2, h3⟩ := hw.obj s w hf
      rw [h2, Sp.getH_put h1] at hh
      subst hh
      refine ⟨s, w, rfl, hf, h2, h1, h3, ?_⟩
      obtain ⟨hn, hcase⟩ := Sp.find_at hw.wf hf rfl
      have hlen := hw.wf.len
      rcases hcase with ⟨c, l, k, g1, g2, g3, g4, g5, g6, g7⟩ | ⟨k, g1, g2, g3⟩
      · have hk : k < l.length := by
          rcases Nat.lt_or_ge k l.length with c | c
          · exact c
          · rw [List.getD_eq_getElem?_getD, List.getElem?_eq_none c] at g5; cases g5
        have := sz_fit g2 hk g3
        have := getElem?_lt g1
        omega
      · have := (hw.wf.head _ _ g1).2.2.1
        omega
    · cases hh
  · cases hh

theorem object_head (p : Nat) (S : Spc) (cs : List Cls) (hw : HWf S cs) (a : Int) : Gl.Spec ρ Try.prog 22 [.pointer (some ⟨p, 0, none⟩), i64 a] [HeapA p S cs] HE
    fun r M => r = Ob.headR (Ob.head S a) ∧ M = [HeapA p S cs] := by
  refine Spec.of (fun Q w hh => F.object.Heap.Head.calls (some ⟨p, 0, none⟩) a hh) fun R => ?_
  unfold F.object.Heap.Head
  try simp only [List.cons_append, List.nil_append]
  refine en_nw fun b1 => ?_
  rw [zcH]
  refine en_brf rfl (en_nn (HeapA.op tk fun ps pt => ?_))
  refine en_ld (k := .ptr) (b := p) (x := some ⟨ps, 0, none⟩) (by rw [fa_mk]) tk rfl ?_
  refine en_call (space_find ps S hw.wf a) tks ?_
  rintro x M ⟨rfl, rfl⟩
  try simp only [List.cons_append, List.nil_append]
  cases hf : Sp.find S a with
  | none =>
    have e : Ob.head S a = none := by unfold Ob.head; rw [hf]
    rw [e]
    refine en_brt rfl ?_
    refine en_st (b := b1) (off := 0) rfl tk (by simp) rfl ?_
    refine en_ldg (b := b1) (x := ((0 : Int), (0 : Int), (0 : Int), false, ())) [] rfl tk rfl ?_
    refine Tr.close tks (HeapA.cl (p := p) (ps := ps) (pt := pt) (S := S) (cs := cs)) ?_
    exact en_rets (x := Ob.headR none) rfl ⟨rfl, rfl⟩ tks ens
  | some x =>
    obtain ⟨s, w⟩ := x
    refine en_brf rfl (en_br (fun h => ?_) (fun h => ?_))
    · have h : ¬ (s : Int) = a := by simpa [Sp.found] using h
      have e : Ob.head S a = none := by unfold Ob.head; rw [hf]; dsimp only; rw [if_neg h]
      rw [e]
      refine en_st (b := b1) (off := 0) rfl tk (by simp) rfl ?_
      refine en_ldg (b := b1) (x := ((0 : Int), (0 : Int), (0 : Int), false, ())) [] rfl tk rfl ?_
      refine Tr.close tks (HeapA.cl (p := p) (ps := ps) (pt := pt) (S := S) (cs := cs)) ?_
      exact en_rets (x := Ob.headR none) rfl ⟨rfl, rfl⟩ tks ens
    · have h : (s : Int) = a := by simpa [Sp.found] using h
      have e : Ob.head S a = some (Sp.getH (S.ws.getD s 0)) := by unfold Ob.head; rw [hf]; dsimp only; rw [if_pos h]
      obtain ⟨n, w', rfl, g1, g2, g3, g4, g5⟩ := Ob.head_is hw e
      have hsn : s = n := by omega
      subst hsn
      rw [e]
      generalize Sp.getH (S.ws.getD s 0) = hd at g2 g3 g4 ⊢
      have hb := Sp.mayH_is g3
      refine en_nn ?_
      refine en_ld (k := .ptr) (b := p) (x := some ⟨ps, 0, none⟩) (by rw [fa_mk]) tk rfl ?_
      refine space_load ps S (s : Int) (by omega) tk ?_
      rw [Int.toNat_natCast, g2]
      refine en_brf rfl ?_
      refine en_call (head_get hd g3) tks ?_
      rintro x M ⟨rfl, rfl⟩
      try simp only [List.cons_append, List.nil_append]
      refine en_nw fun b2 => ?_
      refine en_st (b := b2) (off := 0) rfl tk (by simp) rfl (en_brf rfl ?_)
      refine en_ldg (b := b2) (x := hd.t) [] rfl tk rfl ?_
      refine en_st (b := b1) (off := 0) rfl tk (by simp) rfl ?_
      refine en_ldg (b := b1) (x := hd.t) [] rfl tk rfl ?_
      refine Tr.close tks (HeapA.cl (p := p) (ps := ps) (pt := pt) (S := S) (cs := cs)) ?_
      exact en_rets (x := Ob.headR (some hd)) rfl ⟨rfl, rfl⟩ tks ens

/-- the place of a field, and an error -/
def Ob.fieldAt (S : Spc) (a i : Int) : Int × Int := match Ob.head S a with
  | none => (0, 2) | some h => if i < 0 ∨ i ≥ h.n then (0, 1) else (a + 1 + i, 0)

theorem Ob.fieldAt_ok {S : Spc} {cs : List Cls} (hw : HWf S cs) {a i : Int} (h : (Ob.fieldAt S a i).2 = 0) : ∃ hd, Ob.head S a = some hd ∧ 0 ≤ i ∧ i < hd.n ∧ (Ob.fieldAt S a i).1 = a + 1 + i ∧ 0 ≤ a ∧ a + 1 + i < S.ws.length := by
  unfold Ob.fieldAt at h ⊢
  cases hh : Ob.head S a with
  | none => rw [hh] at h; cases h
  | some hd =>
    rw [hh] at h
    dsimp only at h ⊢
    split at h
    · cases h
    · rename_i hc
      obtain ⟨n, w, rfl, _, _, _, g4, g5⟩ := Ob.head_is hw hh
      rw [if_neg hc]
      exact ⟨hd, rfl, by omega, by omega, rfl, by omega, by omega⟩

theorem object_field (p : Nat) (S : Spc) (cs : List Cls) (hw : HWf S cs) (a i : Int) : Gl.Spec ρ Try.prog 48 [.pointer (some ⟨p, 0, none⟩), i64 a, i64 i] [HeapA p S cs] P2
    fun r M => r = ((Ob.fieldAt S a i).1, (Ob.fieldAt S a i).2, ()) ∧ M = [HeapA p S cs] := by
  have hm := hw.wf.most
  have hl := hw.wf.len
  refine Spec.of (fun Q w hh => F.object.Heap.field.calls (some ⟨p, 0, none⟩) a i hh) fun R => ?_
  unfold F.object.Heap.field
  try simp only [List.cons_append, List.nil_append]
  refine en_call (object_head p S cs hw a) tks ?_
  rintro x M ⟨rfl, rfl⟩
  try simp only [List.cons_append, List.nil_append]
  refine en_nw fun b2 => ?_
  rw [zcH]
  cases hh : Ob.head S a with
  | none =>
    have e : Ob.fieldAt S a i = (0, 2) := by unfold Ob.fieldAt; rw [hh]
    rw [e]
    refine en_st (b := b2) (off := 0) rfl tk (by simp) rfl (en_brt rfl ?_)
    exact en_rets (x := ((0 : Int), (2 : Int), ())) rfl ⟨rfl, rfl⟩ tks ens
  | some hd =>
    obtain ⟨n, w, rfl, _, _, g3, g4, g5⟩ := Ob.head_is hw hh
    have hb := Sp.mayH_is g3
    refine en_st (b := b2) (off := 0) rfl tk (by simp) rfl (en_brf rfl ?_)
    refine en_br (fun h1 => ?_) (fun h1 => ?_)
    · have h1 := of_decide_eq_true h1
      have e : Ob.fieldAt S n i = (0, 1) := by unfold Ob.fieldAt; rw [hh]; dsimp only; rw [if_pos (.inl h1)]
      rw [e]
      exact en_rets (x := ((0 : Int), (1 : Int), ())) rfl ⟨rfl, rfl⟩ tks ens
    · have h1 := of_decide_eq_false h1
      refine en_ld (k := .int .i64) (b := b2) (off := 2) (x := hd.n) (by rw [fa_mk]) tk rfl ?_
      refine en_br (fun h2 => ?_) (fun h2 => ?_)
      · have h2 := of_decide_eq_true h2
        have e : Ob.fieldAt S n i = (0, 1) := by unfold Ob.fieldAt; rw [hh]; dsimp only; rw [if_pos (.inr h2)]
        rw [e]
        exact en_rets (x := ((0 : Int), (1 : Int), ())) rfl ⟨rfl, rfl⟩ tks ens
      · have h2 := of_decide_eq_false h2
        have e : Ob.fieldAt S n i = ((n : Int) + 1 + i, 0) := by unfold Ob.fieldAt; rw [hh]; dsimp only; rw [if_neg (by rintro (h | h) <;> omega)]
        rw [e, wrap64 (n := (n : Int) + 1) (by omega) (by omega), wrap64 (by omega) (by omega)]
        exact en_rets (x := ((n : Int) + 1 + i, (0 : Int), ())) rfl ⟨rfl, rfl⟩ tks ens

/-- a field, and an error -/
def Ob.get (S : Spc) (a i : Int) : Int × Int := if (Ob.fieldAt S a i).2 ≠ 0 then (0, (Ob.fieldAt S a i).2) else (S.ws.getD (Ob.fieldAt S a i).1.toNat 0, 0)
/-- a field is put: an error, the space behind it -/
def Ob.put (S : Spc) (a i x : Int) : Int × Spc := if (Ob.fieldAt S a i).2 ≠ 0 then ((Ob.fieldAt S a i).2, S) else (0, ⟨S.ws.set (Ob.fieldAt S a i).1.toNat x, S.pg⟩)

theorem object_get (p : Nat) (S : Spc) (cs : List Cls) (hw : HWf S cs) (a i : Int) : Gl.Spec ρ Try.prog 21 [.pointer (some ⟨p, 0, none⟩), i64 a, i64 i] [HeapA p S cs] P2
    fun r M => r = ((Ob.get S a i).1, (Ob.get S a i).2, ()) ∧ M = [HeapA p S cs] := by
  refine Spec.of (fun Q w hh => F.object.Heap.Field.calls (some ⟨p, 0, none⟩) a i hh) fun R => ?_
  unfold F.object.Heap.Field
  try simp only [List.cons_append, List.nil_append]
  refine en_call (object_field p S cs hw a i) tks ?_
  rintro x M ⟨rfl, rfl⟩
  try simp only [List.cons_append, List.nil_append]
  refine en_br (fun h => ?_) (fun h => ?_)
  · have h : (Ob.fieldAt S a i).2 ≠ 0 := by simpa using h
    have e : Ob.get S a i = (0, (Ob.fieldAt S a i).2) := by unfold Ob.get; rw [if_pos h]
    rw [e]
    exact en_rets (x := ((0 : Int), (Ob.fieldAt S a i).2, ())) rfl ⟨rfl, rfl⟩ tks ens
  · have h : (Ob.fieldAt S a i).2 = 0 := by simpa using h
    have e : Ob.get S a i = (S.ws.getD (Ob.fieldAt S a i).1.toNat 0, 0) := by unfold Ob.get; rw [if_neg (by simp [h])]
    obtain ⟨hd, h1, h2, h3, h4, h5, h6⟩ := Ob.fieldAt_ok hw h
    rw [e]
    refine en_nn (HeapA.op tk fun ps pt => ?_)
    refine en_ld (k := .ptr) (b := p) (x := some ⟨ps, 0, none⟩) (by rw [fa_mk]) tk rfl ?_
    refine space_load ps S (Ob.fieldAt S a i).1 (by omega) tk ?_
    refine Tr.close tks (HeapA.cl (p := p) (ps := ps) (pt := pt) (S := S) (cs := cs)) ?_
    exact en_rets (x := (S.ws.getD (Ob.fieldAt S a i).1.toNat 0, (0 : Int), ())) rfl ⟨rfl, rfl⟩ tks ens

theorem object_put (p : Nat) (S : Spc) (cs : List Cls) (hw : HWf S cs) (a i x : Int) : Gl.Spec ρ Try.prog 17 [.pointer (some ⟨p, 0, none⟩), i64 a, i64 i, i64 x] [HeapA p S cs] R1
    fun r M => r = (Ob.put S a i x).1 ∧ M = [HeapA p (Ob.put S a i x).2 cs] := by
  refine Spec.of (fun Q w hh => F.object.Heap.Put.calls (some ⟨p, 0, none⟩) a i x hh) fun R => ?_
  unfold F.object.Heap.Put
  try simp only [List.cons_append, List.nil_append]
  refine en_call (object_field p S cs hw a i) tks ?_
  rintro x' M ⟨rfl, rfl⟩
  try simp only [List.cons_append, List.nil_append]
  refine en_br (fun h => ?_) (fun h => ?_)
  · have h : (Ob.fieldAt S a i).2 ≠ 0 := by simpa using h
    have e : Ob.put S a i x = ((Ob.fieldAt S a i).2, S) := by unfold Ob.put; rw [if_pos h]
    rw [e]
    exact en_rets (x := (Ob.fieldAt S a i).2) rfl ⟨rfl, rfl⟩ tks ens
  · have h : (Ob.fieldAt S a i).2 = 0 := by simpa using h
    have e : Ob.put S a i x = (0, ⟨S.ws.set (Ob.fieldAt S a i).1.toNat x, S.pg⟩) := by unfold Ob.put; rw [if_neg (by simp [h])]
    obtain ⟨hd, h1, h2, h3, h4, h5, h6⟩ := Ob.fieldAt_ok hw h
    rw [e]
    refine en_nn (HeapA.op tk fun ps pt => ?_)
    refine en_ld (k := .ptr) (b := p) (x := some ⟨ps, 0, none⟩) (by rw [fa_mk]) tk rfl ?_
    refine space_store ps S (Ob.fieldAt S a i).1 x (T := bad) (by omega) tk ?_
    refine Tr.close tks (HeapA.cl (p := p) (ps := ps) (pt := pt) (S := ⟨S.ws.set (Ob.fieldAt S a i).1.toNat x, S.pg⟩) (cs := cs)) ?_
    exact en_rets (x := (0 : Int)) rfl ⟨rfl, rfl⟩ tks ens

end Go.Proofs.Ytncpnmpfghppeaa
