/- Objects: Final, Refs, Objects: contracts. -/
import Derived.Test.YtncpnmpfghppeaaGlObj2
set_option linter.unusedSimpArgs false
set_option linter.unusedVariables false
namespace Go.Proofs.Ytncpnmpfghppeaa
open Go Go.Gl
variable {ρ0 ρ : FR} {L L' : List Asn} {Post : Value → List Asn → Prop} {T : Tree}

/-- a finalizer is set: an error, the space behind it -/
def Ob.final (S : Spc) (a : Int) : Int × Spc := match Ob.head S a with
  | none => (2, S) | some h => if h.k = 4 then (5, S) else if h.f = true then (4, S) else (0, ⟨S.ws.set a.toNat (Sp.putH { h with f := true }), S.pg⟩)

theorem Sp.mayH_f {h : Hd} (hm : Sp.mayH h = true) (hk : h.k ≠ 4) : Sp.mayH { h with f := true } = true := by
  obtain ⟨k, c, n, f⟩ := h
  unfold Sp.mayH at hm ⊢
  dsimp only at *
  rw [if_neg hk] at hm ⊢
  exact hm

theorem object_final (p : Nat) (S : Spc) (cs : List Cls) (hw : HWf S cs) (a : Int) : Gl.Spec ρ Try.prog 26 [.pointer (some ⟨p, 0, none⟩), i64 a] [HeapA p S cs] R1
    fun r M => r = (Ob.final S a).1 ∧ M = [HeapA p (Ob.final S a).2 cs] := by
  refine Spec.of (fun Q w hh => F.object.Heap.Final.calls (some ⟨p, 0, none⟩) a hh) fun R => ?_
  unfold F.object.Heap.Final
  try simp only [List.cons_append, List.nil_append]
  refine en_call (object_head p S cs hw a) tks ?_
  rintro x M ⟨rfl, rfl⟩
  try simp only [List.cons_append, List.nil_append]
  refine en_nw fun b2 => ?_
  rw [zcH]
  cases hh : Ob.head S a with
  | none =>
    have e : Ob.final S a = (2, S) := by unfold Ob.final; rw [hh]
    rw [e]
    refine en_st (b := b2) (off := 0) rfl tk (by simp) rfl (en_brt rfl ?_)
    exact en_rets (x := (2 : Int)) rfl ⟨rfl, rfl⟩ tks ens
  | some hd =>
    obtain ⟨n, w, rfl, _, _, g3, g4, g5⟩ := Ob.head_is hw hh
    have hb := Sp.mayH_is g3
    obtain ⟨k, c, ln, f⟩ := hd
    dsimp only at *
    have e0 : Ob.final S n = if k = 4 then (5, S) else if f = true then (4, S) else (0, ⟨S.ws.set n (Sp.putH ⟨k, c, ln, true⟩), S.pg⟩) := by unfold Ob.final; rw [hh, Int.toNat_natCast]
    refine en_st (b := b2) (off := 0) rfl tk (by simp) rfl (en_brf rfl ?_)
    refine en_ld (k := .int .i64) (b := b2) (off := 0) (x := k) (by rw [fa_mk]) tk rfl ?_
    refine en_br (fun h1 => ?_) (fun h1 => ?_)
    · rw [e0, if_pos (by simpa using h1)]
      exact en_rets (x := (5 : Int)) rfl ⟨rfl, rfl⟩ tks ens
    · have h1 : ¬ k = 4 := by simpa using h1
      rw [if_neg h1] at e0
      refine en_ld (k := .bool) (b := b2) (off := 3) (x := f) (by rw [fa_mk]) tk rfl ?_
      refine en_br (fun h2 => ?_) (fun h2 => ?_)
      · rw [e0, if_pos h2]
        exact en_rets (x := (4 : Int)) rfl ⟨rfl, rfl⟩ tks ens
      · rw [if_neg (by simp [h2])] at e0
        rw [e0]
        refine en_st (b := b2) (off := 3) (by rw [fa_mk]) tk (by simp [setL]) rfl ?_
        refine en_ldg (b := b2) (x := ((k : Int), (c : Int), (ln : Int), true, ())) [] rfl tk rfl ?_
        refine en_call (head_put ⟨k, c, ln, true⟩) tks ?_
        rintro x M ⟨rfl, rfl⟩
        try simp only [List.cons_append, List.nil_append]
        rw [if_pos (Sp.mayH_f (h := ⟨k, c, ln, f⟩) g3 h1)]
        refine en_nn (HeapA.op tk fun ps pt => ?_)
        refine en_ld (k := .ptr) (b := p) (x := some ⟨ps, 0, none⟩) (by rw [fa_mk]) tk rfl ?_
        refine space_store ps S (n : Int) (Sp.putH ⟨k, c, ln, true⟩) (T := bad) (by omega) tk ?_
        rw [Int.toNat_natCast]
        refine Tr.close tks (HeapA.cl (p := p) (ps := ps) (pt := pt) (S := ⟨S.ws.set n (Sp.putH ⟨k, c, ln, true⟩), S.pg⟩) (cs := cs)) ?_
        exact en_rets (x := (0 : Int)) rfl ⟨rfl, rfl⟩ tks ens

/-- so many places -/
def Sp.upto (n : Nat) : List Int := (List.range n).map fun j : Nat => (j : Int)
theorem object_all (n : Nat) (hn : n < 2 ^ 40) : Gl.Spec ρ Try.prog 51 [i64 n] [] RS fun r M => r.n = n ∧ M = [SLc r 1 ((Sp.upto n).map i64)] := by
  refine Spec.of (fun Q w h => F.object.all.calls n h) fun R => ?_
  unfold F.object.all
  try simp only [List.cons_append, List.nil_append]
  refine Tr.nilSL 1 ?_
  refine en_lp (fun m s M => (fun (s : Slc) (j : Int) => M = SLc s 1 ((Sp.upto j.toNat).map i64) :: R ∧ 0 ≤ j ∧ j ≤ n ∧ s.n = j.toNat ∧ m = n - j.toNat) s.1 s.2.1) n ?_ ?_
  · exact ⟨rfl, by simp, by dsimp only; omega, rfl, by simp⟩
  · rintro m ⟨(s : Slc), (j : Int), ⟨⟩⟩ M ⟨rfl, h0, h1, hs, rfl⟩ X hX
    dsimp only at *
    refine en_br (fun h => ?_) (fun h => ?_)
    · replace h : j < (n : Int) := of_decide_eq_true h
      refine en_nw fun b => ?_
      rw [wrap64 (by omega) (by omega)]
      refine en_app (x := ⟨some ⟨b, 0, none⟩, 1, 1⟩) (ys := [i64 j]) appInt tk (Rd.cl tk rfl rfl) rfl (by rw [hs]; dsimp only; omega) (by rw [hs]; dsimp only; omega) fun r hr => ?_
      have e : (Sp.upto j.toNat).map i64 ++ [i64 j] = (Sp.upto (j + 1).toNat).map i64 := by
        rw [show (j + 1).toNat = j.toNat + 1 by omega, Sp.upto, Sp.upto, List.range_succ]
        simp; omega
      rw [e]
      refine Tr.drop (A := blk b [i64 j]) tk ?_
      exact hX (n - (j + 1).toNat) _ _ (by omega) ⟨rfl, by dsimp only; omega, by dsimp only; omega, by dsimp only; rw [hr, hs]; show _ + 1 = _; omega, rfl⟩
    · replace h : ¬ j < (n : Int) := of_decide_eq_false h
      have : j.toNat = n := by omega
      rw [this] at hs ⊢
      exact en_rets (x := s) rfl ⟨hs, rfl⟩ tks ens

/-- the fields of an object that are addresses -/
def Ob.refs (S : Spc) (cs : List Cls) (a : Int) : List Int := match Ob.head S a with
  | none => []
  | some h => if h.k = 1 then (match Sp.clsAt cs h.c with | some c => c.2 | none => []) else if h.k = 2 then Sp.upto h.n.toNat else if h.k = 4 then [2] else []

theorem object_refs (p : Nat) (S : Spc) (cs : List Cls) (hw : HWf S cs) (a : Int) : Gl.Spec ρ Try.prog 23 [.pointer (some ⟨p, 0, none⟩), i64 a] [HeapA p S cs] RS
    fun r M => r.n = (Ob.refs S cs a).length ∧ M = [SLc r 1 ((Ob.refs S cs a).map i64), HeapA p S cs] := by
  have hcs := hw.cls
  refine Spec.of (fun Q w hh => F.object.Heap.Refs.calls (some ⟨p, 0, none⟩) a hh) fun R => ?_
  unfold F.object.Heap.Refs
  try simp only [List.cons_append, List.nil_append]
  refine en_call (object_head p S cs hw a) tks ?_
  rintro x M ⟨rfl, rfl⟩
  try simp only [List.cons_append, List.nil_append]
  refine en_nw fun b2 => ?_
  rw [zcH]
  cases hh : Ob.head S a with
  | none =>
    have e : Ob.refs S cs a = [] := by unfold Ob.refs; rw [hh]
    rw [e]
    refine en_st (b := b2) (off := 0) rfl tk (by simp) rfl (en_brt rfl ?_)
    refine Tr.nilSL 1 ?_
    exact en_rets (x := (⟨none, 0, 0⟩ : Slc)) rfl ⟨rfl, rfl⟩ tks ens
  | some hd =>
    obtain ⟨n, w, rfl, _, _, g3, g4, g5⟩ := Ob.head_is hw hh
    have hb := Sp.mayH_is g3
    obtain ⟨k, c, ln, f⟩ := hd
    dsimp only at *
    have e0 : Ob.refs S cs n = if k = 1 then (match Sp.clsAt cs c with | some c => c.2 | none => []) else if k = 2 then Sp.upto ln.toNat else if k = 4 then [2] else [] := by unfold Ob.refs; rw [hh]
    refine en_st (b := b2) (off := 0) rfl tk (by simp) rfl (en_brf rfl ?_)
    refine en_ld (k := .int .i64) (b := b2) (off := 0) (x := k) (by rw [fa_mk]) tk rfl ?_
    refine en_br (fun h1 => ?_) (fun h1 => ?_)
    · rw [if_pos (by simpa using h1)] at e0
      refine HeapA.op tk fun ps pt => ?_
      refine en_drw (en_held [blk p [.pointer (some ⟨ps, 0, none⟩), .pointer (some ⟨pt, 0, none⟩)], blk b2 [.int .i64 k, .int .i64 c, .int .i64 ln, .bool f]] tks ?_)
      refine en_nn (en_ldS (k := .ptr) (x := some ⟨pt, 0, none⟩) (by rw [fa_mk]) tk rfl ?_)
      refine en_ldS (k := .int .i64) (b := b2) (x := c) (by rw [fa_mk]) tk rfl ?_
      cases hc : Sp.clsAt cs c with
      | none =>
        rw [hc] at e0
        rw [e0]
        have hcn := Sp.clsAt_none hc
        refine en_both ?_ ?_
        · refine en_call (class_class0 pt cs c hcn) tks ?_
          rintro x M ⟨rfl, rfl⟩
          try simp only [List.cons_append, List.nil_append]
          first | refine en_chk tks ?_ | skip
          refine en_nw fun b3 => ?_
          rw [zcC]
          first | refine en_chk tks ?_ | skip
          refine en_st (b := b3) (off := 0) rfl tk (by simp) rfl ?_
          first | refine en_chk tks ?_ | skip
          refine en_ld (k := .slice) (b := b3) (off := 1) (x := ⟨none, 0, 0⟩) (by rw [fa_mk]) tk rfl ?_
          refine Tr.close tks (HeapA.cl (p := p) (ps := ps) (pt := pt) (S := S) (cs := cs)) ?_
          refine Tr.nilSL 1 ?_
          exact en_rets (x := (⟨none, 0, 0⟩ : Slc)) rfl ⟨rfl, rfl⟩ tks ens
        · refine en_nw fun b3 => ?_
          rw [zcC]
          first | refine en_chk tks ?_ | skip
          refine en_call (class_class0 pt cs c hcn) tks ?_
          rintro x M ⟨rfl, rfl⟩
          try simp only [List.cons_append, List.nil_append]
          first | refine en_chk tks ?_ | skip
          refine en_st (b := b3) (off := 0) rfl tk (by simp) rfl ?_
          first | refine en_chk tks ?_ | skip
          refine en_ld (k := .slice) (b := b3) (off := 1) (x := ⟨none, 0, 0⟩) (by rw [fa_mk]) tk rfl ?_
          refine Tr.close tks (HeapA.cl (p := p) (ps := ps) (pt := pt) (S := S) (cs := cs)) ?_
          refine Tr.nilSL 1 ?_
          exact en_rets (x := (⟨none, 0, 0⟩ : Slc)) rfl ⟨rfl, rfl⟩ tks ens
      | some cl =>
        rw [hc] at e0
        dsimp only at e0
        rw [e0]
        obtain ⟨i, rfl, hci⟩ := Sp.clsAt_some hc
        have hrl := hw.refs cl (List.mem_of_getElem? hci)
        refine en_both ?_ ?_
        · refine en_call (class_class pt cs i cl hci hcs (by omega)) tks ?_
          rintro x M ⟨q, rfl, hq, rfl⟩
          try simp only [List.cons_append, List.nil_append]
          first | refine en_chk tks ?_ | skip
          refine en_nw fun b3 => ?_
          rw [zcC]
          first | refine en_chk tks ?_ | skip
          refine en_st (b := b3) (off := 0) rfl tk (by simp) rfl ?_
          first | refine en_chk tks ?_ | skip
          refine en_ld (k := .slice) (b := b3) (off := 1) (x := q) (by rw [fa_mk]) tk rfl ?_
          refine Tr.close tks (HeapA.cl (p := p) (ps := ps) (pt := pt) (S := S) (cs := cs)) ?_
          exact en_rets (x := (q : Slc)) rfl ⟨hq, rfl⟩ tks ens
        · refine en_nw fun b3 => ?_
          rw [zcC]
          first | refine en_chk tks ?_ | skip
          refine en_call (class_class pt cs i cl hci hcs (by omega)) tks ?_
          rintro x M ⟨q, rfl, hq, rfl⟩
          try simp only [List.cons_append, List.nil_append]
          first | refine en_chk tks ?_ | skip
          refine en_st (b := b3) (off := 0) rfl tk (by simp) rfl ?_
          first | refine en_chk tks ?_ | skip
          refine en_ld (k := .slice) (b := b3) (off := 1) (x := q) (by rw [fa_mk]) tk rfl ?_
          refine Tr.close tks (HeapA.cl (p := p) (ps := ps) (pt := pt) (S := S) (cs := cs)) ?_
          exact en_rets (x := (q : Slc)) rfl ⟨hq, rfl⟩ tks ens
    · have h1 : ¬ k = 1 := by simpa using h1
      rw [if_neg h1] at e0
      refine en_br (fun h2 => ?_) (fun h2 => ?_)
      · rw [if_pos (by simpa using h2)] at e0
        rw [e0]
        refine en_ld (k := .int .i64) (b := b2) (off := 2) (x := ln) (by rw [fa_mk]) tk rfl ?_
        obtain ⟨lnn, rfl⟩ : ∃ m : Nat, ln = m := ⟨ln.toNat, by omega⟩
        refine en_call (object_all lnn (by omega)) tks ?_
        rintro q M ⟨hq, rfl⟩
        try simp only [List.cons_append, List.nil_append]
        rw [Int.toNat_natCast]
        exact en_rets (x := (q : Slc)) rfl ⟨by simp [Sp.upto, hq], rfl⟩ tks ens
      · have h2 : ¬ k = 2 := by simpa using h2
        rw [if_neg h2] at e0
        refine en_br (fun h3 => ?_) (fun h3 => ?_)
        · rw [if_pos (by simpa using h3)] at e0
          rw [e0]
          refine en_nw fun b4 => ?_
          refine Tr.imp (A' := SLc ⟨some ⟨b4, 0, none⟩, 1, 1⟩ 1 (([2] : List Int).map i64)) .here (SLc.of_cl rfl) ?_
          exact en_rets (x := (⟨some ⟨b4, 0, none⟩, 1, 1⟩ : Slc)) rfl ⟨rfl, rfl⟩ tks ens
        · have h3 : ¬ k = 4 := by simpa using h3
          rw [if_neg h3] at e0
          rw [e0]
          refine Tr.nilSL 1 ?_
          exact en_rets (x := (⟨none, 0, 0⟩ : Slc)) rfl ⟨rfl, rfl⟩ tks ens

end Go.Proofs.Ytncpnmpfghppeaa
