/- Objects: contracts. -/
import Derived.Test.YtncpnmpfghppeaaGlSpace8
set_option linter.unusedSimpArgs false
set_option linter.unusedVariables false
namespace Go.Proofs.Ytncpnmpfghppeaa
open Go Go.Gl
variable {ρ0 ρ : FR} {L L' : List Asn} {Post : Value → List Asn → Prop} {T : Tree}

/-- the head of a word -/
def Sp.getH (x : Int) : Hd := ⟨Int.tmod x 8, Int.tdiv (Int.tmod x 65536) 16, Int.tdiv x 65536, Int.tmod (Int.tdiv x 8) 2 == 1⟩
theorem Sp.getH_put {h : Hd} (hm : Sp.mayH h = true) : Sp.getH (Sp.putH h) = h := by
  obtain ⟨g1, g2, g3, g4, _⟩ := Sp.putH_get hm
  unfold Sp.getH
  rw [g1, g2, g3, g4]

/-- is all as it should be, with objects in all blocks? -/
structure HWf (S : Spc) (cs : List Cls) : Prop where
  wf : Wf S
  obj : ∀ n w : Nat, Sp.find S n = some (n, w) → ∃ h : Hd, Sp.mayH h = true ∧ S.ws.getD n 0 = Sp.putH h ∧ h.n + 1 ≤ (w : Int)
  cls : cs.length ≤ 256
  refs : ∀ c ∈ cs, c.2.length ≤ 2 ^ 20

/-- a heap -/
def HeapA (p : Nat) (S : Spc) (cs : List Cls) : Asn := fun h => ∃ i : Nat × Nat, star [blk p [.pointer (some ⟨i.1, 0, none⟩), .pointer (some ⟨i.2, 0, none⟩)], SpaceA i.1 S, TableA i.2 cs] h
theorem HeapA.op {p : Nat} {S : Spc} {cs : List Cls} (t : Take L (HeapA p S cs) L') (h : ∀ ps pt : Nat, Tr ρ0 ρ (blk p [.pointer (some ⟨ps, 0, none⟩), .pointer (some ⟨pt, 0, none⟩)] :: SpaceA ps S :: TableA pt cs :: L') T Post) : Tr ρ0 ρ L T Post :=
  Tr.openL (M := fun i : Nat × Nat => [blk p [.pointer (some ⟨i.1, 0, none⟩), .pointer (some ⟨i.2, 0, none⟩)], SpaceA i.1 S, TableA i.2 cs]) (c := fun _ => True) t (fun _ ⟨i, h⟩ => ⟨i, trivial, h⟩) fun i _ => h i.1 i.2
theorem HeapA.cl {p ps pt : Nat} {S : Spc} {cs : List Cls} (h : HP) (H : star [blk p [.pointer (some ⟨ps, 0, none⟩), .pointer (some ⟨pt, 0, none⟩)], SpaceA ps S, TableA pt cs] h) : HeapA p S cs h := ⟨(ps, pt), H⟩

theorem object_new (n : Int) (h0 : 1 ≤ n) (h1 : n ≤ 256) : Gl.Spec ρ Try.prog 11 [i64 n] [] PE
    fun r M => ∃ b, r = (some ⟨b, 0, none⟩, 0, ()) ∧ M = [HeapA b (Sp.newSpc n.toNat) []] := by
  refine Spec.of (fun Q w h => F.object.New.calls n h) fun R => ?_
  unfold F.object.New
  try simp only [List.cons_append, List.nil_append]
  refine en_call (space_new n h0 h1) tks ?_
  rintro x M ⟨ps, rfl, rfl⟩
  try simp only [List.cons_append, List.nil_append]
  refine en_brf rfl ?_
  refine en_call (class_new) tks ?_
  rintro x M ⟨pt, rfl, rfl⟩
  try simp only [List.cons_append, List.nil_append]
  refine en_nw fun b => ?_
  refine Tr.close (M := [blk b [.pointer (some ⟨ps, 0, none⟩), .pointer (some ⟨pt, 0, none⟩)], SpaceA ps (Sp.newSpc n.toNat), TableA pt []]) tks (HeapA.cl (p := b)) ?_
  exact en_rets (x := (some ⟨b, 0, none⟩, 0, ())) rfl ⟨b, rfl, rfl⟩ tks ens
theorem object_new0 (n : Int) (h : ¬ (1 ≤ n ∧ n ≤ 256)) : Gl.Spec ρ Try.prog 11 [i64 n] [] PE fun r M => r = (none, 1, ()) ∧ M = [] := by
  refine Spec.of (fun Q w h => F.object.New.calls n h) fun R => ?_
  unfold F.object.New
  try simp only [List.cons_append, List.nil_append]
  refine en_call (space_new0 n h) tks ?_
  rintro x M ⟨rfl, rfl⟩
  try simp only [List.cons_append, List.nil_append]
  refine en_brt rfl ?_
  exact en_rets (x := (none, 1, ())) rfl ⟨rfl, rfl⟩ tks ens

/-- the class of a number -/
def Sp.clsAt (cs : List Cls) (c : Int) : Option Cls := if 1 ≤ c ∧ c ≤ cs.length then cs[(c - 1).toNat]? else none
theorem Sp.clsAt_some {cs : List Cls} {c : Int} {x : Cls} (h : Sp.clsAt cs c = some x) : ∃ i : Nat, c = i + 1 ∧ cs[i]? = some x := by
  unfold Sp.clsAt at h
  split at h
  · exact ⟨(c - 1).toNat, by omega, h⟩
  · cases h
theorem Sp.clsAt_none {cs : List Cls} {c : Int} (h : Sp.clsAt cs c = none) : ¬ (1 ≤ c ∧ c ≤ cs.length) := by
  intro hc
  unfold Sp.clsAt at h
  rw [if_pos hc, List.getElem?_eq_none_iff] at h
  omega

/-- why an object may not be made -/
def Ob.may (cs : List Cls) (h : Hd) : Int :=
  if Sp.mayH h = false ∨ h.f = true then 1 else if h.k ≠ 1 then 0 else
    match Sp.clsAt cs h.c with | some c => if c.1 ≠ h.n then 1 else 0 | none => 2

theorem zcC : zc Try.prog 58 = [.int .i64 0, .slice none 0 0] := by kernel_rfl
theorem zcH : zc Try.prog 32 = [.int .i64 0, .int .i64 0, .int .i64 0, .bool false] := by kernel_rfl

theorem object_may (p : Nat) (S : Spc) (cs : List Cls) (hw : HWf S cs) (h : Hd) : Gl.Spec ρ Try.prog 40 [.pointer (some ⟨p, 0, none⟩), hval h] [HeapA p S cs] R1
    fun r M => r = Ob.may cs h ∧ M = [HeapA p S cs] := by
  have hcs := hw.cls
  refine Spec.of (fun Q w hh => F.object.Heap.may.calls (some ⟨p, 0, none⟩) h.t hh) fun R => ?_
  obtain ⟨k, c, n, f⟩ := h
  unfold F.object.Heap.may
  try simp only [List.cons_append, List.nil_append]
  refine en_nw fun b1 => ?_
  refine en_ldg (b := b1) (x := (k, c, n, f, ())) [] rfl tk rfl ?_
  refine en_call (head_may ⟨k, c, n, f⟩) tks ?_
  rintro x M ⟨rfl, rfl⟩
  try simp only [List.cons_append, List.nil_append]
  refine en_br (fun h1 => ?_) (fun h1 => ?_)
  · have h1 : Sp.mayH ⟨k, c, n, f⟩ = false := by simpa using h1
    have e : Ob.may cs ⟨k, c, n, f⟩ = 1 := by unfold Ob.may; rw [if_pos (.inl h1)]
    rw [e]
    exact en_rets (x := (1 : Int)) rfl ⟨rfl, rfl⟩ tks ens
  · have h1 : Sp.mayH ⟨k, c, n, f⟩ = true := by simpa using h1
    refine en_ld (k := .bool) (x := f) (by rw [fa_mk]) tk rfl ?_
    refine en_br (fun h2 => ?_) (fun h2 => ?_)
    · have e : Ob.may cs ⟨k, c, n, f⟩ = 1 := by unfold Ob.may; rw [if_pos (.inr h2)]
      rw [e]
      exact en_rets (x := (1 : Int)) rfl ⟨rfl, rfl⟩ tks ens
    · refine en_ld (k := .int .i64) (x := k) (by rw [fa_mk]) tk rfl ?_
      have e0 : Ob.may cs ⟨k, c, n, f⟩ = if k ≠ 1 then 0 else match Sp.clsAt cs c with | some c => if c.1 ≠ n then 1 else 0 | none => 2 := by
        unfold Ob.may; rw [if_neg (by rintro (h | h)
                                      · rw [h1] at h; cases h
                                      · rw [h2] at h; cases h)]
      refine en_br (fun h3 => ?_) (fun h3 => ?_)
      · have h3 : k ≠ 1 := by simpa using h3
        rw [e0, if_pos h3]
        exact en_rets (x := (0 : Int)) rfl ⟨rfl, rfl⟩ tks ens
      · have h3 : ¬ k ≠ 1 := by simpa using h3
        rw [if_neg h3] at e0
        refine HeapA.op tk fun ps pt => ?_
        refine en_drw (en_held [blk p [.pointer (some ⟨ps, 0, none⟩), .pointer (some ⟨pt, 0, none⟩)], blk b1 [.int .i64 k, .int .i64 c, .int .i64 n, .bool f]] tks ?_)
        refine en_nn (en_ldS (k := .ptr) (x := some ⟨pt, 0, none⟩) (by rw [fa_mk]) tk rfl ?_)
        refine en_ldS (k := .int .i64) (b := b1) (x := c) (by rw [fa_mk]) tk rfl ?_
        cases hc : Sp.clsAt cs c with
        | none =>
          rw [hc] at e0
          rw [e0]
          have hcn := Sp.clsAt_none hc
          refine en_both ?_ ?_
          · refine en_call (class_class0 pt cs c hcn) tks ?_
            rintro x M ⟨rfl, rfl⟩
            try simp only [List.cons_append, List.nil_append]
            first | refine en_chk tks ?_ | skip
            refine en_nw fun b2 => ?_
            rw [zcC]
            first | refine en_chk tks ?_ | skip
            refine en_st (b := b2) (off := 0) rfl tk (by simp) rfl ?_
            first | refine en_chk tks ?_ | skip
            refine en_brt rfl ?_
            refine Tr.close tks (HeapA.cl (p := p) (ps := ps) (pt := pt) (S := S) (cs := cs)) ?_
            exact en_rets (x := (2 : Int)) rfl ⟨rfl, rfl⟩ tks ens
          · refine en_nw fun b2 => ?_
            rw [zcC]
            first | refine en_chk tks ?_ | skip
            refine en_call (class_class0 pt cs c hcn) tks ?_
            rintro x M ⟨rfl, rfl⟩
            try simp only [List.cons_append, List.nil_append]
            first | refine en_chk tks ?_ | skip
            refine en_st (b := b2) (off := 0) rfl tk (by simp) rfl ?_
            first | refine en_chk tks ?_ | skip
            refine en_brt rfl ?_
            refine Tr.close tks (HeapA.cl (p := p) (ps := ps) (pt := pt) (S := S) (cs := cs)) ?_
            exact en_rets (x := (2 : Int)) rfl ⟨rfl, rfl⟩ tks ens
        | some cl =>
          rw [hc] at e0
          dsimp only at e0
          rw [e0]
          obtain ⟨i, rfl, hci⟩ := Sp.clsAt_some hc
          have hrl := hw.refs cl (List.mem_of_getElem? hci)
          have fin : ∀ {ρ' : FR} {L : List Asn} (b2 : Nat) (q : Slc) (_ : Le ρ ρ') (_ : ∃ L2, Takes L [blk b2 [.int .i64 cl.1, .slice q.a q.n q.c], blk b1 [.int .i64 k, .int .i64 (i + 1), .int .i64 n, .bool f], blk p [.pointer (some ⟨ps, 0, none⟩), .pointer (some ⟨pt, 0, none⟩)], SpaceA ps S, TableA pt cs] L2 ∧ Gl.Ends L2 R),
              Tr ρ ρ' L (ldL (.int .i64) (fa ⟨b2, 0, none⟩ 0) fun x12 : Int => ldL (.int .i64) (fa ⟨b1, 0, none⟩ 2) fun x13 : Int => br (x12 != x13) (ret (.int .i64 1)) (ret (.int .i64 0))) (SP R1 (fun r M => r = (if cl.1 ≠ n then 1 else 0) ∧ M = [HeapA p S cs]) R) := by
            rintro ρ' L b2 q hle ⟨L2, ht, he⟩
            refine Tr.perm ht.perm ?_
            try simp only [List.cons_append, List.nil_append]
            refine en_ld (k := .int .i64) (b := b2) (x := cl.1) (by rw [fa_mk]) tk rfl ?_
            refine en_ld (k := .int .i64) (b := b1) (x := n) (by rw [fa_mk]) tk rfl ?_
            refine Tr.close tks (HeapA.cl (p := p) (ps := ps) (pt := pt) (S := S) (cs := cs)) ?_
            refine en_br (fun h5 => ?_) (fun h5 => ?_)
            · rw [if_pos (by simpa using h5)]
              exact en_rets (x := (1 : Int)) rfl ⟨rfl, rfl⟩ tks (.skip (.skip he))
            · rw [if_neg (by simpa using h5)]
              exact en_rets (x := (0 : Int)) rfl ⟨rfl, rfl⟩ tks (.skip (.skip he))
          refine en_both ?_ ?_
          · refine en_call (class_class pt cs i cl hci hcs (by omega)) tks ?_
            rintro x M ⟨q, rfl, hq, rfl⟩
            try simp only [List.cons_append, List.nil_append]
            first | refine en_chk tks ?_ | skip
            refine en_nw fun b2 => ?_
            rw [zcC]
            first | refine en_chk tks ?_ | skip
            refine en_st (b := b2) (off := 0) rfl tk (by simp) rfl ?_
            first | refine en_chk tks ?_ | skip
            refine en_brf rfl ?_
            exact fin b2 q (Le.refl _) ⟨_, tks, ens⟩
          · refine en_nw fun b2 => ?_
            rw [zcC]
            first | refine en_chk tks ?_ | skip
            refine en_call (class_class pt cs i cl hci hcs (by omega)) tks ?_
            rintro x M ⟨q, rfl, hq, rfl⟩
            try simp only [List.cons_append, List.nil_append]
            first | refine en_chk tks ?_ | skip
            refine en_st (b := b2) (off := 0) rfl tk (by simp) rfl ?_
            first | refine en_chk tks ?_ | skip
            refine en_brf rfl ?_
            exact fin b2 q (Le.refl _) ⟨_, tks, ens⟩

end Go.Proofs.Ytncpnmpfghppeaa
