/- The arena: its words. -/
import Derived.Test.YtncpnmpfghppeaaGlT
import Derived.Test.YtncpnmpfghppeaaGlOp
set_option linter.unusedSimpArgs false
set_option linter.unusedVariables false
namespace Go.Proofs.Ytncpnmpfghppeaa
open Go Go.Gl

abbrev i64 (n : Int) : Value := .int .i64 n
abbrev P2 : RK := .many [.l (.int .i64), .l (.int .i64)]
abbrev R1 : RK := .one (.l (.int .i64))
abbrev RB : RK := .one (.l .bool)

def ArenaA (p : Nat) (ws : List Int) : Asn := fun h => ∃ s : Slc, s.n = ws.length ∧ star [blk p [.slice s.a s.n s.c], SLc s 1 (ws.map i64)] h

variable {ρ0 ρ : FR} {L L' : List Asn} {Post : Value → List Asn → Prop} {T : Tree}
theorem ArenaA.op {p : Nat} {ws : List Int} (t : Take L (ArenaA p ws) L') (h : ∀ s : Slc, s.n = ws.length → Tr ρ0 ρ (blk p [.slice s.a s.n s.c] :: SLc s 1 (ws.map i64) :: L') T Post) : Tr ρ0 ρ L T Post :=
  Tr.openL (M := fun s : Slc => [blk p [.slice s.a s.n s.c], SLc s 1 (ws.map i64)]) t (fun _ h => h) h
theorem ArenaA.cl {p : Nat} {ws : List Int} {s : Slc} (hs : s.n = ws.length) (h : HP) (H : star [blk p [.slice s.a s.n s.c], SLc s 1 (ws.map i64)] h) : ArenaA p ws h := ⟨s, hs, H⟩

theorem arena_has (p : Nat) (ws : List Int) (i : Int) : Spec ρ Try.prog 67 [.pointer (some ⟨p, 0, none⟩), i64 i] [ArenaA p ws] RB
    fun r M => r = decide (0 ≤ i ∧ i < ws.length) ∧ M = [ArenaA p ws] := by
  refine Spec.of (fun Q w h => F.arena.words.has.calls (some ⟨p, 0, none⟩) i h) fun R => ?_
  unfold F.arena.words.has
  try simp only [List.cons_append, List.nil_append]
  refine en_br (fun h => ?_) (fun h => ?_)
  · refine en_nn ?_
    refine ArenaA.op tk fun s hs => ?_
    refine en_ld (by rw [fa_mk]) tk rfl ?_
    refine Tr.close tks (ArenaA.cl (p := p) (ws := ws) hs) ?_
    refine en_rets (x := decide (0 ≤ i ∧ i < ws.length)) ?_ ⟨rfl, rfl⟩ tks ens
    simp at h
    simp [h, hs, RK.val, KD.val, LK.val]
  · refine en_rets (x := decide (0 ≤ i ∧ i < ws.length)) ?_ ⟨rfl, rfl⟩ tks ens
    simp at h
    simp [RK.val, KD.val, LK.val]; omega

theorem arena_len (p : Nat) (ws : List Int) : Spec ρ Try.prog 43 [.pointer (some ⟨p, 0, none⟩)] [ArenaA p ws] R1
    fun r M => r = ws.length ∧ M = [ArenaA p ws] := by
  refine Spec.of (fun Q w h => F.arena.Arena.Len.calls (some ⟨p, 0, none⟩) h) fun R => ?_
  unfold F.arena.Arena.Len
  try simp only [List.cons_append, List.nil_append]
  refine en_brf rfl (en_nn ?_)
  refine ArenaA.op tk fun s hs => ?_
  refine en_ld (by rw [fa_mk, fa_mk]) tk rfl ?_
  refine Tr.close tks (ArenaA.cl (p := p) (ws := ws) hs) ?_
  rw [hs]
  exact en_rets (x := ((ws.length : Nat) : Int)) rfl ⟨rfl, rfl⟩ tks ens

def Sp.load (ws : List Int) (i : Int) : RT P2 := if 0 ≤ i ∧ i < ws.length then (ws.getD i.toNat 0, 0, ()) else (0, 2, ())

theorem getD_map {ws : List Int} {i : Nat} (h : i < ws.length) : (ws.map i64)[i]? = some (i64 (ws.getD i 0)) := by
  simp [List.getD_eq_getElem?_getD, h]

theorem arena_load (p : Nat) (ws : List Int) (i : Int) : Spec ρ Try.prog 49 [.pointer (some ⟨p, 0, none⟩), i64 i] [ArenaA p ws] P2
    fun r M => r = Sp.load ws i ∧ M = [ArenaA p ws] := by
  refine Spec.of (fun Q w h => F.arena.Arena.Load.calls (some ⟨p, 0, none⟩) i h) fun R => ?_
  unfold F.arena.Arena.Load
  try simp only [List.cons_append, List.nil_append]
  refine en_brf rfl (en_nn ?_)
  rw [fa_mk]
  refine en_call (arena_has p ws i) tks ?_
  rintro x M ⟨rfl, rfl⟩
  try simp only [List.cons_append, List.nil_append]
  refine en_br (fun h => ?_) (fun h => ?_)
  · refine en_rets (x := Sp.load ws i) ?_ ⟨rfl, rfl⟩ tks ens
    simp only [Bool.not_eq_true', decide_eq_false_iff_not] at h
    rw [Sp.load, if_neg h]; rfl
  · simp only [Bool.not_eq_false', decide_eq_true_eq] at h
    refine en_nn (ArenaA.op tk fun s hs => ?_)
    refine en_ld (by rw [fa_mk, fa_mk]) tk rfl ?_
    refine en_ixSL tk h.1 (by rw [hs]; exact h.2) fun a0 ha => ?_
    refine en_ldSL (j := i.toNat) ha tk (by rintro b o rfl; simp [fa_mk]) (getD_map (by omega)) ?_
    refine Tr.close tks (ArenaA.cl (p := p) (ws := ws) hs) ?_
    refine en_rets (x := Sp.load ws i) ?_ ⟨rfl, rfl⟩ tks ens
    rw [Sp.load, if_pos h]; rfl

def Sp.storeE (ws : List Int) (i : Int) : Int := if 0 ≤ i ∧ i < ws.length then 0 else 2
def Sp.store (ws : List Int) (i x : Int) : List Int := if 0 ≤ i ∧ i < ws.length then ws.set i.toNat x else ws

theorem arena_store (p : Nat) (ws : List Int) (i x : Int) : Spec ρ Try.prog 42 [.pointer (some ⟨p, 0, none⟩), i64 i, i64 x] [ArenaA p ws] R1
    fun r M => r = Sp.storeE ws i ∧ M = [ArenaA p (Sp.store ws i x)] := by
  refine Spec.of (fun Q w h => F.arena.Arena.Store.calls (some ⟨p, 0, none⟩) i x h) fun R => ?_
  unfold F.arena.Arena.Store
  try simp only [List.cons_append, List.nil_append]
  refine en_brf rfl (en_nn ?_)
  rw [fa_mk]
  refine en_call (arena_has p ws i) tks ?_
  rintro r M ⟨rfl, rfl⟩
  try simp only [List.cons_append, List.nil_append]
  refine en_br (fun h => ?_) (fun h => ?_)
  · simp only [Bool.not_eq_true', decide_eq_false_iff_not] at h
    have e : Sp.store ws i x = ws := by rw [Sp.store, if_neg h]
    rw [e]
    refine en_rets (x := Sp.storeE ws i) ?_ ⟨rfl, rfl⟩ tks ens
    rw [Sp.storeE, if_neg h]; rfl
  · simp only [Bool.not_eq_false', decide_eq_true_eq] at h
    refine en_nn (ArenaA.op tk fun s hs => ?_)
    refine en_ld (by rw [fa_mk, fa_mk]) tk rfl ?_
    refine en_ixSL tk h.1 (by rw [hs]; exact h.2) fun a0 ha => ?_
    refine en_stSL (j := i.toNat) ha tk (by rintro b o rfl; simp [fa_mk]) (by simp; omega) rfl ?_
    have hm : setL (ws.map i64) i.toNat [i64 x] = (ws.set i.toNat x).map i64 := by simp [setL]
    rw [hm]
    refine Tr.close tks (ArenaA.cl (p := p) (ws := ws.set i.toNat x) (by simpa using hs)) ?_
    have e : Sp.store ws i x = ws.set i.toNat x := by rw [Sp.store, if_pos h]
    rw [e]
    refine en_rets (x := Sp.storeE ws i) ?_ ⟨rfl, rfl⟩ tks ens
    rw [Sp.storeE, if_pos h]; rfl

end Go.Proofs.Ytncpnmpfghppeaa
