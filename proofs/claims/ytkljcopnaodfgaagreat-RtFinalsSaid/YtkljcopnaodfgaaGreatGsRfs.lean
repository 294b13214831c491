/- References. -/
import Derived.Test.YtkljcopnaodfgaaGreatGsQue
set_option linter.unusedSimpArgs false
set_option linter.unusedVariables false
namespace Go.Proofs.YtkljcopnaodfgaaGreat
open Go Go.Gl
variable {ρ0 ρ : FR} {L L' : List Asn} {Post : Value → List Asn → Prop} {T : Tree}
def RfA (p hp : Nat) (rows : List (List Int)) (n : Int) : Asn := fun h => ∃ q : Nat, star [blk p [.pointer (some ⟨q, 0, none⟩), i64 n], QueA q hp rows] h
theorem RfA.op {p hp : Nat} {rows : List (List Int)} {n : Int} (t : Take L (RfA p hp rows n) L') (h : ∀ q : Nat, Tr ρ0 ρ (blk p [.pointer (some ⟨q, 0, none⟩), i64 n] :: QueA q hp rows :: L') T Post) : Tr ρ0 ρ L T Post :=
 Tr.openL (M := fun q : Nat => [blk p [.pointer (some ⟨q, 0, none⟩), i64 n], QueA q hp rows]) (c := fun _ => True) t (fun _ ⟨q, h⟩ => ⟨q, trivial, h⟩) (fun q _ => h q)
theorem RfA.cl {p q hp : Nat} {rows : List (List Int)} {n : Int} (h : HP) (H : star [blk p [.pointer (some ⟨q, 0, none⟩), i64 n], QueA q hp rows] h) : RfA p hp rows n h := ⟨q, H⟩
namespace Rf
def str (S : Spc) (a : Int) : Int × Int := match Ob.head S a with | some h => if h.k = 4 then (h.c, 0) else (0, 5) | none => (0, 5)
def clr (S : Spc) (l : List Int) : Spc := l.foldl (fun S a => (Ob.put S a 0 0).2) S
def clear (S : Spc) (l : List Int) : Int × Spc := if l.all (Qu.isR S) then (0, clr S l) else (5, S)
def qn (S : Spc) (a : Int) : Int := (Ob.get (Ob.put S a 0 0).2 a 1).1
def enq (S : Spc) (rows : List (List Int)) (a : Int) : (Bool × Int) × Spc × List (List Int) :=
 if Qu.isR S a then
  (if qn S a < 1 then ((false, 0), (Ob.put S a 0 0).2, rows) else
   if Qu.pushR (Ob.put S a 0 0).2 rows (qn S a - 1) a ≠ 0 then ((false, Qu.pushR (Ob.put S a 0 0).2 rows (qn S a - 1) a), Qu.pushS (Ob.put S a 0 0).2 rows (qn S a - 1) a, Qu.pushQ (Ob.put S a 0 0).2 rows (qn S a - 1) a) else
   ((true, 0), (Ob.put (Qu.pushS (Ob.put S a 0 0).2 rows (qn S a - 1) a) a 1 (-1)).2, Qu.pushQ (Ob.put S a 0 0).2 rows (qn S a - 1) a))
 else ((false, 5), S, rows)
theorem str_is {S : Spc} {a : Int} : (str S a).2 = if Qu.isR S a then 0 else 5 := by
 unfold str Qu.isR
 cases Ob.head S a with
 | none => rfl
 | some h =>
  dsimp only
  by_cases g : h.k = 4
  ·rw [if_pos g, if_pos (by simpa using g)]
  ·rw [if_neg g, if_neg (by simpa using g)]
end Rf
theorem rfs_new (hp : Nat) : Gl.Spec ρ Tryz.prog 42 [.pointer (some ⟨hp, 0, none⟩)] [] (.one (.l .ptr)) fun r M => ∃ p, r = some ⟨p, 0, none⟩ ∧ M = [RfA p hp [] 0] := by
 refine Gl.Spec.of (fun Q w h => F.ref.New.calls (some ⟨hp, 0, none⟩) h) fun R => ?_
 unfold F.ref.New
 try simp only [lca, lna]
 refine en_call (que_new hp) tks ?_
 rintro _ _ ⟨q, rfl, rfl⟩
 try simp only [lca, lna]
 refine en_brf rfl (en_nw fun b => ?_)
 refine Tr.close tks (RfA.cl (p := b) (q := q) (hp := hp) (rows := []) (n := 0)) ?_
 exact en_rets (x := some ⟨b, 0, none⟩) rfl ⟨b, rfl, rfl⟩ tks ens
theorem que_heap {q hp : Nat} {rows : List (List Int)} {f : Option Addr → Tree} {a : Addr} (ha : a = ⟨q, 0, none⟩) (t : Take L (QueA q hp rows) L') (h : Tr ρ0 ρ (QueA q hp rows :: L') (f (some ⟨hp, 0, none⟩)) Post) : Tr ρ0 ρ L (ld (.l .ptr) a f) Post := by
 subst ha
 refine QueA.op t fun s hs => ?_
 try simp only [lca, lna]
 refine en_ld (k := .ptr) (off := 0) (x := some ⟨hp, 0, none⟩) rfl tk rfl ?_
 refine Tr.close tks (QueA.cl (p := q) (hp := hp) (rows := rows) hs) ?_
 exact h
theorem rfs_strength (p hp : Nat) (S : Spc) (cs : List Cls) (hw : HWf S cs) (rows : List (List Int)) (n a : Int) : Gl.Spec ρ Tryz.prog 136 [.pointer (some ⟨p, 0, none⟩), i64 a] [RfA p hp rows n, HeapA hp S cs] P2
  fun r M => r = ((Rf.str S a).1, (Rf.str S a).2, ()) ∧ M = [RfA p hp rows n, HeapA hp S cs] := by
 refine Gl.Spec.of (fun Q w h => F.ref.Refs.strength.calls (some ⟨p, 0, none⟩) a h) fun R => ?_
 unfold F.ref.Refs.strength
 refine en_brf rfl (en_nn (RfA.op tk fun q => ?_))
 refine en_ld (k := .ptr) (off := 0) (x := some ⟨q, 0, none⟩) (by rw [fa_mk]) tk rfl (en_nn ?_)
 refine que_heap (by rw [fa_mk]) tk ?_
 refine Tr.close tks (RfA.cl (p := p) (q := q) (hp := hp) (rows := rows) (n := n)) ?_
 refine en_call (object_head hp S cs hw a) tks ?_
 rintro x' M ⟨rfl, rfl⟩
 try simp only [lca, lna]
 refine en_nw fun b => ?_
 rw [zcHd]
 refine en_st (off := 0) rfl tk (by simp) (by cases Ob.head S a <;> rfl) ?_
 cases hh : Ob.head S a with
 | none =>
  refine en_brt rfl ?_
  have e1 : Rf.str S a = (0, 5) := by unfold Rf.str; rw [hh]
  rw [e1]
  exact en_rets (x := ((0 : Int), (5 : Int), ())) rfl ⟨rfl, rfl⟩ tks ens
 | some hd =>
  refine en_brf rfl ?_
  have e : setL [i64 0, i64 0, i64 0, .bool false] 0 [.int .i64 (Ob.headR (some hd)).1.1, .int .i64 (Ob.headR (some hd)).1.2.1, .int .i64 (Ob.headR (some hd)).1.2.2.1, .bool (Ob.headR (some hd)).1.2.2.2.1] = hd.cs := rfl
  rw [e]
  refine en_ld (k := .int .i64) (off := 0) (x := hd.k) (by rw [fa_mk]) tk rfl ?_
  refine en_br (fun h4 => ?_) (fun h4 => ?_)
  ·have e1 : Rf.str S a = (0, 5) := by unfold Rf.str; rw [hh]; exact if_neg (by simpa using h4)
   rw [e1]
   exact en_rets (x := ((0 : Int), (5 : Int), ())) rfl ⟨rfl, rfl⟩ tks ens
  ·have e1 : Rf.str S a = (hd.c, 0) := by unfold Rf.str; rw [hh]; exact if_pos (by simpa using h4)
   rw [e1]
   refine en_ld (k := .int .i64) (off := 1) (x := hd.c) (by rw [fa_mk]) tk rfl ?_
   exact en_rets (x := (hd.c, (0 : Int), ())) rfl ⟨rfl, rfl⟩ tks ens
end Go.Proofs.YtkljcopnaodfgaaGreat
