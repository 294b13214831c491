/- L1 Law2 Law3 Law4 Law5. -/
import Derived.Test.YtdplphebjhfliaaGreatGsLaw
import Derived.Test.YtdplphebjhfliaaGreatGsTl1
import Derived.Test.YtdplphebjhfliaaGreatGsT
set_option linter.unusedSimpArgs false
set_option linter.unusedVariables false
namespace Go.Proofs.YtdplphebjhfliaaGreat
open Go Go.Gl
variable {ρ0 ρ : FR} {L L' : List Asn} {Post : Value → List Asn → Prop} {T : Tree}
theorem law_err (e : Int) : Gl.Spec ρ Tryz.prog 14 [i64 e] [] R1 fun r M => r = e ∧ M = [] := by
 refine Spec.of (fun Q w h => F.gloaminglaw1.Err.calls e h) fun R => ?_
 unfold F.gloaminglaw1.Err
 try simp only [lca, lna]
 exact en_rets (x := e) rfl ⟨rfl, rfl⟩ tks ens
end Go.Proofs.YtdplphebjhfliaaGreat
namespace Go.Proofs.YtdplphebjhfliaaGreat
open Go Go.Gl
variable {ρ0 ρ : FR} {L L' : List Asn} {Post : Value → List Asn → Prop} {T : Tree}
theorem Ob.put_keep {S : Spc} {cs : List Cls} (hw : HWf S cs) {a i x : Int} {h : Hd} (hh : Ob.head S a = some h) (i0 : 0 ≤ i) (i1 : i < h.n) :
  (Ob.put S a i x).1 = 0 ∧ ∀ (a' : Int) (h' : Hd), Ob.head S a' = some h' → Ob.head (Ob.put S a i x).2 a' = some h' ∧ ∀ j, 0 ≤ j → j < h'.n → Ob.get (Ob.put S a i x).2 a' j = if a' = a ∧ j = i then (x, 0) else Ob.get S a' j := by
 obtain ⟨m, w, rfl, g1, g2, g3, g4, g5⟩ := Ob.head_is hw hh
 have e : Ob.fieldAt S m i = ((m : Int) + 1 + i, 0) := by unfold Ob.fieldAt; rw [hh]; dsimp only; rw [if_neg (by rintro (h | h) <;> omega)]
 have ep : Ob.put S m i x = (0, ⟨S.ws.set ((m : Int) + 1 + i).toNat x, S.pg⟩) := by unfold Ob.put; rw [e, if_neg (by simp)]
 rw [ep]
 refine ⟨rfl, fun a' h' hh' => ?_⟩
 obtain ⟨m', w', rfl, g1', g2', g3', g4', g5'⟩ := Ob.head_is hw hh'
 have hin := find_in hw.wf g1 (m := ((m : Int) + 1 + i).toNat) (by omega) (by omega)
 have hne : ((m : Int) + 1 + i).toNat ≠ m' := fun e2 => by
  rw [e2, g1'] at hin; injection hin with hin; injection hin with hin _; omega
 have hhd : Ob.head ⟨S.ws.set ((m : Int) + 1 + i).toNat x, S.pg⟩ m' = some h' := by
  unfold Ob.head
  rw [find_ws (by simp), g1']
  dsimp only
  rw [if_pos rfl, getD_set_ne' hne, g2', Sp.getH_put g3']
 refine ⟨hhd, fun j j0 j1 => ?_⟩
 rw [Ob.get_ok hhd j0 j1, Ob.get_ok hh' j0 j1]
 dsimp only
 split
 ·rename_i hc
  have : m' = m := by omega
  subst this
  rw [hc.2, getD_set_eq' (by omega)]
 ·rename_i hc
  rw [getD_set_ne' ?_]
  intro e2
  have hin' := find_in hw.wf g1' (m := ((m' : Int) + 1 + j).toNat) (by omega) (by omega)
  rw [← e2, hin] at hin'
  injection hin' with hin'; injection hin' with hin' _
  exact hc ⟨by omega, by omega⟩
end Go.Proofs.YtdplphebjhfliaaGreat
namespace Go.Proofs.YtdplphebjhfliaaGreat
open Go Go.Gl
variable {ρ0 ρ : FR} {L L' : List Asn} {Post : Value → List Asn → Prop} {T : Tree}
end Go.Proofs.YtdplphebjhfliaaGreat
namespace Go.Proofs.YtdplphebjhfliaaGreat
open Go Go.Gl
theorem mem_each_of_find {S : Spc} (hw : Wf S) {n w : Nat} (h : Sp.find S n = some (n, w)) : (n : Int) ∈ Sp.each S := by
 obtain ⟨hn, hcase⟩ := Sp.find_at hw h rfl
 refine Sp.mem_each.mpr ?_
 rcases hcase with ⟨c, l, k, h1, h2, h3, h4, h5, h6, h7⟩ | ⟨k, h1, h2, h3⟩
 ·refine ⟨n / 64, getElem?_lt h1, ?_⟩
  unfold Sp.gE
  rw [getD_of h1]
  have hk : k < l.length := by
   rcases Nat.lt_or_ge k l.length with c | c
   ·exact c
   ·rw [List.getD_eq_getElem?_getD, List.getElem?_eq_none c] at h5; cases h5
  simp only [Sp.at1, List.mem_filterMap, List.mem_range]
  refine ⟨k, hk, ?_⟩
  rw [if_pos h5, ← h6]
 ·refine ⟨n / 64, getElem?_lt h1, ?_⟩
  unfold Sp.gE
  rw [getD_of h1]
  simp only [Sp.at1, List.mem_singleton]
  omega
theorem mem_each {S : Spc} (hw : Wf S) {a : Int} : a ∈ Sp.each S ↔ ∃ n w : Nat, a = n ∧ Sp.find S n = some (n, w) := by
 constructor
 ·intro h
  obtain ⟨n, h1, _, w, h2, _⟩ := Sp.each_find hw h
  exact ⟨n, w, h1, h2⟩
 ·rintro ⟨n, w, rfl, h⟩
  exact mem_each_of_find hw h
theorem each_nodup {S : Spc} (hw : Wf S) : (Sp.each S).Nodup := (Sp.each_sorted hw).imp fun h => by omega
theorem objs_len (S : Spc) : (Ob.objs S).length = (Sp.each S).length := by unfold Ob.objs; rw [List.length_map]
end Go.Proofs.YtdplphebjhfliaaGreat
namespace Go.Proofs.YtdplphebjhfliaaGreat
open Go Go.Gl
variable {ρ0 ρ : FR} {L L' : List Asn} {Post : Value → List Asn → Prop} {T : Tree}
end Go.Proofs.YtdplphebjhfliaaGreat
