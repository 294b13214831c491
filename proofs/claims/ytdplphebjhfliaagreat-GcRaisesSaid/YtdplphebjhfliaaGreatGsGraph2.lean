/- Graph Graph2. -/
import Derived.Test.YtdplphebjhfliaaGreatGsLaw5
import Derived.Test.YtdplphebjhfliaaGreatGsEz
import Derived.Test.YtdplphebjhfliaaGreatGsTr1
set_option linter.unusedSimpArgs false
set_option linter.unusedVariables false
namespace Go.Gl
open Go
variable {ρ0 ρ : FR} {L L' : List Asn} {Post : Value → List Asn → Prop}
theorem en_ldRoS {M : List Asn} {s : Slc} {m : Nat} {xs : List Value} {k : LK} {a a0 : Addr} {f : LT k → Tree} {j : Nat} {x : LT k} (hs : s.a = some a0) (hr : RoS ρ s m xs) (ha : ∀ b o, a0 = ⟨b, o, none⟩ → a = ⟨b, o + j, none⟩)
  (hx : xs[j]? = some (k.val x)) (h : Tr ρ0 ρ L (f x) Post) : Tr ρ0 ρ L (ldLS (Sat ρ M) k a f) Post := by
 have hj : j < xs.length := by
  rcases Nat.lt_or_ge j xs.length with h | h
  ·exact h
  ·rw [List.getElem?_eq_none h] at hx; cases hx
 obtain ⟨h1, hr | ⟨b, off, cs, ty, fr, g1, g2, g3⟩⟩ := hr
 ·rw [hr] at h1; simp at h1; rw [h1] at hj; simp at hj
 ·rw [hs] at g1
  injection g1 with g1
  exact en_ldSR (ha b off g1) g2 (by rw [g3 j hj, hx]) h
theorem en_ldRog {s : Slc} {m : Nat} {xs : List Value} {a0 a : Addr} {j : Nat} (hs : s.a = some a0) (hr : RoS ρ s m xs) (ha : ∀ b o, a0 = ⟨b, o, none⟩ → a = ⟨b, o + j, none⟩) :
  ∀ (ks : List LK) (i : Nat) {f : LTs ks → Tree} {x : LTs ks} (_ : ∀ e v, (vals ks x)[e]? = some v → xs[j + i + e]? = some v) (_ : Tr ρ0 ρ L (f x) Post), Tr ρ0 ρ L (ldG a i ks f) Post
 | [], i, f, x, _, h => h
 | k :: ks, i, f, x, hv, h => by
  refine en_ldRo (j := j + i) (x := x.1) hs hr (fun b o e => by rw [ha b o e, fa_mk, Nat.add_assoc]) (by simpa using hv 0 (k.val x.1) rfl) ?_
  exact en_ldRog hs hr ha ks (i + 1) (x := x.2) (fun e v he => by have := hv (e + 1) v he; rw [← this]; congr 1; omega) h
theorem en_ldRg {s : Slc} {m : Nat} {xs : List Value} {a0 a : Addr} {j : Nat} {ks : List LK} {f : LTs ks → Tree} {x : LTs ks} (hs : s.a = some a0) (hr : RoS ρ s m xs) (ha : ∀ b o, a0 = ⟨b, o, none⟩ → a = ⟨b, o + j, none⟩)
  (hv : ∀ e v, (vals ks x)[e]? = some v → xs[j + 0 + e]? = some v) (h : Tr ρ0 ρ L (f x) Post) : Tr ρ0 ρ L (ld (.g ks) a f) Post := en_ldRog hs hr ha ks 0 hv h
end Go.Gl
namespace Go.Proofs.YtdplphebjhfliaaGreat
open Go Go.Gl
variable {ρ0 ρ : FR} {L L' : List Asn} {Post : Value → List Asn → Prop} {T : Tree}
namespace Gr
end Gr
end Go.Proofs.YtdplphebjhfliaaGreat
namespace Go.Proofs.YtdplphebjhfliaaGreat
open Go Go.Gl
variable {ρ0 ρ : FR} {L L' : List Asn} {Post : Value → List Asn → Prop} {T : Tree}
theorem ref_in (s : Slc) (l : List Int) (ro : RoS ρ s 1 (l.map i64)) (hl : l.length < 2 ^ 62) (x : Int) : Gl.Spec ρ Tryz.prog 36 [.slice s.a s.n s.c, i64 x] [] RB fun r M => r = decide (x ∈ l) ∧ M = [] := by
 refine Spec.of (fun Q w hh => F.gloamingref1.In.calls s x hh) fun R => ?_
 unfold F.gloamingref1.In
 try simp only [lca, lna]
 have hsn := ro.len
 refine en_lp (fun m u M => (fun (i : Int) => M = R ∧ 0 ≤ i ∧ i ≤ l.length ∧ m = l.length - i.toNat ∧ x ∉ l.take i.toNat) u.1) l.length ?_ ?_
 ·exact ⟨rfl, by simp, by dsimp only; omega, by simp, by simp⟩
 ·rintro m ⟨(i : Int), ⟨⟩⟩ M ⟨rfl, i0, i1, rfl, hn⟩ X hX
  dsimp only at *
  refine en_br (fun h => ?_) (fun h => ?_)
  ·replace h : i < (s.n : Int) := of_decide_eq_true h
   have hi : i.toNat < l.length := by omega
   refine en_getRo ro i0 (by omega) ?_
   refine en_br (fun h2 => ?_) (fun h2 => ?_)
   ·have h2 := eq_of_beq h2
    have hin : x ∈ l := by rw [← h2, List.getD_eq_getElem?_getD, List.getElem?_eq_getElem hi]; exact List.getElem_mem hi
    refine en_rets (x := decide (x ∈ l)) ?_ ⟨rfl, rfl⟩ tks ens
    rw [decide_eq_true hin]; rfl
   ·have h2 : l.getD i.toNat 0 ≠ x := by simpa using h2
    rw [wrap64 (by omega) (by omega)]
    refine hX (l.length - (i + 1).toNat) _ _ (by omega) ⟨rfl, by dsimp only; omega, by dsimp only; omega, rfl, ?_⟩
    dsimp only
    rw [show (i + 1).toNat = i.toNat + 1 by omega, take_succ_getD 0 hi, List.mem_append, List.mem_singleton]
    rintro (h | h)
    ·exact hn h
    ·exact h2 h.symm
  ·replace h : ¬ i < (s.n : Int) := of_decide_eq_false h
   rw [List.take_of_length_le (by omega)] at hn
   refine en_rets (x := decide (x ∈ l)) ?_ ⟨rfl, rfl⟩ tks ens
   rw [decide_eq_false hn]; rfl
end Go.Proofs.YtdplphebjhfliaaGreat
