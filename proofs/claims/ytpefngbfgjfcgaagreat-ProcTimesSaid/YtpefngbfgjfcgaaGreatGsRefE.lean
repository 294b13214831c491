/- Ref1 RefA RefB RefC RefD RefE. -/
import Derived.Test.YtpefngbfgjfcgaaGreatGsLaw5
import Derived.Test.YtpefngbfgjfcgaaGreatGsTr1
import Derived.Test.YtpefngbfgjfcgaaGreatGsEz
import Derived.Test.YtpefngbfgjfcgaaGreatGsTr9
import Derived.Test.YtpefngbfgjfcgaaGreatGsSweep
set_option linter.unusedSimpArgs false
set_option linter.unusedVariables false
namespace Go.Proofs.YtpefngbfgjfcgaaGreat
open Go Go.Gl
variable {ρ0 ρ : FR} {L L' : List Asn} {Post : Value → List Asn → Prop} {T : Tree}
theorem ref_sizes : Gl.Spec ρ Tryz.prog 102 [] [] (.one (.l .slice)) fun r M => r.n = 5 ∧ M = [SLc r 1 (Sp.sizes.map i64)] := by
 refine Spec.of (fun Q w h => F.gloamingref1.Sizes.calls h) fun R => ?_
 unfold F.gloamingref1.Sizes
 try simp only [lca, lna]
 refine en_nw fun b => ?_
 refine Tr.imp (A' := SLc ⟨some ⟨b, 0, none⟩, 5, 5⟩ 1 (Sp.sizes.map i64)) .here (SLc.of_cl rfl) ?_
 exact en_rets (x := (⟨some ⟨b, 0, none⟩, 5, 5⟩ : Slc)) rfl ⟨rfl, rfl⟩ tks ens
theorem ref_class (w : Int) : Gl.Spec ρ Tryz.prog 117 [i64 w] [] R1 fun r M => r = Sp.cls w ∧ M = [] := by
 refine Spec.of (fun Q w' h => F.gloamingref1.Class.calls w h) fun R => ?_
 unfold F.gloamingref1.Class
 try simp only [lca, lna]
 refine en_call (ref_sizes) tks ?_
 rintro s M ⟨hs, rfl⟩
 try simp only [lca, lna]
 refine Tr.keepSL (s := s) tk fun ρ' hle hro => ?_
 refine en_lp (fun n u M => (fun i : Int => M = R ∧ 0 ≤ i ∧ i ≤ 5 ∧ n = 5 - i.toNat ∧ (i = 0 ∨ 1 ≤ w) ∧ (1 ≤ w → Sp.cls w = Sp.clsN w (Sp.sizes.drop i.toNat) i)) u.1) 5 ?_ ?_
 ·refine ⟨rfl, by simp, by simp, by simp, .inl rfl, fun h => ?_⟩
  unfold Sp.cls; rw [if_neg (by omega)]; rfl
 ·rintro n ⟨(i : Int), ⟨⟩⟩ M ⟨rfl, h0, h1, rfl, hz, hc⟩ X hX
  dsimp only at *
  refine en_br (fun h2 => ?_) (fun h2 => ?_)
  ·replace h2 : i < (s.n : Int) := of_decide_eq_true h2
   refine en_br (fun h4 => ?_) (fun h4 => ?_)
   ·replace h4 : w ≥ 1 := of_decide_eq_true h4
    have hc := hc h4
    have hi : i.toNat < Sp.sizes.length := by rw [hs] at h2; show i.toNat < 5; omega
    refine en_ixRo hro h0 h2 fun a0 ha => ?_
    refine en_ldRo (j := i.toNat) (x := Sp.sizes.getD i.toNat 0) ha hro (by rintro b o rfl; simp [fa_mk]) (getD_map hi) ?_
    rw [drop_getD 0 hi] at hc
    unfold Sp.clsN at hc
    refine en_br (fun h3 => ?_) (fun h3 => ?_)
    ·rw [if_pos (of_decide_eq_true h3)] at hc
     refine en_rets (x := Sp.cls w) ?_ ⟨rfl, rfl⟩ tks ens
     rw [hc]; rfl
    ·rw [if_neg (of_decide_eq_false h3)] at hc
     rw [wrap64 (by omega) (by omega)]
     refine hX (5 - (i + 1).toNat) _ _ (by rw [hs] at h2; omega) ⟨rfl, by dsimp only; omega, by dsimp only; rw [hs] at h2; omega, rfl, .inr h4, fun _ => ?_⟩
     dsimp only; rw [hc, show (i + 1).toNat = i.toNat + 1 by omega]
   ·replace h4 : ¬ w ≥ 1 := of_decide_eq_false h4
    have : Sp.cls w = -1 := by unfold Sp.cls; rw [if_pos (by omega)]
    rw [this]
    exact en_rets (x := (-1 : Int)) rfl ⟨rfl, rfl⟩ tks ens
  ·replace h2 : ¬ i < (s.n : Int) := of_decide_eq_false h2
   rw [hs] at h2
   have : i = 5 := by omega
   subst this
   have hc := hc (by omega)
   refine en_rets (x := Sp.cls w) ?_ ⟨rfl, rfl⟩ tks ens
   rw [hc]; rfl
theorem ref_block (w : Int) : Gl.Spec ρ Tryz.prog 116 [i64 w] [] R1 fun r M => r = Sp.blk w ∧ M = [] := by
 refine Spec.of (fun Q w' h => F.gloamingref1.Block.calls w h) fun R => ?_
 unfold F.gloamingref1.Block
 try simp only [lca, lna]
 refine en_call (ref_class w) tks ?_
 rintro x M ⟨rfl, rfl⟩
 try simp only [lca, lna]
 have hcc := Sp.cls_cases w
 refine en_br (fun h => ?_) (fun h => ?_)
 ·replace h : Sp.cls w ≥ 0 := of_decide_eq_true h
  refine en_call (ref_sizes) tks ?_
  rintro s M ⟨hs, rfl⟩
  try simp only [lca, lna]
  refine en_ixSL (s := s) (xs := Sp.sizes.map i64) tk h (by rw [hs]; omega) fun a0 ha => ?_
  refine en_ldSL (s := s) (xs := Sp.sizes.map i64) (j := (Sp.cls w).toNat) (x := Sp.sizes.getD (Sp.cls w).toNat 0) ha tk (by rintro b o rfl; simp [fa_mk]) (getD_map (by show _ < 5; omega)) ?_
  refine en_rets (x := Sp.blk w) ?_ ⟨rfl, rfl⟩ tks ens
  rw [Sp.blk, if_pos h]; rfl
 ·replace h : ¬ Sp.cls w ≥ 0 := of_decide_eq_false h
  have e : Sp.blk w = Sp.pgs w * 64 := by rw [Sp.blk, if_neg h]
  refine en_br (fun h1 => ?_) (fun h1 => ?_)
  ·have h1 := of_decide_eq_true h1
   refine en_rets (x := Sp.blk w) ?_ ⟨rfl, rfl⟩ tks ens
   rw [e, Sp.pgs, if_pos (.inl h1)]; rfl
  ·have h1 := of_decide_eq_false h1
   refine en_br (fun h2 => ?_) (fun h2 => ?_)
   ·have h2 := of_decide_eq_true h2
    refine en_rets (x := Sp.blk w) ?_ ⟨rfl, rfl⟩ tks ens
    rw [e, Sp.pgs, if_pos (.inr (.inl h2))]; rfl
   ·have h2 := of_decide_eq_false h2
    refine en_need (by decide) ?_
    have e2 : Sp.pgs w = (w + 63) / 64 := by rw [Sp.pgs, if_neg (by rintro (h' | h' | h') <;> omega)]
    rw [wrap64 (n := w + 64) (by omega) (by omega), wrap64 (n := w + 64 - 1) (by omega) (by omega), Int.tdiv_eq_ediv_of_nonneg (by omega), wrap64 (n := (w + 64 - 1) / 64) (by omega) (by omega), wrap64 (by omega) (by omega)]
    refine en_rets (x := Sp.blk w) ?_ ⟨rfl, rfl⟩ tks ens
    rw [e, e2]
    show _ = Value.int .i64 _
    congr 1; omega
end Go.Proofs.YtpefngbfgjfcgaaGreat
namespace Go.Proofs.YtpefngbfgjfcgaaGreat
open Go Go.Gl
variable {ρ0 ρ : FR} {L L' : List Asn} {Post : Value → List Asn → Prop} {T : Tree}
abbrev slv (q : Slc) : Value := .slice q.a q.n q.c
abbrev nilS : Slc := ⟨none, 0, 0⟩
theorem _root_.Go.Gl.Tr.vlen {s : Slc} {xs : List Value} (t : Take L (SLc s 1 xs) L') (h : s.n = xs.length → Tr ρ0 ρ L T Post) : Tr ρ0 ρ L T Post :=
 Tr.sl_len t fun h1 _ => h (by simpa using h1.symm)
theorem getD_mapv {α : Type} {f : α → Value} {xs : List α} {i : Nat} (d : α) (h : i < xs.length) : (xs.map f)[i]? = some (f (xs.getD i d)) := by
 rw [List.getElem?_map, List.getElem?_eq_getElem h, List.getD_eq_getElem?_getD, List.getElem?_eq_getElem h]; rfl
theorem en_getB {s : Slc} {xs : List Bool} {i : Int} {f : Bool → Tree} (t : Take L (SLc s 1 (xs.map bv)) L') (h0 : 0 ≤ i) (h1 : i < xs.length) (h : Tr ρ0 ρ L (f (xs.getD i.toNat false)) Post) :
  Tr ρ0 ρ L (ix s.a s.n i 1 fun a => ld (.l .bool) a f) Post := by
 refine Tr.vlen t fun hn => ?_
 rw [List.length_map] at hn
 refine en_ixSL t h0 (by omega) fun a0 ha => ?_
 exact en_ldSL (k := .bool) (j := i.toNat) (x := xs.getD i.toNat false) ha t (by rintro b o rfl; simp [fa_mk]) (getD_bv (by omega)) h
theorem en_setB {s : Slc} {xs : List Bool} {i : Int} {v : Bool} {k : Tree} (t : Take L (SLc s 1 (xs.map bv)) L') (h0 : 0 ≤ i) (h1 : i < xs.length) (h : Tr ρ0 ρ (SLc s 1 ((xs.set i.toNat v).map bv) :: L') k Post) :
  Tr ρ0 ρ L (ix s.a s.n i 1 fun a => st a [.bool v] k) Post := by
 refine Tr.vlen t fun hn => ?_
 rw [List.length_map] at hn
 refine en_ixSL t h0 (by omega) fun a0 ha => ?_
 refine en_stSL (j := i.toNat) ha t (by rintro b o rfl; simp [fa_mk]) (by simp; omega) rfl ?_
 rw [show setL (xs.map bv) i.toNat [.bool v] = (xs.set i.toNat v).map bv by simp [setL, List.map_set]]
 exact h
theorem en_getQ {s : Slc} {xs : List Slc} {i : Int} {f : Slc → Tree} (t : Take L (SLc s 1 (xs.map slv)) L') (h0 : 0 ≤ i) (h1 : i < xs.length) (h : Tr ρ0 ρ L (f (xs.getD i.toNat nilS)) Post) :
  Tr ρ0 ρ L (ix s.a s.n i 1 fun a => ld (.l .slice) a f) Post := by
 refine Tr.vlen t fun hn => ?_
 rw [List.length_map] at hn
 refine en_ixSL t h0 (by omega) fun a0 ha => ?_
 exact en_ldSL (k := .slice) (j := i.toNat) (x := xs.getD i.toNat nilS) ha t (by rintro b o rfl; simp [fa_mk]) (getD_mapv nilS (by omega)) h
theorem en_setQ {s v : Slc} {xs : List Slc} {i : Int} {k : Tree} (t : Take L (SLc s 1 (xs.map slv)) L') (h0 : 0 ≤ i) (h1 : i < xs.length) (h : Tr ρ0 ρ (SLc s 1 ((xs.set i.toNat v).map slv) :: L') k Post) :
  Tr ρ0 ρ L (ix s.a s.n i 1 fun a => st a [.slice v.a v.n v.c] k) Post := by
 refine Tr.vlen t fun hn => ?_
 rw [List.length_map] at hn
 refine en_ixSL t h0 (by omega) fun a0 ha => ?_
 refine en_stSL (j := i.toNat) ha t (by rintro b o rfl; simp [fa_mk]) (by simp; omega) rfl ?_
 rw [show setL (xs.map slv) i.toNat [.slice v.a v.n v.c] = (xs.set i.toNat v).map slv by simp [setL, List.map_set]]
 exact h
theorem ext_getD {α : Type} {l l' : List α} (d : α) (hl : l.length = l'.length) (h : ∀ j, j < l.length → l.getD j d = l'.getD j d) : l = l' := by
 refine List.ext_getElem hl fun j h1 h2 => ?_
 have := h j h1
 rw [List.getD_eq_getElem?_getD, List.getD_eq_getElem?_getD, List.getElem?_eq_getElem h1, List.getElem?_eq_getElem h2] at this
 exact this
theorem _root_.Go.Gl.Sat.sub {L M R : List Asn} {w : World} (t : Takes L M R) (h : Sat ρ L w) : Sat ρ M w := ((h.perm t.perm).perm List.perm_append_comm).dropL
theorem en_getSLS {M M' : List Asn} {s : Slc} {xs : List Int} {i : Int} {f : Int → Tree} (t0 : Take L (SLc s 1 (xs.map i64)) L') (t : Take M (SLc s 1 (xs.map i64)) M') (h0 : 0 ≤ i) (h1 : i < xs.length) (h : Tr ρ0 ρ L (f (xs.getD i.toNat 0)) Post) :
  Tr ρ0 ρ L (ix s.a s.n i 1 fun a => ldS (Sat ρ M) (.l (.int .i64)) a f) Post := by
 refine Tr.nlen t0 fun hn => ?_
 refine en_ixSL t0 h0 (by omega) fun a0 ha => ?_
 intro hle w hw
 refine ⟨xs.getD i.toNat 0, fun w' hw' => ?_, h hle w hw⟩
 rcases (hw'.perm t.perm).sl with ⟨g1, _⟩ | ⟨b, off, pre, rest, g1, g2, g3, g4, g5, g6⟩
 ·rw [ha] at g1; cases g1
 ·rw [ha] at g1
  injection g1 with g1
  obtain ⟨ty, hb⟩ := g6.cl
  rw [g1, fa_mk, Nat.mul_one]
  refine cell_of hb ?_
  rw [List.getElem?_toArray, ← g2, mid_get (by simp; omega)]
  exact getD_map (by omega)
theorem rf_next (s : Slc) (l : List Bool) (is : Bool) (hl : l.length ≤ 16384) : Gl.Spec ρ Tryz.prog 121 [slv s, i64 0, bv is] [SLc s 1 (l.map bv)] R1 fun r M => r = Sp.next l 0 is ∧ M = [SLc s 1 (l.map bv)] := by
 refine Spec.of (fun Q w h => F.gloamingref1.Bits.Next.calls s 0 is h) fun R => ?_
 unfold F.gloamingref1.Bits.Next
 try simp only [lca, lna]
 refine Tr.vlen (s := s) tk fun hn => ?_
 rw [List.length_map] at hn
 refine en_lp (fun n u M => (fun i : Int => M = SLc s 1 (l.map bv) :: R ∧ 0 ≤ i ∧ n = l.length - i.toNat ∧ Sp.nextN l is n i.toNat = Sp.next l 0 is) u.1) l.length ?_ ?_
 ·exact ⟨rfl, by decide, rfl, rfl⟩
 ·rintro n ⟨(i : Int), ⟨⟩⟩ M ⟨rfl, h0, rfl, hN⟩ X hX
  dsimp only at *
  refine en_br (fun h => ?_) (fun h => ?_)
  ·replace h : i < (s.n : Int) := of_decide_eq_true h
   obtain ⟨k, hk⟩ : ∃ k, l.length - i.toNat = k + 1 := ⟨l.length - i.toNat - 1, by omega⟩
   rw [hk] at hN hX
   unfold Sp.nextN at hN
   refine en_getB tk h0 (by omega) ?_
   refine en_br (fun h2 => ?_) (fun h2 => ?_)
   ·rw [if_pos ⟨by omega, eq_of_beq h2⟩] at hN
    refine en_rets (x := Sp.next l 0 is) ?_ ⟨rfl, rfl⟩ tks ens
    rw [← hN]; simp [RK.val, KD.val, LK.val]; omega
   ·rw [if_neg (by rintro ⟨_, h3⟩; rw [h3] at h2; simp at h2)] at hN
    rw [wrap64 (n := i + 1) (by omega) (by omega)]
    refine hX k _ _ (by omega) ⟨rfl, by dsimp only; omega, by dsimp only; omega, ?_⟩
    rw [← hN]; dsimp only; congr 1; omega
  ·replace h : ¬ i < (s.n : Int) := of_decide_eq_false h
   rw [show l.length - i.toNat = 0 by omega] at hN
   refine en_rets (x := Sp.next l 0 is) ?_ ⟨rfl, rfl⟩ tks ens
   rw [← hN]; rfl
theorem count_take1 {l : List Bool} {k : Nat} (hk : k < l.length) : (l.take (k + 1)).count true = (l.take k).count true + if l.getD k false then 1 else 0 := by
 rw [take_succ_getD false hk, List.count_append]
 cases l.getD k false <;> simp
theorem rf_clear (s : Slc) (l : List Bool) (i k : Nat) (hik : i + k ≤ l.length) (hl : l.length ≤ 16384) : Gl.Spec ρ Tryz.prog 145 [slv s, i64 i, i64 k] [SLc s 1 (l.map bv)] RB
  fun r M => r = Sp.clearAt l i k ∧ M = [SLc s 1 (l.map bv)] := by
 refine Spec.of (fun Q w h => F.gloamingref1.Bits.clear.calls s i k h) fun R => ?_
 unfold F.gloamingref1.Bits.clear
 try simp only [lca, lna]
 rw [wrap64 (n := (i : Int) + k) (by omega) (by omega)]
 refine en_lp (fun n u M => (fun j : Int => M = SLc s 1 (l.map bv) :: R ∧ i ≤ j ∧ j ≤ i + k ∧ n = i + k - j.toNat ∧ ∀ x : Nat, i ≤ x → x < j.toNat → l.getD x false = false) u.1) k ?_ ?_
 ·exact ⟨rfl, by dsimp only; omega, by dsimp only; omega, by dsimp only; omega, fun x h1 h2 => by dsimp only at h2; omega⟩
 ·rintro n ⟨(j : Int), ⟨⟩⟩ M ⟨rfl, h0, h1, rfl, hx⟩ X hX
  dsimp only at *
  refine en_br (fun h => ?_) (fun h => ?_)
  ·replace h : j < (i : Int) + k := of_decide_eq_true h
   refine en_getB (xs := l) tk (by omega) (by omega) ?_
   refine en_br (fun h2 => ?_) (fun h2 => ?_)
   ·have : Sp.clearAt l i k = false := by
     cases hc : Sp.clearAt l i k with
     | false => rfl
     | true => rw [Sp.clearAt_iff.mp hc j.toNat (by omega) (by omega)] at h2; cases h2
    rw [this]
    exact en_rets (x := false) rfl ⟨rfl, rfl⟩ tks ens
   ·rw [wrap64 (n := j + 1) (by omega) (by omega)]
    refine hX (i + k - (j + 1).toNat) _ _ (by omega) ⟨rfl, by dsimp only; omega, by dsimp only; omega, rfl, fun x g1 g2 => ?_⟩
    dsimp only at g2
    rcases Nat.lt_or_ge x j.toNat with c | c
    ·exact hx x g1 c
    ·have : x = j.toNat := by omega
     rw [this]; exact h2
  ·replace h : ¬ j < (i : Int) + k := of_decide_eq_false h
   have : Sp.clearAt l i k = true := Sp.clearAt_iff.mpr fun x g1 g2 => hx x g1 (by omega)
   rw [this]
   exact en_rets (x := true) rfl ⟨rfl, rfl⟩ tks ens
theorem rf_run (s : Slc) (l : List Bool) (k : Nat) (hk : 1 ≤ k) (hk2 : k < 10000) (hl : l.length ≤ 16384) : Gl.Spec ρ Tryz.prog 119 [slv s, i64 0, i64 k] [SLc s 1 (l.map bv)] R1
  fun r M => r = Sp.oI (Sp.run l k) ∧ M = [SLc s 1 (l.map bv)] := by
 refine Spec.of (fun Q w h => F.gloamingref1.Bits.Run.calls s 0 k h) fun R => ?_
 unfold F.gloamingref1.Bits.Run
 try simp only [lca, lna]
 refine Tr.vlen (s := s) tk fun hn => ?_
 rw [List.length_map] at hn
 refine en_brf (decide_eq_false (by omega)) (en_br (fun h => ?_) (fun h => ?_))
 ·replace h : (k : Int) > (s.n : Nat) := of_decide_eq_true h
  rw [Sp.run_none fun j hj => by omega]
  exact en_rets (x := (-1 : Int)) rfl ⟨rfl, rfl⟩ tks ens
 ·replace h : ¬ (k : Int) > (s.n : Nat) := of_decide_eq_false h
  rw [wrap64 (n := ((s.n : Nat) : Int) - k) (by omega) (by omega)]
  refine en_lp (fun n u M => (fun i : Int => M = SLc s 1 (l.map bv) :: R ∧ 0 ≤ i ∧ i ≤ l.length - k + 1 ∧ n = l.length + 1 - i.toNat ∧ ∀ j : Nat, j < i.toNat → Sp.clearAt l j k = false) u.1) (l.length + 1) ?_ ?_
  ·exact ⟨rfl, by decide, by simp; omega, rfl, fun j hj => by simp at hj⟩
  ·rintro n ⟨(i : Int), ⟨⟩⟩ M ⟨rfl, h0, h1, rfl, hx⟩ X hX
   dsimp only at *
   refine en_br (fun h2 => ?_) (fun h2 => ?_)
   ·replace h2 : i ≤ ((s.n : Nat) : Int) - k := of_decide_eq_true h2
    obtain ⟨m, rfl⟩ := Int.eq_ofNat_of_zero_le h0
    refine en_call (rf_clear s l m k (by omega) hl) tks ?_
    rintro x' M ⟨rfl, rfl⟩
    try simp only [lca, lna]
    refine en_br (fun h3 => ?_) (fun h3 => ?_)
    ·rw [Sp.run_some (by omega) h3 (fun j hj => hx j (by omega))]
     exact en_rets (x := (m : Int)) rfl ⟨rfl, rfl⟩ tks ens
    ·rw [wrap64 (n := (m : Int) + 1) (by omega) (by omega)]
     refine hX (l.length + 1 - ((m : Int) + 1).toNat) _ _ (by omega) ⟨rfl, by dsimp only; omega, by dsimp only; omega, rfl, fun j hj => ?_⟩
     dsimp only at hj
     rcases Nat.lt_or_ge j m with c | c
     ·exact hx j (by omega)
     ·have : j = m := by omega
      rw [this]; exact h3
   ·replace h2 : ¬ i ≤ ((s.n : Nat) : Int) - k := of_decide_eq_false h2
    rw [Sp.run_none fun j hj => hx j (by omega)]
    exact en_rets (x := (-1 : Int)) rfl ⟨rfl, rfl⟩ tks ens
def Pg.bits : Pg → List Bool | .small _ l => l | _ => []
def Pg.kind : Pg → Int | .res => -1 | .free => 0 | .small c _ => c + 1 | .head _ => 6 | .tail => 7
def Pg.many : Pg → Int | .head k => k | _ => 0
def BkA (x : List Bool × Slc) : Asn := SLc x.2 1 (x.1.map bv)
theorem zip_at {bl : List (List Bool)} {ql : List Slc} {i : Nat} (hl : ql.length = bl.length) (hi : i < bl.length) : bl.zip ql = (bl.zip ql).take i ++ (bl.getD i [], ql.getD i nilS) :: (bl.zip ql).drop (i + 1) := by
 have hz : i < (bl.zip ql).length := by simp; omega
 conv => lhs; rw [← List.take_append_drop i (bl.zip ql), List.drop_eq_getElem_cons hz]
 congr 2
 rw [List.getElem_zip, List.getD_eq_getElem?_getD, List.getD_eq_getElem?_getD, List.getElem?_eq_getElem hi, List.getElem?_eq_getElem (by omega)]; rfl
theorem zip_set {bl : List (List Bool)} {ql : List Slc} {i : Nat} (hl : ql.length = bl.length) (hi : i < bl.length) (b : List Bool) (q : Slc) : (bl.set i b).zip (ql.set i q) = (bl.zip ql).take i ++ (b, q) :: (bl.zip ql).drop (i + 1) := by
 have hz : i < (bl.zip ql).length := by simp; omega
 have e : (bl.set i b).zip (ql.set i q) = (bl.zip ql).set i (b, q) := by
  refine List.ext_getElem (by simp) fun j h1 h2 => ?_
  rw [List.getElem_zip, List.getElem_set, List.getElem_set, List.getElem_set]
  by_cases hj : i = j
  ·simp [hj]
  ·simp [hj]
 rw [e, List.set_eq_take_append_cons_drop, if_pos hz]
theorem bk_at {bl : List (List Bool)} {ql : List Slc} {i : Nat} (hl : ql.length = bl.length) (hi : i < bl.length) (t : Take L (star ((bl.zip ql).map BkA)) L')
  (h : Tr ρ0 ρ (SLc (ql.getD i nilS) 1 ((bl.getD i []).map bv) :: star (((bl.zip ql).take i ++ (bl.zip ql).drop (i + 1)).map BkA) :: L') T Post) : Tr ρ0 ρ L T Post := by
 have t' : Take L (star (((bl.zip ql).take i ++ (bl.getD i [], ql.getD i nilS) :: (bl.zip ql).drop (i + 1)).map BkA)) L' := by rw [← zip_at hl hi]; exact t
 exact Tr.mid t' h
theorem bk_cl {bl : List (List Bool)} {ql : List Slc} {i : Nat} {R : List Asn} {b : List Bool} {q : Slc} (hl : ql.length = bl.length) (hi : i < bl.length)
  (t : Takes L [SLc q 1 (b.map bv), star (((bl.zip ql).take i ++ (bl.zip ql).drop (i + 1)).map BkA)] R) (h : Tr ρ0 ρ (star (((bl.set i b).zip (ql.set i q)).map BkA) :: R) T Post) : Tr ρ0 ρ L T Post :=
 Tr.close t (fun hp H => by rw [zip_set hl hi]; exact star_mid' (P := BkA) (x := (b, q)) hp H) h
theorem bk_cl0 {bl : List (List Bool)} {ql : List Slc} {i : Nat} {R : List Asn} (hl : ql.length = bl.length) (hi : i < bl.length)
  (t : Takes L [SLc (ql.getD i nilS) 1 ((bl.getD i []).map bv), star (((bl.zip ql).take i ++ (bl.zip ql).drop (i + 1)).map BkA)] R) (h : Tr ρ0 ρ (star ((bl.zip ql).map BkA) :: R) T Post) : Tr ρ0 ρ L T Post :=
 Tr.close t (fun hp H => by rw [zip_at hl hi]; exact star_mid' (P := BkA) (x := (bl.getD i [], ql.getD i nilS)) hp H) h
def RSpaceA (p : Nat) (S : Spc) : Asn := fun h => ∃ i : (Slc × Slc × Slc × Slc) × List Slc, i.2.length = S.pg.length ∧
 star [blk p [slv i.1.1, slv i.1.2.1, slv i.1.2.2.1, slv i.1.2.2.2], SLc i.1.1 1 (S.ws.map i64), SLc i.1.2.1 1 ((S.pg.map Pg.kind).map i64), SLc i.1.2.2.1 1 ((S.pg.map Pg.many).map i64), SLc i.1.2.2.2 1 (i.2.map slv), star (((S.pg.map Pg.bits).zip i.2).map BkA)] h
theorem RSpaceA.op {p : Nat} {S : Spc} (t : Take L (RSpaceA p S) L') (h : ∀ (a k m q : Slc) (ql : List Slc), ql.length = S.pg.length →
  Tr ρ0 ρ (blk p [slv a, slv k, slv m, slv q] :: SLc a 1 (S.ws.map i64) :: SLc k 1 ((S.pg.map Pg.kind).map i64) :: SLc m 1 ((S.pg.map Pg.many).map i64) :: SLc q 1 (ql.map slv) :: star (((S.pg.map Pg.bits).zip ql).map BkA) :: L') T Post) : Tr ρ0 ρ L T Post :=
 Tr.openL (M := fun i : (Slc × Slc × Slc × Slc) × List Slc => [blk p [slv i.1.1, slv i.1.2.1, slv i.1.2.2.1, slv i.1.2.2.2], SLc i.1.1 1 (S.ws.map i64), SLc i.1.2.1 1 ((S.pg.map Pg.kind).map i64), SLc i.1.2.2.1 1 ((S.pg.map Pg.many).map i64), SLc i.1.2.2.2 1 (i.2.map slv), star (((S.pg.map Pg.bits).zip i.2).map BkA)]) t (fun _ h => h) fun i hi => h i.1.1 i.1.2.1 i.1.2.2.1 i.1.2.2.2 i.2 hi
theorem RSpaceA.cl {p : Nat} {S : Spc} {a k m q : Slc} {ql : List Slc} (hl : ql.length = S.pg.length) (h : HP)
  (H : star [blk p [slv a, slv k, slv m, slv q], SLc a 1 (S.ws.map i64), SLc k 1 ((S.pg.map Pg.kind).map i64), SLc m 1 ((S.pg.map Pg.many).map i64), SLc q 1 (ql.map slv), star (((S.pg.map Pg.bits).zip ql).map BkA)] h) : RSpaceA p S h := ⟨((a, k, m, q), ql), hl, H⟩
theorem kindD {pg : List Pg} {i : Nat} {x : Pg} (h : pg[i]? = some x) : (pg.map Pg.kind).getD i 0 = x.kind := by rw [List.getD_eq_getElem?_getD, List.getElem?_map, h]; rfl
theorem manyD {pg : List Pg} {i : Nat} {x : Pg} (h : pg[i]? = some x) : (pg.map Pg.many).getD i 0 = x.many := by rw [List.getD_eq_getElem?_getD, List.getElem?_map, h]; rfl
theorem bitsD {pg : List Pg} {i : Nat} {x : Pg} (h : pg[i]? = some x) : (pg.map Pg.bits).getD i [] = x.bits := by rw [List.getD_eq_getElem?_getD, List.getElem?_map, h]; rfl
theorem rf_pages (p : Nat) (S : Spc) (hw : Wf S) : Gl.Spec ρ Tryz.prog 118 [.pointer (some ⟨p, 0, none⟩)] [RSpaceA p S] RS fun r M => M = [SLc r 1 ((S.pg.map Pg.taken).map bv), RSpaceA p S] := by
 have hmost := hw.most
 refine Spec.of (fun Q w h => F.gloamingref1.Space.pages.calls (some ⟨p, 0, none⟩) h) fun R => ?_
 unfold F.gloamingref1.Space.pages
 try simp only [lca, lna]
 refine en_nn (RSpaceA.op tk fun a k m q ql hql => ?_)
 refine en_ld (k := .slice) (b := p) (off := 1) (x := k) (by rw [fa_mk]) tk rfl ?_
 refine Tr.nlen (s := k) tk fun hk => ?_
 rw [List.length_map] at hk
 refine en_mks (e := 4) (m := 1) (bytes := 1) (z := .bool false) (by kernel_rfl) (by kernel_rfl) rfl (by omega) (by omega) (by omega) fun b => ?_
 have e : (List.replicate ((k.n : Nat) : Int).toNat (Value.cells (.bool false)).toList).flatten = (List.replicate S.pg.length false).map bv := by
  rw [show (Value.cells (.bool false)).toList = [bv false] from rfl, rep1, Int.toNat_natCast, hk]; simp
 rw [e, Int.toNat_natCast]
 refine Tr.close tks (RSpaceA.cl (p := p) (S := S) (a := a) (k := k) (m := m) (q := q) hql) ?_
 refine Tr.take (A := SLc ⟨some ⟨b, 0, none⟩, k.n, k.n⟩ 1 ((List.replicate S.pg.length false).map bv)) tk ?_
 refine en_lp (fun n u M => (fun i : Int => ∃ bs : List Bool, M = SLc ⟨some ⟨b, 0, none⟩, k.n, k.n⟩ 1 (bs.map bv) :: RSpaceA p S :: R ∧ 0 ≤ i ∧ i ≤ S.pg.length ∧ n = S.pg.length - i.toNat ∧ bs.length = S.pg.length ∧ ∀ j : Nat, j < i.toNat → bs.getD j false = (S.pg.map Pg.taken).getD j false) u.1) S.pg.length ?_ ?_
 ·exact ⟨List.replicate S.pg.length false, rfl, by simp, by dsimp only; omega, by simp, by simp, fun j hj => by simp at hj⟩
 ·rintro n ⟨(i : Int), ⟨⟩⟩ M ⟨bs, rfl, h0, h1, rfl, hbl, hbs⟩ X hX
  dsimp only at *
  refine en_br (fun h => ?_) (fun h => ?_)
  ·replace h : i < (k.n : Int) := of_decide_eq_true h
   have hi : i.toNat < S.pg.length := by omega
   have hx : S.pg[i.toNat]? = some S.pg[i.toNat] := List.getElem?_eq_getElem hi
   have htk : (S.pg.map Pg.taken).getD i.toNat false = (S.pg[i.toNat]).taken := by rw [List.getD_eq_getElem?_getD, List.getElem?_map, hx]; rfl
   generalize S.pg[i.toNat] = x at hx htk
   refine en_nn (RSpaceA.op tk fun a' k' m' q' ql' hql' => ?_)
   refine en_ld (k := .slice) (b := p) (off := 1) (x := k') (by rw [fa_mk]) tk rfl ?_
   refine en_getSL (s := k') (xs := S.pg.map Pg.kind) tk h0 (by rw [List.length_map]; omega) ?_
   rw [kindD hx]
   have hkt : (x.kind != 0) = x.taken := by
    cases x with
    | small c l => simp [Pg.kind, Pg.taken]; omega
    | _ => rfl
   rw [hkt]
   refine en_setB (s := ⟨some ⟨b, 0, none⟩, k.n, k.n⟩) (xs := bs) tk h0 (by omega) ?_
   refine Tr.close (A := RSpaceA p S) tks (RSpaceA.cl (p := p) (S := S) (a := a') (k := k') (m := m') (q := q') hql') ?_
   rw [wrap64 (n := i + 1) (by omega) (by omega)]
   refine Tr.take (A := SLc ⟨some ⟨b, 0, none⟩, k.n, k.n⟩ 1 ((bs.set i.toNat x.taken).map bv)) tk ?_
   refine hX (S.pg.length - (i + 1).toNat) _ _ (by omega) ⟨_, rfl, by dsimp only; omega, by dsimp only; omega, rfl, by simp [hbl], fun j hj => ?_⟩
   dsimp only at hj
   rw [List.getD_eq_getElem?_getD, List.getElem?_set]
   by_cases hij : i.toNat = j
   ·rw [if_pos hij, if_pos (by omega), ← hij, htk]; rfl
   ·rw [if_neg hij, ← List.getD_eq_getElem?_getD]; exact hbs j (by omega)
  ·replace h : ¬ i < (k.n : Int) := of_decide_eq_false h
   have e2 : bs = S.pg.map Pg.taken := ext_getD false (by simp [hbl]) fun j hj => hbs j (by omega)
   rw [e2]
   exact en_rets (x := (⟨some ⟨b, 0, none⟩, k.n, k.n⟩ : Slc)) rfl rfl tks ens
theorem clr_step {ws : List Int} {i m : Nat} (h : i + m < ws.length) : (Sp.clr ws i m).set (i + m) 0 = Sp.clr ws i (m + 1) := by
 refine ext_getD 0 (by rw [List.length_set, clr_len (by omega), clr_len (by omega)]) fun j hj => ?_
 rw [List.length_set, clr_len (by omega)] at hj
 rw [clr_getD (by omega)]
 by_cases hij : i + m = j
 ·subst hij
  rw [getD_set_eq' (by rw [clr_len (by omega)]; omega), if_pos ⟨by omega, by omega⟩]
 ·rw [getD_set_ne' hij, clr_getD (by omega)]
  by_cases hc : i ≤ j ∧ j < i + m
  ·rw [if_pos hc, if_pos ⟨hc.1, by omega⟩]
  ·rw [if_neg hc, if_neg (by omega)]
theorem clr_zero {ws : List Int} {i : Nat} (h : i ≤ ws.length) : Sp.clr ws i 0 = ws := by
 unfold Sp.clr; simp
theorem rf_fill (p : Nat) (S : Spc) (i n : Nat) (hl : i + n ≤ S.ws.length) (hm : S.ws.length ≤ 2 ^ 40) : Gl.Spec ρ Tryz.prog 120 [.pointer (some ⟨p, 0, none⟩), i64 i, i64 n] [RSpaceA p S] (.many [])
  fun r M => M = [RSpaceA p ⟨Sp.clr S.ws i n, S.pg⟩] := by
 refine Spec.of (fun Q w h => F.gloamingref1.Space.fill.calls (some ⟨p, 0, none⟩) i n h) fun R => ?_
 unfold F.gloamingref1.Space.fill
 try simp only [lca, lna]
 rw [wrap64 (n := (i : Int) + n) (by omega) (by omega)]
 refine en_lp (fun m u M => (fun j : Int => M = RSpaceA p ⟨Sp.clr S.ws i (j.toNat - i), S.pg⟩ :: R ∧ i ≤ j ∧ j ≤ i + n ∧ m = i + n - j.toNat) u.1) n ?_ ?_
 ·refine ⟨?_, by dsimp only; omega, by dsimp only; omega, by dsimp only; omega⟩
  dsimp only
  rw [show (i : Int).toNat - i = 0 by omega, clr_zero (by omega)]
 ·rintro m ⟨(j : Int), ⟨⟩⟩ M ⟨rfl, h0, h1, rfl⟩ X hX
  dsimp only at *
  refine en_br (fun h => ?_) (fun h => ?_)
  ·replace h : j < (i : Int) + n := of_decide_eq_true h
   refine en_nn (RSpaceA.op tk fun a k m q ql hql => ?_)
   refine en_ld (k := .slice) (b := p) (off := 0) (x := a) (by rw [fa_mk]) tk rfl ?_
   have hcl : (Sp.clr S.ws i (j.toNat - i)).length = S.ws.length := clr_len (by omega)
   refine en_setSL (s := a) (xs := Sp.clr S.ws i (j.toNat - i)) tk (by omega) (by omega) ?_
   have e : (Sp.clr S.ws i (j.toNat - i)).set j.toNat 0 = Sp.clr S.ws i ((j + 1).toNat - i) := by
    have := clr_step (ws := S.ws) (i := i) (m := j.toNat - i) (by omega)
    rw [show i + (j.toNat - i) = j.toNat by omega] at this
    rw [this]; congr 1; omega
   rw [e]
   refine Tr.close tks (RSpaceA.cl (p := p) (S := ⟨Sp.clr S.ws i ((j + 1).toNat - i), S.pg⟩) (a := a) (k := k) (m := m) (q := q) hql) ?_
   rw [wrap64 (n := j + 1) (by omega) (by omega)]
   exact hX (i + n - (j + 1).toNat) _ _ (by omega) ⟨rfl, by dsimp only; omega, by dsimp only; omega, rfl⟩
  ·replace h : ¬ j < (i : Int) + n := of_decide_eq_false h
   rw [show j.toNat - i = n by omega]
   exact en_rets (x := ()) rfl rfl tks ens
abbrev FD : RK := .one (.g [.int .i64, .int .i64, .bool])
abbrev G2 : RK := .one (.g [.int .i64, .int .i64])
def Rf.fnd : Option (Nat × Nat) → RT FD
 | some (s, w) => ((s : Int), (w : Int), true, ()) | none => ((0 : Int), (0 : Int), false, ())
theorem zcF : zc Tryz.prog 167 = [.int .i64 0, .int .i64 0, .bool false] := by kernel_rfl
theorem zcGot : zc Tryz.prog 80 = [.int .i64 0, .int .i64 0] := by kernel_rfl
theorem rf_back {S : Spc} (hw : Wf S) {P q : Nat} (hq : q ≤ P) (ht : ∀ j : Nat, q < j → j ≤ P → S.pg[j]? = some .tail) {x : Pg} (hx : S.pg[q]? = some x) (hxt : x ≠ .tail) :
  Sp.own S.pg P = (match x with | .head k => some (q, k) | _ => none) := by
 have key : ∀ i k : Nat, S.pg[i]? = some (.head k) → i ≤ P → P < i + k → i = q := fun i k hi h1 h2 => by
  rcases Nat.lt_trichotomy i q with c | c | c
  ·have := (hw.head i k hi).2.2.2 q c (by omega)
   rw [hx] at this; injection this with this; exact absurd this hxt
  ·exact c
  ·rw [ht i c h1] at hi; cases hi
 cases x with
 | head k =>
  dsimp only
  have hk := hw.head q k hx
  rcases Nat.lt_or_ge q P with c | c
  ·obtain ⟨i, k', h1, h2, h3⟩ := hw.tail P (ht P c (Nat.le_refl _))
   have := key i k' h1 (by omega) h3
   subst this
   exact Sp.own_of hw h1 ⟨by omega, h3⟩ |>.trans (by rw [hx] at h1; injection h1 with h1; injection h1 with h1; rw [h1])
  ·exact Sp.own_of hw hx ⟨hq, by omega⟩
 | _ =>
  dsimp only
  refine Sp.own_no fun i k hi hc => ?_
  have := key i k hi hc.1 hc.2
  subst this
  rw [hx] at hi; cases hi
theorem rf_find (p : Nat) (S : Spc) (hw : Wf S) (a : Int) : Gl.Spec ρ Tryz.prog 98 [.pointer (some ⟨p, 0, none⟩), i64 a] [RSpaceA p S] FD
  fun r M => r = Rf.fnd (Sp.find S a) ∧ M = [RSpaceA p S] := by
 have hmost := hw.most
 have hlen := hw.len
 refine Spec.of (fun Q w h => F.gloamingref1.Space.Find.calls (some ⟨p, 0, none⟩) a h) fun R => ?_
 unfold F.gloamingref1.Space.Find
 try simp only [lca, lna]
 refine en_nw fun b1 => ?_
 rw [zcF]
 have fin : ∀ (x y : Int) (z : Bool), Rf.fnd (Sp.find S a) = (x, y, z, ()) → Tr ρ ρ (blk b1 [.int .i64 0, .int .i64 0, .bool false] :: RSpaceA p S :: R)
   (st ⟨b1, 0, none⟩ [.int .i64 x, .int .i64 y, .bool z] <| ld (.g [.int .i64, .int .i64, .bool]) ⟨b1, 0, none⟩ fun (x : LTs [.int .i64, .int .i64, .bool]) => ret (.agg #[.int .i64 x.1, .int .i64 x.2.1, .bool x.2.2.1]))
   (SP FD (fun r M => r = Rf.fnd (Sp.find S a) ∧ M = [RSpaceA p S]) R) := fun x y z hf => by
  refine en_st (b := b1) (off := 0) rfl tk (by simp) rfl ?_
  refine en_ldg (b := b1) (x := (x, y, z, ())) [] rfl tk rfl ?_
  rw [hf]
  exact en_rets (x := (x, y, z, ())) rfl ⟨rfl, rfl⟩ tks ens
 refine en_br (fun h => ?_) (fun h => ?_)
 ·replace h : a < 0 := of_decide_eq_true h
  exact fin 0 0 false (by rw [Sp.find_out (by omega)]; rfl)
 ·replace h : ¬ a < 0 := of_decide_eq_false h
  refine en_nn (RSpaceA.op tk fun sa sk sm sq ql hql => ?_)
  refine en_ld (k := .slice) (b := p) (off := 0) (x := sa) (by rw [fa_mk]) tk rfl ?_
  refine Tr.nlen (s := sa) (xs := S.ws) tk fun hsa => ?_
  refine en_br (fun h2 => ?_) (fun h2 => ?_)
  ·replace h2 : a ≥ (sa.n : Int) := of_decide_eq_true h2
   refine Tr.close tks (RSpaceA.cl (p := p) (S := S) (a := sa) (k := sk) (m := sm) (q := sq) hql) ?_
   refine Tr.take (A := blk b1 [.int .i64 0, .int .i64 0, .bool false]) tk ?_
   exact fin 0 0 false (by rw [Sp.find_out (by omega)]; rfl)
  ·replace h2 : ¬ a ≥ (sa.n : Int) := of_decide_eq_false h2
   obtain ⟨n, rfl⟩ := Int.eq_ofNat_of_zero_le (show 0 ≤ a by omega)
   have hn : n < S.ws.length := by omega
   have hP : n / 64 < S.pg.length := by omega
   have hw1 : IntKind.wrap .i64 (Int.tdiv (n : Int) 64) = ((n / 64 : Nat) : Int) := by rw [Int.tdiv_eq_ediv_of_nonneg (by omega), wrap64 (by omega) (by omega)]; omega
   have hw2 : Int.tmod (n : Int) 64 = ((n % 64 : Nat) : Int) := by rw [Int.tmod_eq_emod_of_nonneg (by omega)]; omega
   rw [hw1, hw2]
   refine en_need (by decide) (en_nn ?_)
   refine en_ld (k := .slice) (b := p) (off := 1) (x := sk) (by rw [fa_mk]) tk rfl ?_
   refine en_getSL (s := sk) (xs := S.pg.map Pg.kind) tk (by omega) (by simp; omega) ?_
   have hx : S.pg[n / 64]? = some S.pg[n / 64] := List.getElem?_eq_getElem hP
   rw [Int.toNat_natCast, kindD hx]
   refine Tr.close tks (RSpaceA.cl (p := p) (S := S) (a := sa) (k := sk) (m := sm) (q := sq) hql) ?_
   refine Tr.take (A := blk b1 [.int .i64 0, .int .i64 0, .bool false]) tk ?_
   generalize S.pg[n / 64] = x at hx
   refine en_jn (fun (_ : LTs []) M => (∀ c l, x ≠ .small c l) ∧ M = blk b1 [.int .i64 0, .int .i64 0, .bool false] :: RSpaceA p S :: R) ?_ ?_
   ·rintro ⟨⟩ M ⟨hns, rfl⟩
    have hfo := Sp.find_other hn (fun c l h => by rw [hx] at h; injection h with h; exact hns c l h)
    refine en_lp (fun m u M => (fun q : Int => M = blk b1 [.int .i64 0, .int .i64 0, .bool false] :: RSpaceA p S :: R ∧ 0 ≤ q ∧ q ≤ ((n / 64 : Nat) : Int) ∧ m = q.toNat ∧ ∀ j : Nat, q.toNat < j → j ≤ n / 64 → S.pg[j]? = some .tail) u.1) (n / 64) ?_ ?_
    ·exact ⟨rfl, by dsimp only; omega, by dsimp only; omega, by dsimp only; omega, fun j h1 h2 => by dsimp only at h1; omega⟩
    ·rintro m ⟨(q : Int), ⟨⟩⟩ M ⟨rfl, q0, q1, rfl, ht⟩ X hX
     dsimp only at *
     have hy : S.pg[q.toNat]? = some S.pg[q.toNat] := List.getElem?_eq_getElem (by omega)
     generalize S.pg[q.toNat] = y at hy
     refine en_br (fun h3 => ?g1) (fun h3 => ?g2)
     case' g1 =>
      replace h3 : q > 0 := of_decide_eq_true h3
      refine en_nn (RSpaceA.op tk fun sa sk sm sq ql hql => ?_)
      refine en_ld (k := .slice) (b := p) (off := 1) (x := sk) (by rw [fa_mk]) tk rfl ?_
      refine en_getSL (s := sk) (xs := S.pg.map Pg.kind) tk (by omega) (by simp; omega) ?_
      rw [kindD hy]
      refine Tr.close tks (RSpaceA.cl (p := p) (S := S) (a := sa) (k := sk) (m := sm) (q := sq) hql) ?_
      refine Tr.take (A := blk b1 [.int .i64 0, .int .i64 0, .bool false]) tk ?_
      refine en_br (fun h7 => ?g3) (fun h7 => ?_)
      case g3 =>
       have h7 : y.kind = 7 := eq_of_beq h7
       rw [wrap64 (n := q - 1) (by omega) (by omega)]
       refine hX (q - 1).toNat _ _ (by omega) ⟨rfl, by dsimp only; omega, by dsimp only; omega, rfl, fun j h1 h2 => ?_⟩
       dsimp only at h1
       by_cases hj : j = q.toNat
       ·rw [hj, hy]
        cases y with
        | tail => rfl
        | small c l => have := (hw.small _ _ _ hy).1; simp [Pg.kind] at h7; omega
        | _ => simp [Pg.kind] at h7
       ·exact ht j (by omega) h2
      have hyt : y ≠ .tail := by rintro rfl; simp [Pg.kind] at h7
     case' g2 =>
      replace h3 : ¬ q > 0 := of_decide_eq_false h3
      have hyt : y ≠ .tail := by
       rintro rfl
       have h0 := (hw.res 0).mpr rfl
       rw [show q.toNat = 0 by omega, h0] at hy; cases hy
     all_goals
      have hb := rf_back hw (P := n / 64) (q := q.toNat) (by omega) ht hy hyt
      rw [hb] at hfo
      refine en_nn (RSpaceA.op tk fun sa sk sm sq ql hql => ?_)
      refine en_ld (k := .slice) (b := p) (off := 1) (x := sk) (by rw [fa_mk]) tk rfl ?_
      refine en_getSL (s := sk) (xs := S.pg.map Pg.kind) tk (by omega) (by simp; omega) ?_
      rw [kindD hy]
      refine en_br (fun h6 => ?_) (fun h6 => ?_)
      ·refine Tr.close tks (RSpaceA.cl (p := p) (S := S) (a := sa) (k := sk) (m := sm) (q := sq) hql) ?_
       refine Tr.take (A := blk b1 [.int .i64 0, .int .i64 0, .bool false]) tk ?_
       refine fin 0 0 false ?_
       rw [hfo]
       cases y with
       | head k => simp [Pg.kind] at h6
       | _ => rfl
      ·have h6 : y.kind = 6 := by simpa using h6
       obtain ⟨k, rfl⟩ : ∃ k, y = .head k := by
        cases y with
        | head k => exact ⟨k, rfl⟩
        | small c l => have := (hw.small _ _ _ hy).1; simp [Pg.kind] at h6; omega
        | _ => simp [Pg.kind] at h6
       have hk := hw.head _ _ hy
       refine en_nn ?_
       refine en_ld (k := .slice) (b := p) (off := 2) (x := sm) (by rw [fa_mk]) tk rfl ?_
       refine en_getSL (s := sm) (xs := S.pg.map Pg.many) tk (by omega) (by simp; omega) ?_
       rw [manyD hy]
       refine Tr.close tks (RSpaceA.cl (p := p) (S := S) (a := sa) (k := sk) (m := sm) (q := sq) hql) ?_
       refine Tr.take (A := blk b1 [.int .i64 0, .int .i64 0, .bool false]) tk ?_
       rw [wrap64 (n := q * 64) (by omega) (by omega), show Pg.many (.head k) = (k : Int) from rfl, wrap64 (n := (k : Int) * 64) (by omega) (by omega)]
       refine fin _ _ true ?_
       have e1 : ((q.toNat * 64 : Nat) : Int) = q * 64 := by omega
       have e2 : ((k * 64 : Nat) : Int) = (k : Int) * 64 := by omega
       rw [hfo]
       simp only [Option.map_some, Rf.fnd, e1, e2]
   ·intro J hJ
    refine en_br (fun h5 => ?_) (fun h5 => hJ () _ ⟨fun c l e => ?_, rfl⟩)
    ·refine en_br (fun h6 => ?_) (fun h6 => hJ () _ ⟨fun c l e => ?_, rfl⟩)
     ·have h5 := of_decide_eq_true h5
      have h6 := of_decide_eq_true h6
      obtain ⟨c, l, rfl⟩ : ∃ c l, x = .small c l := by
       cases x with
       | small c l => exact ⟨c, l, rfl⟩
       | _ => simp [Pg.kind] at h5 h6
      obtain ⟨hc5, hll⟩ := hw.small _ _ _ hx
      have hz := Sp.sz_cases hc5
      refine en_call (ref_sizes) tks ?_
      rintro s M ⟨hs, rfl⟩
      try simp only [lca, lna]
      rw [show IntKind.wrap .i64 (Pg.kind (.small c l) - 1) = (c : Int) by simp only [Pg.kind]; rw [wrap64 (by omega) (by omega)]; omega]
      refine en_getSL (s := s) (xs := Sp.sizes) tk (by omega) (by show (c : Int) < 5; omega) ?_
      rw [Int.toNat_natCast, Sp.sz_get hc5]
      refine Tr.drop (A := SLc s 1 (Sp.sizes.map i64)) tk ?_
      obtain ⟨k, hk⟩ : ∃ k, n % 64 / Sp.sz c = k := ⟨_, rfl⟩
      have hkle : k ≤ n % 64 := by rw [← hk]; exact Nat.div_le_self _ _
      have hd : IntKind.wrap .i64 (Int.tdiv ((n % 64 : Nat) : Int) (Sp.sz c : Nat)) = (k : Int) := by
       rw [Int.tdiv_eq_ediv_of_nonneg (by omega), show ((n % 64 : Nat) : Int) / (Sp.sz c : Nat) = ((n % 64 / Sp.sz c : Nat) : Int) from rfl, hk, wrap64 (by omega) (by omega)]
      rw [hd]
      have hlt : k < l.length := by
       rw [← hk, hll]
       rcases hz with ⟨_, e⟩ | ⟨_, e⟩ | ⟨_, e⟩ | ⟨_, e⟩ | ⟨_, e⟩ <;> rw [e] <;> omega
      refine en_need (by decide) (en_need (by omega) ?_)
      refine en_nn (RSpaceA.op tk fun sa sk sm sq ql hql => ?_)
      refine en_ld (k := .slice) (b := p) (off := 3) (x := sq) (by rw [fa_mk]) tk rfl ?_
      refine en_getQ (s := sq) (xs := ql) tk (by omega) (by omega) ?_
      rw [Int.toNat_natCast]
      refine bk_at (i := n / 64) (bl := S.pg.map Pg.bits) (ql := ql) (by simp [hql]) (by simp; omega) tk ?_
      rw [bitsD hx]
      refine en_getB (s := ql.getD (n / 64) nilS) (xs := l) tk (by omega) (by omega) ?_
      rw [Int.toNat_natCast]
      refine bk_cl0 (bl := S.pg.map Pg.bits) (ql := ql) (i := n / 64) (by simp [hql]) (by simp; omega) (by rw [bitsD hx]; exact tks) ?_
      refine Tr.close tks (RSpaceA.cl (p := p) (S := S) (a := sa) (k := sk) (m := sm) (q := sq) hql) ?_
      refine Tr.take (A := blk b1 [.int .i64 0, .int .i64 0, .bool false]) tk ?_
      have hfs := Sp.find_small hn hx
      rw [hk] at hfs
      refine en_br (fun h7 => ?_) (fun h7 => ?_)
      ·have h7 : l.getD k false = false := by simpa using h7
       rw [h7] at hfs
       exact fin 0 0 false (by rw [hfs]; rfl)
      ·have h7 : l.getD k false = true := by simpa using h7
       rw [h7] at hfs
       have hmul : k * Sp.sz c ≤ n % 64 := by rw [← hk]; exact Nat.div_mul_le_self _ _
       have e1 : (k : Int) * (Sp.sz c : Nat) = ((k * Sp.sz c : Nat) : Int) := by rw [Int.natCast_mul]
       rw [wrap64 (n := ((n / 64 : Nat) : Int) * 64) (by omega) (by omega), e1, wrap64 (n := ((k * Sp.sz c : Nat) : Int)) (by omega) (by omega), wrap64 (by omega) (by omega)]
       refine fin _ _ true ?_
       rw [hfs]
       simp only [if_true, Rf.fnd]
       congr 1
     ·have h6 := of_decide_eq_false h6
      subst e
      have := (hw.small _ _ _ hx).1
      simp [Pg.kind] at h6; omega
    ·have h5 := of_decide_eq_false h5
     subst e
     simp [Pg.kind] at h5; omega
end Go.Proofs.YtpefngbfgjfcgaaGreat
namespace Go.Proofs.YtpefngbfgjfcgaaGreat
open Go Go.Gl
variable {ρ0 ρ : FR} {L L' : List Asn} {Post : Value → List Asn → Prop} {T : Tree}
theorem kind_putL {pg : List Pg} {i k : Nat} (hk : i + k ≤ pg.length) {x : Nat} (hx : x < pg.length) : ((Sp.putL pg i k).map Pg.kind).getD x 0 = if x = i then 6 else if i < x ∧ x < i + k then 7 else (pg.map Pg.kind).getD x 0 := by
 have hp := putL_get (pg := pg) (i := i) (k := k) (j := x)
 rw [if_pos hx] at hp
 rw [kindD hp]
 split
 ·rfl
 ·split
  ·rfl
  ·rw [List.getD_eq_getElem?_getD, List.getD_eq_getElem?_getD, List.getElem?_map, List.getElem?_eq_getElem hx]; rfl
theorem many_putL {pg : List Pg} {i k : Nat} (hk : i + k ≤ pg.length) (hf : ∀ j : Nat, i ≤ j → j < i + k → pg[j]? = some .free) {x : Nat} (hx : x < pg.length) : ((Sp.putL pg i k).map Pg.many).getD x 0 = if x = i then (k : Int) else (pg.map Pg.many).getD x 0 := by
 have hp := putL_get (pg := pg) (i := i) (k := k) (j := x)
 rw [if_pos hx] at hp
 rw [manyD hp]
 split
 ·rfl
 ·split
  ·rename_i h1 h2
   rw [manyD (hf x (by omega) h2.2)]; rfl
  ·rw [List.getD_eq_getElem?_getD, List.getD_eq_getElem?_getD, List.getElem?_map, List.getElem?_eq_getElem hx]; rfl
theorem bits_putL {pg : List Pg} {i k : Nat} (hk : i + k ≤ pg.length) (hk0 : 1 ≤ k) (hf : ∀ j : Nat, i ≤ j → j < i + k → pg[j]? = some .free) : (Sp.putL pg i k).map Pg.bits = pg.map Pg.bits := by
 refine ext_getD [] (by simp [putL_len]) fun x hx => ?_
 rw [List.length_map, putL_len] at hx
 have hp := putL_get (pg := pg) (i := i) (k := k) (j := x)
 rw [if_pos hx] at hp
 rw [bitsD hp]
 split
 ·rename_i h1
  subst h1
  rw [bitsD (hf x (by omega) (by omega))]; rfl
 ·split
  ·rename_i h1 h2
   rw [bitsD (hf x (by omega) h2.2)]; rfl
  ·rw [List.getD_eq_getElem?_getD, List.getD_eq_getElem?_getD, List.getElem?_map, List.getElem?_eq_getElem hx]; rfl
theorem set_getD {α : Type} {l : List α} {i j : Nat} {x d : α} (hj : j < l.length) : (l.set i x).getD j d = if i = j then x else l.getD j d := by
 rw [List.getD_eq_getElem?_getD, List.getElem?_set]
 by_cases h : i = j
 ·subst h; rw [if_pos rfl, if_pos hj, if_pos rfl]; rfl
 ·rw [if_neg h, if_neg h, ← List.getD_eq_getElem?_getD]
theorem map_set' {α β : Type} {f : α → β} {l : List α} {i : Nat} {x : α} : (l.set i x).map f = (l.map f).set i (f x) := by rw [List.map_set]
theorem openP_none {pg : List Pg} {c : Nat} (h : ∀ x : Nat, x < pg.length → Sp.openQ pg c x = false) : Sp.openP pg c = none := by
 show (List.range pg.length).find? (Sp.openQ pg c) = none
 rw [List.find?_range_eq_none]
 intro x hx; rw [h x hx]; rfl
theorem openP_some {pg : List Pg} {c j : Nat} (hj : j < pg.length) (h1 : Sp.openQ pg c j = true) (h : ∀ x : Nat, x < j → Sp.openQ pg c x = false) : Sp.openP pg c = some j := by
 show (List.range pg.length).find? (Sp.openQ pg c) = some j
 rw [List.find?_range_eq_some]
 exact ⟨h1, by simpa using hj, fun x hx => by rw [h x hx]; rfl⟩
theorem rf_alloc (p : Nat) (S : Spc) (hw : Wf S) (w : Int) : Gl.Spec ρ Tryz.prog 76 [.pointer (some ⟨p, 0, none⟩), i64 w] [RSpaceA p S] G2
  fun r M => r = ((Sp.alloc S w).1, (Sp.alloc S w).2.1, ()) ∧ M = [RSpaceA p (Sp.alloc S w).2.2] := by
 have hmost := hw.most
 have hlen := hw.len
 refine Spec.of (fun Q w' h => F.gloamingref1.Space.Alloc.calls (some ⟨p, 0, none⟩) w h) fun R => ?_
 unfold F.gloamingref1.Space.Alloc
 try simp only [lca, lna]
 refine en_nw fun b1 => ?_
 rw [zcGot]
 have fin : ∀ (x y : Int) (S' : Spc), Sp.alloc S w = (x, y, S') → Tr ρ ρ (blk b1 [.int .i64 0, .int .i64 0] :: RSpaceA p S' :: R)
   (st ⟨b1, 0, none⟩ [.int .i64 x, .int .i64 y] <| ld (.g [.int .i64, .int .i64]) ⟨b1, 0, none⟩ fun (x : LTs [.int .i64, .int .i64]) => ret (.agg #[.int .i64 x.1, .int .i64 x.2.1]))
   (SP G2 (fun r M => r = ((Sp.alloc S w).1, (Sp.alloc S w).2.1, ()) ∧ M = [RSpaceA p (Sp.alloc S w).2.2]) R) := fun x y S' hf => by
  refine en_st (b := b1) (off := 0) rfl tk (by simp) rfl ?_
  refine en_ldg (b := b1) (x := (x, y, ())) [] rfl tk rfl ?_
  rw [hf]
  exact en_rets (x := (x, y, ())) rfl ⟨rfl, rfl⟩ tks ens
 refine en_call (ref_block w) .nil ?_
 rintro x' M ⟨rfl, rfl⟩
 try simp only [lca, lna]
 refine en_br (fun h => ?_) (fun h => ?_)
 ·exact fin 0 1 S (by unfold Sp.alloc; rw [if_pos (eq_of_beq h)])
 ·have hb : Sp.blk w ≠ 0 := by simpa using h
  have hal : Sp.alloc S w = if (Sp.place S.pg w).2.1 = 0 then ((Sp.place S.pg w).1, 0, ⟨Sp.clr S.ws (Sp.place S.pg w).1.toNat (Sp.blk w).toNat, (Sp.place S.pg w).2.2⟩) else (0, (Sp.place S.pg w).2.1, S) := by
   unfold Sp.alloc; rw [if_neg hb]
  have hfull : Sp.place S.pg w = (0, 3, S.pg) → Sp.alloc S w = (0, 3, S) := fun e => by rw [hal, e, if_neg (by simp)]
  refine en_call (ref_class w) .nil ?_
  rintro x' M ⟨rfl, rfl⟩
  try simp only [lca, lna]
  refine en_br (fun h2 => ?_) (fun h2 => ?_)
  ·replace h2 : Sp.cls w < 0 := of_decide_eq_true h2
   obtain ⟨k1, k2, k3⟩ := Sp.pgs_pos hb h2
   obtain ⟨k, hk⟩ : ∃ k : Nat, Sp.pgs w = k := ⟨(Sp.pgs w).toNat, by omega⟩
   have hpl : Sp.place S.pg w = (match Sp.run (S.pg.map Pg.taken) k with | some p => (((p * 64 : Nat) : Int), 0, Sp.putL S.pg p k) | none => (0, 3, S.pg)) := by
    unfold Sp.place; rw [if_pos h2, hk, Int.toNat_natCast]; rfl
   have hdv : IntKind.wrap .i64 (Int.tdiv (Sp.blk w) 64) = (k : Int) := by
    rw [k3, hk, Int.tdiv_eq_ediv_of_nonneg (by omega), wrap64 (by omega) (by omega)]; omega
   rw [hdv]
   refine en_need (by decide) ?_
   refine en_call (rf_pages p S hw) tks ?_
   rintro r M rfl
   try simp only [lca, lna]
   refine en_call (rf_run r (S.pg.map Pg.taken) k (by omega) (by omega) (by simp; omega)) tks ?_
   rintro x' M ⟨rfl, rfl⟩
   try simp only [lca, lna]
   refine Tr.drop (A := SLc r 1 ((S.pg.map Pg.taken).map bv)) tk ?_
   cases hr : Sp.run (S.pg.map Pg.taken) k with
   | none =>
    rw [hr] at hpl
    refine en_brt rfl ?_
    refine Tr.take (A := blk b1 [.int .i64 0, .int .i64 0]) tk ?_
    exact fin 0 3 S (hfull hpl)
   | some i =>
    rw [hr] at hpl
    dsimp only at hpl
    obtain ⟨hi, hfree⟩ := run_free hr
    refine en_brf (decide_eq_false (by simp only [Sp.oI]; omega)) ?_
    rw [show Sp.oI (some i) = (i : Int) from rfl]
    rw [wrap64 (n := (i : Int) + k) (by omega) (by omega), wrap64 (n := (i : Int) * 64) (by omega) (by omega)]
    refine RSpaceA.op tk fun sa sk sm sq ql hql => ?_
    refine Tr.take (A := SLc sk 1 ((S.pg.map Pg.kind).map i64)) tk ?_
    refine en_lp (fun m u M => (fun j : Int => ∃ ks : List Int, M = SLc sk 1 (ks.map i64) :: blk p [slv sa, slv sk, slv sm, slv sq] :: SLc sa 1 (S.ws.map i64) :: SLc sm 1 ((S.pg.map Pg.many).map i64) :: SLc sq 1 (ql.map slv) :: star (((S.pg.map Pg.bits).zip ql).map BkA) :: blk b1 [.int .i64 0, .int .i64 0] :: R ∧
     i ≤ j ∧ j ≤ i + k ∧ m = i + k - j.toNat ∧ ks.length = S.pg.length ∧ ∀ x : Nat, x < S.pg.length → ks.getD x 0 = if i ≤ x ∧ x < j.toNat then 7 else (S.pg.map Pg.kind).getD x 0) u.1) k ?_ ?_
    ·exact ⟨S.pg.map Pg.kind, rfl, by simp, by dsimp only; omega, by dsimp only; omega, by simp, fun x hx => by dsimp only; rw [if_neg (by omega)]⟩
    ·rintro m ⟨(j : Int), ⟨⟩⟩ M ⟨ks, rfl, j0, j1, rfl, hkl, hks⟩ X hX
     dsimp only at *
     refine en_br (fun h3 => ?_) (fun h3 => ?_)
     ·replace h3 : j < (i : Int) + k := of_decide_eq_true h3
      refine en_nn ?_
      refine en_ld (k := .slice) (b := p) (off := 1) (x := sk) (by rw [fa_mk]) tk rfl ?_
      refine en_setSL (s := sk) (xs := ks) tk (by omega) (by omega) ?_
      rw [wrap64 (n := j + 1) (by omega) (by omega)]
      refine hX (i + k - (j + 1).toNat) _ _ (by omega) ⟨_, rfl, by dsimp only; omega, by dsimp only; omega, rfl, by simp [hkl], fun x hx => ?_⟩
      dsimp only
      rw [set_getD (by omega), hks x hx]
      by_cases hxj : j.toNat = x
      ·rw [if_pos hxj, if_pos (by omega)]
      ·rw [if_neg hxj]
       by_cases hc : i ≤ x ∧ x < j.toNat
       ·rw [if_pos hc, if_pos (by omega)]
       ·rw [if_neg hc, if_neg (by omega)]
     ·replace h3 : ¬ j < (i : Int) + k := of_decide_eq_false h3
      have hjk : j.toNat = i + k := by omega
      rw [hjk] at hks
      refine en_nn ?_
      refine en_ld (k := .slice) (b := p) (off := 1) (x := sk) (by rw [fa_mk]) tk rfl ?_
      refine en_setSL (s := sk) (xs := ks) tk (by omega) (by omega) ?_
      refine en_nn ?_
      refine en_ld (k := .slice) (b := p) (off := 2) (x := sm) (by rw [fa_mk]) tk rfl ?_
      refine en_setSL (s := sm) (xs := S.pg.map Pg.many) tk (by omega) (by simp; omega) ?_
      rw [Int.toNat_natCast]
      have e1 : ks.set i 6 = (Sp.putL S.pg i k).map Pg.kind := by
       refine ext_getD 0 (by simp [hkl, putL_len]) fun x hx => ?_
       rw [List.length_set] at hx
       rw [set_getD (by omega), kind_putL (by omega) (by omega), hks x (by omega)]
       by_cases hxi : x = i
       ·rw [if_pos hxi.symm, if_pos hxi]
       ·rw [if_neg (fun e => hxi e.symm), if_neg hxi]
        by_cases hc : i < x ∧ x < i + k
        ·rw [if_pos ⟨by omega, hc.2⟩, if_pos hc]
        ·rw [if_neg (by omega), if_neg hc]
      have e2 : (S.pg.map Pg.many).set i (k : Int) = (Sp.putL S.pg i k).map Pg.many := by
       refine ext_getD 0 (by simp [putL_len]) fun x hx => ?_
       rw [List.length_set, List.length_map] at hx
       rw [set_getD (by simpa using hx), many_putL (by omega) hfree hx]
       by_cases hxi : x = i
       ·rw [if_pos hxi.symm, if_pos hxi]
       ·rw [if_neg (fun e => hxi e.symm), if_neg hxi]
      rw [e1, e2]
      refine Tr.imp (A := star (((S.pg.map Pg.bits).zip ql).map BkA)) (A' := star ((((Sp.putL S.pg i k).map Pg.bits).zip ql).map BkA)) tk (fun h H => by rw [bits_putL (by omega) (by omega) hfree]; exact H) ?_
      refine Tr.close tks (RSpaceA.cl (p := p) (S := ⟨S.ws, Sp.putL S.pg i k⟩) (a := sa) (k := sk) (m := sm) (q := sq) (ql := ql) (by dsimp only; rw [putL_len]; exact hql)) ?_
      have e3 : (i : Int) * 64 = ((i * 64 : Nat) : Int) := by omega
      have e4 : Sp.blk w = ((k * 64 : Nat) : Int) := by omega
      rw [e3]
      rw [e4] at hal ⊢
      refine en_call (rf_fill p ⟨S.ws, Sp.putL S.pg i k⟩ (i * 64) (k * 64) (by dsimp only; omega) (by dsimp only; omega)) tks ?_
      rintro x' M rfl
      try simp only [lca, lna]
      refine Tr.take (A := blk b1 [.int .i64 0, .int .i64 0]) tk ?_
      refine fin _ _ _ ?_
      rw [hal, hpl, if_pos rfl, Int.toNat_natCast, Int.toNat_natCast]
  ·replace h2 : ¬ Sp.cls w < 0 := of_decide_eq_false h2
   have hcc := Sp.cls_cases w
   obtain ⟨c, hc⟩ : ∃ c : Nat, Sp.cls w = c := ⟨(Sp.cls w).toNat, by omega⟩
   have hc5 : c < 5 := by omega
   have hz := Sp.sz_cases hc5
   have hblk : Sp.blk w = (Sp.sz c : Int) := by unfold Sp.blk; rw [if_pos (by omega), hc, Int.toNat_natCast, Sp.sz_get hc5]
   have h32 : 0 < 64 / Sp.sz c := by rcases hz with ⟨_, e⟩ | ⟨_, e⟩ | ⟨_, e⟩ | ⟨_, e⟩ | ⟨_, e⟩ <;> rw [e] <;> decide
   have h64 : 64 / Sp.sz c ≤ 32 := by rcases hz with ⟨_, e⟩ | ⟨_, e⟩ | ⟨_, e⟩ | ⟨_, e⟩ | ⟨_, e⟩ <;> rw [e] <;> decide
   have hpl : Sp.place S.pg w = (match Sp.openP S.pg c with
    | some p => Sp.placeS S.pg p c (Sp.blocks S.pg p)
    | none => (match Sp.run (S.pg.map Pg.taken) 1 with
     | some p => Sp.placeS S.pg p c (List.replicate (64 / Sp.sz c) false)
     | none => (0, 3, S.pg))) := by unfold Sp.place; rw [if_neg h2, hc, Int.toNat_natCast]; rfl
   rw [hc, hblk, wrap64 (n := (c : Int) + 1) (by omega) (by omega)]
   rw [hblk, Int.toNat_natCast] at hal
   have hfit : ∀ {i k : Nat}, i < S.pg.length → k < 64 / Sp.sz c → k * Sp.sz c + Sp.sz c ≤ 64 ∧ i * 64 + k * Sp.sz c + Sp.sz c ≤ S.ws.length := fun {i k} hi hk => by
    have := (sz_fit hc5 hk rfl).1
    omega
   have tail : ∀ (i : Nat) (l : List Bool) (S1 : Spc) (k : Nat), i < S.pg.length → Sp.place S.pg w = Sp.placeS S.pg i c l → l.length = 64 / Sp.sz c → Sp.next l 0 false = k → k < l.length → S1.ws = S.ws → S1.pg = S.pg.set i (.small c (l.set k true)) →
     Tr ρ ρ (RSpaceA p S1 :: blk b1 [.int .i64 0, .int .i64 0] :: R) (call Tryz.prog 120 [.pointer (some ⟨p, 0, none⟩), .int .i64 (IntKind.wrap .i64 (IntKind.wrap .i64 ((i : Int) * 64) + IntKind.wrap .i64 ((k : Int) * (Sp.sz c : Nat)))), .int .i64 (Sp.sz c : Nat)] (.many []) fun (_ : KTs []) =>
      st ⟨b1, 0, none⟩ [.int .i64 (IntKind.wrap .i64 (IntKind.wrap .i64 ((i : Int) * 64) + IntKind.wrap .i64 ((k : Int) * (Sp.sz c : Nat)))), .int .i64 0] <| ld (.g [.int .i64, .int .i64]) ⟨b1, 0, none⟩ fun (x : LTs [.int .i64, .int .i64]) => ret (.agg #[.int .i64 x.1, .int .i64 x.2.1]))
     (SP G2 (fun r M => r = ((Sp.alloc S w).1, (Sp.alloc S w).2.1, ()) ∧ M = [RSpaceA p (Sp.alloc S w).2.2]) R) := fun i l S1 k hi hp hl hk hkl hS1 hS2 => by
    obtain ⟨f1, f2⟩ := hfit hi (show k < 64 / Sp.sz c by omega)
    have em : (k : Int) * (Sp.sz c : Nat) = ((k * Sp.sz c : Nat) : Int) := by rw [Int.natCast_mul]
    have ea : IntKind.wrap .i64 (IntKind.wrap .i64 ((i : Int) * 64) + IntKind.wrap .i64 ((k : Int) * (Sp.sz c : Nat))) = ((i * 64 + k * Sp.sz c : Nat) : Int) := by
     rw [em, wrap64 (n := (i : Int) * 64) (by omega) (by omega), wrap64 (n := ((k * Sp.sz c : Nat) : Int)) (by omega) (by omega), wrap64 (by omega) (by omega)]; omega
    rw [ea]
    refine en_call (rf_fill p S1 (i * 64 + k * Sp.sz c) (Sp.sz c) (by rw [hS1]; omega) (by rw [hS1]; omega)) tks ?_
    rintro x' M rfl
    try simp only [lca, lna]
    refine Tr.take (A := blk b1 [.int .i64 0, .int .i64 0]) tk ?_
    refine fin _ _ _ ?_
    rw [hal, hp, Sp.placeS, if_pos rfl, Int.toNat_natCast, hk, Int.toNat_natCast, hS1, hS2]
   refine en_jn (fun (u : LTs [.int .i64]) M => M = blk b1 [.int .i64 0, .int .i64 0] :: RSpaceA p S :: R ∧ ((u.1 = ((S.pg.length : Nat) : Int) ∧ Sp.openP S.pg c = none) ∨ ∃ j : Nat, u.1 = (j : Int) ∧ Sp.openP S.pg c = some j)) ?_ ?_
   ·rintro ⟨(u : Int), ⟨⟩⟩ M ⟨rfl, hu⟩
    dsimp only at hu ⊢
    refine en_nn (RSpaceA.op tk fun sa sk sm sq ql hql => ?_)
    refine en_ld (k := .slice) (b := p) (off := 1) (x := sk) (by rw [fa_mk]) tk rfl ?_
    refine Tr.nlen (s := sk) (xs := S.pg.map Pg.kind) tk fun hsk => ?_
    rw [List.length_map] at hsk
    rcases hu with ⟨rfl, ho⟩ | ⟨j, rfl, ho⟩
    ·rw [ho] at hpl
     dsimp only at hpl
     refine en_brt (by rw [hsk]; simp) ?_
     refine Tr.close tks (RSpaceA.cl (p := p) (S := S) (a := sa) (k := sk) (m := sm) (q := sq) hql) ?_
     refine en_call (rf_pages p S hw) tks ?_
     rintro r M rfl
     try simp only [lca, lna]
     refine en_call (rf_run r (S.pg.map Pg.taken) 1 (by omega) (by omega) (by simp; omega)) tks ?_
     rintro x' M ⟨rfl, rfl⟩
     try simp only [lca, lna]
     refine Tr.drop (A := SLc r 1 ((S.pg.map Pg.taken).map bv)) tk ?_
     cases hr : Sp.run (S.pg.map Pg.taken) 1 with
     | none =>
      rw [hr] at hpl
      refine en_brt rfl ?_
      refine Tr.take (A := blk b1 [.int .i64 0, .int .i64 0]) tk ?_
      exact fin 0 3 S (hfull hpl)
     | some i =>
      rw [hr] at hpl
      dsimp only at hpl
      obtain ⟨hi, hfree⟩ := run_free hr
      have hfi := hfree i (by omega) (by omega)
      obtain ⟨k, g1, g2, g3⟩ := next_rep (n := 64 / Sp.sz c) h32
      rw [List.length_replicate] at g2
      refine en_brf (decide_eq_false (by simp only [Sp.oI]; omega)) ?_
      rw [show Sp.oI (some i) = (i : Int) from rfl]
      refine en_nn (RSpaceA.op tk fun sa sk sm sq ql hql => ?_)
      refine en_ld (k := .slice) (b := p) (off := 1) (x := sk) (by rw [fa_mk]) tk rfl ?_
      refine en_setSL (s := sk) (xs := S.pg.map Pg.kind) tk (by omega) (by simp; omega) ?_
      refine en_drw (en_held [blk p [slv sa, slv sk, slv sm, slv sq]] tks (en_nn ?_))
      refine en_ldS (k := .slice) (b := p) (off := 3) (x := sq) (by rw [fa_mk]) tk rfl ?_
      refine en_need (by omega) ?_
      have hdv : IntKind.wrap .i64 (Int.tdiv 64 (Sp.sz c : Nat)) = ((64 / Sp.sz c : Nat) : Int) := by
       rcases hz with ⟨_, e⟩ | ⟨_, e⟩ | ⟨_, e⟩ | ⟨_, e⟩ | ⟨_, e⟩ <;> rw [e] <;> decide
      rw [hdv]
      refine en_mks (e := 4) (m := 1) (bytes := 1) (z := .bool false) (by kernel_rfl) (by kernel_rfl) rfl (by omega) (by omega) (by omega) fun b => ?_
      have e : (List.replicate ((64 / Sp.sz c : Nat) : Int).toNat (Value.cells (.bool false)).toList).flatten = (List.replicate (64 / Sp.sz c) false).map bv := by
       rw [show (Value.cells (.bool false)).toList = [bv false] from rfl, rep1, Int.toNat_natCast]; simp
      rw [e, Int.toNat_natCast]
      refine en_chk tks ?_
      refine en_setQ (s := sq) (v := ⟨some ⟨b, 0, none⟩, 64 / Sp.sz c, 64 / Sp.sz c⟩) (xs := ql) tk (by omega) (by omega) ?_
      refine en_nn ?_
      refine en_ld (k := .slice) (b := p) (off := 3) (x := sq) (by rw [fa_mk]) tk rfl ?_
      have hqi : (ql.set i ⟨some ⟨b, 0, none⟩, 64 / Sp.sz c, 64 / Sp.sz c⟩).getD i nilS = (⟨some ⟨b, 0, none⟩, 64 / Sp.sz c, 64 / Sp.sz c⟩ : Slc) := by rw [set_getD (by omega), if_pos rfl]
      refine en_getQ (s := sq) tk (by omega) (by simp; omega) ?_
      rw [Int.toNat_natCast, hqi]
      refine en_call (rf_next ⟨some ⟨b, 0, none⟩, 64 / Sp.sz c, 64 / Sp.sz c⟩ (List.replicate (64 / Sp.sz c) false) false (by simp; omega)) tks ?_
      rintro x' M ⟨rfl, rfl⟩
      try simp only [lca, lna]
      rw [g1]
      refine en_nn ?_
      refine en_ld (k := .slice) (b := p) (off := 3) (x := sq) (by rw [fa_mk]) tk rfl ?_
      refine en_getQ (s := sq) tk (by omega) (by simp; omega) ?_
      rw [Int.toNat_natCast, hqi]
      refine en_setB (s := ⟨some ⟨b, 0, none⟩, 64 / Sp.sz c, 64 / Sp.sz c⟩) (xs := List.replicate (64 / Sp.sz c) false) tk (by omega) (by rw [List.length_replicate]; omega) ?_
      rw [Int.toNat_natCast]
      refine bk_at (i := i) (bl := S.pg.map Pg.bits) (ql := ql) (by simp [hql]) (by simp; omega) tk ?_
      refine Tr.drop (A := SLc (ql.getD i nilS) 1 (((S.pg.map Pg.bits).getD i []).map bv)) tk ?_
      refine bk_cl (bl := S.pg.map Pg.bits) (ql := ql) (i := i) (b := (List.replicate (64 / Sp.sz c) false).set k true) (q := ⟨some ⟨b, 0, none⟩, 64 / Sp.sz c, 64 / Sp.sz c⟩) (by simp [hql]) (by simp; omega) tks ?_
      have hset : ∀ (β : Type) (f : Pg → β) (v : β), f (.small c ((List.replicate (64 / Sp.sz c) false).set k true)) = v → (S.pg.map f).set i v = (S.pg.set i (.small c ((List.replicate (64 / Sp.sz c) false).set k true))).map f := fun β f v hv => by rw [map_set', hv]
      have hm : (S.pg.set i (.small c ((List.replicate (64 / Sp.sz c) false).set k true))).map Pg.many = S.pg.map Pg.many := by
       rw [map_set']
       refine ext_getD 0 (by simp) fun x hx => ?_
       rw [List.length_set, List.length_map] at hx
       rw [set_getD (by simpa using hx)]
       by_cases hxi : i = x
       ·subst hxi; rw [if_pos rfl, manyD hfi]; rfl
       ·rw [if_neg hxi]
      rw [hset Int Pg.kind ((c : Int) + 1) rfl, hset (List Bool) Pg.bits ((List.replicate (64 / Sp.sz c) false).set k true) rfl, ← hm]
      refine Tr.close tks (RSpaceA.cl (p := p) (S := ⟨S.ws, S.pg.set i (.small c ((List.replicate (64 / Sp.sz c) false).set k true))⟩) (a := sa) (k := sk) (m := sm) (q := sq) (ql := ql.set i ⟨some ⟨b, 0, none⟩, 64 / Sp.sz c, 64 / Sp.sz c⟩) (by simp [hql])) ?_
      exact tail i _ ⟨S.ws, S.pg.set i (.small c ((List.replicate (64 / Sp.sz c) false).set k true))⟩ k (by omega) hpl (by simp) g1 (by simpa using g2) rfl rfl
    ·rw [ho] at hpl
     dsimp only at hpl
     obtain ⟨l, hp, hcnt⟩ := Sp.openP_is ho
     obtain ⟨k, g1, g2, g3⟩ := next_of_count hcnt
     have hbl : Sp.blocks S.pg j = l := by unfold Sp.blocks; rw [hp]
     rw [hbl] at hpl
     have hj := getElem?_lt hp
     have hll := (hw.small _ _ _ hp).2
     refine en_brf (beq_eq_false_iff_ne.2 (show ((j : Nat) : Int) ≠ ((sk.n : Nat) : Int) by omega)) ?_
     refine en_nn ?_
     refine en_ld (k := .slice) (b := p) (off := 3) (x := sq) (by rw [fa_mk]) tk rfl ?_
     refine en_getQ (s := sq) (xs := ql) tk (by omega) (by omega) ?_
     rw [Int.toNat_natCast]
     refine bk_at (i := j) (bl := S.pg.map Pg.bits) (ql := ql) (by simp [hql]) (by simp; omega) tk ?_
     rw [bitsD hp, show Pg.bits (.small c l) = l from rfl]
     refine en_call (rf_next (ql.getD j nilS) l false (by omega)) tks ?_
     rintro x' M ⟨rfl, rfl⟩
     try simp only [lca, lna]
     rw [g1]
     refine en_nn ?_
     refine en_ld (k := .slice) (b := p) (off := 3) (x := sq) (by rw [fa_mk]) tk rfl ?_
     refine en_getQ (s := sq) (xs := ql) tk (by omega) (by omega) ?_
     rw [Int.toNat_natCast]
     refine en_setB (s := ql.getD j nilS) (xs := l) tk (by omega) (by omega) ?_
     rw [Int.toNat_natCast]
     refine bk_cl (bl := S.pg.map Pg.bits) (ql := ql) (i := j) (b := l.set k true) (q := ql.getD j nilS) (by simp [hql]) (by simp; omega) tks ?_
     have hqs : ql.set j (ql.getD j nilS) = ql := by
      refine ext_getD nilS (by simp) fun x hx => ?_
      rw [List.length_set] at hx
      rw [set_getD hx]
      by_cases hxi : j = x
      ·rw [if_pos hxi, hxi]
      ·rw [if_neg hxi]
     have hm : ∀ f : Pg → Int, f (.small c (l.set k true)) = f (.small c l) → (S.pg.set j (.small c (l.set k true))).map f = S.pg.map f := fun f hf => by
      rw [map_set']
      refine ext_getD 0 (by simp) fun x hx => ?_
      rw [List.length_set, List.length_map] at hx
      rw [set_getD (by simpa using hx)]
      by_cases hxi : j = x
      ·subst hxi; rw [if_pos rfl, hf, List.getD_eq_getElem?_getD, List.getElem?_map, hp]; rfl
      ·rw [if_neg hxi]
     rw [hqs, show (S.pg.map Pg.bits).set j (l.set k true) = (S.pg.set j (.small c (l.set k true))).map Pg.bits by rw [map_set']; rfl, ← hm Pg.kind rfl, ← hm Pg.many rfl]
     refine Tr.close tks (RSpaceA.cl (p := p) (S := ⟨S.ws, S.pg.set j (.small c (l.set k true))⟩) (a := sa) (k := sk) (m := sm) (q := sq) (ql := ql) (by simp [hql])) ?_
     exact tail j l ⟨S.ws, S.pg.set j (.small c (l.set k true))⟩ k hj hpl hll g1 g2 rfl rfl
   ·intro J hJ
    refine en_lp (fun m u M => (fun j : Int => M = blk b1 [.int .i64 0, .int .i64 0] :: RSpaceA p S :: R ∧ 0 ≤ j ∧ j ≤ S.pg.length ∧ m = S.pg.length - j.toNat ∧ ∀ x : Nat, x < j.toNat → Sp.openQ S.pg c x = false) u.1) S.pg.length ?_ ?_
    ·exact ⟨rfl, by simp, by dsimp only; omega, by simp, fun x hx => by simp at hx⟩
    ·rintro m ⟨(j : Int), ⟨⟩⟩ M ⟨rfl, j0, j1, rfl, hop⟩ X hX
     dsimp only at *
     refine en_nn (RSpaceA.op tk fun sa sk sm sq ql hql => ?_)
     refine en_ld (k := .slice) (b := p) (off := 1) (x := sk) (by rw [fa_mk]) tk rfl ?_
     refine Tr.nlen (s := sk) (xs := S.pg.map Pg.kind) tk fun hsk => ?_
     rw [List.length_map] at hsk
     refine en_br (fun h3 => ?_) (fun h3 => ?_)
     ·replace h3 : j < (sk.n : Int) := of_decide_eq_true h3
      have hx : S.pg[j.toNat]? = some S.pg[j.toNat] := List.getElem?_eq_getElem (by omega)
      generalize S.pg[j.toNat] = x at hx
      have hoq : Sp.openQ S.pg c j.toNat = (match x with | .small c' l => c' == c && !decide (l.count true = l.length) | _ => false) := by
       cases x <;> simp [Sp.openQ, hx]
      have w1 : IntKind.wrap .i64 (j + 1) = j + 1 := wrap64 (by omega) (by omega)
      have hgo : Sp.openQ S.pg c j.toNat = false → Tr ρ ρ (blk b1 [.int .i64 0, .int .i64 0] :: RSpaceA p S :: R) (X (j + 1, ())) (SP G2 (fun r M => r = ((Sp.alloc S w).1, (Sp.alloc S w).2.1, ()) ∧ M = [RSpaceA p (Sp.alloc S w).2.2]) R) := fun hq =>
       hX (S.pg.length - (j + 1).toNat) _ _ (by omega) ⟨rfl, by dsimp only; omega, by dsimp only; omega, rfl, fun x hx => by
        dsimp only at hx
        by_cases hc : x = j.toNat
        ·rw [hc]; exact hq
        ·exact hop x (by omega)⟩
      refine en_nn ?_
      refine en_ld (k := .slice) (b := p) (off := 1) (x := sk) (by rw [fa_mk]) tk rfl ?_
      refine en_getSL (s := sk) (xs := S.pg.map Pg.kind) tk j0 (by simp; omega) ?_
      rw [kindD hx, w1]
      refine en_br (fun h4 => ?_) (fun h4 => ?_)
      ·have h4 : x.kind ≠ (c : Int) + 1 := by simpa using h4
       refine Tr.close tks (RSpaceA.cl (p := p) (S := S) (a := sa) (k := sk) (m := sm) (q := sq) hql) ?_
       refine Tr.take (A := blk b1 [.int .i64 0, .int .i64 0]) tk (hgo ?_)
       rw [hoq]
       cases x with
       | small c' l =>
        have : c' ≠ c := by rintro rfl; exact h4 rfl
        simp [this]
       | _ => rfl
      ·have h4 : x.kind = (c : Int) + 1 := by simpa using h4
       obtain ⟨l, rfl⟩ : ∃ l, x = .small c l := by
        cases x with
        | small c' l => exact ⟨l, by (have : c' = c := by { simp [Pg.kind] at h4; omega }); rw [this]⟩
        | _ => simp [Pg.kind] at h4 <;> omega
       have hll := (hw.small _ _ _ hx).2
       dsimp only at hoq
       refine en_nn ?_
       refine en_ld (k := .slice) (b := p) (off := 3) (x := sq) (by rw [fa_mk]) tk rfl ?_
       refine en_getQ (s := sq) (xs := ql) tk j0 (by omega) ?_
       refine bk_at (i := j.toNat) (bl := S.pg.map Pg.bits) (ql := ql) (by simp [hql]) (by simp; omega) tk ?_
       rw [bitsD hx, show Pg.bits (.small c l) = l from rfl]
       refine en_call (rf_next (ql.getD j.toNat nilS) l false (by omega)) tks ?_
       rintro x' M ⟨rfl, rfl⟩
       try simp only [lca, lna]
       refine bk_cl0 (bl := S.pg.map Pg.bits) (ql := ql) (i := j.toNat) (by simp [hql]) (by simp; omega) (by rw [bitsD hx]; exact tks) ?_
       refine Tr.close tks (RSpaceA.cl (p := p) (S := S) (a := sa) (k := sk) (m := sm) (q := sq) hql) ?_
       refine Tr.take (A := blk b1 [.int .i64 0, .int .i64 0]) tk ?_
       by_cases hcnt : l.count true = l.length
       ·have hn1 : Sp.next l 0 false = -1 := by
         rcases Sp.next_spec l false 0 with ⟨g1, _⟩ | ⟨k, g1, g2, g3, g4, g5⟩
         ·exact g1
         ·exfalso
          rw [List.count_eq_length] at hcnt
          have hm : l[k] ∈ l := List.getElem_mem g3
          have := hcnt _ hm
          rw [List.getD_eq_getElem?_getD, List.getElem?_eq_getElem g3, Option.getD_some] at g4
          rw [g4] at this; cases this
        rw [hn1]
        refine en_brt rfl (hgo ?_)
        rw [hoq]; simp [hcnt]
       ·obtain ⟨k, g1, g2, g3⟩ := next_of_count hcnt
        rw [g1]
        refine en_brf (decide_eq_false (by omega)) ?_
        refine hJ _ _ ⟨rfl, .inr ⟨j.toNat, (show (j : Int) = ((j.toNat : Nat) : Int) by omega), openP_some (by omega) (by rw [hoq]; simp [hcnt]) hop⟩⟩
     ·replace h3 : ¬ j < (sk.n : Int) := of_decide_eq_false h3
      refine Tr.close tks (RSpaceA.cl (p := p) (S := S) (a := sa) (k := sk) (m := sm) (q := sq) hql) ?_
      refine Tr.take (A := blk b1 [.int .i64 0, .int .i64 0]) tk ?_
      exact hJ _ _ ⟨rfl, .inl ⟨(show (j : Int) = ((S.pg.length : Nat) : Int) by omega), openP_none fun x hx => hop x (by omega)⟩⟩
end Go.Proofs.YtpefngbfgjfcgaaGreat
namespace Go.Proofs.YtpefngbfgjfcgaaGreat
open Go Go.Gl
variable {ρ0 ρ : FR} {L L' : List Asn} {Post : Value → List Asn → Prop} {T : Tree}
theorem freeL_kind {pg : List Pg} {i k x : Nat} (hx : x < pg.length) : ((Sp.freeL pg i k).map Pg.kind).getD x 0 = if i ≤ x ∧ x < i + k then 0 else (pg.map Pg.kind).getD x 0 := by
 have hp := freeL_get (pg := pg) (i := i) (k := k) (j := x)
 rw [if_pos hx] at hp
 rw [kindD hp]
 split
 ·rfl
 ·rw [List.getD_eq_getElem?_getD, List.getD_eq_getElem?_getD, List.getElem?_map, List.getElem?_eq_getElem hx]; rfl
theorem freeL_many {pg : List Pg} {i k x : Nat} (hx : x < pg.length) : ((Sp.freeL pg i k).map Pg.many).getD x 0 = if i ≤ x ∧ x < i + k then 0 else (pg.map Pg.many).getD x 0 := by
 have hp := freeL_get (pg := pg) (i := i) (k := k) (j := x)
 rw [if_pos hx] at hp
 rw [manyD hp]
 split
 ·rfl
 ·rw [List.getD_eq_getElem?_getD, List.getD_eq_getElem?_getD, List.getElem?_map, List.getElem?_eq_getElem hx]; rfl
theorem freeL_bits {pg : List Pg} {i k : Nat} (h0 : ∀ x : Nat, i ≤ x → x < i + k → (pg.map Pg.bits).getD x [] = []) : (Sp.freeL pg i k).map Pg.bits = pg.map Pg.bits := by
 refine ext_getD [] (by simp [freeL_len]) fun x hx => ?_
 rw [List.length_map, freeL_len] at hx
 have hp := freeL_get (pg := pg) (i := i) (k := k) (j := x)
 rw [if_pos hx] at hp
 rw [bitsD hp]
 split
 ·rename_i h; rw [h0 x h.1 h.2]; rfl
 ·rw [List.getD_eq_getElem?_getD, List.getD_eq_getElem?_getD, List.getElem?_map, List.getElem?_eq_getElem hx]; rfl
def Pg.upto (p : Nat) (x : Pg) (i : Nat) : List Int := match x with | .small c l => Sp.atTo p c l i | .head _ => [((p * 64 : Nat) : Int)] | _ => []
theorem upto_all {p : Nat} {x : Pg} : Pg.upto p x x.bits.length = Sp.at1 p x := by
 cases x <;> first | rfl | exact Sp.atTo_all _ _ _
theorem at1_len' {p : Nat} {x : Pg} {i : Nat} (h : i ≤ x.bits.length) (hb : x.bits.length ≤ 32) : (Pg.upto p x i).length ≤ 32 := by
 cases x with
 | small c l => exact Nat.le_trans (Sp.atTo_len p c l i) (by simp [Pg.bits] at h hb; omega)
 | head k => simp [Pg.upto]
 | _ => simp [Pg.upto]
theorem each_part_len {pg : List Pg} (hb : ∀ x ∈ pg, x.bits.length ≤ 32) (q : Nat) (hq : q ≤ pg.length) : ((List.range q).flatMap fun p => Sp.at1 p (pg.getD p .free)).length ≤ 32 * q := by
 induction q with
 | zero => simp
 | succ q ih =>
  rw [List.range_succ, List.flatMap_append, List.length_append]
  have := ih (by omega)
  have h2 : (Sp.at1 q (pg.getD q .free)).length ≤ 32 := by
   rw [← upto_all]
   refine at1_len' (Nat.le_refl _) (hb _ ?_)
   rw [List.getD_eq_getElem?_getD, List.getElem?_eq_getElem (by omega)]; exact List.getElem_mem _
  simp only [List.flatMap_cons, List.flatMap_nil, List.append_nil]
  omega
theorem rf_each (p : Nat) (S : Spc) (hw : Wf S) : Gl.Spec ρ Tryz.prog 59 [.pointer (some ⟨p, 0, none⟩)] [RSpaceA p S] RS
  fun r M => M = [SLc r 1 ((Sp.each S).map i64), RSpaceA p S] := by
 have hmost := hw.most
 have hbits : ∀ x ∈ S.pg, x.bits.length ≤ 32 := fun x hx => by
  obtain ⟨i, hi⟩ := List.mem_iff_getElem?.mp hx
  cases x with
  | small c l =>
   obtain ⟨h1, h2⟩ := hw.small i c l hi
   simp only [Pg.bits]
   rw [h2]
   rcases Sp.sz_cases h1 with ⟨_, e⟩ | ⟨_, e⟩ | ⟨_, e⟩ | ⟨_, e⟩ | ⟨_, e⟩ <;> rw [e] <;> decide
  | _ => simp [Pg.bits]
 refine Spec.of (fun Q w' h => F.gloamingref1.Space.Each.calls (some ⟨p, 0, none⟩) h) fun R => ?_
 unfold F.gloamingref1.Space.Each
 try simp only [lca, lna]
 refine Tr.nilSL 1 ?_
 refine en_lp (fun m u M => (fun (t : Slc) (i : Int) => M = SLc t 1 (((List.range i.toNat).flatMap fun p => Sp.at1 p (S.pg.getD p .free)).map i64) :: RSpaceA p S :: R ∧ 0 ≤ i ∧ i ≤ S.pg.length ∧ m = S.pg.length - i.toNat) u.1 u.2.1) S.pg.length ?_ ?_
 ·exact ⟨rfl, by simp, by dsimp only; omega, by simp⟩
 ·rintro m ⟨(t : Slc), (i : Int), ⟨⟩⟩ M ⟨rfl, i0, i1, rfl⟩ X hX
  dsimp only at *
  refine en_nn (RSpaceA.op tk fun sa sk sm sq ql hql => ?_)
  refine en_ld (k := .slice) (b := p) (off := 1) (x := sk) (by rw [fa_mk]) tk rfl ?_
  refine Tr.nlen (s := sk) (xs := S.pg.map Pg.kind) tk fun hsk => ?_
  rw [List.length_map] at hsk
  refine en_br (fun h => ?_) (fun h => ?_)
  ·replace h : i < (sk.n : Int) := of_decide_eq_true h
   obtain ⟨P, rfl⟩ := Int.eq_ofNat_of_zero_le i0
   simp only [Int.toNat_natCast] at *
   have hP : P < S.pg.length := by omega
   have hx : S.pg[P]? = some S.pg[P] := List.getElem?_eq_getElem hP
   have hpl := each_part_len hbits P (by omega)
   have hgd : S.pg.getD P .free = S.pg[P] := getD_of hx
   have hxb := hbits _ (List.getElem_mem hP)
   have hnext : (List.range (P + 1)).flatMap (fun p => Sp.at1 p (S.pg.getD p .free)) = ((List.range P).flatMap fun p => Sp.at1 p (S.pg.getD p .free)) ++ Sp.at1 P S.pg[P] := by
    rw [List.range_succ, List.flatMap_append, List.flatMap_cons, List.flatMap_nil, List.append_nil, hgd]
   generalize (List.range P).flatMap (fun p => Sp.at1 p (S.pg.getD p .free)) = acc at *
   generalize hxx : S.pg[P] = x at *
   refine en_nn ?_
   refine en_ld (k := .slice) (b := p) (off := 1) (x := sk) (by rw [fa_mk]) tk rfl ?_
   refine en_getSL (s := sk) (xs := S.pg.map Pg.kind) tk (by omega) (by simp; omega) ?_
   rw [Int.toNat_natCast, kindD hx]
   have w1 : IntKind.wrap .i64 ((P : Int) + 1) = (P : Int) + 1 := wrap64 (by omega) (by omega)
   have w2 : IntKind.wrap .i64 ((P : Int) * 64) = (P : Int) * 64 := wrap64 (by omega) (by omega)
   rw [w1, w2]
   refine Tr.close tks (RSpaceA.cl (p := p) (S := S) (a := sa) (k := sk) (m := sm) (q := sq) hql) ?_
   refine Tr.take (A := SLc t 1 (acc.map i64)) tk ?_
   have hdone : ∀ t' : Slc, Tr ρ ρ (SLc t' 1 ((acc ++ Sp.at1 P x).map i64) :: RSpaceA p S :: R) (X (⟨t'.a, t'.n, t'.c⟩, (P : Int) + 1, ())) (SP RS (fun r M => M = [SLc r 1 ((Sp.each S).map i64), RSpaceA p S]) R) := fun t' => by
    refine hX (S.pg.length - (P + 1)) _ _ (by omega) ⟨?_, by dsimp only; omega, by dsimp only; omega, by dsimp only; omega⟩
    dsimp only
    rw [show ((P : Int) + 1).toNat = P + 1 by omega, hnext]
   refine en_br (fun h6 => ?g1) (fun h6 => ?g2)
   case' g1 =>
    have h6 : x.kind = 6 := eq_of_beq h6
    obtain ⟨k, rfl⟩ : ∃ k, x = .head k := by
     cases x with
     | head k => exact ⟨k, rfl⟩
     | small c l => have := (hw.small _ _ _ hx).1; simp [Pg.kind] at h6; omega
     | _ => simp [Pg.kind] at h6
    refine en_appI (s := t) (xs := acc) appInt tk (by omega) fun t r => ?_
    have e0 : acc ++ [(P : Int) * 64] = acc ++ Pg.upto P (.head k) 0 := by unfold Pg.upto; simp
    rw [e0]
    have hc : ∀ c l, Pg.head k ≠ .small c l → True := fun _ _ _ => trivial
    generalize Pg.head k = x at *
   case' g2 =>
    have h6 : x.kind ≠ 6 := by simpa using h6
    have e0 : acc = acc ++ Pg.upto P x 0 := by
     cases x with
     | head k => exact absurd rfl h6
     | small c l => simp [Pg.upto, Sp.atTo]
     | _ => simp [Pg.upto]
    conv in (SLc t 1 (acc.map i64)) => rw [e0]
   all_goals
    refine en_lp (fun m u M => (fun (t : Slc) (j : Int) => M = SLc t 1 ((acc ++ Pg.upto P x j.toNat).map i64) :: RSpaceA p S :: R ∧ 0 ≤ j ∧ j ≤ x.bits.length ∧ m = x.bits.length - j.toNat) u.1 u.2.1) x.bits.length ?_ ?_
    ·exact ⟨rfl, by simp, by dsimp only; omega, by simp⟩
    ·rintro m ⟨(t : Slc), (j : Int), ⟨⟩⟩ M ⟨rfl, j0, j1, rfl⟩ Y hY
     dsimp only at *
     refine en_nn (RSpaceA.op tk fun sa sk sm sq ql hql => ?_)
     refine en_ld (k := .slice) (b := p) (off := 3) (x := sq) (by rw [fa_mk]) tk rfl ?_
     refine en_getQ (s := sq) (xs := ql) tk (by omega) (by omega) ?_
     rw [Int.toNat_natCast]
     refine bk_at (i := P) (bl := S.pg.map Pg.bits) (ql := ql) (by simp [hql]) (by simp; omega) tk ?_
     rw [bitsD hx]
     refine Tr.vlen (s := ql.getD P nilS) (xs := x.bits.map bv) tk fun hqn => ?_
     rw [List.length_map] at hqn
     refine en_br (fun h3 => ?_) (fun h3 => ?_)
     ·replace h3 : j < ((ql.getD P nilS).n : Int) := of_decide_eq_true h3
      obtain ⟨c, l, rfl⟩ : ∃ c l, x = .small c l := by
       cases x with
       | small c l => exact ⟨c, l, rfl⟩
       | _ => simp only [Pg.bits, List.length_nil] at hqn; omega
      obtain ⟨c5, hll⟩ := hw.small _ _ _ hx
      have hz := Sp.sz_cases c5
      simp only [Pg.bits] at *
      refine en_nn ?_
      refine en_ld (k := .slice) (b := p) (off := 3) (x := sq) (by rw [fa_mk]) tk rfl ?_
      refine en_getQ (s := sq) (xs := ql) tk (by omega) (by omega) ?_
      rw [Int.toNat_natCast]
      refine en_getB (s := ql.getD P nilS) (xs := l) tk j0 (by omega) ?_
      rw [wrap64 (n := j + 1) (by omega) (by omega)]
      have hal := Sp.atTo_len P c l j.toNat
      refine en_br (fun h4 => ?_) (fun h4 => ?_)
      ·have hone := Sp.atTo_one (p := P) (c := c) h4
       refine en_drw (en_held [blk p [slv sa, slv sk, slv sm, slv sq], SLc sk 1 ((S.pg.map Pg.kind).map i64)] tks (en_nn ?_))
       refine en_ldS (k := .slice) (b := p) (off := 1) (x := sk) (by rw [fa_mk]) tk rfl ?_
       refine en_getSLS (s := sk) (xs := S.pg.map Pg.kind) tk tk (by omega) (by simp; omega) ?_
       rw [Int.toNat_natCast, kindD hx]
       refine en_call (ref_sizes) tks ?_
       rintro s M ⟨hs, rfl⟩
       try simp only [lca, lna]
       refine en_chk tks (en_cut [SLc s 1 (Sp.sizes.map i64), blk p [slv sa, slv sk, slv sm, slv sq], SLc sk 1 ((S.pg.map Pg.kind).map i64)] tks (fun w h => h.sub tks) ?_)
       rw [show IntKind.wrap .i64 (Pg.kind (.small c l) - 1) = (c : Int) by simp only [Pg.kind]; rw [wrap64 (by omega) (by omega)]; omega]
       refine en_getSLS (s := s) (xs := Sp.sizes) tk tk (by omega) (by show (c : Int) < 5; omega) ?_
       rw [Int.toNat_natCast, Sp.sz_get c5]
       refine Tr.drop (A := SLc s 1 (Sp.sizes.map i64)) tk ?_
       have hjl : j.toNat < l.length := by omega
       obtain ⟨f1, f2, f3⟩ := sz_fit c5 hjl hll
       have em : j * (Sp.sz c : Nat) = ((j.toNat * Sp.sz c : Nat) : Int) := by rw [Int.natCast_mul]; congr 1; omega
       rw [em, wrap64 (n := ((j.toNat * Sp.sz c : Nat) : Int)) (by omega) (by omega), wrap64 (n := (P : Int) * 64 + ((j.toNat * Sp.sz c : Nat) : Int)) (by omega) (by omega)]
       refine bk_cl0 (bl := S.pg.map Pg.bits) (ql := ql) (i := P) (by simp [hql]) (by simp; omega) (by rw [bitsD hx]; exact tks) ?_
       refine Tr.close tks (RSpaceA.cl (p := p) (S := S) (a := sa) (k := sk) (m := sm) (q := sq) hql) ?_
       refine en_appI (s := t) (xs := acc ++ Pg.upto P (.small c l) j.toNat) appInt tk (by simp only [Pg.upto, List.length_append]; omega) fun r hr => ?_
       refine hY (l.length - (j + 1).toNat) _ _ (by omega) ⟨?_, by dsimp only; omega, by dsimp only; omega, rfl⟩
       dsimp only
       rw [show (j + 1).toNat = j.toNat + 1 by omega, List.append_assoc]
       simp only [Pg.upto]
       rw [hone, show ((P : Int) * 64 + ((j.toNat * Sp.sz c : Nat) : Int)) = ((P * 64 + j.toNat * Sp.sz c : Nat) : Int) by omega]
      ·have hskip := Sp.atTo_skip (p := P) (c := c) (l := l) (q := j.toNat) (k := j.toNat + 1) (fun j' h1 h2 => by rw [show j' = j.toNat by omega, h4]; simp) (by omega)
       refine bk_cl0 (bl := S.pg.map Pg.bits) (ql := ql) (i := P) (by simp [hql]) (by simp; omega) (by rw [bitsD hx]; exact tks) ?_
       refine Tr.close tks (RSpaceA.cl (p := p) (S := S) (a := sa) (k := sk) (m := sm) (q := sq) hql) ?_
       refine Tr.take (A := SLc t 1 ((acc ++ Pg.upto P (.small c l) j.toNat).map i64)) tk ?_
       refine hY (l.length - (j + 1).toNat) _ _ (by omega) ⟨?_, by dsimp only; omega, by dsimp only; omega, rfl⟩
       dsimp only
       rw [show (j + 1).toNat = j.toNat + 1 by omega]
       simp only [Pg.upto]
       rw [hskip]
     ·replace h3 : ¬ j < ((ql.getD P nilS).n : Int) := of_decide_eq_false h3
      rw [show j.toNat = x.bits.length by omega, upto_all]
      refine bk_cl0 (bl := S.pg.map Pg.bits) (ql := ql) (i := P) (by simp [hql]) (by simp; omega) (by rw [bitsD hx]; exact tks) ?_
      refine Tr.close tks (RSpaceA.cl (p := p) (S := S) (a := sa) (k := sk) (m := sm) (q := sq) hql) ?_
      refine Tr.take (A := SLc t 1 ((acc ++ Sp.at1 P x).map i64)) tk ?_
      exact hdone t
  ·replace h : ¬ i < (sk.n : Int) := of_decide_eq_false h
   refine Tr.close tks (RSpaceA.cl (p := p) (S := S) (a := sa) (k := sk) (m := sm) (q := sq) hql) ?_
   rw [show i.toNat = S.pg.length by omega]
   exact en_rets (x := t) rfl rfl tks ens
theorem star_nils : ∀ (n : Nat) (h : HP), emp h → star (((List.replicate n ([] : List Bool)).zip (List.replicate n nilS)).map BkA) h
 | 0, h, H => H
 | n + 1, h, H => by
  rw [List.replicate_succ, List.replicate_succ]
  exact ⟨fun _ => none, h, fun _ => .inl rfl, by funext b; simp, SLc.nil 1 _ (fun _ => rfl), star_nils n h H⟩
theorem RSpaceA.cl0 {b : Nat} {n : Int} {a k m q : Slc} (h : HP) (H : star [blk b [slv a, slv k, slv m, slv q], SLc a 1 (List.replicate (n * 64).toNat (Value.cells (.int .i64 0)).toList).flatten, SLc k 1 (List.replicate n.toNat (Value.cells (.int .i64 0)).toList).flatten,
  SLc m 1 (List.replicate n.toNat (Value.cells (.int .i64 0)).toList).flatten, SLc q 1 (List.replicate n.toNat (Value.cells (.slice none 0 0)).toList).flatten] h) : RSpaceA b ⟨List.replicate (n * 64).toNat 0, List.replicate n.toNat .free⟩ h := by
 refine ⟨((a, k, m, q), List.replicate n.toNat nilS), by simp, ?_⟩
 dsimp only
 rw [show (Value.cells (.int .i64 0)).toList = [i64 0] from rfl, show (Value.cells (.slice none 0 0)).toList = [slv nilS] from rfl, rep1, rep1, rep1] at H
 rw [List.map_replicate, List.map_replicate, List.map_replicate, List.map_replicate, List.map_replicate, List.map_replicate, List.map_replicate, show Pg.bits .free = [] from rfl, show Pg.kind .free = 0 from rfl, show Pg.many .free = 0 from rfl]
 refine sep_mono (fun _ h => h) (fun _ => sep_mono (fun _ h => h) (fun _ => sep_mono (fun _ h => h) (fun _ => sep_mono (fun _ h => h) (fun _ => sep_mono (fun _ h => h) (fun h' he => ?_))))) H
 exact sep_emp (star_nils _ _ he)
theorem rf_new (n : Int) (h0 : 1 ≤ n) (h1 : n ≤ 256) : Gl.Spec ρ Tryz.prog 73 [i64 n] [] (.one (.l .ptr))
  fun r M => ∃ b, r = some ⟨b, 0, none⟩ ∧ M = [RSpaceA b (Sp.newSpc n.toNat)] := by
 refine Spec.of (fun Q w' h => F.gloamingref1.NewSpace.calls n h) fun R => ?_
 unfold F.gloamingref1.NewSpace
 try simp only [lca, lna]
 rw [wrap64 (n := n * 64) (by omega) (by omega)]
 refine en_jn (fun (u : LTs [.adr]) M => ∃ b, u.1 = ⟨b, 0, none⟩ ∧ M = RSpaceA b ⟨List.replicate (n * 64).toNat 0, List.replicate n.toNat .free⟩ :: R) ?_ ?_
 ·rintro ⟨(u : Addr), ⟨⟩⟩ M ⟨b, rfl, rfl⟩
  dsimp only
  refine RSpaceA.op tk fun sa sk sm sq ql hql => ?_
  refine en_ld (k := .slice) (b := b) (off := 1) (x := sk) (by rw [fa_mk]) tk rfl ?_
  refine en_setSL (s := sk) (xs := (List.replicate n.toNat Pg.free).map Pg.kind) tk (by omega) (by simp; omega) ?_
  obtain ⟨k, hk⟩ : ∃ k, n.toNat = k + 1 := ⟨n.toNat - 1, by omega⟩
  have e1 : ((List.replicate n.toNat Pg.free).map Pg.kind).set (0 : Int).toNat (-1) = (Sp.newSpc n.toNat).pg.map Pg.kind := by
   rw [hk]; simp [Sp.newSpc, List.replicate_succ, Pg.kind]
  have e2 : (List.replicate n.toNat Pg.free).map Pg.many = (Sp.newSpc n.toNat).pg.map Pg.many := by rw [hk]; simp [Sp.newSpc, List.replicate_succ, Pg.many]
  have e3 : (List.replicate n.toNat Pg.free).map Pg.bits = (Sp.newSpc n.toNat).pg.map Pg.bits := by rw [hk]; simp [Sp.newSpc, List.replicate_succ, Pg.bits]
  have e4 : List.replicate (n * 64).toNat (0 : Int) = (Sp.newSpc n.toNat).ws := by unfold Sp.newSpc; rw [show (n * 64).toNat = n.toNat * 64 by omega]
  rw [e1, e2, e3, e4]
  refine Tr.close tks (RSpaceA.cl (p := b) (S := Sp.newSpc n.toNat) (a := sa) (k := sk) (m := sm) (q := sq) (ql := ql) (by rw [hql, hk]; simp [Sp.newSpc])) ?_
  exact en_rets (x := some ⟨b, 0, none⟩) rfl ⟨b, rfl, rfl⟩ tks ens
 ·intro J hJ
  refine en_drw (en_held [] .nil ?_)
  have m1 : ∀ {ρ0 ρ : FR} {L : List Asn} {Post : Value → List Asn → Prop} {k : RT (.one (.l .slice)) → Tree}, (∀ b, Tr ρ0 ρ (SLc ⟨some ⟨b, 0, none⟩, (n * 64).toNat, (n * 64).toNat⟩ 1 (List.replicate (n * 64).toNat (Value.cells (.int .i64 0)).toList).flatten :: L) (k ⟨some ⟨b, 0, none⟩, (n * 64).toNat, (n * 64).toNat⟩) Post) →
    Tr ρ0 ρ L (opr Tryz.prog (Instr.makeSlice 24 (.int .i64 (n * 64)) (.int .i64 (n * 64))) (.one (.l .slice)) k) Post := fun h =>
   en_mks (e := 3) (m := 1) (bytes := 8) (z := .int .i64 0) (by kernel_rfl) (by kernel_rfl) rfl (by omega) (by omega) (by omega) h
  have m2 : ∀ {ρ0 ρ : FR} {L : List Asn} {Post : Value → List Asn → Prop} {k : RT (.one (.l .slice)) → Tree}, (∀ b, Tr ρ0 ρ (SLc ⟨some ⟨b, 0, none⟩, n.toNat, n.toNat⟩ 1 (List.replicate n.toNat (Value.cells (.int .i64 0)).toList).flatten :: L) (k ⟨some ⟨b, 0, none⟩, n.toNat, n.toNat⟩) Post) →
    Tr ρ0 ρ L (opr Tryz.prog (Instr.makeSlice 24 (.int .i64 n) (.int .i64 n)) (.one (.l .slice)) k) Post := fun h =>
   en_mks (e := 3) (m := 1) (bytes := 8) (z := .int .i64 0) (by kernel_rfl) (by kernel_rfl) rfl (by omega) (by omega) (by omega) h
  have m3 : ∀ {ρ0 ρ : FR} {L : List Asn} {Post : Value → List Asn → Prop} {k : RT (.one (.l .slice)) → Tree}, (∀ b, Tr ρ0 ρ (SLc ⟨some ⟨b, 0, none⟩, n.toNat, n.toNat⟩ 1 (List.replicate n.toNat (Value.cells (.slice none 0 0)).toList).flatten :: L) (k ⟨some ⟨b, 0, none⟩, n.toNat, n.toNat⟩) Post) →
    Tr ρ0 ρ L (opr Tryz.prog (Instr.makeSlice 118 (.int .i64 n) (.int .i64 n)) (.one (.l .slice)) k) Post := fun h =>
   en_mks (e := 173) (m := 1) (bytes := 24) (z := .slice none 0 0) (by kernel_rfl) (by kernel_rfl) rfl (by omega) (by omega) (by omega) h
  repeat' first
   | with_reducible refine en_both ?_ ?_
   | with_reducible refine en_chk .nil ?_
   | with_reducible refine m3 fun _ => ?_
   | with_reducible refine m2 fun _ => ?_
   | with_reducible refine m1 fun _ => ?_
   | refine en_nw fun b => Tr.close tks (RSpaceA.cl0 (b := b) (n := n)) (hJ _ _ ⟨b, rfl, rfl⟩)
end Go.Proofs.YtpefngbfgjfcgaaGreat
namespace Go.Proofs.YtpefngbfgjfcgaaGreat
open Go Go.Gl
variable {ρ0 ρ : FR} {L L' : List Asn} {Post : Value → List Asn → Prop} {T : Tree}
abbrev HX : RK := .one (.g [.int .i64, .int .i64, .int .i64, .bool, .bool])
def Rf.hd : Option Hd → RT HX
 | some h => (h.k, h.c, h.n, h.f, true, ()) | none => ((0 : Int), (0 : Int), (0 : Int), false, false, ())
theorem zcHX : zc Tryz.prog 109 = [.int .i64 0, .int .i64 0, .int .i64 0, .bool false, .bool false] := by kernel_rfl
theorem rf_mayhead (h : Hd) : Gl.Spec ρ Tryz.prog 115 [hval h] [] RB fun r M => r = Sp.mayH h ∧ M = [] := by
 refine Spec.of (fun Q w hh => F.gloamingref1.MayHead.calls h.t hh) fun R => ?_
 obtain ⟨k, c, n, f⟩ := h
 unfold F.gloamingref1.MayHead
 try simp only [lca, lna]
 refine en_nw fun b1 => ?_
 refine en_ld (k := .int .i64) (b := b1) (off := 2) (x := n) (by rw [fa_mk]) tk rfl ?_
 refine en_br (fun h => ?_) (fun h => ?_)
 ·replace h : n < 0 := of_decide_eq_true h
  refine en_rets (x := Sp.mayH ⟨k, c, n, f⟩) ?_ ⟨rfl, rfl⟩ tks ens
  rw [show Sp.mayH ⟨k, c, n, f⟩ = false by unfold Sp.mayH; rw [decide_eq_false (by dsimp only; omega)]; rfl]; rfl
 ·replace h : ¬ n < 0 := of_decide_eq_false h
  refine en_ld (k := .int .i64) (b := b1) (off := 2) (x := n) (by rw [fa_mk]) tk rfl ?_
  refine en_br (fun h2 => ?_) (fun h2 => ?_)
  ·replace h2 : n > 1023 := of_decide_eq_true h2
   refine en_rets (x := Sp.mayH ⟨k, c, n, f⟩) ?_ ⟨rfl, rfl⟩ tks ens
   rw [show Sp.mayH ⟨k, c, n, f⟩ = false by unfold Sp.mayH; rw [decide_eq_false (by dsimp only; omega)]; rfl]; rfl
  ·replace h2 : ¬ n > 1023 := of_decide_eq_false h2
   have e0 : Sp.mayH ⟨k, c, n, f⟩ = (if k = 1 then decide (1 ≤ c ∧ c ≤ 256) else if k = 2 ∨ k = 3 then decide (0 ≤ c ∧ c ≤ 0) else if k = 4 then decide (1 ≤ c ∧ c ≤ 3) && (n == 5) && !f else false) := by
    unfold Sp.mayH; rw [decide_eq_true (by dsimp only; omega), Bool.true_and]
   rw [e0]
   refine en_ld (k := .int .i64) (b := b1) (off := 0) (x := k) (by rw [fa_mk]) tk rfl ?_
   refine en_br (fun h3 => ?_) (fun h3 => ?_)
   ·have h3 : k = 1 := eq_of_beq h3
    rw [if_pos h3]
    refine en_ld (k := .int .i64) (b := b1) (off := 1) (x := c) (by rw [fa_mk]) tk rfl ?_
    refine en_br (fun h4 => ?_) (fun h4 => ?_)
    ·replace h4 : c ≥ 1 := of_decide_eq_true h4
     refine en_ld (k := .int .i64) (b := b1) (off := 1) (x := c) (by rw [fa_mk]) tk rfl ?_
     refine en_rets (x := decide (1 ≤ c ∧ c ≤ 256)) ?_ ⟨rfl, rfl⟩ tks ens
     rw [show decide (1 ≤ c ∧ c ≤ 256) = decide (c ≤ 256) by rw [decide_eq_decide]; omega]; rfl
    ·replace h4 : ¬ c ≥ 1 := of_decide_eq_false h4
     refine en_rets (x := decide (1 ≤ c ∧ c ≤ 256)) ?_ ⟨rfl, rfl⟩ tks ens
     rw [decide_eq_false (by omega)]; rfl
   ·have h3 : k ≠ 1 := by simpa using h3
    rw [if_neg h3]
    have z0 : decide (0 ≤ c ∧ c ≤ 0) = (c == 0) := by rw [Bool.eq_iff_iff, decide_eq_true_iff, beq_iff_eq]; omega
    rw [z0]
    refine en_br (fun h4 => ?_) (fun h4 => ?_)
    ·have h5 : k = 2 := eq_of_beq h4
     rw [if_pos (.inl h5)]
     refine en_brt h4 ?_
     refine en_ld (k := .int .i64) (b := b1) (off := 1) (x := c) (by rw [fa_mk]) tk rfl ?_
     exact en_rets (x := (c == 0)) rfl ⟨rfl, rfl⟩ tks ens
    ·have h5 : k ≠ 2 := by simpa using h4
     refine en_br (fun h6 => ?_) (fun h6 => ?_)
     ·rw [if_pos (.inr (eq_of_beq h6))]
      refine en_ld (k := .int .i64) (b := b1) (off := 1) (x := c) (by rw [fa_mk]) tk rfl ?_
      exact en_rets (x := (c == 0)) rfl ⟨rfl, rfl⟩ tks ens
     ·have h7 : k ≠ 3 := by simpa using h6
      rw [if_neg (by omega)]
      refine en_br (fun h8 => ?_) (fun h8 => ?_)
      ·rw [if_pos (eq_of_beq h8)]
       refine en_ld (k := .int .i64) (b := b1) (off := 1) (x := c) (by rw [fa_mk]) tk rfl ?_
       refine en_br (fun h9 => ?_) (fun h9 => ?_)
       ·replace h9 : c ≥ 1 := of_decide_eq_true h9
        refine en_ld (k := .int .i64) (b := b1) (off := 1) (x := c) (by rw [fa_mk]) tk rfl ?_
        refine en_br (fun ha => ?_) (fun ha => ?_)
        ·replace ha : c ≤ 3 := of_decide_eq_true ha
         rw [decide_eq_true ⟨h9, ha⟩, Bool.true_and]
         refine en_ld (k := .int .i64) (b := b1) (off := 2) (x := n) (by rw [fa_mk]) tk rfl ?_
         refine en_br (fun hb => ?_) (fun hb => ?_)
         ·rw [hb, Bool.true_and]
          refine en_ld (k := .bool) (b := b1) (off := 3) (x := f) (by rw [fa_mk]) tk rfl ?_
          exact en_rets (x := (!f)) rfl ⟨rfl, rfl⟩ tks ens
         ·rw [hb]
          exact en_rets (x := false) rfl ⟨rfl, rfl⟩ tks ens
        ·replace ha : ¬ c ≤ 3 := of_decide_eq_false ha
         rw [decide_eq_false (by omega)]
         exact en_rets (x := false) rfl ⟨rfl, rfl⟩ tks ens
       ·replace h9 : ¬ c ≥ 1 := of_decide_eq_false h9
        rw [decide_eq_false (by omega)]
        exact en_rets (x := false) rfl ⟨rfl, rfl⟩ tks ens
      ·have : k ≠ 4 := by simpa using h8
       rw [if_neg this]
       exact en_rets (x := false) rfl ⟨rfl, rfl⟩ tks ens
theorem rf_puthead (h : Hd) (hm : Sp.mayH h = true) : Gl.Spec ρ Tryz.prog 77 [hval h] [] R1 fun r M => r = Sp.putH h ∧ M = [] := by
 refine Spec.of (fun Q w hh => F.gloamingref1.PutHead.calls h.t hh) fun R => ?_
 have hb := Sp.mayH_is hm
 obtain ⟨k, c, n, f⟩ := h
 dsimp only at hb
 unfold F.gloamingref1.PutHead
 try simp only [lca, lna]
 refine en_nw fun b1 => ?_
 refine en_ld (k := .int .i64) (b := b1) (off := 0) (x := k) (by rw [fa_mk]) tk rfl ?_
 refine en_ld (k := .int .i64) (b := b1) (off := 1) (x := c) (by rw [fa_mk]) tk rfl ?_
 refine en_ld (k := .int .i64) (b := b1) (off := 2) (x := n) (by rw [fa_mk]) tk rfl ?_
 refine en_ld (k := .bool) (b := b1) (off := 3) (x := f) (by rw [fa_mk]) tk rfl ?_
 rw [wrap64 (n := 16 * c) (by omega) (by omega), wrap64 (n := k + 16 * c) (by omega) (by omega), wrap64 (n := 65536 * n) (by omega) (by omega), wrap64 (n := k + 16 * c + 65536 * n) (by omega) (by omega), wrap64 (n := k + 16 * c + 65536 * n + 8) (by omega) (by omega)]
 cases f with
 | true =>
  refine en_brt rfl ?_
  exact en_rets (x := Sp.putH (Hd.mk k c n true)) rfl ⟨rfl, rfl⟩ tks ens
 | false =>
  refine en_brf rfl ?_
  refine en_rets (x := Sp.putH (Hd.mk k c n false)) ?_ ⟨rfl, rfl⟩ tks ens
  simp [Sp.putH, RK.val, KD.val, LK.val]
theorem rf_gethead (h : Hd) (hm : Sp.mayH h = true) : Gl.Spec ρ Tryz.prog 99 [i64 (Sp.putH h)] [] HX fun r M => r = Rf.hd (some h) ∧ M = [] := by
 refine Spec.of (fun Q w hh => F.gloamingref1.GetHead.calls (Sp.putH h) hh) fun R => ?_
 obtain ⟨g1, g2, g3, g4, g5, g6⟩ := Sp.putH_get hm
 have hb := Sp.mayH_is hm
 unfold F.gloamingref1.GetHead
 try simp only [lca, lna]
 refine en_nw fun b1 => ?_
 rw [zcHX]
 have hlt : Sp.putH h < 67108864 := by unfold Sp.putH; split <;> omega
 have g7 : Int.tmod (IntKind.wrap .i64 (Int.tdiv (Sp.putH h) 16)) 4096 = h.c := by
  rw [Int.tdiv_eq_ediv_of_nonneg g5, wrap64 (by omega) (by omega), Int.tmod_eq_emod_of_nonneg (by omega)]
  unfold Sp.putH; split <;> omega
 refine en_brf (decide_eq_false (by omega)) (en_brf (decide_eq_false (by omega)) ?_)
 refine en_need (by decide) (en_need (by decide) (en_need (by decide) (en_need (by decide) (en_need (by decide) (en_need (by decide) ?_)))))
 refine en_nw fun b2 => ?_
 rw [zcH, g7, wrap64 (n := Int.tdiv (Sp.putH h) 8) (by rw [Int.tdiv_eq_ediv_of_nonneg g5]; omega) (by rw [Int.tdiv_eq_ediv_of_nonneg g5]; omega), g1, g2, g4, wrap64 (n := h.n) (by omega) (by omega)]
 obtain ⟨k, c, n, f⟩ := h
 dsimp only at *
 refine en_st (b := b2) (off := 0) rfl tk (by simp) rfl ?_
 refine en_ldg (b := b2) (x := (k, c, n, f, ())) [] rfl tk rfl ?_
 refine en_call (rf_mayhead (Hd.mk k c n f)) tks ?_
 rintro x' M ⟨rfl, rfl⟩
 try simp only [lca, lna]
 rw [hm]
 refine en_brf rfl ?_
 refine en_ldg (b := b2) (x := (k, c, n, f, ())) [] rfl tk rfl ?_
 refine en_st (b := b1) (off := 0) rfl tk (by simp) rfl ?_
 refine en_ldg (b := b1) (x := (k, c, n, f, true, ())) [] rfl tk rfl ?_
 exact en_rets (x := (k, c, n, f, true, ())) rfl ⟨rfl, rfl⟩ tks ens
def RHp (p : Nat) (S : Spc) (l : List (Cls × Slc)) : Asn := fun h => ∃ i : Nat × Slc, i.2.n = l.length ∧ star [blk p [.pointer (some ⟨i.1, 0, none⟩), slv i.2], RSpaceA i.1 S, SLc i.2 2 (l.flatMap clsCs), star (l.map ClsA)] h
abbrev csO (l : List (Cls × Slc)) : List Cls := l.map (·.1)
theorem RHp.op {p : Nat} {S : Spc} {l : List (Cls × Slc)} (t : Take L (RHp p S l) L') (h : ∀ (ps : Nat) (s : Slc), s.n = l.length → Tr ρ0 ρ (blk p [.pointer (some ⟨ps, 0, none⟩), slv s] :: RSpaceA ps S :: SLc s 2 (l.flatMap clsCs) :: star (l.map ClsA) :: L') T Post) : Tr ρ0 ρ L T Post :=
 Tr.openL (M := fun i : Nat × Slc => [blk p [.pointer (some ⟨i.1, 0, none⟩), slv i.2], RSpaceA i.1 S, SLc i.2 2 (l.flatMap clsCs), star (l.map ClsA)]) t (fun _ h => h) fun i hi => h i.1 i.2 hi
theorem RHp.cl {p ps : Nat} {S : Spc} {l : List (Cls × Slc)} {s : Slc} (hs : s.n = l.length) (h : HP) (H : star [blk p [.pointer (some ⟨ps, 0, none⟩), slv s], RSpaceA ps S, SLc s 2 (l.flatMap clsCs), star (l.map ClsA)] h) : RHp p S l h := ⟨(ps, s), hs, H⟩
theorem rh_new (n : Int) (h0 : 1 ≤ n) (h1 : n ≤ 256) : Gl.Spec ρ Tryz.prog 38 [i64 n] [] (.one (.l .ptr)) fun r M => ∃ b, r = some ⟨b, 0, none⟩ ∧ M = [RHp b (Sp.newSpc n.toNat) []] := by
 refine Spec.of (fun Q w hh => F.gloamingref9.NewHeap.calls n hh) fun R => ?_
 unfold F.gloamingref9.NewHeap
 try simp only [lca, lna]
 refine en_call (rf_new n h0 h1) tks ?_
 rintro x' M ⟨ps, rfl, rfl⟩
 try simp only [lca, lna]
 refine en_nw fun b => ?_
 refine Tr.none (Tr.nilSL 2 ?_)
 refine Tr.close (M := [blk b [.pointer (some ⟨ps, 0, none⟩), slv nilS], RSpaceA ps (Sp.newSpc n.toNat), SLc nilS 2 (([] : List (Cls × Slc)).flatMap clsCs), star (([] : List (Cls × Slc)).map ClsA)]) tks (RHp.cl (p := b) (ps := ps) (S := Sp.newSpc n.toNat) (l := []) (s := nilS) rfl) ?_
 exact en_rets (x := some ⟨b, 0, none⟩) rfl ⟨b, rfl, rfl⟩ tks ens
theorem en_getCls {s : Slc} {l : List (Cls × Slc)} {c : Cls × Slc} {i : Int} {f : Addr → Tree} (t : Take L (SLc s 2 (l.flatMap clsCs)) L') (h0 : 0 ≤ i) (hi : l[i.toNat]? = some c) (h : ∀ a0, s.a = some a0 → (∀ e v, e < 2 → (clsCs c)[e]? = some v → (l.flatMap clsCs)[i.toNat * 2 + e]? = some v) → Tr ρ0 ρ L (f (fa a0 (i.toNat * 2))) Post) :
  Tr ρ0 ρ L (ix s.a s.n i 2 f) Post := by
 have hlt := getElem?_lt hi
 refine Tr.sl_len t fun hn _ => ?_
 rw [flat_len (g := clsCs) (m := 2) (fun _ => rfl)] at hn
 exact en_ixSL t h0 (by omega) fun a0 ha => h a0 ha fun e v he hv => by rw [flat_get (g := clsCs) (m := 2) (fun _ => rfl) hi he]; exact hv
theorem clsAt_get {cs : List Cls} {c : Int} {x : Cls} (h : Sp.clsAt cs c = some x) : 1 ≤ c ∧ c ≤ cs.length ∧ cs[(c - 1).toNat]? = some x := by
 obtain ⟨i, rfl, hi⟩ := Sp.clsAt_some h
 have := getElem?_lt hi
 refine ⟨by omega, by omega, ?_⟩
 rw [show ((i : Int) + 1 - 1).toNat = i by omega]; exact hi
theorem rh_may (p : Nat) (S : Spc) (l : List (Cls × Slc)) (hw : HWf S (csO l)) (h : Hd) : Gl.Spec ρ Tryz.prog 75 [.pointer (some ⟨p, 0, none⟩), hval h] [RHp p S l] R1
  fun r M => r = Ob.may (csO l) h ∧ M = [RHp p S l] := by
 have hcs := hw.cls
 refine Spec.of (fun Q w hh => F.gloamingref9.Heap.May.calls (some ⟨p, 0, none⟩) h.t hh) fun R => ?_
 obtain ⟨k, c, n, f⟩ := h
 unfold F.gloamingref9.Heap.May
 try simp only [lca, lna]
 refine en_nw fun b1 => ?_
 refine en_ldg (b := b1) (x := (k, c, n, f, ())) [] rfl tk rfl ?_
 refine en_call (rf_mayhead ⟨k, c, n, f⟩) tks ?_
 rintro x' M ⟨rfl, rfl⟩
 try simp only [lca, lna]
 refine en_br (fun h => ?_) (fun h => ?_)
 ·have h : Sp.mayH ⟨k, c, n, f⟩ = false := by simpa using h
  rw [show Ob.may (csO l) ⟨k, c, n, f⟩ = 1 by unfold Ob.may; rw [if_pos (.inl h)]]
  exact en_rets (x := (1 : Int)) rfl ⟨rfl, rfl⟩ tks ens
 ·have h : Sp.mayH ⟨k, c, n, f⟩ = true := by simpa using h
  have hb := Sp.mayH_is h
  dsimp only at hb
  refine en_ld (k := .bool) (b := b1) (off := 3) (x := f) (by rw [fa_mk]) tk rfl ?_
  refine en_br (fun h2 => ?_) (fun h2 => ?_)
  ·rw [show Ob.may (csO l) ⟨k, c, n, f⟩ = 1 by unfold Ob.may; rw [if_pos (.inr h2)]]
   exact en_rets (x := (1 : Int)) rfl ⟨rfl, rfl⟩ tks ens
  ·have e0 : Ob.may (csO l) ⟨k, c, n, f⟩ = if k ≠ 1 then 0 else match Sp.clsAt (csO l) c with | some c => if c.1 ≠ n then 1 else 0 | none => 2 := by
    unfold Ob.may; rw [if_neg (by rintro (e | e) <;> simp_all)]; rfl
   rw [e0]
   refine en_ld (k := .int .i64) (b := b1) (off := 0) (x := k) (by rw [fa_mk]) tk rfl ?_
   refine en_br (fun h3 => ?_) (fun h3 => ?_)
   ·have h3 : k = 1 := eq_of_beq h3
    have hc1 : 1 ≤ c := by
     unfold Sp.mayH at h; dsimp only at h
     rw [if_pos h3, Bool.and_eq_true, decide_eq_true_iff, decide_eq_true_iff] at h
     exact h.2.1
    rw [if_neg (by simp [h3])]
    refine en_drw ?_
    refine en_ld (k := .int .i64) (b := b1) (off := 1) (x := c) (by rw [fa_mk]) tk rfl ?_
    refine en_nn (RHp.op tk fun ps s hs => ?_)
    refine en_ld (k := .slice) (b := p) (off := 1) (x := s) (by rw [fa_mk]) tk rfl ?_
    have hll : (csO l).length = l.length := by simp
    refine en_br (fun h4 => ?_) (fun h4 => ?_)
    ·replace h4 : c > (s.n : Int) := of_decide_eq_true h4
     have : Sp.clsAt (csO l) c = none := by unfold Sp.clsAt; rw [if_neg (by omega)]
     rw [this]
     refine Tr.close tks (RHp.cl (p := p) (ps := ps) (S := S) (l := l) (s := s) hs) ?_
     exact en_rets (x := (2 : Int)) rfl ⟨rfl, rfl⟩ tks ens
    ·replace h4 : ¬ c > (s.n : Int) := of_decide_eq_false h4
     have hlt : (c - 1).toNat < l.length := by omega
     have hx : l[(c - 1).toNat]? = some l[(c - 1).toNat] := List.getElem?_eq_getElem hlt
     generalize l[(c - 1).toNat] = x at hx
     have : Sp.clsAt (csO l) c = some x.1 := by unfold Sp.clsAt; rw [if_pos (by omega), List.getElem?_map, hx]; rfl
     rw [this]
     dsimp only
     refine en_drw (en_nn ?_)
     refine en_ld (k := .slice) (b := p) (off := 1) (x := s) (by rw [fa_mk]) tk rfl ?_
     refine en_ld (k := .int .i64) (b := b1) (off := 1) (x := c) (by rw [fa_mk]) tk rfl ?_
     rw [wrap64 (n := c - 1) (by omega) (by omega)]
     refine en_getCls (s := s) tk (by omega) hx fun a0 ha hcell => ?_
     refine en_ldSL (k := .int .i64) (s := s) (j := (c - 1).toNat * 2 + 0) (x := x.1.1) ha tk (by rintro b o rfl; simp [fa_mk]) (hcell 0 _ (by decide) rfl) ?_
     refine en_ld (k := .int .i64) (b := b1) (off := 2) (x := n) (by rw [fa_mk]) tk rfl ?_
     refine Tr.close tks (RHp.cl (p := p) (ps := ps) (S := S) (l := l) (s := s) hs) ?_
     refine en_br (fun h5 => ?_) (fun h5 => ?_)
     ·rw [if_pos (by simpa using h5)]
      exact en_rets (x := (1 : Int)) rfl ⟨rfl, rfl⟩ tks ens
     ·rw [if_neg (by simpa using h5)]
      exact en_rets (x := (0 : Int)) rfl ⟨rfl, rfl⟩ tks ens
   ·have h3 : k ≠ 1 := by simpa using h3
    rw [if_pos h3]
    exact en_rets (x := (0 : Int)) rfl ⟨rfl, rfl⟩ tks ens
theorem rh_make (p : Nat) (S : Spc) (l : List (Cls × Slc)) (hw : HWf S (csO l)) (h : Hd) : Gl.Spec ρ Tryz.prog 40 [.pointer (some ⟨p, 0, none⟩), hval h] [RHp p S l] G2
  fun r M => r = ((Ob.make S (csO l) h).1, (Ob.make S (csO l) h).2.1, ()) ∧ M = [RHp p (Ob.make S (csO l) h).2.2 l] := by
 refine Spec.of (fun Q w hh => F.gloamingref9.Heap.Make.calls (some ⟨p, 0, none⟩) h.t hh) fun R => ?_
 obtain ⟨k, c, n, f⟩ := h
 unfold F.gloamingref9.Heap.Make
 try simp only [lca, lna]
 refine en_nw fun b1 => en_nw fun b2 => ?_
 rw [zcGot]
 refine en_ldg (b := b1) (x := (k, c, n, f, ())) [] rfl tk rfl ?_
 refine en_call (rh_may p S l hw ⟨k, c, n, f⟩) tks ?_
 rintro x' M ⟨rfl, rfl⟩
 try simp only [lca, lna]
 refine en_br (fun h1 => ?_) (fun h1 => ?_)
 ·have h1 : Ob.may (csO l) ⟨k, c, n, f⟩ ≠ 0 := by simpa using h1
  have e : Ob.make S (csO l) ⟨k, c, n, f⟩ = (0, Ob.may (csO l) ⟨k, c, n, f⟩, S) := by unfold Ob.make; rw [if_pos h1]
  rw [e]
  refine en_st (b := b2) (off := 0) rfl tk (by simp) rfl ?_
  refine en_ldg (b := b2) (x := ((0 : Int), Ob.may (csO l) ⟨k, c, n, f⟩, ())) [] rfl tk rfl ?_
  exact en_rets (x := ((0 : Int), Ob.may (csO l) ⟨k, c, n, f⟩, ())) rfl ⟨rfl, rfl⟩ tks ens
 ·have h1 : Ob.may (csO l) ⟨k, c, n, f⟩ = 0 := by simpa using h1
  obtain ⟨hm, hf⟩ := Ob.may_ok h1
  have hb := Sp.mayH_is hm
  dsimp only at hb
  refine RHp.op tk fun ps s hs => ?_
  refine en_drw (en_held [blk p [.pointer (some ⟨ps, 0, none⟩), slv s], blk b1 [.int .i64 k, .int .i64 c, .int .i64 n, .bool f]] tks (en_nn ?_))
  refine en_ldS (k := .ptr) (b := p) (off := 0) (x := some ⟨ps, 0, none⟩) (by rw [fa_mk]) tk rfl ?_
  refine en_ldS (k := .int .i64) (b := b1) (off := 2) (x := n) (by rw [fa_mk]) tk rfl ?_
  rw [wrap64 (n := n + 1) (by omega) (by omega)]
  refine en_both ?g1 ?g2
  case' g1 =>
   refine en_call (rf_alloc ps S hw.wf (n + 1)) tks ?_
   rintro x' M ⟨rfl, rfl⟩
   try simp only [lca, lna]
   refine en_nw fun b3 => ?_
  case' g2 =>
   refine en_nw fun b3 => ?_
   refine en_chk tks ?_
   refine en_call (rf_alloc ps S hw.wf (n + 1)) tks ?_
   rintro x' M ⟨rfl, rfl⟩
   try simp only [lca, lna]
  all_goals
   refine en_st (b := b3) (off := 0) rfl tk (by simp) rfl ?_
   refine en_ld (k := .int .i64) (b := b3) (off := 1) (x := (Sp.alloc S (n + 1)).2.1) (by rw [fa_mk]) tk rfl ?_
   refine en_br (fun h2 => ?_) (fun h2 => ?_)
   ·have h2 : (Sp.alloc S (n + 1)).2.1 = 0 := eq_of_beq h2
    have e : Ob.make S (csO l) ⟨k, c, n, f⟩ = ((Sp.alloc S (n + 1)).1, 0, ⟨(Sp.alloc S (n + 1)).2.2.ws.set (Sp.alloc S (n + 1)).1.toNat (Sp.putH ⟨k, c, n, f⟩), (Sp.alloc S (n + 1)).2.2.pg⟩) := by
     unfold Ob.make; rw [if_neg (by simp [h1]), if_neg (by simp [h2])]
    rw [e]
    obtain ⟨a, m, ha, hm2, m1, m2, m3, m4, m5⟩ := Sp.alloc_ok hw.wf h2
    rw [h2]
    generalize Sp.alloc S (n + 1) = al at *
    obtain ⟨a', e', S'⟩ := al
    dsimp only at *
    subst ha
    refine RSpaceA.op tk fun sa sk sm sq ql hql => ?_
    refine en_drw (en_held [blk p [.pointer (some ⟨ps, 0, none⟩), slv s], blk ps [slv sa, slv sk, slv sm, slv sq], blk b3 [i64 (a : Int), i64 0], blk b1 [.int .i64 k, .int .i64 c, .int .i64 n, .bool f]] tks (en_nn ?_))
    refine en_ldS (k := .ptr) (b := p) (off := 0) (x := some ⟨ps, 0, none⟩) (by rw [fa_mk]) tk rfl (en_nn ?_)
    refine en_ldS (k := .slice) (b := ps) (off := 0) (x := sa) (by rw [fa_mk]) tk rfl ?_
    refine en_ldS (k := .int .i64) (b := b3) (off := 0) (x := (a : Int)) (by rw [fa_mk]) tk rfl ?_
    refine en_ldgS (b := b1) (x := (k, c, n, f, ())) [] rfl tk rfl ?_
    refine en_call (rf_puthead ⟨k, c, n, f⟩ hm) tks ?_
    rintro x' M ⟨rfl, rfl⟩
    try simp only [lca, lna]
    refine en_chk tks ?_
    refine en_setSL (s := sa) (xs := S'.ws) tk (by omega) (by omega) ?_
    refine Tr.close tks (RSpaceA.cl (p := ps) (S := ⟨S'.ws.set (a : Int).toNat (Sp.putH ⟨k, c, n, f⟩), S'.pg⟩) (a := sa) (k := sk) (m := sm) (q := sq) hql) ?_
    refine Tr.close tks (RHp.cl (p := p) (ps := ps) (S := ⟨S'.ws.set (a : Int).toNat (Sp.putH ⟨k, c, n, f⟩), S'.pg⟩) (l := l) (s := s) hs) ?_
    refine en_ldg (b := b3) (x := ((a : Int), (0 : Int), ())) [] rfl tk rfl ?_
    refine en_st (b := b2) (off := 0) rfl tk (by simp) rfl ?_
    refine en_ldg (b := b2) (x := ((a : Int), (0 : Int), ())) [] rfl tk rfl ?_
    exact en_rets (x := ((a : Int), (0 : Int), ())) rfl ⟨rfl, rfl⟩ tks ens
   ·have h2 : (Sp.alloc S (n + 1)).2.1 ≠ 0 := by simpa using h2
    have e : Ob.make S (csO l) ⟨k, c, n, f⟩ = (0, (Sp.alloc S (n + 1)).2.1, S) := by unfold Ob.make; rw [if_neg (by simp [h1]), if_pos h2]
    have e1 : (Sp.alloc S (n + 1)).1 = 0 := by
     unfold Sp.alloc at h2 ⊢
     split
     ·rfl
     ·rename_i hc
      rw [if_neg hc] at h2
      split
      ·rename_i hd; rw [if_pos hd] at h2; exact absurd rfl h2
      ·rfl
    rw [e, Sp.alloc_err h2]
    refine Tr.close tks (RHp.cl (p := p) (ps := ps) (S := S) (l := l) (s := s) hs) ?_
    refine en_ldg (b := b3) (x := ((Sp.alloc S (n + 1)).1, (Sp.alloc S (n + 1)).2.1, ())) [] rfl tk rfl ?_
    refine en_st (b := b2) (off := 0) rfl tk (by simp) rfl ?_
    refine en_ldg (b := b2) (x := ((Sp.alloc S (n + 1)).1, (Sp.alloc S (n + 1)).2.1, ())) [] rfl tk rfl ?_
    rw [e1]
    exact en_rets (x := ((0 : Int), (Sp.alloc S (n + 1)).2.1, ())) rfl ⟨rfl, rfl⟩ tks ens
theorem rh_head (p : Nat) (S : Spc) (l : List (Cls × Slc)) (hw : HWf S (csO l)) (a : Int) : Gl.Spec ρ Tryz.prog 55 [.pointer (some ⟨p, 0, none⟩), i64 a] [RHp p S l] HX
  fun r M => r = Rf.hd (Ob.head S a) ∧ M = [RHp p S l] := by
 refine Spec.of (fun Q w hh => F.gloamingref9.Heap.Head.calls (some ⟨p, 0, none⟩) a hh) fun R => ?_
 unfold F.gloamingref9.Heap.Head
 try simp only [lca, lna]
 refine en_nw fun b1 => ?_
 rw [zcHX]
 refine en_nn (RHp.op tk fun ps s hs => ?_)
 refine en_ld (k := .ptr) (b := p) (off := 0) (x := some ⟨ps, 0, none⟩) (by rw [fa_mk]) tk rfl ?_
 refine en_call (rf_find ps S hw.wf a) tks ?_
 rintro x' M ⟨rfl, rfl⟩
 try simp only [lca, lna]
 refine en_nw fun b5 => ?_
 rw [zcF]
 cases hf : Sp.find S a with
 | none =>
  have e : Ob.head S a = none := by unfold Ob.head; rw [hf]
  rw [e]
  simp only [Rf.fnd]
  refine en_st (b := b5) (off := 0) rfl tk (by simp) rfl ?_
  refine en_ld (k := .bool) (b := b5) (off := 2) (x := false) (by rw [fa_mk]) tk rfl ?_
  refine en_brt rfl ?_
  refine en_st (b := b1) (off := 0) rfl tk (by simp) rfl ?_
  refine en_ldg (b := b1) (x := ((0 : Int), (0 : Int), (0 : Int), false, false, ())) [] rfl tk rfl ?_
  refine Tr.close tks (RHp.cl (p := p) (ps := ps) (S := S) (l := l) (s := s) hs) ?_
  exact en_rets (x := Rf.hd none) rfl ⟨rfl, rfl⟩ tks ens
 | some x =>
  obtain ⟨b, w⟩ := x
  simp only [Rf.fnd]
  refine en_st (b := b5) (off := 0) rfl tk (by simp) rfl ?_
  refine en_ld (k := .bool) (b := b5) (off := 2) (x := true) (by rw [fa_mk]) tk rfl ?_
  refine en_brf rfl ?_
  refine en_ld (k := .int .i64) (b := b5) (off := 0) (x := (b : Int)) (by rw [fa_mk]) tk rfl ?_
  refine en_br (fun h => ?_) (fun h => ?_)
  ·have h : ¬ (b : Int) = a := by simpa using h
   have e : Ob.head S a = none := by unfold Ob.head; rw [hf]; dsimp only; rw [if_neg h]
   rw [e]
   refine en_st (b := b1) (off := 0) rfl tk (by simp) rfl ?_
   refine en_ldg (b := b1) (x := ((0 : Int), (0 : Int), (0 : Int), false, false, ())) [] rfl tk rfl ?_
   refine Tr.close tks (RHp.cl (p := p) (ps := ps) (S := S) (l := l) (s := s) hs) ?_
   exact en_rets (x := Rf.hd none) rfl ⟨rfl, rfl⟩ tks ens
  ·have h : (b : Int) = a := by simpa using h
   subst h
   have e : Ob.head S b = some (Sp.getH (S.ws.getD b 0)) := by unfold Ob.head; rw [hf]; dsimp only; rw [if_pos rfl]
   obtain ⟨n, w', en, g1, g2, g3, g4, g5⟩ := Ob.head_is hw e
   have en : n = b := by omega
   subst en
   rw [e]
   generalize Sp.getH (S.ws.getD n 0) = hd at g2 g3 g4 ⊢
   have hb := Sp.mayH_is g3
   refine en_nn ?_
   refine en_ld (k := .ptr) (b := p) (off := 0) (x := some ⟨ps, 0, none⟩) (by rw [fa_mk]) tk rfl ?_
   refine en_nn (RSpaceA.op tk fun sa sk sm sq ql hql => ?_)
   refine en_ld (k := .slice) (b := ps) (off := 0) (x := sa) (by rw [fa_mk]) tk rfl ?_
   refine en_getSL (s := sa) (xs := S.ws) tk (by omega) (by omega) ?_
   rw [Int.toNat_natCast, g2]
   refine Tr.close tks (RSpaceA.cl (p := ps) (S := S) (a := sa) (k := sk) (m := sm) (q := sq) hql) ?_
   refine Tr.close tks (RHp.cl (p := p) (ps := ps) (S := S) (l := l) (s := s) hs) ?_
   refine en_call (rf_gethead hd g3) tks ?_
   rintro x' M ⟨rfl, rfl⟩
   try simp only [lca, lna]
   simp only [Rf.hd]
   refine en_st (b := b1) (off := 0) rfl tk (by simp) rfl ?_
   refine en_ldg (b := b1) (x := (hd.k, hd.c, hd.n, hd.f, true, ())) [] rfl tk rfl ?_
   exact en_rets (x := Rf.hd (some hd)) rfl ⟨rfl, rfl⟩ tks ens
theorem rh_field (p : Nat) (S : Spc) (l : List (Cls × Slc)) (hw : HWf S (csO l)) (a i : Int) : Gl.Spec ρ Tryz.prog 56 [.pointer (some ⟨p, 0, none⟩), i64 a, i64 i] [RHp p S l] G2
  fun r M => r = ((Ob.get S a i).1, (Ob.get S a i).2, ()) ∧ M = [RHp p S l] := by
 have hmost := hw.wf.most
 have hlen := hw.wf.len
 refine Spec.of (fun Q w hh => F.gloamingref9.Heap.Field.calls (some ⟨p, 0, none⟩) a i hh) fun R => ?_
 unfold F.gloamingref9.Heap.Field
 try simp only [lca, lna]
 refine en_nw fun b1 => ?_
 rw [zcGot]
 refine en_call (rh_head p S l hw a) tks ?_
 rintro x' M ⟨rfl, rfl⟩
 try simp only [lca, lna]
 refine en_nw fun b3 => ?_
 rw [zcHX]
 cases hh : Ob.head S a with
 | none =>
  have e : Ob.get S a i = (0, 2) := by unfold Ob.get Ob.fieldAt; rw [hh]; rfl
  rw [e]
  simp only [Rf.hd]
  refine en_st (b := b3) (off := 0) rfl tk (by simp) rfl ?_
  refine en_ld (k := .bool) (b := b3) (off := 4) (x := false) (by rw [fa_mk]) tk rfl ?_
  refine en_brt rfl ?_
  refine en_st (b := b1) (off := 0) rfl tk (by simp) rfl ?_
  refine en_ldg (b := b1) (x := ((0 : Int), (2 : Int), ())) [] rfl tk rfl ?_
  exact en_rets (x := ((0 : Int), (2 : Int), ())) rfl ⟨rfl, rfl⟩ tks ens
 | some hd =>
  obtain ⟨n, w, rfl, _, _, g3, g4, g5⟩ := Ob.head_is hw hh
  have hb := Sp.mayH_is g3
  simp only [Rf.hd]
  refine en_st (b := b3) (off := 0) rfl tk (by simp) rfl ?_
  refine en_ld (k := .bool) (b := b3) (off := 4) (x := true) (by rw [fa_mk]) tk rfl ?_
  have bad : (i < 0 ∨ i ≥ hd.n) → Ob.get S n i = (0, 1) := fun hc => by unfold Ob.get Ob.fieldAt; rw [hh]; dsimp only; simp only [if_pos hc]; rfl
  refine en_brf rfl (en_br (fun h1 => ?_) (fun h1 => ?_))
  ·rw [bad (.inl (of_decide_eq_true h1))]
   refine en_st (b := b1) (off := 0) rfl tk (by simp) rfl ?_
   refine en_ldg (b := b1) (x := ((0 : Int), (1 : Int), ())) [] rfl tk rfl ?_
   exact en_rets (x := ((0 : Int), (1 : Int), ())) rfl ⟨rfl, rfl⟩ tks ens
  ·have h1 := of_decide_eq_false h1
   refine en_ld (k := .int .i64) (b := b3) (off := 2) (x := hd.n) (by rw [fa_mk, fa_mk]) tk rfl ?_
   refine en_br (fun h2 => ?_) (fun h2 => ?_)
   ·rw [bad (.inr (of_decide_eq_true h2))]
    refine en_st (b := b1) (off := 0) rfl tk (by simp) rfl ?_
    refine en_ldg (b := b1) (x := ((0 : Int), (1 : Int), ())) [] rfl tk rfl ?_
    exact en_rets (x := ((0 : Int), (1 : Int), ())) rfl ⟨rfl, rfl⟩ tks ens
   ·have h2 := of_decide_eq_false h2
    rw [Ob.get_ok hh (by omega) (by omega)]
    refine en_nn (RHp.op tk fun ps s hs => ?_)
    refine en_ld (k := .ptr) (b := p) (off := 0) (x := some ⟨ps, 0, none⟩) (by rw [fa_mk]) tk rfl ?_
    refine en_nn (RSpaceA.op tk fun sa sk sm sq ql hql => ?_)
    refine en_ld (k := .slice) (b := ps) (off := 0) (x := sa) (by rw [fa_mk]) tk rfl ?_
    rw [wrap64 (n := (n : Int) + 1) (by omega) (by omega), wrap64 (n := (n : Int) + 1 + i) (by omega) (by omega)]
    refine en_getSL (s := sa) (xs := S.ws) tk (by omega) (by omega) ?_
    refine Tr.close tks (RSpaceA.cl (p := ps) (S := S) (a := sa) (k := sk) (m := sm) (q := sq) hql) ?_
    refine Tr.close tks (RHp.cl (p := p) (ps := ps) (S := S) (l := l) (s := s) hs) ?_
    refine en_st (b := b1) (off := 0) rfl tk (by simp) rfl ?_
    refine en_ldg (b := b1) (x := (S.ws.getD ((n : Int) + 1 + i).toNat 0, (0 : Int), ())) [] rfl tk rfl ?_
    exact en_rets (x := (S.ws.getD ((n : Int) + 1 + i).toNat 0, (0 : Int), ())) rfl ⟨rfl, rfl⟩ tks ens
theorem rh_put (p : Nat) (S : Spc) (l : List (Cls × Slc)) (hw : HWf S (csO l)) (a i x : Int) : Gl.Spec ρ Tryz.prog 41 [.pointer (some ⟨p, 0, none⟩), i64 a, i64 i, i64 x] [RHp p S l] R1
  fun r M => r = (Ob.put S a i x).1 ∧ M = [RHp p (Ob.put S a i x).2 l] := by
 have hmost := hw.wf.most
 have hlen := hw.wf.len
 refine Spec.of (fun Q w hh => F.gloamingref9.Heap.Put.calls (some ⟨p, 0, none⟩) a i x hh) fun R => ?_
 unfold F.gloamingref9.Heap.Put
 try simp only [lca, lna]
 refine en_call (rh_field p S l hw a i) tks ?_
 rintro x' M ⟨rfl, rfl⟩
 try simp only [lca, lna]
 refine en_nw fun b2 => ?_
 rw [zcGot]
 refine en_st (b := b2) (off := 0) rfl tk (by simp) rfl ?_
 refine en_ld (k := .int .i64) (b := b2) (off := 1) (x := (Ob.get S a i).2) (by rw [fa_mk]) tk rfl ?_
 have hge : (Ob.get S a i).2 = (Ob.fieldAt S a i).2 := by unfold Ob.get; split <;> simp_all
 refine en_br (fun h => ?_) (fun h => ?_)
 ·have h : (Ob.get S a i).2 = 0 := eq_of_beq h
  rw [hge] at h
  obtain ⟨hd, h1, h2, h3, h4, h5, h6⟩ := Ob.fieldAt_ok hw h
  have e : Ob.put S a i x = (0, ⟨S.ws.set (Ob.fieldAt S a i).1.toNat x, S.pg⟩) := by unfold Ob.put; rw [if_neg (by simp [h])]
  rw [e, h4, wrap64 (n := a + 1) (by omega) (by omega), wrap64 (n := a + 1 + i) (by omega) (by omega)]
  refine en_nn (RHp.op tk fun ps s hs => ?_)
  refine en_ld (k := .ptr) (b := p) (off := 0) (x := some ⟨ps, 0, none⟩) (by rw [fa_mk]) tk rfl ?_
  refine en_nn (RSpaceA.op tk fun sa sk sm sq ql hql => ?_)
  refine en_ld (k := .slice) (b := ps) (off := 0) (x := sa) (by rw [fa_mk]) tk rfl ?_
  refine en_setSL (s := sa) (xs := S.ws) tk (by omega) (by omega) ?_
  refine Tr.close tks (RSpaceA.cl (p := ps) (S := ⟨S.ws.set (a + 1 + i).toNat x, S.pg⟩) (a := sa) (k := sk) (m := sm) (q := sq) hql) ?_
  refine Tr.close tks (RHp.cl (p := p) (ps := ps) (S := ⟨S.ws.set (a + 1 + i).toNat x, S.pg⟩) (l := l) (s := s) hs) ?_
  refine en_ld (k := .int .i64) (b := b2) (off := 1) (x := (Ob.get S a i).2) (by rw [fa_mk]) tk rfl ?_
  rw [hge, h]
  exact en_rets (x := (0 : Int)) rfl ⟨rfl, rfl⟩ tks ens
 ·have h : (Ob.get S a i).2 ≠ 0 := by simpa using h
  rw [hge] at h
  have e : Ob.put S a i x = ((Ob.fieldAt S a i).2, S) := by unfold Ob.put; rw [if_pos h]
  rw [e]
  refine en_ld (k := .int .i64) (b := b2) (off := 1) (x := (Ob.get S a i).2) (by rw [fa_mk]) tk rfl ?_
  rw [hge]
  exact en_rets (x := (Ob.fieldAt S a i).2) rfl ⟨rfl, rfl⟩ tks ens
end Go.Proofs.YtpefngbfgjfcgaaGreat
namespace Go.Proofs.YtpefngbfgjfcgaaGreat
open Go Go.Gl
variable {ρ0 ρ : FR} {L L' : List Asn} {Post : Value → List Asn → Prop} {T : Tree}
theorem mayR_pos {n : Int} : ∀ {xs : List Int} {last : Int}, Sp.mayR n last xs = true → -1 ≤ last → ∀ i, i < xs.length → last < xs.getD i 0
 | x :: l, last, h, h0, i, hi => by
  unfold Sp.mayR at h
  split at h
  ·cases h
  ·split at h
   ·cases h
   ·cases i with
    | zero => simp; omega
    | succ i =>
     have := mayR_pos h (by omega) i (by simpa using hi)
     simp only [List.getD_cons_succ]; omega
theorem rf_mayclass (n : Int) (s : Slc) (xs : List Int) (hs : RoS ρ s 1 (xs.map i64)) (hl : xs.length ≤ 2 ^ 30) : Gl.Spec ρ Tryz.prog 74 [.agg #[.int .i64 n, .slice s.a s.n s.c]] [] RB
  fun r M => r = Sp.mayC n xs ∧ M = [] := by
 refine Spec.of (fun Q w' h => F.gloamingref1.MayClass.calls (n, s, ()) h) fun R => ?_
 unfold F.gloamingref1.MayClass
 try simp only [lca, lna]
 have hn := hs.len
 refine en_nw fun b => ?_
 refine en_ld (k := .int .i64) (b := b) (off := 0) (x := n) (by rw [fa_mk]) tk rfl ?_
 refine en_br (fun h => ?_) (fun h => ?_)
 ·refine en_rets (x := Sp.mayC n xs) ?_ ⟨rfl, rfl⟩ tks ens
  rw [Sp.mayC, if_pos (of_decide_eq_true h)]; rfl
 ·replace h := of_decide_eq_false h
  refine en_ld (k := .int .i64) (b := b) (off := 0) (x := n) (by rw [fa_mk]) tk rfl ?_
  refine en_br (fun h2 => ?_) (fun h2 => ?_)
  ·refine en_rets (x := Sp.mayC n xs) ?_ ⟨rfl, rfl⟩ tks ens
   rw [Sp.mayC, if_neg h, if_pos (of_decide_eq_true h2)]; rfl
  ·replace h2 := of_decide_eq_false h2
   refine en_lp (fun m u M => (fun i : Int => ∃ last : Int, M = blk b [.int .i64 n, .slice s.a s.n s.c] :: R ∧ 0 ≤ i ∧ i ≤ xs.length ∧ m = xs.length - i.toNat ∧ Sp.mayC n xs = Sp.mayR n last (xs.drop i.toNat) ∧ -1 ≤ last ∧ ((i = 0 ∧ last = -1) ∨ (0 < i ∧ 0 ≤ last ∧ last = xs.getD (i - 1).toNat 0))) u.1) xs.length ?_ ?_
   ·refine ⟨-1, rfl, by simp, by dsimp only; omega, by simp, ?_, by omega, .inl ⟨rfl, rfl⟩⟩
    rw [Sp.mayC, if_neg h, if_neg h2]; rfl
   ·rintro m ⟨(i : Int), ⟨⟩⟩ M ⟨last, rfl, h0, h1, rfl, hc, hl0, hlast⟩ X hX
    dsimp only at *
    refine en_ld (k := .slice) (b := b) (off := 1) (x := s) (by rw [fa_mk]) tk rfl ?_
    refine en_br (fun h3 => ?_) (fun h3 => ?_)
    ·replace h3 : i < (s.n : Int) := of_decide_eq_true h3
     have hi : i.toNat < xs.length := by omega
     rw [drop_getD 0 hi] at hc
     unfold Sp.mayR at hc
     refine en_drw ?_
     refine en_ld (k := .slice) (b := b) (off := 1) (x := s) (by rw [fa_mk]) tk rfl ?_
     refine en_getRo hs h0 (by omega) ?_
     have hgo : ¬ xs.getD i.toNat 0 ≤ last → ¬ xs.getD i.toNat 0 ≥ n → Tr ρ ρ (blk b [.int .i64 n, .slice s.a s.n s.c] :: R) (X (i + 1, ())) (SP RB (fun r M => r = Sp.mayC n xs ∧ M = []) R) := fun g1 g2 => by
      rw [if_neg g1, if_neg g2] at hc
      refine hX (xs.length - (i + 1).toNat) _ _ (by omega) ⟨xs.getD i.toNat 0, rfl, by dsimp only; omega, by dsimp only; omega, rfl, ?_, by omega, .inr ⟨by dsimp only; omega, by omega, by dsimp only; congr 1; omega⟩⟩
      dsimp only; rw [hc, show (i + 1).toNat = i.toNat + 1 by omega]
     have hbad : (xs.getD i.toNat 0 ≤ last ∨ xs.getD i.toNat 0 ≥ n) → Tr ρ ρ (blk b [.int .i64 n, .slice s.a s.n s.c] :: R) (ret (.bool false)) (SP RB (fun r M => r = Sp.mayC n xs ∧ M = []) R) := fun g => by
      have : Sp.mayC n xs = false := by
       rw [hc]
       by_cases g1 : xs.getD i.toNat 0 ≤ last
       ·rw [if_pos g1]
       ·rw [if_neg g1, if_pos (g.resolve_left g1)]
      rw [this]
      exact en_rets (x := false) rfl ⟨rfl, rfl⟩ tks ens
     refine en_br (fun h4 => ?_) (fun h4 => ?_)
     ·replace h4 := of_decide_eq_true h4
      exact hbad (.inl (by omega))
     ·replace h4 := of_decide_eq_false h4
      refine en_ld (k := .slice) (b := b) (off := 1) (x := s) (by rw [fa_mk]) tk rfl ?_
      refine en_getRo hs h0 (by omega) ?_
      refine en_ld (k := .int .i64) (b := b) (off := 0) (x := n) (by rw [fa_mk]) tk rfl ?_
      refine en_br (fun h5 => hbad (.inr (of_decide_eq_true h5))) (fun h5 => ?_)
      replace h5 := of_decide_eq_false h5
      rw [wrap64 (n := i + 1) (by omega) (by omega)]
      refine en_br (fun h6 => ?_) (fun h6 => ?_)
      ·replace h6 : i > 0 := of_decide_eq_true h6
       refine en_ld (k := .slice) (b := b) (off := 1) (x := s) (by rw [fa_mk]) tk rfl ?_
       refine en_getRo hs h0 (by omega) ?_
       refine en_ld (k := .slice) (b := b) (off := 1) (x := s) (by rw [fa_mk]) tk rfl ?_
       rw [wrap64 (n := i - 1) (by omega) (by omega)]
       refine en_getRo hs (by omega) (by omega) ?_
       have hle : last = xs.getD (i - 1).toNat 0 := by
        rcases hlast with ⟨g, _⟩ | ⟨_, _, g⟩
        ·omega
        ·exact g
       rw [← hle]
       refine en_br (fun h7 => hbad (.inl (of_decide_eq_true h7))) (fun h7 => ?_)
       exact hgo (of_decide_eq_false h7) h5
      ·replace h6 : ¬ i > 0 := of_decide_eq_false h6
       exact hgo (by rcases hlast with ⟨_, g⟩ | ⟨g, _⟩ <;> omega) h5
    ·replace h3 : ¬ i < (s.n : Int) := of_decide_eq_false h3
     rw [List.drop_eq_nil_of_le (by omega)] at hc
     refine en_rets (x := Sp.mayC n xs) ?_ ⟨rfl, rfl⟩ tks ens
     rw [hc]; rfl
theorem rh_add (p : Nat) (S : Spc) (l : List (Cls × Slc)) (hw : HWf S (csO l)) (n : Int) (s : Slc) (xs : List Int) (hs : RoS ρ s 1 (xs.map i64)) (hl : xs.length ≤ 2 ^ 30) :
  Gl.Spec ρ Tryz.prog 39 [.pointer (some ⟨p, 0, none⟩), .agg #[.int .i64 n, .slice s.a s.n s.c]] [RHp p S l] G2
  fun r M => ∃ l' : List (Cls × Slc), csO l' = (Sp.addC (csO l) (n, xs)).2.2 ∧ ((∀ x ∈ l, x.2.n = x.1.2.length) → ∀ x ∈ l', x.2.n = x.1.2.length) ∧ r = ((Sp.addC (csO l) (n, xs)).1, (Sp.addC (csO l) (n, xs)).2.1, ()) ∧ M = [RHp p S l'] := by
 have hcs := hw.cls
 have hll : (csO l).length = l.length := by simp
 refine Spec.of (fun Q w' h => F.gloamingref9.Heap.Add.calls (some ⟨p, 0, none⟩) (n, s, ()) h) fun R => ?_
 unfold F.gloamingref9.Heap.Add
 try simp only [lca, lna]
 refine en_nw fun b1 => en_nw fun b2 => ?_
 rw [zcGot]
 refine en_ldg (b := b1) (x := (n, s, ())) [] rfl tk rfl ?_
 refine en_call (rf_mayclass n s xs hs hl) .nil ?_
 rintro x' M ⟨rfl, rfl⟩
 try simp only [lca, lna]
 refine en_br (fun h => ?_) (fun h => ?_)
 ·have h : ¬ Sp.mayC n xs = true := by simpa using h
  have e : Sp.addC (csO l) (n, xs) = (0, 1, csO l) := by unfold Sp.addC; rw [if_pos h]
  rw [e]
  refine en_st (b := b2) (off := 0) rfl tk (by simp) rfl ?_
  refine en_ldg (b := b2) (x := ((0 : Int), (1 : Int), ())) [] rfl tk rfl ?_
  exact en_rets (x := ((0 : Int), (1 : Int), ())) rfl ⟨l, rfl, id, rfl, rfl⟩ tks ens
 ·have h : Sp.mayC n xs = true := by simpa using h
  refine en_nn (RHp.op tk fun ps q hq => ?_)
  refine en_ld (k := .slice) (b := p) (off := 1) (x := q) (by rw [fa_mk]) tk rfl ?_
  refine en_br (fun h2 => ?_) (fun h2 => ?_)
  ·have h2 := of_decide_eq_true h2
   have e : Sp.addC (csO l) (n, xs) = (0, 3, csO l) := by unfold Sp.addC; rw [if_neg (fun g => g h), if_pos (by omega)]
   rw [e]
   refine Tr.close tks (RHp.cl (p := p) (ps := ps) (S := S) (l := l) (s := q) hq) ?_
   refine en_st (b := b2) (off := 0) rfl tk (by simp) rfl ?_
   refine en_ldg (b := b2) (x := ((0 : Int), (3 : Int), ())) [] rfl tk rfl ?_
   exact en_rets (x := ((0 : Int), (3 : Int), ())) rfl ⟨l, rfl, id, rfl, rfl⟩ tks ens
  ·have h2 := of_decide_eq_false h2
   have e : Sp.addC (csO l) (n, xs) = (((csO l).length : Int) + 1, 0, csO l ++ [(n, xs)]) := by unfold Sp.addC; rw [if_neg (fun g => g h), if_neg (by omega)]
   rw [e]
   refine en_drw (en_held [blk p [.pointer (some ⟨ps, 0, none⟩), slv q], blk b1 [.int .i64 n, .slice s.a s.n s.c]] tks (en_nn ?_))
   refine en_ldS (k := .slice) (b := p) (off := 1) (x := q) (by rw [fa_mk]) tk rfl ?_
   refine en_ldS (k := .int .i64) (b := b1) (off := 0) (x := n) (by rw [fa_mk]) tk rfl ?_
   refine en_ldS (k := .slice) (b := b1) (off := 1) (x := s) (by rw [fa_mk]) tk rfl ?_
   refine en_nw fun b3 => ?_
   refine en_chk tks ?_
   refine Tr.imp (A' := SLc ⟨some ⟨b3, 0, none⟩, 0, 0⟩ 1 (([] : List Int).map i64)) .here (SLc.of_cl rfl) ?_
   refine en_appS (s := ⟨some ⟨b3, 0, none⟩, 0, 0⟩) (x := s) (xs := []) (ys := xs) appInt tk (Rd.ro hs) (by simp; omega) fun r hr => ?_
   rw [List.nil_append]
   refine en_chk tks (en_nw fun b4 => en_chk tks ?_)
   refine en_app (s := q) (x := ⟨some ⟨b4, 0, none⟩, 1, 1⟩) (ys := [.int .i64 n, .slice r.a r.n r.c]) appCls tk (Rd.cl tk rfl rfl) rfl (by rw [hq]; dsimp only; omega) (by rw [hq]; dsimp only; omega) fun r2 hr2 => ?_
   refine en_nn ?_
   refine en_st (b := p) (off := 1) (by rw [fa_mk]) tk (by simp) rfl (en_nn ?_)
   refine en_ld (k := .slice) (b := p) (off := 1) (x := r2) (by rw [fa_mk]) tk rfl ?_
   refine Tr.imp (A := star (l.map ClsA)) (A' := star ((l ++ ([] : List (Cls × Slc))).map ClsA)) tk (by simp) ?_
   refine Tr.close (A := star ((l ++ [((n, xs), r)]).map ClsA)) (M := [ClsA ((n, xs), r), star ((l ++ ([] : List (Cls × Slc))).map ClsA)]) tks (fun h H => star_mid' h H) ?_
   have e2 : l.flatMap clsCs ++ [.int .i64 n, .slice r.a r.n r.c] = (l ++ [((n, xs), r)]).flatMap clsCs := by rw [List.flatMap_append]; rfl
   rw [e2]
   refine Tr.close (M := [blk p [.pointer (some ⟨ps, 0, none⟩), slv r2], RSpaceA ps S, SLc r2 2 ((l ++ [((n, xs), r)]).flatMap clsCs), star ((l ++ [((n, xs), r)]).map ClsA)]) tks (RHp.cl (p := p) (ps := ps) (S := S) (l := l ++ [((n, xs), r)]) (s := r2) (by rw [hr2, hq]; simp)) ?_
   have hr2n : ((r2.n : Nat) : Int) = (csO l).length + 1 := by rw [hr2, hq, hll]; dsimp only; omega
   rw [hr2n]
   refine en_st (b := b2) (off := 0) rfl tk (by simp) rfl ?_
   refine en_ldg (b := b2) (x := (((csO l).length : Int) + 1, (0 : Int), ())) [] rfl tk rfl ?_
   exact en_rets (x := (((csO l).length : Int) + 1, (0 : Int), ())) rfl ⟨l ++ [((n, xs), r)], by simp, fun hx x hm => by
    rcases List.mem_append.mp hm with hm | hm
    ·exact hx x hm
    ·simp at hm; subst hm; simpa using hr, rfl, rfl⟩ tks ens
theorem Ob.head_cls {S : Spc} {cs : List Cls} (hw : HWf S cs) {a : Int} {h : Hd} (hh : Ob.head S a = some h) : Sp.mayH h = true := by
 obtain ⟨_, _, _, _, _, g, _⟩ := Ob.head_is hw hh; exact g
def Kn (S : Spc) (cs : List Cls) : Prop := ∀ a h, Ob.head S a = some h → h.k = 1 → ∃ c, Sp.clsAt cs h.c = some c
def RdRefs (p : Nat) (l : List (Cls × Slc)) (A : List Asn) (r : Slc) (xs : List Int) : Prop := ∀ (ρ : FR) (S : Spc), Rd ρ (RHp p S l :: A) r 1 (xs.map i64)
theorem rdRefs_own (p : Nat) (l : List (Cls × Slc)) (r : Slc) (xs : List Int) (hl : r.n = xs.length) : RdRefs p l [SLc r 1 (xs.map i64)] r xs := fun ρ S => Rd.sl (.skip .here) (by simp [hl])
theorem rdRefs_cls (p : Nat) (l : List (Cls × Slc)) (i : Nat) (x : Cls × Slc) (hx : l[i]? = some x) (hl : x.2.n = x.1.2.length) : RdRefs p l [] x.2 x.1.2 := fun ρ S => by
 refine ⟨by simp [hl], fun w hw => ?_⟩
 obtain ⟨⟨h, ⟨h1, h2, hd, rfl, ⟨⟨ps, s⟩, _, hr⟩, he⟩, hh⟩, h3⟩ := hw
 have hw' : Sat ρ [blk p [.pointer (some ⟨ps, 0, none⟩), slv s], RSpaceA ps S, SLc s 2 (l.flatMap clsCs), star (l.map ClsA)] w := ⟨⟨h1, hr, fun b o hb => hh b o (by simp [hb])⟩, h3⟩
 have hw2 : Sat ρ [star (l.map ClsA)] w := hw'.drop.drop.drop
 have hw3 : Sat ρ (l.map ClsA) w := by have := hw2.unstar; simpa using this
 obtain ⟨l1, l2, e⟩ : ∃ l1 l2, l = l1 ++ x :: l2 := by
  have hi := getElem?_lt hx
  refine ⟨l.take i, l.drop (i + 1), ?_⟩
  have : l[i] = x := by rw [List.getElem?_eq_getElem hi] at hx; injection hx
  rw [← this, ← List.drop_eq_getElem_cons hi, List.take_append_drop]
 have hw4 : Sat ρ (SLc x.2 1 (x.1.2.map i64) :: (l1.map ClsA ++ l2.map ClsA)) w := by
  refine hw3.perm ?_
  rw [e, List.map_append, List.map_cons]
  exact List.perm_middle
 exact (Rd.sl (ρ := ρ) .here (by simp [hl])).2 w hw4
theorem rh_refs (p : Nat) (S : Spc) (l : List (Cls × Slc)) (hw : HWf S (csO l)) (hk : Kn S (csO l)) (hln : ∀ x ∈ l, x.2.n = x.1.2.length) (a : Int) : Gl.Spec ρ Tryz.prog 96 [.pointer (some ⟨p, 0, none⟩), i64 a] [RHp p S l] RS
  fun r M => ∃ A, M = RHp p S l :: A ∧ RdRefs p l A r (Ob.refs S (csO l) a) := by
 refine Spec.of (fun Q w hh => F.gloamingref9.Heap.Refs.calls (some ⟨p, 0, none⟩) a hh) fun R => ?_
 unfold F.gloamingref9.Heap.Refs
 try simp only [lca, lna]
 refine en_call (rh_head p S l hw a) tks ?_
 rintro x' M ⟨rfl, rfl⟩
 try simp only [lca, lna]
 refine en_nw fun b2 => ?_
 rw [zcHX]
 cases hh : Ob.head S a with
 | none =>
  have e : Ob.refs S (csO l) a = [] := by unfold Ob.refs; rw [hh]
  rw [e]
  simp only [Rf.hd]
  refine en_st (b := b2) (off := 0) rfl tk (by simp) rfl ?_
  refine en_ld (k := .bool) (b := b2) (off := 4) (x := false) (by rw [fa_mk]) tk rfl ?_
  refine en_brt rfl ?_
  refine Tr.nilSL 1 ?_
  exact en_rets (M := [RHp p S l, SLc nilS 1 (([] : List Int).map i64)]) (x := nilS) rfl ⟨_, rfl, rdRefs_own p l nilS [] rfl⟩ tks ens
 | some hd =>
  have g3 := Ob.head_cls hw hh
  have hkn := hk a hd hh
  have hb := Sp.mayH_is g3
  obtain ⟨k, c, ln, f⟩ := hd
  dsimp only at *
  have e0 : Ob.refs S (csO l) a = if k = 1 then (match Sp.clsAt (csO l) c with | some c => c.2 | none => []) else if k = 2 then Sp.upto ln.toNat else if k = 4 then [2] else [] := by unfold Ob.refs; rw [hh]; rfl
  simp only [Rf.hd]
  refine en_st (b := b2) (off := 0) rfl tk (by simp) rfl ?_
  refine en_ld (k := .bool) (b := b2) (off := 4) (x := true) (by rw [fa_mk]) tk rfl ?_
  refine en_brf rfl ?_
  refine en_ld (k := .int .i64) (b := b2) (off := 0) (x := k) (by rw [fa_mk, fa_mk]) tk rfl ?_
  refine en_br (fun h1 => ?_) (fun h1 => ?_)
  ·have h1 : k = 1 := eq_of_beq h1
   obtain ⟨cl, hc⟩ := hkn h1
   rw [if_pos h1, hc] at e0
   dsimp only at e0
   rw [e0]
   obtain ⟨c1, c2, c3⟩ := clsAt_get hc
   have hlt : (c - 1).toNat < l.length := by have := getElem?_lt c3; simpa using this
   have hx : l[(c - 1).toNat]? = some l[(c - 1).toNat] := List.getElem?_eq_getElem hlt
   have hmem := List.getElem_mem hlt
   generalize l[(c - 1).toNat] = x at hx hmem
   have hxc : x.1 = cl := by rw [List.getElem?_map, hx] at c3; injection c3
   refine en_drw (en_nn (RHp.op tk fun ps s hs => ?_))
   refine en_ld (k := .slice) (b := p) (off := 1) (x := s) (by rw [fa_mk]) tk rfl ?_
   refine en_ld (k := .int .i64) (b := b2) (off := 1) (x := c) (by rw [fa_mk, fa_mk]) tk rfl ?_
   rw [wrap64 (n := c - 1) (by omega) (by omega)]
   refine en_getCls (s := s) tk (by omega) hx fun a0 ha hcell => ?_
   refine en_ldSL (k := .slice) (s := s) (j := (c - 1).toNat * 2 + 1) (x := x.2) ha tk (by rintro b o rfl; simp [fa_mk, Nat.add_assoc]) (hcell 1 _ (by decide) rfl) ?_
   refine Tr.close tks (RHp.cl (p := p) (ps := ps) (S := S) (l := l) (s := s) hs) ?_
   exact en_rets (M := [RHp p S l]) (x := x.2) rfl ⟨[], rfl, by rw [← hxc]; exact rdRefs_cls p l _ x hx (hln x hmem)⟩ tks ens
  ·have h1 : k ≠ 1 := by simpa using h1
   rw [if_neg h1] at e0
   refine en_br (fun h2 => ?_) (fun h2 => ?_)
   ·rw [if_pos (eq_of_beq h2)] at e0
    rw [e0]
    refine Tr.nilSL 1 ?_
    refine en_lp (fun m u M => (fun (t : Slc) (j : Int) => M = SLc t 1 ((Sp.upto j.toNat).map i64) :: blk b2 [i64 k, i64 c, i64 ln, .bool f, .bool true] :: RHp p S l :: R ∧ 0 ≤ j ∧ j ≤ ln ∧ m = ln.toNat - j.toNat) u.1 u.2.1) ln.toNat ?_ ?_
    ·exact ⟨rfl, by simp, by dsimp only; omega, by simp⟩
    ·rintro m ⟨(t : Slc), (j : Int), ⟨⟩⟩ M ⟨rfl, j0, j1, rfl⟩ X hX
     dsimp only at *
     refine en_ld (k := .int .i64) (b := b2) (off := 2) (x := ln) (by rw [fa_mk, fa_mk]) tk rfl ?_
     refine en_br (fun h3 => ?_) (fun h3 => ?_)
     ·replace h3 : j < ln := of_decide_eq_true h3
      refine en_appI (s := t) (xs := Sp.upto j.toNat) appInt tk (by simp [Sp.upto]; omega) fun r hr => ?_
      rw [wrap64 (n := j + 1) (by omega) (by omega)]
      refine hX (ln.toNat - (j + 1).toNat) _ _ (by omega) ⟨?_, by dsimp only; omega, by dsimp only; omega, rfl⟩
      dsimp only
      have e : Sp.upto j.toNat ++ [j] = Sp.upto (j + 1).toNat := by
       rw [show (j + 1).toNat = j.toNat + 1 by omega, Sp.upto, Sp.upto, List.range_succ, List.map_append]
       simp; omega
      rw [e]
     ·replace h3 : ¬ j < ln := of_decide_eq_false h3
      rw [show j.toNat = ln.toNat by omega]
      refine Tr.nlen (s := t) (xs := Sp.upto ln.toNat) tk fun htn => ?_
      exact en_rets (M := [RHp p S l, SLc t 1 ((Sp.upto ln.toNat).map i64)]) (x := t) rfl ⟨_, rfl, rdRefs_own p l t _ htn⟩ tks ens
   ·rw [if_neg (by simpa using h2)] at e0
    refine en_br (fun h3 => ?_) (fun h3 => ?_)
    ·rw [if_pos (eq_of_beq h3)] at e0
     rw [e0]
     refine en_nw fun b4 => ?_
     refine Tr.imp (A' := SLc ⟨some ⟨b4, 0, none⟩, 1, 1⟩ 1 (([2] : List Int).map i64)) .here (SLc.of_cl rfl) ?_
     exact en_rets (M := [RHp p S l, SLc ⟨some ⟨b4, 0, none⟩, 1, 1⟩ 1 (([2] : List Int).map i64)]) (x := (⟨some ⟨b4, 0, none⟩, 1, 1⟩ : Slc)) rfl ⟨_, rfl, rdRefs_own p l _ [2] rfl⟩ tks ens
    ·rw [if_neg (by simpa using h3)] at e0
     rw [e0]
     refine Tr.nilSL 1 ?_
     exact en_rets (M := [RHp p S l, SLc nilS 1 (([] : List Int).map i64)]) (x := nilS) rfl ⟨_, rfl, rdRefs_own p l nilS [] rfl⟩ tks ens
theorem Rd.part {s : Slc} {xs : List Int} (t : Take L (SLc s 1 (xs.map i64)) L') {lo hi : Nat} (h1 : lo ≤ hi) (h2 : hi ≤ xs.length) : Rd ρ L ⟨if s.c = lo then s.a else s.a.map fun b => fa b (lo * 1), hi - lo, s.c - lo⟩ 1 (((xs.drop lo).take (hi - lo)).map i64) := by
 refine ⟨by simp; omega, fun w hw => ?_⟩
 by_cases he : hi = lo
 ·left; dsimp only; omega
 rcases (hw.perm t.perm).sl with ⟨g1, g2, g3, g4, _⟩ | ⟨b, off, pre, rest, g1, g2, g3, g4, g5, g6⟩
 ·have : xs.length = 0 := by have := congrArg List.length g4; simpa using this
  omega
 ·right
  rw [List.length_map] at g3
  refine ⟨b, off + lo, by dsimp only; rw [if_neg (by omega), g1, Option.map_some, fa_mk, Nat.mul_one], fun i hi' => ?_⟩
  rw [List.length_map, List.length_take, List.length_drop] at hi'
  obtain ⟨ty, hb⟩ := g6.cl
  have hix : lo + i < xs.length := by omega
  have e1 : (((xs.drop lo).take (hi - lo)).map i64)[i]? = some (i64 (xs.getD (lo + i) 0)) := by
   rw [List.getElem?_map, List.getElem?_take, if_pos (by omega), List.getElem?_drop, List.getElem?_eq_getElem hix, List.getD_eq_getElem?_getD, List.getElem?_eq_getElem hix]; rfl
  rw [e1]
  refine cell_of hb ?_
  rw [List.getElem?_toArray, show off + lo + i = pre.length + (lo + i) by omega, mid_get (by simpa using hix)]
  exact getD_map hix
theorem words_eq {S : Spc} {cs : List Cls} (hw : HWf S cs) {n : Nat} {hd : Hd} (hh : Ob.head S n = some hd) : (List.range hd.n.toNat).map (fun i : Nat => (Ob.get S n i).1) = (S.ws.drop (n + 1)).take hd.n.toNat := by
 obtain ⟨m, w, e, _, _, g3, g4, g5⟩ := Ob.head_is hw hh
 have e : m = n := by omega
 subst e
 have hb := Sp.mayH_is g3
 refine ext_getD 0 (by simp; omega) fun i hi => ?_
 rw [List.length_map, List.length_range] at hi
 rw [List.getD_eq_getElem?_getD, List.getElem?_map, List.getElem?_range hi, Option.map_some, Option.getD_some, Ob.get_ok hh (by omega) (by omega)]
 dsimp only
 rw [show ((m : Int) + 1 + i).toNat = m + 1 + i by omega, List.getD_eq_getElem?_getD, List.getD_eq_getElem?_getD, List.getElem?_take, if_pos hi, List.getElem?_drop]
theorem rh_objects (p : Nat) (S : Spc) (l : List (Cls × Slc)) (hw : HWf S (csO l)) : Gl.Spec ρ Tryz.prog 22 [.pointer (some ⟨p, 0, none⟩)] [RHp p S l] RS
  fun r M => M = [ObsA r (Ob.objs S), RHp p S l] ∧ r.n = (Ob.objs S).length := by
 have hel := Sp.each_len hw.wf
 have hmost := hw.wf.most
 have hlen := hw.wf.len
 refine Spec.of (fun Q w' h => F.gloamingref9.Heap.Objects.calls (some ⟨p, 0, none⟩) h) fun R => ?_
 unfold F.gloamingref9.Heap.Objects
 try simp only [lca, lna]
 refine en_nn (RHp.op tk fun ps q hq => ?_)
 refine en_ld (k := .ptr) (b := p) (off := 0) (x := some ⟨ps, 0, none⟩) (by rw [fa_mk]) tk rfl ?_
 refine en_call (rf_each ps S hw.wf) tks ?_
 rintro s M rfl
 try simp only [lca, lna]
 refine Tr.close tks (RHp.cl (p := p) (ps := ps) (S := S) (l := l) (s := q) hq) ?_
 refine Tr.keepSL (s := s) tk fun ρ' hle hro => ?_
 have hsn := hro.len
 refine Tr.none ?_
 refine Tr.nilSL 6 ?_
 refine en_lp (fun m u M => (fun (t : Slc) (i : Int) => ∃ lo : List (Ob1 × Slc), M = SLc t 6 (lo.flatMap obCs) :: star (lo.map ObA) :: RHp p S l :: R ∧ 0 ≤ i ∧ i ≤ (Sp.each S).length ∧ m = (Sp.each S).length - i.toNat ∧ t.n = i.toNat ∧
   lo.map (·.1) = ((Sp.each S).take i.toNat).map (Ob.at1 S) ∧ ∀ x ∈ lo, x.2.n = x.1.ws.length) u.1 u.2.1) (Sp.each S).length ?_ ?_
 ·exact ⟨[], rfl, by simp, by simp, by simp, rfl, by simp, by simp⟩
 ·rintro m ⟨(t : Slc), (i : Int), ⟨⟩⟩ M ⟨lo, rfl, h0, h1, rfl, htn, hl, hln⟩ X hX
  dsimp only at *
  refine en_br (fun h => ?_) (fun h => ?_)
  ·replace h : i < (s.n : Int) := of_decide_eq_true h
   have hi : i.toNat < (Sp.each S).length := by omega
   have hmem : (Sp.each S).getD i.toNat 0 ∈ Sp.each S := by rw [List.getD_eq_getElem?_getD, List.getElem?_eq_getElem hi]; exact List.getElem_mem hi
   have htk := take_succ_getD 0 hi
   have hgx : ∀ {ρ1 : FR} {L : List Asn} {Post : Value → List Asn → Prop} {f : Int → Tree} (M : List Asn), Tr ρ1 ρ' L (f ((Sp.each S).getD i.toNat 0)) Post → Tr ρ1 ρ' L (ix s.a s.n i 1 fun a => ldS (Sat ρ' M) (.l (.int .i64)) a f) Post := fun M h => en_getRoS hro h0 (by omega) h
   refine en_getRo hro h0 (by omega) ?_
   generalize (Sp.each S).getD i.toNat 0 = a at hmem htk hgx ⊢
   obtain ⟨n, rfl, hn, w, hf, w1, w2, w3⟩ := Sp.each_find hw.wf hmem
   obtain ⟨hd, hm, hwd, hfit⟩ := hw.obj n w hf
   have hb := Sp.mayH_is hm
   have hhd : Ob.head S n = some hd := by unfold Ob.head; rw [hf]; dsimp only; rw [if_pos rfl, hwd, Sp.getH_put hm]
   have hat : Ob.at1 S n = ⟨n, hd, (S.ws.drop (n + 1)).take hd.n.toNat⟩ := by unfold Ob.at1; rw [hhd]; dsimp only; rw [words_eq hw hhd]
   refine en_call (rh_head p S l hw (n : Int)) tks ?_
   rintro x' M ⟨rfl, rfl⟩
   try simp only [lca, lna]
   refine en_nw fun b9 => ?_
   rw [zcHX, hhd]
   simp only [Rf.hd]
   refine en_st (b := b9) (off := 0) rfl tk (by simp) rfl ?_
   refine RHp.op tk fun ps q hq => RSpaceA.op tk fun sa sk sm sq ql hql => ?_
   refine Tr.take (A := blk b9 _) (.skip (.skip (.skip (.skip (.skip (.skip (.skip (.skip (.skip .here))))))))) ?_
   refine en_drw (en_held [blk p [.pointer (some ⟨ps, 0, none⟩), slv q], blk ps [slv sa, slv sk, slv sm, slv sq], blk b9 [i64 hd.k, i64 hd.c, i64 hd.n, .bool hd.f, .bool true]] tks (hgx _ ?_))
   refine en_ldgS (b := b9) (x := (hd.k, hd.c, hd.n, hd.f, ())) [.bool true] (by rw [fa_mk]) tk rfl (en_nn ?_)
   refine en_ldS (k := .ptr) (b := p) (off := 0) (x := some ⟨ps, 0, none⟩) (by rw [fa_mk]) tk rfl (en_nn ?_)
   refine en_ldS (k := .slice) (b := ps) (off := 0) (x := sa) (by rw [fa_mk]) tk rfl (hgx _ (hgx _ ?_))
   refine en_ldS (k := .int .i64) (b := b9) (off := 2) (x := hd.n) (by rw [fa_mk, fa_mk]) tk rfl ?_
   obtain ⟨ln, hln2⟩ : ∃ ln : Nat, hd.n = ln := ⟨hd.n.toNat, by omega⟩
   rw [hln2] at hat hfit hb ⊢
   rw [Int.toNat_natCast] at hat
   rw [wrap64 (n := (n : Int) + 1) (by omega) (by omega), wrap64 (n := (n : Int) + 1 + (ln : Int)) (by omega) (by omega)]
   refine Tr.sl_len (s := sa) (m := 1) (xs := S.ws.map i64) tk fun hsa hsc => ?_
   rw [List.length_map, Nat.mul_one] at hsa
   refine en_slc (by omega) (by omega) (by omega) ?_
   rw [show ((n : Int) + 1).toNat = n + 1 by omega, show ((n : Int) + 1 + (ln : Int)).toNat = n + 1 + ln by omega]
   refine en_nw fun b24 => en_chk tks ?_
   refine Tr.imp (A' := SLc ⟨some ⟨b24, 0, none⟩, 0, 0⟩ 1 (([] : List Int).map i64)) .here (SLc.of_cl rfl) ?_
   have hrd := fun (L L' : List Asn) (t : Take L (SLc sa 1 (S.ws.map i64)) L') => Rd.part (ρ := ρ') t (lo := n + 1) (hi := n + 1 + ln) (by omega) (by omega)
   rw [show n + 1 + ln - (n + 1) = ln by omega] at hrd ⊢
   refine en_appS (s := ⟨some ⟨b24, 0, none⟩, 0, 0⟩) (x := ⟨if sa.c = n + 1 then sa.a else sa.a.map fun b => fa b ((n + 1) * 1), ln, sa.c - (n + 1)⟩) (xs := []) (ys := (S.ws.drop (n + 1)).take ln) appInt tk (hrd _ _ tk) (by simp; omega) fun r hr => ?_
   rw [List.nil_append]
   refine en_chk tks (en_nw fun b26 => ?_)
   refine en_app (s := t) (x := ⟨some ⟨b26, 0, none⟩, 1, 1⟩) (ys := [i64 n, i64 hd.k, i64 hd.c, i64 ln, .bool hd.f, .slice r.a r.n r.c]) appObj tk (Rd.cl tk rfl rfl) rfl (by rw [htn]; dsimp only; omega) (by rw [htn]; dsimp only; omega) fun r2 hr2 => ?_
   refine Tr.close tks (RSpaceA.cl (p := ps) (S := S) (a := sa) (k := sk) (m := sm) (q := sq) hql) ?_
   refine Tr.close tks (RHp.cl (p := p) (ps := ps) (S := S) (l := l) (s := q) hq) ?_
   refine Tr.imp (A := star (lo.map ObA)) (A' := star ((lo ++ ([] : List (Ob1 × Slc))).map ObA)) tk (by simp) ?_
   refine Tr.close (A := star ((lo ++ [(Ob.at1 S n, r)]).map ObA)) (M := [ObA (Ob.at1 S n, r), star ((lo ++ ([] : List (Ob1 × Slc))).map ObA)]) (by rw [hat]; exact tks) (fun h H => star_mid' h H) ?_
   have e2 : lo.flatMap obCs ++ [i64 n, i64 hd.k, i64 hd.c, i64 ln, .bool hd.f, .slice r.a r.n r.c] = (lo ++ [(Ob.at1 S n, r)]).flatMap obCs := by rw [List.flatMap_append, hat]; simp [obCs, hln2]
   rw [e2, wrap64 (n := i + 1) (by omega) (by omega)]
   refine Tr.drop (A := blk b26 _) tk (Tr.drop (A := blk b9 _) tk ?_)
   refine Tr.take (A := star ((lo ++ [(Ob.at1 S n, r)]).map ObA)) tk (Tr.take (A := SLc r2 6 ((lo ++ [(Ob.at1 S n, r)]).flatMap obCs)) tk ?_)
   refine hX ((Sp.each S).length - (i + 1).toNat) _ _ (by omega) ⟨lo ++ [(Ob.at1 S n, r)], rfl, by dsimp only; omega, by dsimp only; omega, rfl, by dsimp only; rw [hr2, htn]; show _ + 1 = _; omega, ?_, fun x hx => ?_⟩
   ·dsimp only
    rw [show (i + 1).toNat = i.toNat + 1 by omega, htk, List.map_append, List.map_append, hl]; rfl
   ·rcases List.mem_append.mp hx with hx | hx
    ·exact hln x hx
    ·simp at hx; subst hx
     rw [hat]; dsimp only
     rw [hr]; simp
  ·replace h : ¬ i < (s.n : Int) := of_decide_eq_false h
   rw [List.take_of_length_le (by omega)] at hl
   have htl : t.n = (Ob.objs S).length := by rw [objs_len]; omega
   refine Tr.close (A := ObsA t (Ob.objs S)) (M := [SLc t 6 (lo.flatMap obCs), star (lo.map ObA)]) tks (ObsA.cl htl hl hln) ?_
   exact en_rets (x := t) rfl ⟨rfl, htl⟩ tks ens
theorem same_objs (s1 s2 : Slc) (os : List Ob1) (r1 : RoObs ρ s1 os) (r2 : RoObs ρ s2 os) (hb : ∀ o ∈ os, o.ws.length < 2 ^ 40) (hl : os.length < 2 ^ 40) : Gl.Spec ρ Tryz.prog 20 [slv s1, slv s2] [] RB
  fun r M => r = true ∧ M = [] := by
 refine Spec.of (fun Q w' h => F.gloamingref9.SameObjs.calls s1 s2 h) fun R => ?_
 unfold F.gloamingref9.SameObjs
 try simp only [lca, lna]
 obtain ⟨n1, l1, e1, g1, q1⟩ := r1
 obtain ⟨n2, l2, e2, g2, q2⟩ := r2
 refine en_brf (by rw [n1, n2]; simp) ?_
 refine en_lp (fun m u M => (fun (i : Int) => M = R ∧ 0 ≤ i ∧ i ≤ os.length ∧ m = os.length - i.toNat) u.1) os.length ?_ ?_
 ·exact ⟨rfl, by simp, by dsimp only; omega, by simp⟩
 ·rintro m ⟨(i : Int), ⟨⟩⟩ M ⟨rfl, i0, i1, rfl⟩ X hX
  dsimp only at *
  refine en_br (fun h => ?_) (fun h => ?_)
  ·replace h : i < (s1.n : Int) := of_decide_eq_true h
   have hi : i.toNat < os.length := by omega
   have hl1 : l1.length = os.length := by rw [← e1]; simp
   have hl2 : l2.length = os.length := by rw [← e2]; simp
   have x1 : l1[i.toNat]? = some (os[i.toNat], l1[i.toNat].2) := by
    rw [List.getElem?_eq_getElem (by omega)]; congr 1
    refine Prod.ext ?_ rfl
    have := List.getElem_map (·.1) (l := l1) (i := i.toNat) (h := by simp; omega)
    rw [← this]; simp only [e1]
   have x2 : l2[i.toNat]? = some (os[i.toNat], l2[i.toNat].2) := by
    rw [List.getElem?_eq_getElem (by omega)]; congr 1
    refine Prod.ext ?_ rfl
    have := List.getElem_map (·.1) (l := l2) (i := i.toNat) (h := by simp; omega)
    rw [← this]; simp only [e2]
   have hbo := hb _ (List.getElem_mem hi)
   generalize os[i.toNat] = o at *
   generalize l1[i.toNat].2 = c1 at *
   generalize l2[i.toNat].2 = c2 at *
   have k1 := fun e (he : e < 6) => flat_get (g := obCs) (m := 6) (fun _ => rfl) x1 he
   have k2 := fun e (he : e < 6) => flat_get (g := obCs) (m := 6) (fun _ => rfl) x2 he
   have p1 := q1 _ (List.mem_of_getElem? x1)
   have p2 := q2 _ (List.mem_of_getElem? x2)
   have hg : ∀ (lo : List (Ob1 × Slc)) (c : Slc), (∀ e, e < 6 → (lo.flatMap obCs)[i.toNat * 6 + e]? = (obCs (o, c))[e]?) → ∀ e v, (vals HL o.h.t)[e]? = some v → (lo.flatMap obCs)[i.toNat * 6 + 1 + 0 + e]? = some v := fun lo c hc e v he => by
    have hlt : e < 4 := getElem?_lt he
    rw [show i.toNat * 6 + 1 + 0 + e = i.toNat * 6 + (1 + e) by omega, hc (1 + e) (by omega)]
    have : e = 0 ∨ e = 1 ∨ e = 2 ∨ e = 3 := by omega
    rcases this with e' | e' | e' | e' <;> subst e' <;> exact he
   refine en_drw (en_ixRo g1 i0 (by omega) fun a0 ha => ?_)
   refine en_ldRo (k := .int .i64) (j := i.toNat * 6 + 0) (x := o.a) ha g1 (by rintro b o rfl; simp [fa_mk]) (by rw [k1 0 (by decide)]; rfl) ?_
   refine en_ixRo g2 i0 (by omega) fun a1 ha1 => ?_
   refine en_ldRo (k := .int .i64) (j := i.toNat * 6 + 0) (x := o.a) ha1 g2 (by rintro b o rfl; simp [fa_mk]) (by rw [k2 0 (by decide)]; rfl) ?_
   refine en_brf (by simp) ?_
   refine en_ixRo g1 i0 (by omega) fun a0 ha => ?_
   refine en_ldRg (x := o.h.t) ha g1 (j := i.toNat * 6 + 1) (by rintro b o rfl; simp [fa_mk, Nat.add_assoc]) (hg _ _ k1) ?_
   refine en_ixRo g2 i0 (by omega) fun a0 ha => ?_
   refine en_ldRg (x := o.h.t) ha g2 (j := i.toNat * 6 + 1) (by rintro b o rfl; simp [fa_mk, Nat.add_assoc]) (hg _ _ k2) ?_
   refine en_brf (by simp) ?_
   refine en_ixRo g1 i0 (by omega) fun a0 ha => ?_
   refine en_ldRo (k := .slice) (j := i.toNat * 6 + 5) (x := c1) ha g1 (by rintro b o rfl; simp [fa_mk, Nat.add_assoc]) (by rw [k1 5 (by decide)]; rfl) ?_
   refine en_ixRo g2 i0 (by omega) fun a0 ha => ?_
   refine en_ldRo (k := .slice) (j := i.toNat * 6 + 5) (x := c2) ha g2 (by rintro b o rfl; simp [fa_mk, Nat.add_assoc]) (by rw [k2 5 (by decide)]; rfl) ?_
   refine en_call (same_ints c1 c2 o.ws o.ws p1.1 p2.1 (by omega)) .nil ?_
   rintro x' M ⟨rfl, rfl⟩
   try simp only [lca, lna]
   refine en_brf (by simp) ?_
   rw [wrap64 (n := i + 1) (by omega) (by omega)]
   exact hX (os.length - (i + 1).toNat) _ _ (by omega) ⟨rfl, by dsimp only; omega, by dsimp only; omega, rfl⟩
  ·exact en_rets (x := true) rfl ⟨rfl, rfl⟩ tks ens
end Go.Proofs.YtpefngbfgjfcgaaGreat
