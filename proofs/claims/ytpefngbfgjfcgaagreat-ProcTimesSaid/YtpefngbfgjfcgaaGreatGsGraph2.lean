/- Graph Graph2. -/
import Derived.Test.YtpefngbfgjfcgaaGreatGsLaw5
import Derived.Test.YtpefngbfgjfcgaaGreatGsTl17
import Derived.Test.YtpefngbfgjfcgaaGreatGsEz
import Derived.Test.YtpefngbfgjfcgaaGreatGsTr1
set_option linter.unusedSimpArgs false
set_option linter.unusedVariables false
namespace Go.Gl
open Go
variable {ρ0 ρ : FR} {L L' : List Asn} {Post : Value → List Asn → Prop}
theorem en_ldRoS {M : List Asn} {s : Slc} {m : Nat} {xs : List Value} {k : LK} {a a0 : Addr} {f : LT k → Tree} {j : Nat} {x : LT k} (hs : s.a = some a0) (hr : RoS ρ s m xs) (ha : ∀ b o, a0 = ⟨b, o, none⟩ → a = ⟨b, o + j, none⟩)
  (hx : xs[j]? = some (k.val x)) (h : Tr ρ0 ρ L (f x) Post) : Tr ρ0 ρ L (ldLS (Sat ρ M) k a f) Post := by
 have hj : j < xs.length := by
  rcases Nat.lt_or_ge j xs.length with h | h
  ·exact h
  ·rw [List.getElem?_eq_none h] at hx; cases hx
 obtain ⟨h1, hr | ⟨b, off, cs, ty, fr, g1, g2, g3⟩⟩ := hr
 ·rw [hr] at h1; simp at h1; rw [h1] at hj; simp at hj
 ·rw [hs] at g1
  injection g1 with g1
  exact en_ldSR (ha b off g1) g2 (by rw [g3 j hj, hx]) h
theorem u8_all {ns : List Int} (hb : ∀ x ∈ ns, (Lit.int .u8 x).wf = true) : ∀ x ∈ ns, 0 ≤ x ∧ x < 256 := fun x hx => by
 have := hb x hx
 simp [Lit.wf, IntKind.min, IntKind.max, IntKind.signed, IntKind.bits] at this
 omega
theorem u8_getD {ns : List Int} (hb : ∀ x ∈ ns, 0 ≤ x ∧ x < 256) (i : Nat) : 0 ≤ ns.getD i 0 ∧ ns.getD i 0 < 256 := by
 rw [List.getD_eq_getElem?_getD]
 cases h : ns[i]? with
 | none => simp
 | some x => exact hb x (List.mem_of_getElem? h)
theorem en_ldRog {s : Slc} {m : Nat} {xs : List Value} {a0 a : Addr} {j : Nat} (hs : s.a = some a0) (hr : RoS ρ s m xs) (ha : ∀ b o, a0 = ⟨b, o, none⟩ → a = ⟨b, o + j, none⟩) :
  ∀ (ks : List LK) (i : Nat) {f : LTs ks → Tree} {x : LTs ks} (_ : ∀ e v, (vals ks x)[e]? = some v → xs[j + i + e]? = some v) (_ : Tr ρ0 ρ L (f x) Post), Tr ρ0 ρ L (ldG a i ks f) Post
 | [], i, f, x, _, h => h
 | k :: ks, i, f, x, hv, h => by
  refine en_ldRo (j := j + i) (x := x.1) hs hr (fun b o e => by rw [ha b o e, fa_mk, Nat.add_assoc]) (by simpa using hv 0 (k.val x.1) rfl) ?_
  exact en_ldRog hs hr ha ks (i + 1) (x := x.2) (fun e v he => by have := hv (e + 1) v he; rw [← this]; congr 1; omega) h
theorem en_ldRg {s : Slc} {m : Nat} {xs : List Value} {a0 a : Addr} {j : Nat} {ks : List LK} {f : LTs ks → Tree} {x : LTs ks} (hs : s.a = some a0) (hr : RoS ρ s m xs) (ha : ∀ b o, a0 = ⟨b, o, none⟩ → a = ⟨b, o + j, none⟩)
  (hv : ∀ e v, (vals ks x)[e]? = some v → xs[j + 0 + e]? = some v) (h : Tr ρ0 ρ L (f x) Post) : Tr ρ0 ρ L (ld (.g ks) a f) Post := en_ldRog hs hr ha ks 0 hv h
end Go.Gl
namespace Go.Proofs.YtpefngbfgjfcgaaGreat
open Go Go.Gl
variable {ρ0 ρ : FR} {L L' : List Asn} {Post : Value → List Asn → Prop} {T : Tree}
namespace Gr
def cs : List Cls := [(3, [0, 2])]
def hd (n : Int) : Hd := if n % 4 = 0 then ⟨1, 1, 3, false⟩ else if n % 4 = 3 then ⟨4, 1 + n / 4 % 3, 5, false⟩ else ⟨1 + n % 4, 0, 1 + n / 4 % 5, false⟩
def heads (ns : List Int) : List Hd := (ns.take 24).map hd
def isA (h : Hd) (k : Int) : Bool := decide (h.k = 2 ∨ (h.k = 1 ∧ k ≠ 1) ∨ (h.k = 4 ∧ (k = 0 ∨ k = 2)))
def num (ns : List Int) (i k : Nat) : Int := ns.getD ((i * 7 + k * 3 + 1) % ns.length) 0 + 13 * i + 5 * k
def word0 (h : Hd) (l ns : List Int) (i k : Nat) : Int := if isA h k then (if num ns i k % 3 > 0 then l.getD ((num ns i k).toNat % l.length) 0 else 0) else num ns i k
def n3 (ns : List Int) (i : Nat) : Int := ns.getD ((i * 5 + 2) % ns.length) 0 % 4 - 1
def prt (f : Nat → Int) (n k : Nat) : List Int := (List.range n).map fun j => if j < k then f j else 0
def words (h : Hd) (l ns : List Int) (i : Nat) : List Int :=
 if h.k = 4 then ((((prt (word0 h l ns i) h.n.toNat h.n.toNat).set 2 0).set 1 (n3 ns i)).set 3 (ns.getD (i % ns.length) 0)).set 4 ((i : Int) + 1) else prt (word0 h l ns i) h.n.toNat h.n.toNat
def step (q : Spc × List Int) (h : Hd) : Spc × List Int := ((Ob.make q.1 cs h).2.2, q.2 ++ [(Ob.make q.1 cs h).1])
def made (hs : List Hd) : Spc × List Int := hs.foldl step (Sp.newSpc 60, [])
def putN (S : Spc) (a : Int) (ws : List Int) (n : Nat) : Spc := (List.range n).foldl (fun S (k : Nat) => (Ob.put S a k (ws.getD k 0)).2) S
def putW (S : Spc) (a : Int) (ws : List Int) : Spc := putN S a ws ws.length
def puts (S : Spc) (hs : List Hd) (l ns : List Int) (n : Nat) : Spc := (List.range n).foldl (fun S (i : Nat) => putW S (l.getD i 0) (words (hs.getD i ⟨0, 0, 0, false⟩) l ns i)) S
def graph (ns : List Int) : Spc × List Int := (puts (made (heads ns)).1 (heads ns) (made (heads ns)).2 ns (heads ns).length, (made (heads ns)).2)
theorem part_set {f : Nat → Int} {n k : Nat} : (prt f n k).set k (f k) = prt f n (k + 1) := by
 unfold prt
 apply List.ext_getElem?
 intro j
 rw [List.getElem?_set]
 simp only [List.length_map, List.length_range, List.getElem?_map]
 by_cases hj : k = j
 ·subst hj
  rw [if_pos rfl]
  by_cases hk : k < n
  ·rw [if_pos hk, List.getElem?_range hk, Option.map_some, if_pos (by omega)]
  ·rw [if_neg hk, List.getElem?_eq_none (by simp; omega)]; rfl
 ·rw [if_neg hj]
  by_cases hk : j < n
  ·rw [List.getElem?_range hk, Option.map_some, Option.map_some]
   congr 1
   by_cases h : j < k
   ·rw [if_pos h, if_pos (by omega)]
   ·rw [if_neg h, if_neg (by omega)]
  ·rw [List.getElem?_eq_none (by simp; omega)]; rfl
theorem part_len {f : Nat → Int} {n k : Nat} : (prt f n k).length = n := by simp [prt]
theorem part_zero {f : Nat → Int} {n k : Nat} (h : f k = 0) : prt f n (k + 1) = prt f n k := by
 unfold prt
 refine List.map_congr_left fun j hj => ?_
 by_cases hk : j < k
 ·rw [if_pos hk, if_pos (by omega)]
 ·rw [if_neg hk]
  by_cases h2 : j = k
  ·subst h2; rw [if_pos (by omega), h]
  ·rw [if_neg (by omega)]
theorem part0 {f : Nat → Int} {n : Nat} : prt f n 0 = List.replicate n 0 := by
 unfold prt
 apply List.ext_getElem?
 intro j
 rw [List.getElem?_map, List.getElem?_replicate]
 by_cases hk : j < n
 ·rw [List.getElem?_range hk, if_pos hk]; simp
 ·rw [List.getElem?_eq_none (by simp; omega), if_neg hk]; rfl
theorem words_len {h : Hd} {l ns : List Int} {i : Nat} : (words h l ns i).length = h.n.toNat := by
 unfold words; split <;> simp [part_len]
structure Good (h : Hd) : Prop where
 may : Ob.may cs h = 0
 small : Sp.need (h.n + 1) ≤ 1
 rf : h.k = 4 → h.n = 5
 n0 : 0 ≤ h.n
 n1 : h.n ≤ 5
theorem hd_good {n : Int} (hn : 0 ≤ n) : Good (hd n) := by
 unfold hd
 split
 ·exact ⟨by decide, need1 (by decide) (by decide), by simp, by decide, by decide⟩
 ·split
  ·rename_i h1 h2
   refine ⟨?_, need1 (by dsimp only; omega) (by dsimp only; omega), by simp, by dsimp only; omega, by dsimp only; omega⟩
   have hm : Sp.mayH ⟨4, 1 + n / 4 % 3, 5, false⟩ = true := by
    have : n / 4 % 3 = 0 ∨ n / 4 % 3 = 1 ∨ n / 4 % 3 = 2 := by omega
    rcases this with e | e | e <;> rw [e] <;> decide
   unfold Ob.may; rw [hm]; simp
  ·rename_i h1 h2
   have hk : n % 4 = 1 ∨ n % 4 = 2 := by omega
   refine ⟨?_, need1 (by dsimp only; omega) (by dsimp only; omega), fun h => by dsimp only at h; omega, by dsimp only; omega, by dsimp only; omega⟩
   have hm : Sp.mayH ⟨1 + n % 4, 0, 1 + n / 4 % 5, false⟩ = true := by
    unfold Sp.mayH; dsimp only
    rw [if_neg (by omega), if_pos (by omega), Bool.and_eq_true]
    exact ⟨decide_eq_true (by omega), rfl⟩
   unfold Ob.may; rw [hm]
   dsimp only
   rw [if_neg (by simp), if_pos (by omega)]
theorem heads_good {ns : List Int} (hb : ∀ x ∈ ns, 0 ≤ x ∧ x < 256) : ∀ h ∈ heads ns, Good h := fun h hh => by
 unfold heads at hh
 obtain ⟨n, hn, rfl⟩ := List.mem_map.mp hh
 exact hd_good (hb n (List.mem_of_mem_take hn)).1
theorem heads_len {ns : List Int} : (heads ns).length ≤ 24 := by unfold heads; simp; omega
structure OK (S : Spc) (hs : List Hd) (l : List Int) : Prop where
 hw : HWf S cs
 len : l.length = hs.length
 pfx : ∃ m, Pfx S.pg m ∧ m ≤ 1 + hs.length
 pgs : S.pg.length = 60
 head : ∀ i h, hs[i]? = some h → Ob.head S (l.getD i 0) = some h
 each : (Sp.each S).Perm l
theorem OK.start : OK (Sp.newSpc 60) [] [] := by
 refine ⟨hwf_add (cs := []) (newSpc_hwf (by omega) (by omega)) (by simp) (by decide), rfl, ⟨1, Pfx.new (by omega), by simp⟩, by kernel_rfl, by simp, ?_⟩
 have : Sp.each (Sp.newSpc 60) = [] := by kernel_rfl
 rw [this]
theorem getD_last {xs : List Int} {y d : Int} : (xs ++ [y]).getD xs.length d = y := by
 rw [List.getD_eq_getElem?_getD, List.getElem?_append_right (Nat.le_refl _), Nat.sub_self]; rfl
theorem getD_front {xs : List Int} {y d : Int} {j : Nat} (h : j < xs.length) : (xs ++ [y]).getD j d = xs.getD j d := by
 rw [List.getD_eq_getElem?_getD, List.getElem?_append_left h, List.getD_eq_getElem?_getD]
theorem OK.make {S : Spc} {hs : List Hd} {l : List Int} (H : OK S hs l) (hn : hs.length < 24) {h : Hd} (hg : Good h) :
  (Ob.make S cs h).2.1 = 0 ∧ OK (Ob.make S cs h).2.2 (hs ++ [h]) (l ++ [(Ob.make S cs h).1]) := by
 obtain ⟨m, hp, hm⟩ := H.pfx
 have := hg.small
 have hpg := H.pgs
 obtain ⟨h0, ⟨m', p1, p2⟩, p3⟩ := make_pfx H.hw hp hg.may (by omega)
 refine ⟨h0, H.hw.make _, by simp [H.len], ⟨m', p1, by simp; omega⟩, by omega, fun i h' hi => ?_, ?_⟩
 ·rcases Nat.lt_or_ge i hs.length with c | c
  ·rw [List.getElem?_append_left c] at hi
   rw [getD_front (by rw [H.len]; exact c)]
   exact (Ob.make_keep H.hw h0 (H.head i h' hi)).1
  ·have hlt := getElem?_lt hi
   simp at hlt
   have : i = hs.length := by omega
   subst this
   rw [List.getElem?_append_right (Nat.le_refl _), Nat.sub_self] at hi
   injection hi with hi
   subst hi
   rw [← H.len, getD_last]
   exact Ob.make_head H.hw h0
 ·refine (each_make H.hw h0).trans ?_
  exact (List.Perm.cons _ H.each).trans (List.perm_append_singleton _ _).symm
theorem OK.put {S : Spc} {hs : List Hd} {l : List Int} (H : OK S hs l) {i : Nat} {h : Hd} (hi : hs[i]? = some h) {k : Int} (k0 : 0 ≤ k) (k1 : k < h.n) (x : Int) :
  (Ob.put S (l.getD i 0) k x).1 = 0 ∧ OK (Ob.put S (l.getD i 0) k x).2 hs l := by
 obtain ⟨h0, hk⟩ := Ob.put_keep H.hw (x := x) (H.head i h hi) k0 k1
 obtain ⟨ws', e, hl⟩ := put_pg S (l.getD i 0) k x
 refine ⟨h0, H.hw.put _ _ _, H.len, by rw [e]; exact H.pfx, by rw [e]; exact H.pgs, fun j h' hj => (hk _ _ (H.head j h' hj)).1, ?_⟩
 rw [put_each H.hw]; exact H.each
theorem made_step {hs : List Hd} {i : Nat} {h : Hd} (hi : hs[i]? = some h) : made (hs.take (i + 1)) = step (made (hs.take i)) h := by
 unfold made
 rw [List.take_add_one, hi, List.foldl_append]; rfl
theorem made_ok {hs : List Hd} (hg : ∀ h ∈ hs, Good h) (hn : hs.length ≤ 24) : ∀ i, i ≤ hs.length → OK (made (hs.take i)).1 (hs.take i) (made (hs.take i)).2
 | 0, _ => OK.start
 | i + 1, hi => by
  have ih := made_ok hg hn i (by omega)
  have hh : hs[i]? = some hs[i] := List.getElem?_eq_getElem (by omega)
  rw [made_step hh, List.take_add_one, hh]
  exact (ih.make (by simp; omega) (hg _ (List.getElem_mem _))).2
theorem putN_succ {S : Spc} {a : Int} {ws : List Int} {n : Nat} : putN S a ws (n + 1) = (Ob.put (putN S a ws n) a n (ws.getD n 0)).2 := by
 unfold putN; rw [List.range_succ, List.foldl_append]; rfl
theorem puts_succ {S : Spc} {hs : List Hd} {l ns : List Int} {n : Nat} : puts S hs l ns (n + 1) = putW (puts S hs l ns n) (l.getD n 0) (words (hs.getD n ⟨0, 0, 0, false⟩) l ns n) := by
 unfold puts; rw [List.range_succ, List.foldl_append]; rfl
theorem OK.putN {S : Spc} {hs : List Hd} {l : List Int} (H : OK S hs l) {i : Nat} {h : Hd} (hi : hs[i]? = some h) (ws : List Int) : ∀ n : Nat, (n : Int) ≤ h.n → OK (Gr.putN S (l.getD i 0) ws n) hs l
 | 0, _ => H
 | n + 1, hn => by rw [putN_succ]; exact ((OK.putN H hi ws n (by omega)).put hi (by omega) (by omega) _).2
theorem getD_hd {hs : List Hd} {i : Nat} {h d : Hd} (hi : hs[i]? = some h) : hs.getD i d = h := by rw [List.getD_eq_getElem?_getD, hi]; rfl
theorem OK.puts {S : Spc} {hs : List Hd} {l : List Int} (H : OK S hs l) (hg : ∀ h ∈ hs, Good h) (ns : List Int) : ∀ n, n ≤ hs.length → OK (Gr.puts S hs l ns n) hs l
 | 0, _ => H
 | n + 1, hn => by
  have hi : hs[n]? = some hs[n] := List.getElem?_eq_getElem (by omega)
  rw [puts_succ]
  refine (OK.puts H hg ns n (by omega)).putN hi _ _ ?_
  rw [words_len, getD_hd hi]
  have := (hg _ (List.getElem_mem (by omega : n < hs.length))).n0
  omega
theorem graph_ok {ns : List Int} (hb : ∀ x ∈ ns, 0 ≤ x ∧ x < 256) : OK (graph ns).1 (heads ns) (graph ns).2 := by
 have h := made_ok (heads_good hb) heads_len (heads ns).length (Nat.le_refl _)
 rw [List.take_length] at h
 exact h.puts (heads_good hb) ns _ (Nat.le_refl _)
end Gr
theorem appHd : appB Tryz.prog #[74, 74] 4 32 = true := by kernel_rfl
theorem hcs_len (h : Hd) : (Hd.cs h).length = 4 := rfl
open Gr in
theorem g_heads (s : Slc) (ns : List Int) (ro : RoS ρ s 1 (ns.map fun x => .int .u8 x)) (hb : ∀ x ∈ ns, 0 ≤ x ∧ x < 256) (hl : ns.length < 2 ^ 63) : Gl.Spec ρ Tryz.prog 35 [.slice s.a s.n s.c] [] RS
  fun r M => r.n = (heads ns).length ∧ M = [SLc r 4 ((heads ns).flatMap Hd.cs)] := by
 refine Spec.of (fun Q w h => F.gloaminglaw17.heads.calls s h) fun R => ?_
 unfold F.gloaminglaw17.heads
 try simp only [lca, lna]
 have hsn : s.n = ns.length := by have := ro.1; simpa using this.symm
 refine Tr.nilSL 4 ?_
 refine en_lp (fun n u M => (fun (t : Slc) (i : Int) => M = SLc t 4 (((ns.take i.toNat).map hd).flatMap Hd.cs) :: R ∧ t.n = i.toNat ∧ 0 ≤ i ∧ i ≤ 24 ∧ i ≤ ns.length ∧ n = 24 - i.toNat) u.1 u.2.1) 24 ?_ ?_
 ·exact ⟨rfl, rfl, by simp, by simp, by dsimp only; omega, by simp⟩
 ·rintro n ⟨(t : Slc), (i : Int), ⟨⟩⟩ M ⟨rfl, htn, i0, i1, i2, rfl⟩ X hX
  dsimp only at *
  have hend : (i = 24 ∨ i = ns.length) → Tr ρ ρ (SLc t 4 (((ns.take i.toNat).map hd).flatMap Hd.cs) :: R) (ret (.slice t.a t.n t.c)) (SP RS (fun r M => r.n = (heads ns).length ∧ M = [SLc r 4 ((heads ns).flatMap Hd.cs)]) R) := fun hc => by
   have e : (ns.take i.toNat).map hd = heads ns := by
    unfold heads
    rcases hc with e | e
    ·rw [e]; rfl
    ·rw [List.take_of_length_le (by omega), List.take_of_length_le (by omega)]
   have hlen : (heads ns).length = i.toNat := by rw [← e]; simp; omega
   rw [e]
   exact en_rets (x := t) rfl ⟨by omega, rfl⟩ tks ens
  refine en_br (fun h => ?_) (fun h => hend (.inr (by have : ¬ i < (s.n : Int) := of_decide_eq_false h; omega)))
  replace h : i < (s.n : Int) := of_decide_eq_true h
  refine en_br (fun h2 => ?_) (fun h => hend (.inl (by have : ¬ i < 24 := of_decide_eq_false h; omega)))
  replace h2 : i < 24 := of_decide_eq_true h2
  have hi : i.toNat < ns.length := by omega
  have hv := u8_getD hb i.toNat
  have hget := get_u8 hi
  have htk : ns.take (i + 1).toNat = ns.take i.toNat ++ [ns.getD i.toNat 0] := by rw [show (i + 1).toNat = i.toNat + 1 by omega, take_succ_getD 0 hi]
  generalize ns.getD i.toNat 0 = v at hv hget htk
  have hk : IntKind.wrap .i64 (1 + Int.tmod (IntKind.wrap .i64 v) 4) = 1 + v % 4 := by
   rw [wrap64 (n := v) (by omega) (by omega), Int.tmod_eq_emod_of_nonneg hv.1, wrap64 (by omega) (by omega)]
  have hd4 : Int.tdiv (IntKind.wrap .i64 v) 4 = v / 4 := by rw [wrap64 (n := v) (by omega) (by omega), Int.tdiv_eq_ediv_of_nonneg hv.1]
  have hn : IntKind.wrap .i64 (1 + Int.tmod (IntKind.wrap .i64 (Int.tdiv (IntKind.wrap .i64 v) 4)) 5) = 1 + v / 4 % 5 := by
   rw [hd4, wrap64 (n := v / 4) (by omega) (by omega), Int.tmod_eq_emod_of_nonneg (by omega), wrap64 (by omega) (by omega)]
  have hn3 : IntKind.wrap .i64 (1 + Int.tmod (IntKind.wrap .i64 (Int.tdiv (IntKind.wrap .i64 v) 4)) 3) = 1 + v / 4 % 3 := by
   rw [hd4, wrap64 (n := v / 4) (by omega) (by omega), Int.tmod_eq_emod_of_nonneg (by omega), wrap64 (by omega) (by omega)]
  have w2 : IntKind.wrap .i64 (i + 1) = i + 1 := wrap64 (by omega) (by omega)
  refine en_drw (en_held [] .nil ?_)
  refine en_ixRo ro i0 h fun a0 ha => ?_
  refine en_ldRoS (k := .int .u8) (j := i.toNat) (x := v) ha ro (by rintro b o rfl; simp [fa_mk]) hget ?_
  refine en_need (by decide) ?_
  refine en_ixRo ro i0 h fun a0 ha => ?_
  refine en_ldRoS (k := .int .u8) (j := i.toNat) (x := v) ha ro (by rintro b o rfl; simp [fa_mk]) hget ?_
  refine en_need (by decide) (en_need (by decide) ?_)
  refine en_nw fun b8 => ?_
  rw [zcH, hk, hn]
  refine en_chk .nil ?_
  refine en_st (b := b8) (off := 0) rfl tk (by simp) rfl ?_
  have happ : ∀ (k c n : Int) (vs : List Value), (hd v).cs = [.int .i64 k, .int .i64 c, .int .i64 n, .bool false] → Tr ρ ρ (blk b8 vs :: SLc t 4 (((ns.take i.toNat).map hd).flatMap Hd.cs) :: R)
    (nw 49 [.int .i64 k, .int .i64 c, .int .i64 n, .bool false] fun b11 => opr Tryz.prog (Builtin.append_ #[74, 74] 74 #[.slice t.a t.n t.c, .slice (some ⟨b11, 0, none⟩) 1 1]) (.one (.l .slice)) fun (r12 : Slc) =>
     X (⟨r12.a, r12.n, r12.c⟩, IntKind.wrap .i64 (i + 1), ())) (SP RS (fun r M => r.n = (heads ns).length ∧ M = [SLc r 4 ((heads ns).flatMap Hd.cs)]) R) := fun k c n vs hcs => by
   refine en_nw fun b => ?_
   refine en_app (x := ⟨some ⟨b, 0, none⟩, 1, 1⟩) (ys := [.int .i64 k, .int .i64 c, .int .i64 n, .bool false]) appHd tk (Rd.cl tk rfl rfl) rfl (by rw [htn]; dsimp only; omega) (by rw [htn]; dsimp only; omega) fun r hr => ?_
   rw [← hcs, w2]
   refine Tr.drop (A := blk b _) tk (Tr.drop (A := blk b8 _) tk ?_)
   refine hX (24 - (i + 1).toNat) _ _ (by omega) ⟨?_, by dsimp only; rw [hr, htn]; show _ + 1 = _; omega, by dsimp only; omega, by dsimp only; omega, by dsimp only; omega, rfl⟩
   dsimp only
   rw [htk]; simp
  refine en_ld (k := .int .i64) (b := b8) (off := 0) (x := (1 + v % 4)) (by rw [fa_mk]) tk rfl ?_
  refine en_br (fun h3 => ?_) (fun h3 => ?_)
  ·have h3 : v % 4 = 0 := by (have : 1 + v % 4 = 1 := by simpa using h3); omega
   refine en_st (b := b8) (off := 1) (by rw [fa_mk]) tk (by simp [setL]) rfl ?_
   refine en_st (b := b8) (off := 2) (by rw [fa_mk]) tk (by simp [setL]) rfl ?_
   refine en_ldg (b := b8) (x := (1 + v % 4, (1 : Int), (3 : Int), false, ())) [] rfl tk rfl ?_
   exact happ _ _ _ _ (by unfold hd; rw [if_pos h3, h3]; rfl)
  ·have h3 : v % 4 ≠ 0 := by intro h; rw [h] at h3; revert h3; decide
   refine en_br (fun h4 => ?_) (fun h4 => ?_)
   ·have h4 : v % 4 = 3 := by (have : 1 + v % 4 = 4 := by simpa using h4); omega
    refine en_ixRo ro i0 h fun a0 ha => ?_
    refine en_ldRo (k := .int .u8) (j := i.toNat) (x := v) ha ro (by rintro b o rfl; simp [fa_mk]) hget ?_
    refine en_need (by decide) (en_need (by decide) ?_)
    rw [hn3]
    refine en_st (b := b8) (off := 1) (by rw [fa_mk]) tk (by simp [setL]) rfl ?_
    refine en_st (b := b8) (off := 2) (by rw [fa_mk]) tk (by simp [setL]) rfl ?_
    refine en_ldg (b := b8) (x := (1 + v % 4, 1 + v / 4 % 3, (5 : Int), false, ())) [] rfl tk rfl ?_
    exact happ _ _ _ _ (by unfold hd; rw [if_neg h3, if_pos h4, h4]; rfl)
   ·have h4 : v % 4 ≠ 3 := by intro h; rw [h] at h4; revert h4; decide
    refine en_ldg (b := b8) (x := (1 + v % 4, (0 : Int), 1 + v / 4 % 5, false, ())) [] rfl tk rfl ?_
    exact happ _ _ _ _ (by unfold hd; rw [if_neg h3, if_neg h4])
theorem ix_mod {n : Nat} {a : Int} (ha : 0 ≤ a) (hn : 0 < n) : Int.tmod a (n : Int) = ((a.toNat % n : Nat) : Int) := by
 obtain ⟨k, rfl⟩ := Int.eq_ofNat_of_zero_le ha
 rw [Int.tmod_eq_emod_of_nonneg ha]; rfl
open Gr in
theorem g_n3 (s : Slc) (ns : List Int) (ro : RoS ρ s 1 (ns.map fun x => .int .u8 x)) (hb : ∀ x ∈ ns, 0 ≤ x ∧ x < 256) (h0 : 0 < ns.length) (i : Nat) (hi : i < 1000) : Gl.Spec ρ Tryz.prog 72 [.slice s.a s.n s.c, i64 i] [] R1
  fun r M => r = n3 ns i ∧ M = [] := by
 refine Spec.of (fun Q w h => F.gloaminglaw17.n3.calls s i h) fun R => ?_
 unfold F.gloaminglaw17.n3
 try simp only [lca, lna]
 have hsn : s.n = ns.length := by have := ro.1; simpa using this.symm
 refine en_need (by omega) ?_
 rw [hsn, wrap64 (n := (i : Int) * 5) (by omega) (by omega), wrap64 (n := (i : Int) * 5 + 2) (by omega) (by omega), ix_mod (by omega) h0, show ((i : Int) * 5 + 2).toNat = i * 5 + 2 by omega]
 have hlt : (i * 5 + 2) % ns.length < ns.length := Nat.mod_lt _ h0
 rw [← hsn]
 refine en_ixRo ro (by omega) (by rw [hsn]; rw [hsn] at *; omega) fun a0 ha => ?_
 rw [hsn]
 have hv := u8_getD hb ((i * 5 + 2) % ns.length)
 refine en_ldRo (k := .int .u8) (j := (i * 5 + 2) % ns.length) (x := ns.getD ((i * 5 + 2) % ns.length) 0) ha ro (by rintro b o rfl; simp only [fa_mk, Nat.mul_one, Int.toNat_natCast]) (get_u8 hlt) ?_
 refine en_need (by decide) ?_
 have e : n3 ns i = ns.getD ((i * 5 + 2) % ns.length) 0 % 4 - 1 := rfl
 generalize ns.getD ((i * 5 + 2) % ns.length) 0 = v at hv e
 rw [wrap64 (n := v) (by omega) (by omega), Int.tmod_eq_emod_of_nonneg hv.1, wrap64 (by omega) (by omega), e]
 exact en_rets (x := v % 4 - 1) rfl ⟨rfl, rfl⟩ tks ens
end Go.Proofs.YtpefngbfgjfcgaaGreat
namespace Go.Proofs.YtpefngbfgjfcgaaGreat
open Go Go.Gl
variable {ρ0 ρ : FR} {L L' : List Asn} {Post : Value → List Asn → Prop} {T : Tree}
open Gr in
theorem g_words (h : Hd) (hg : Gr.Good h) (q : Slc) (l : List Int) (hl : 0 < l.length) (s : Slc) (ns : List Int) (ro : RoS ρ s 1 (ns.map fun x => .int .u8 x)) (hb : ∀ x ∈ ns, 0 ≤ x ∧ x < 256) (h0 : 0 < ns.length) (i : Nat) (hi : i < 1000) :
  Gl.Spec ρ Tryz.prog 37 [hval h, .slice q.a q.n q.c, .slice s.a s.n s.c, i64 i] [SLc q 1 (l.map i64)] RS fun r M => M = [SLc r 1 ((words h l ns i).map i64), SLc q 1 (l.map i64)] := by
 refine Spec.of (fun Q w hh => F.gloaminglaw17.words.calls h.t q s i hh) fun R => ?_
 have hsn := ro.len8
 have n0 := hg.n0
 have n1 := hg.n1
 have hrf := hg.rf
 obtain ⟨k, c, n, f⟩ := h
 dsimp only at n0 n1 hrf
 unfold F.gloaminglaw17.words
 try simp only [lca, lna]
 refine en_nw fun b1 => ?_
 refine en_ld (k := .int .i64) (b := b1) (off := 2) (x := n) (by rw [fa_mk]) tk rfl ?_
 refine en_mks (e := 3) (m := 1) (bytes := 8) (z := .int .i64 0) (by kernel_rfl) (by kernel_rfl) rfl (by omega) (by omega) (by omega) fun b => ?_
 have e : (List.replicate n.toNat (Value.cells (.int .i64 0)).toList).flatten = (prt (word0 ⟨k, c, n, f⟩ l ns i) n.toNat 0).map i64 := by
  rw [show (Value.cells (.int .i64 0)).toList = [i64 0] from rfl, rep1, part0, List.map_replicate]
 rw [e]
 generalize hF : word0 ⟨k, c, n, f⟩ l ns i = F
 refine en_lp (fun m u M => (fun j : Int => M = SLc ⟨some ⟨b, 0, none⟩, n.toNat, n.toNat⟩ 1 ((prt F n.toNat j.toNat).map i64) :: blk b1 [.int .i64 k, .int .i64 c, .int .i64 n, .bool f] :: SLc q 1 (l.map i64) :: R ∧ 0 ≤ j ∧ j ≤ n ∧ m = n.toNat - j.toNat) u.1) n.toNat ?_ ?_
 ·exact ⟨rfl, by simp, by dsimp only; omega, by simp⟩
 ·rintro m ⟨(j : Int), ⟨⟩⟩ M ⟨rfl, j0, j1, rfl⟩ X hX
  dsimp only at *
  refine en_ld (k := .int .i64) (b := b1) (off := 2) (x := n) (by rw [fa_mk]) tk rfl ?_
  refine en_br (fun hj => ?_) (fun hj => ?_)
  ·replace hj : j < n := of_decide_eq_true hj
   refine en_need (by omega) ?_
   have hlt : (i * 7 + j.toNat * 3 + 1) % ns.length < ns.length := Nat.mod_lt _ h0
   have hix : Int.tmod (IntKind.wrap .i64 (IntKind.wrap .i64 (IntKind.wrap .i64 ((i : Int) * 7) + IntKind.wrap .i64 (j * 3)) + 1)) (s.n : Nat) = (((i * 7 + j.toNat * 3 + 1) % ns.length : Nat) : Int) := by
    rw [wrap64 (n := (i : Int) * 7) (by omega) (by omega), wrap64 (n := j * 3) (by omega) (by omega), wrap64 (n := (i : Int) * 7 + j * 3) (by omega) (by omega), wrap64 (by omega) (by omega), hsn, ix_mod (by omega) h0]
    congr 2; omega
   rw [hix]
   refine en_getU8 ro (by omega) (by omega) ?_
   rw [Int.toNat_natCast]
   have hv := u8_getD hb ((i * 7 + j.toNat * 3 + 1) % ns.length)
   have hnum : num ns i j.toNat = ns.getD ((i * 7 + j.toNat * 3 + 1) % ns.length) 0 + 13 * i + 5 * j := by unfold num; rw [show ((j.toNat : Nat) : Int) = j by omega]
   generalize ns.getD ((i * 7 + j.toNat * 3 + 1) % ns.length) 0 = v at hv hnum
   have hw : IntKind.wrap .i64 (IntKind.wrap .i64 (IntKind.wrap .i64 v + IntKind.wrap .i64 (13 * i)) + IntKind.wrap .i64 (5 * j)) = num ns i j.toNat := by
    rw [wrap64 (n := v) (by omega) (by omega), wrap64 (n := 13 * (i : Int)) (by omega) (by omega), wrap64 (n := 5 * j) (by omega) (by omega), wrap64 (n := v + 13 * i) (by omega) (by omega), wrap64 (by omega) (by omega), hnum]
   rw [hw]
   have hN0 : 0 ≤ num ns i j.toNat := by rw [hnum]; omega
   have hFj : F j.toNat = word0 ⟨k, c, n, f⟩ l ns i j.toNat := by rw [hF]
   unfold word0 at hFj
   rw [show ((j.toNat : Nat) : Int) = j by omega] at hFj
   generalize num ns i j.toNat = N at hN0 hFj
   have w1 : IntKind.wrap .i64 (j + 1) = j + 1 := wrap64 (by omega) (by omega)
   have ej : (j + 1).toNat = j.toNat + 1 := by omega
   rw [w1]
   have hgo : Tr ρ ρ (SLc ⟨some ⟨b, 0, none⟩, n.toNat, n.toNat⟩ 1 ((prt F n.toNat (j + 1).toNat).map i64) :: blk b1 [.int .i64 k, .int .i64 c, .int .i64 n, .bool f] :: SLc q 1 (l.map i64) :: R) (X (j + 1, ()))
     (SP RS (fun r M => M = [SLc r 1 ((words ⟨k, c, n, f⟩ l ns i).map i64), SLc q 1 (l.map i64)]) R) :=
    hX (n.toNat - (j + 1).toNat) _ _ (by omega) ⟨rfl, by dsimp only; omega, by dsimp only; omega, rfl⟩
   have hset : ∀ v : Int, v = F j.toNat → (prt F n.toNat j.toNat).set j.toNat v = prt F n.toNat (j + 1).toNat := fun v hv => by rw [hv, ej]; exact part_set
   have hz : F j.toNat = 0 → prt F n.toNat j.toNat = prt F n.toNat (j + 1).toNat := fun h => by rw [ej]; exact (part_zero h).symm
   refine en_jn (fun (u : LTs [.bool]) M => u.1 = isA ⟨k, c, n, f⟩ j ∧ M = SLc ⟨some ⟨b, 0, none⟩, n.toNat, n.toNat⟩ 1 ((prt F n.toNat j.toNat).map i64) :: blk b1 [.int .i64 k, .int .i64 c, .int .i64 n, .bool f] :: SLc q 1 (l.map i64) :: R) ?_ ?_
   ·rintro ⟨(is : Bool), ⟨⟩⟩ M ⟨h1, rfl⟩
    dsimp only at *
    rw [← h1] at hFj
    refine en_br (fun h2 => ?_) (fun h2 => ?_)
    ·rw [h2, if_pos rfl] at hFj
     rw [h2]
     refine en_need (by decide) ?_
     refine en_br (fun h3 => ?_) (fun h3 => ?_)
     ·replace h3 := of_decide_eq_true h3
      rw [Int.tmod_eq_emod_of_nonneg hN0] at h3
      rw [if_pos h3] at hFj
      refine Tr.nlen (s := q) (xs := l) tk fun hq => ?_
      refine en_need (by omega) ?_
      have hlt2 : N.toNat % l.length < l.length := Nat.mod_lt _ hl
      rw [show Int.tmod N (q.n : Nat) = ((N.toNat % l.length : Nat) : Int) by rw [hq, ix_mod hN0 hl]]
      refine en_getSL (s := q) (xs := l) tk (by omega) (by omega) ?_
      rw [Int.toNat_natCast]
      refine en_setSL (s := ⟨some ⟨b, 0, none⟩, n.toNat, n.toNat⟩) (xs := prt F n.toNat j.toNat) tk j0 (by rw [part_len]; omega) ?_
      rw [hset _ hFj.symm]
      exact en_brf rfl hgo
     ·replace h3 := of_decide_eq_false h3
      rw [Int.tmod_eq_emod_of_nonneg hN0] at h3
      rw [if_neg h3] at hFj
      rw [hz hFj]
      exact en_brf rfl hgo
    ·rw [h2, if_neg (by simp)] at hFj
     rw [h2]
     refine en_brt rfl ?_
     refine en_setSL (s := ⟨some ⟨b, 0, none⟩, n.toNat, n.toNat⟩) (xs := prt F n.toNat j.toNat) tk j0 (by rw [part_len]; omega) ?_
     rw [hset _ hFj.symm]
     exact hgo
   ·intro J hJ
    have hJ1 : isA ⟨k, c, n, f⟩ j = true → Tr ρ ρ (SLc ⟨some ⟨b, 0, none⟩, n.toNat, n.toNat⟩ 1 ((prt F n.toNat j.toNat).map i64) :: blk b1 [.int .i64 k, .int .i64 c, .int .i64 n, .bool f] :: SLc q 1 (l.map i64) :: R) (J (true, ())) (SP RS (fun r M => M = [SLc r 1 ((words ⟨k, c, n, f⟩ l ns i).map i64), SLc q 1 (l.map i64)]) R) :=
     fun h => hJ _ _ ⟨h.symm, rfl⟩
    have hJ2 : isA ⟨k, c, n, f⟩ j = false → Tr ρ ρ (SLc ⟨some ⟨b, 0, none⟩, n.toNat, n.toNat⟩ 1 ((prt F n.toNat j.toNat).map i64) :: blk b1 [.int .i64 k, .int .i64 c, .int .i64 n, .bool f] :: SLc q 1 (l.map i64) :: R) (J (false, ())) (SP RS (fun r M => M = [SLc r 1 ((words ⟨k, c, n, f⟩ l ns i).map i64), SLc q 1 (l.map i64)]) R) :=
     fun h => hJ _ _ ⟨h.symm, rfl⟩
    have hJ3 : isA ⟨k, c, n, f⟩ j = (j == 2) → Tr ρ ρ (SLc ⟨some ⟨b, 0, none⟩, n.toNat, n.toNat⟩ 1 ((prt F n.toNat j.toNat).map i64) :: blk b1 [.int .i64 k, .int .i64 c, .int .i64 n, .bool f] :: SLc q 1 (l.map i64) :: R) (J (j == 2, ())) (SP RS (fun r M => M = [SLc r 1 ((words ⟨k, c, n, f⟩ l ns i).map i64), SLc q 1 (l.map i64)]) R) :=
     fun h => hJ _ _ ⟨h.symm, rfl⟩
    refine en_ld (k := .int .i64) (b := b1) (off := 0) (x := k) (by rw [fa_mk]) tk rfl ?_
    refine en_br (fun h1 => hJ1 ?_) (fun h1 => ?_)
    ·exact decide_eq_true (by have := eq_of_beq h1; dsimp only; omega)
    ·have h1 : k ≠ 2 := by simpa using h1
     refine en_ld (k := .int .i64) (b := b1) (off := 0) (x := k) (by rw [fa_mk]) tk rfl ?_
     refine en_br (fun h2 => ?_) (fun h2 => ?_)
     ·have h2 : k = 1 := eq_of_beq h2
      refine en_br (fun h3 => hJ1 ?_) (fun h3 => ?_)
      ·exact decide_eq_true (by (have : j ≠ 1 := by simpa using h3); dsimp only; omega)
      ·refine en_ld (k := .int .i64) (b := b1) (off := 0) (x := k) (by rw [fa_mk]) tk rfl ?_
       refine en_brf (by simp; omega) ?_
       exact hJ2 (decide_eq_false (by (have : j = 1 := by simpa using h3); dsimp only; omega))
     ·have h2 : k ≠ 1 := by simpa using h2
      refine en_ld (k := .int .i64) (b := b1) (off := 0) (x := k) (by rw [fa_mk]) tk rfl ?_
      refine en_br (fun h3 => ?_) (fun h3 => ?_)
      ·have h3 : k = 4 := eq_of_beq h3
       refine en_br (fun h4 => hJ1 ?_) (fun h4 => hJ3 ?_)
       ·have h4 : j = 0 := eq_of_beq h4
        unfold isA; rw [h3, h4]; rfl
       ·have h4 : j ≠ 0 := by simpa using h4
        unfold isA
        dsimp only
        rw [Bool.eq_iff_iff, decide_eq_true_iff, beq_iff_eq]
        omega
      ·exact hJ2 (decide_eq_false (by (have : k ≠ 4 := by simpa using h3); dsimp only; omega))
  ·replace hj : ¬ j < n := of_decide_eq_false hj
   have : j = n := by omega
   subst this
   refine en_ld (k := .int .i64) (b := b1) (off := 0) (x := k) (by rw [fa_mk]) tk rfl ?_
   refine en_br (fun h1 => ?_) (fun h1 => ?_)
   ·have h1 : k = 4 := eq_of_beq h1
    have h5 := hrf h1
    have hW : words ⟨k, c, j, f⟩ l ns i = ((((prt F j.toNat j.toNat).set 2 0).set 1 (n3 ns i)).set 3 (ns.getD (i % ns.length) 0)).set 4 ((i : Int) + 1) := by unfold words; rw [if_pos h1, hF]
    refine en_setSL (s := ⟨some ⟨b, 0, none⟩, j.toNat, j.toNat⟩) (xs := prt F j.toNat j.toNat) tk (by omega) (by rw [part_len]; omega) ?_
    refine en_call (g_n3 s ns ro hb h0 i hi) tks ?_
    rintro x' M ⟨rfl, rfl⟩
    try simp only [lca, lna]
    refine en_setSL (s := ⟨some ⟨b, 0, none⟩, j.toNat, j.toNat⟩) (xs := (prt F j.toNat j.toNat).set 2 0) tk (by omega) (by simp [part_len]; omega) ?_
    refine en_need (by omega) ?_
    have hlt2 : i % ns.length < ns.length := Nat.mod_lt _ h0
    rw [show Int.tmod (i : Int) (s.n : Nat) = ((i % ns.length : Nat) : Int) by rw [hsn, ix_mod (by omega) h0, Int.toNat_natCast]]
    refine en_getU8 ro (by omega) (by omega) ?_
    rw [Int.toNat_natCast]
    have hv := u8_getD hb (i % ns.length)
    generalize ns.getD (i % ns.length) 0 = v at hv hW
    rw [wrap64 (n := v) (by omega) (by omega), wrap64 (n := (i : Int) + 1) (by omega) (by omega)]
    refine en_setSL (s := ⟨some ⟨b, 0, none⟩, j.toNat, j.toNat⟩) (xs := ((prt F j.toNat j.toNat).set 2 0).set 1 (n3 ns i)) tk (by omega) (by simp [part_len]; omega) ?_
    refine en_setSL (s := ⟨some ⟨b, 0, none⟩, j.toNat, j.toNat⟩) (xs := (((prt F j.toNat j.toNat).set 2 0).set 1 (n3 ns i)).set 3 v) tk (by omega) (by simp [part_len]; omega) ?_
    rw [hW]
    exact en_rets (x := (⟨some ⟨b, 0, none⟩, j.toNat, j.toNat⟩ : Slc)) rfl rfl tks ens
   ·have h1 : k ≠ 4 := by simpa using h1
    have hW : words ⟨k, c, j, f⟩ l ns i = prt F j.toNat j.toNat := by unfold words; rw [if_neg h1, hF]
    rw [hW]
    exact en_rets (x := (⟨some ⟨b, 0, none⟩, j.toNat, j.toNat⟩ : Slc)) rfl rfl tks ens
abbrev PS : RK := .many [.l .ptr, .l .slice]
open Gr in
theorem g_graph (s : Slc) (ns : List Int) (ro : RoS ρ s 1 (ns.map fun x => .int .u8 x)) (hb : ∀ x ∈ ns, 0 ≤ x ∧ x < 256) (hl : ns.length < 2 ^ 63) : Gl.Spec ρ Tryz.prog 13 [.slice s.a s.n s.c] [] PS
  fun r M => ∃ p q, r = (some ⟨p, 0, none⟩, q, ()) ∧ M = [HeapA p (graph ns).1 cs, SLc q 1 ((graph ns).2.map i64)] := by
 refine Spec.of (fun Q w hh => F.gloaminglaw17.Graph.calls s hh) fun R => ?_
 unfold F.gloaminglaw17.Graph
 try simp only [lca, lna]
 refine en_call (object_new 60 (by omega) (by omega)) tks ?_
 rintro x' M ⟨p, rfl, rfl⟩
 try simp only [lca, lna]
 refine en_call (law_whole p (Sp.newSpc 60) []) tks ?_
 rintro x' M ⟨rfl, rfl⟩
 try simp only [lca, lna]
 refine en_brf rfl ?_
 iterate 1
  refine en_call (law_err _) .nil ?_
  rintro x' M ⟨rfl, rfl⟩
  try simp only [lca, lna]
 refine en_brf rfl (en_nn (HeapA.op tk fun ps pt => ?_))
 refine en_ld (k := .ptr) (b := p) (off := 1) (x := some ⟨pt, 0, none⟩) (by rw [fa_mk]) tk rfl ?_
 refine en_nw fun b6 => ?_
 refine Rd.bk (n := 2) (m := 1) rfl tk fun ρ1 hle1 ro1 => ?_
 refine en_call (class_of pt [] 3 ⟨some ⟨b6, 0, none⟩, 2, 2⟩ [0, 2] ro1 (by decide)) tks ?_
 rintro x' M ⟨rfl, rfl⟩
 try simp only [lca, lna]
 have ec : Sp.addC [] (3, [0, 2]) = (1, 0, cs) := by decide
 rw [ec]
 refine Tr.close tks (HeapA.cl (p := p) (ps := ps) (pt := pt) (S := Sp.newSpc 60) (cs := cs)) ?_
 refine en_call (g_heads s ns (ro.le hle1) hb hl) tks ?_
 rintro hq M ⟨hqn, rfl⟩
 try simp only [lca, lna]
 refine Tr.keepSL (s := hq) (m := 4) tk fun ρ2 hle2 hro => ?_
 have hgood := heads_good hb
 have hlen := heads_len (ns := ns)
 have hok := made_ok hgood hlen
 have hfull : (heads ns).take (heads ns).length = heads ns := List.take_length
 have hG : graph ns = (puts (made (heads ns)).1 (heads ns) (made (heads ns)).2 ns (heads ns).length, (made (heads ns)).2) := rfl
 have hns : (heads ns).length ≤ ns.length := by unfold heads; simp; omega
 have roN := (ro.le hle1).le hle2
 rw [hG]
 generalize heads ns = hs at *
 have hcell : ∀ (j : Nat) (h : Hd), hs[j]? = some h → ∀ e v, (vals HL h.t)[e]? = some v → (hs.flatMap Hd.cs)[j * 4 + 0 + e]? = some v := fun j h hj e v he => by
  have hlt : e < 4 := getElem?_lt he
  rw [Nat.add_zero, flat_get (g := Hd.cs) (m := 4) hcs_len hj hlt]
  exact he
 refine Tr.nilSL 1 ?_
 refine en_lp (fun m u M => (fun (t : Slc) (i : Int) => M = SLc t 1 ((made (hs.take i.toNat)).2.map i64) :: HeapA p (made (hs.take i.toNat)).1 cs :: R ∧ 0 ≤ i ∧ i ≤ hs.length ∧ m = hs.length - i.toNat) u.1 u.2.1) hs.length ?_ ?_
 ·exact ⟨rfl, by simp, by dsimp only; omega, by simp⟩
 ·rintro m ⟨(t : Slc), (i : Int), ⟨⟩⟩ M ⟨rfl, i0, i1, rfl⟩ X hX
  dsimp only at *
  refine en_br (fun h => ?_) (fun h => ?_)
  ·replace h : i < (hq.n : Int) := of_decide_eq_true h
   have hi : i.toNat < hs.length := by omega
   have hh : hs[i.toNat]? = some hs[i.toNat] := List.getElem?_eq_getElem hi
   have hgd := hgood _ (List.getElem_mem hi)
   have hms := made_step hh
   obtain ⟨k0, k1⟩ := (hok i.toNat (by omega)).make (by simp; omega) hgd
   have hw := (hok i.toNat (by omega)).hw
   refine en_ixRo hro i0 h fun a0 ha => ?_
   generalize hs[i.toNat] = hd at *
   refine en_ldRg (x := hd.t) ha hro (j := i.toNat * 4) (by rintro b o rfl; simp [fa_mk]) (hcell _ _ hh) ?_
   dsimp only
   refine en_call (object_make p (made (hs.take i.toNat)).1 cs hw hd) tks ?_
   rintro x' M ⟨rfl, rfl⟩
   try simp only [lca, lna]
   rw [k0]
   iterate 1
    refine en_call (law_err _) .nil ?_
    rintro x' M ⟨rfl, rfl⟩
    try simp only [lca, lna]
   refine en_brf rfl ?_
   have hml := (hok i.toNat (by omega)).len
   refine en_appI (s := t) (xs := (made (hs.take i.toNat)).2) appInt tk (by rw [hml]; simp; omega) fun r hr => ?_
   rw [wrap64 (by omega) (by omega)]
   refine hX (hs.length - (i + 1).toNat) _ _ (by omega) ⟨?_, by dsimp only; omega, by dsimp only; omega, rfl⟩
   dsimp only
   rw [show (i + 1).toNat = i.toNat + 1 by omega, hms]; rfl
  ·replace h : ¬ i < (hq.n : Int) := of_decide_eq_false h
   have hi : i.toNat = hs.length := by omega
   rw [hi, hfull]
   have hok1 := hok hs.length (Nat.le_refl _)
   rw [hfull] at hok1
   clear hX
   generalize made hs = md at hok1 ⊢
   obtain ⟨S1, l⟩ := md
   dsimp only at *
   have hll := hok1.len
   refine en_lp (fun m u M => (fun (i : Int) => M = SLc t 1 (l.map i64) :: HeapA p (puts S1 hs l ns i.toNat) cs :: R ∧ 0 ≤ i ∧ i ≤ hs.length ∧ m = hs.length - i.toNat) u.1) hs.length ?_ ?_
   ·exact ⟨rfl, by simp, by dsimp only; omega, by simp⟩
   ·clear h hi i0 i1 i
    rintro m ⟨(i : Int), ⟨⟩⟩ M ⟨rfl, i0, i1, rfl⟩ X hX
    dsimp only at *
    have hokp := hok1.puts hgood ns
    refine en_br (fun h => ?_) (fun h => ?_)
    ·replace h : i < (hq.n : Int) := of_decide_eq_true h
     have hi : i.toNat < hs.length := by omega
     have hh : hs[i.toNat]? = some hs[i.toNat] := List.getElem?_eq_getElem hi
     have hgd := hgood _ (List.getElem_mem hi)
     have hO := hokp i.toNat (by omega)
     have hps := puts_succ (S := S1) (hs := hs) (l := l) (ns := ns) (n := i.toNat)
     rw [getD_hd hh] at hps
     refine en_ixRo hro i0 h fun a0 ha => ?_
     generalize hs[i.toNat] = hd at *
     refine en_ldRg (x := hd.t) ha hro (j := i.toNat * 4) (by rintro b o rfl; simp [fa_mk]) (hcell _ _ hh) ?_
     dsimp only
     obtain ⟨iN, rfl⟩ := Int.eq_ofNat_of_zero_le i0
     simp only [Int.toNat_natCast] at *
     refine en_call (g_words hd hgd t l (by omega) s ns roN hb (by omega) iN (by omega)) tks ?_
     rintro x' M rfl
     try simp only [lca, lna]
     have hwl := words_len (h := hd) (l := l) (ns := ns) (i := iN)
     have n0 := hgd.n0
     have n1 := hgd.n1
     generalize words hd l ns iN = ws at *
     generalize puts S1 hs l ns iN = S2 at *
     refine Tr.nlen (s := x') (xs := ws) tk fun hxn => ?_
     refine Tr.take (A := HeapA p S2 cs) tk ?_
     refine en_lp (fun m u M => (fun (k : Int) => M = HeapA p (putN S2 (l.getD iN 0) ws k.toNat) cs :: SLc x' 1 (ws.map i64) :: SLc t 1 (l.map i64) :: R ∧ 0 ≤ k ∧ k ≤ ws.length ∧ m = ws.length - k.toNat) u.1) ws.length ?_ ?_
     ·exact ⟨rfl, by simp, by dsimp only; omega, by simp⟩
     ·rintro m ⟨(k : Int), ⟨⟩⟩ M ⟨rfl, c0, c1, rfl⟩ Y hY
      dsimp only at *
      refine en_br (fun h3 => ?_) (fun h3 => ?_)
      ·replace h3 : k < (x'.n : Int) := of_decide_eq_true h3
       have hO2 := hO.putN hh ws k.toNat (by omega)
       obtain ⟨p0, p1⟩ := hO2.put hh (k := k) c0 (by omega) (ws.getD k.toNat 0)
       refine en_drw (en_getSL (s := t) (xs := l) tk i0 (by omega) ?_)
       refine en_getSL (s := x') (xs := ws) tk c0 (by omega) ?_
       simp only [Int.toNat_natCast]
       refine en_call (object_put p (putN S2 (l.getD iN 0) ws k.toNat) cs hO2.hw (l.getD iN 0) k (ws.getD k.toNat 0)) tks ?_
       rintro x' M ⟨rfl, rfl⟩
       try simp only [lca, lna]
       rw [p0]
       iterate 1
        refine en_call (law_err _) .nil ?_
        rintro x' M ⟨rfl, rfl⟩
        try simp only [lca, lna]
       refine en_brf rfl ?_
       rw [wrap64 (by omega) (by omega)]
       refine hY (ws.length - (k + 1).toNat) _ _ (by omega) ⟨?_, by dsimp only; omega, by dsimp only; omega, rfl⟩
       dsimp only
       rw [show (k + 1).toNat = k.toNat + 1 by omega, putN_succ, show ((k.toNat : Nat) : Int) = k by omega]
      ·replace h3 : ¬ k < (x'.n : Int) := of_decide_eq_false h3
       have : k.toNat = ws.length := by omega
       rw [wrap64 (by omega) (by omega), this]
       refine Tr.drop (A := SLc x' 1 (ws.map i64)) tk ?_
       refine Tr.take (A := SLc t 1 (l.map i64)) tk ?_
       refine hX (hs.length - ((iN : Int) + 1).toNat) _ _ (by omega) ⟨?_, by dsimp only; omega, by dsimp only; omega, rfl⟩
       dsimp only
       rw [show ((iN : Int) + 1).toNat = iN + 1 by omega, hps]; rfl
    ·replace h : ¬ i < (hq.n : Int) := of_decide_eq_false h
     have : i.toNat = hs.length := by omega
     rw [this]
     exact en_rets (x := (some ⟨p, 0, none⟩, t, ())) rfl ⟨p, t, rfl, rfl⟩ tks ens
def Gr.some1 (l : List Int) (n : Int) : Int := if 0 < l.length ∧ n < 230 then l.getD (n.toNat % l.length) 0 else n - 231
def Gr.some (l ns : List Int) (most : Nat) : List Int := (ns.take most).map (Gr.some1 l)
open Gr in
theorem g_some (q : Slc) (l : List Int) (r1 : RoS ρ q 1 (l.map i64)) (s : Slc) (ns : List Int) (ro : RoS ρ s 1 (ns.map fun x => .int .u8 x)) (hb : ∀ x ∈ ns, 0 ≤ x ∧ x < 256) (most : Nat) (hm : most < 1000) :
  Gl.Spec ρ Tryz.prog 42 [.slice q.a q.n q.c, .slice s.a s.n s.c, i64 most] [] RS fun r M => M = [SLc r 1 ((Gr.some l ns most).map i64)] := by
 refine Spec.of (fun Q w hh => F.gloaminglaw17.Some.calls q s most hh) fun R => ?_
 unfold F.gloaminglaw17.Some
 try simp only [lca, lna]
 have hsn := ro.len8
 have hqn := r1.len
 refine Tr.nilSL 1 ?_
 refine en_lp (fun m u M => (fun (t : Slc) (i : Int) => M = SLc t 1 (((ns.take i.toNat).map (some1 l)).map i64) :: R ∧ 0 ≤ i ∧ i ≤ most ∧ i ≤ ns.length ∧ m = most - i.toNat) u.1 u.2.1) most ?_ ?_
 ·exact ⟨rfl, by simp, by dsimp only; omega, by dsimp only; omega, by simp⟩
 ·rintro m ⟨(t : Slc), (i : Int), ⟨⟩⟩ M ⟨rfl, i0, i1, i2, rfl⟩ X hX
  dsimp only at *
  have hend : (i = most ∨ i = ns.length) → Tr ρ ρ (SLc t 1 (((ns.take i.toNat).map (some1 l)).map i64) :: R) (ret (.slice t.a t.n t.c)) (SP RS (fun r M => M = [SLc r 1 ((Gr.some l ns most).map i64)]) R) := fun hc => by
   have e : (ns.take i.toNat).map (some1 l) = Gr.some l ns most := by
    unfold Gr.some
    rcases hc with e | e
    ·rw [e]; rfl
    ·rw [List.take_of_length_le (by omega), List.take_of_length_le (by omega)]
   rw [e]
   exact en_rets (x := t) rfl rfl tks ens
  refine en_br (fun h => ?_) (fun h => hend (.inr (by have : ¬ i < (s.n : Int) := of_decide_eq_false h; omega)))
  replace h : i < (s.n : Int) := of_decide_eq_true h
  refine en_br (fun h2 => ?_) (fun h => hend (.inl (by have : ¬ i < (most : Int) := of_decide_eq_false h; omega)))
  replace h2 : i < most := of_decide_eq_true h2
  have hi : i.toNat < ns.length := by omega
  have hv := u8_getD hb i.toNat
  have htk : ns.take (i + 1).toNat = ns.take i.toNat ++ [ns.getD i.toNat 0] := by rw [show (i + 1).toNat = i.toNat + 1 by omega, take_succ_getD 0 hi]
  have w1 : IntKind.wrap .i64 (i + 1) = i + 1 := wrap64 (by omega) (by omega)
  have happ : ∀ v : Int, v = some1 l (ns.getD i.toNat 0) → Tr ρ ρ (SLc t 1 (((ns.take i.toNat).map (some1 l)).map i64) :: R)
    (nw 3 [.int .i64 v] fun b => opr Tryz.prog (Builtin.append_ #[24, 24] 24 #[.slice t.a t.n t.c, .slice (some ⟨b, 0, none⟩) 1 1]) (.one (.l .slice)) fun (r12 : Slc) =>
     X (⟨r12.a, r12.n, r12.c⟩, IntKind.wrap .i64 (i + 1), ())) (SP RS (fun r M => M = [SLc r 1 ((Gr.some l ns most).map i64)]) R) := fun v hv => by
   refine en_appI (s := t) (xs := (ns.take i.toNat).map (some1 l)) appInt tk (by simp; omega) fun r hr => ?_
   rw [w1]
   refine hX (most - (i + 1).toNat) _ _ (by omega) ⟨?_, by dsimp only; omega, by dsimp only; omega, by dsimp only; omega, rfl⟩
   dsimp only
   rw [htk, hv, List.map_append (f := some1 l)]; rfl
  generalize hx : ns.getD i.toNat 0 = x at hv happ htk
  have hw : IntKind.wrap .i64 (IntKind.wrap .i64 x - 231) = x - 231 := by rw [wrap64 (n := x) (by omega) (by omega), wrap64 (by omega) (by omega)]
  refine en_br (fun h3 => ?_) (fun h3 => ?_)
  ·replace h3 : ((q.n : Nat) : Int) > 0 := of_decide_eq_true h3
   refine en_getU8 ro i0 (by omega) ?_
   rw [hx]
   refine en_br (fun h4 => ?_) (fun h4 => ?_)
   ·replace h4 : x < 230 := of_decide_eq_true h4
    refine en_getU8 ro i0 (by omega) ?_
    rw [hx]
    refine en_need (by omega) ?_
    have hlt2 : x.toNat % l.length < l.length := Nat.mod_lt _ (by omega)
    rw [wrap64 (n := x) (by omega) (by omega), show Int.tmod x (q.n : Nat) = ((x.toNat % l.length : Nat) : Int) by rw [hqn, ix_mod hv.1 (by omega)]]
    refine en_getRo r1 (by omega) (by omega) ?_
    rw [Int.toNat_natCast]
    exact happ _ (by unfold some1; rw [if_pos ⟨by omega, h4⟩])
   ·replace h4 : ¬ x < 230 := of_decide_eq_false h4
    refine en_getU8 ro i0 (by omega) ?_
    rw [hx, hw]
    exact happ _ (by unfold some1; rw [if_neg (fun h => h4 h.2)])
  ·replace h3 : ¬ ((q.n : Nat) : Int) > 0 := of_decide_eq_false h3
   refine en_getU8 ro i0 (by omega) ?_
   rw [hx, hw]
   exact happ _ (by unfold some1; rw [if_neg (fun h => by omega)])
theorem ref_in (s : Slc) (l : List Int) (ro : RoS ρ s 1 (l.map i64)) (hl : l.length < 2 ^ 62) (x : Int) : Gl.Spec ρ Tryz.prog 27 [.slice s.a s.n s.c, i64 x] [] RB fun r M => r = decide (x ∈ l) ∧ M = [] := by
 refine Spec.of (fun Q w hh => F.gloamingref1.In.calls s x hh) fun R => ?_
 unfold F.gloamingref1.In
 try simp only [lca, lna]
 have hsn := ro.len
 refine en_lp (fun m u M => (fun (i : Int) => M = R ∧ 0 ≤ i ∧ i ≤ l.length ∧ m = l.length - i.toNat ∧ x ∉ l.take i.toNat) u.1) l.length ?_ ?_
 ·exact ⟨rfl, by simp, by dsimp only; omega, by simp, by simp⟩
 ·rintro m ⟨(i : Int), ⟨⟩⟩ M ⟨rfl, i0, i1, rfl, hn⟩ X hX
  dsimp only at *
  refine en_br (fun h => ?_) (fun h => ?_)
  ·replace h : i < (s.n : Int) := of_decide_eq_true h
   have hi : i.toNat < l.length := by omega
   refine en_getRo ro i0 (by omega) ?_
   refine en_br (fun h2 => ?_) (fun h2 => ?_)
   ·have h2 := eq_of_beq h2
    have hin : x ∈ l := by rw [← h2, List.getD_eq_getElem?_getD, List.getElem?_eq_getElem hi]; exact List.getElem_mem hi
    refine en_rets (x := decide (x ∈ l)) ?_ ⟨rfl, rfl⟩ tks ens
    rw [decide_eq_true hin]; rfl
   ·have h2 : l.getD i.toNat 0 ≠ x := by simpa using h2
    rw [wrap64 (by omega) (by omega)]
    refine hX (l.length - (i + 1).toNat) _ _ (by omega) ⟨rfl, by dsimp only; omega, by dsimp only; omega, rfl, ?_⟩
    dsimp only
    rw [show (i + 1).toNat = i.toNat + 1 by omega, take_succ_getD 0 hi, List.mem_append, List.mem_singleton]
    rintro (h | h)
    ·exact hn h
    ·exact h2 h.symm
  ·replace h : ¬ i < (s.n : Int) := of_decide_eq_false h
   rw [List.take_of_length_le (by omega)] at hn
   refine en_rets (x := decide (x ∈ l)) ?_ ⟨rfl, rfl⟩ tks ens
   rw [decide_eq_false hn]; rfl
end Go.Proofs.YtpefngbfgjfcgaaGreat
