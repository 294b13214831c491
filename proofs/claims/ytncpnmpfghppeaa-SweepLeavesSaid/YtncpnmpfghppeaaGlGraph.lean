/- Graphs by numbers: plainly, and as the laws make them. -/
import Derived.Test.YtncpnmpfghppeaaGlLKinds
import Derived.Test.YtncpnmpfghppeaaGlEz
set_option linter.unusedSimpArgs false
set_option linter.unusedVariables false
namespace Go.Gl
open Go
variable {ρ0 ρ : FR} {L L' : List Asn} {Post : Value → List Asn → Prop}
theorem en_ldRoS {M : List Asn} {s : Slc} {m : Nat} {xs : List Value} {k : LK} {a a0 : Addr} {f : LT k → Tree} {j : Nat} {x : LT k} (hs : s.a = some a0) (hr : RoS ρ s m xs) (ha : ∀ b o, a0 = ⟨b, o, none⟩ → a = ⟨b, o + j, none⟩)
    (hx : xs[j]? = some (k.val x)) (h : Tr ρ0 ρ L (f x) Post) : Tr ρ0 ρ L (ldLS (Sat ρ M) k a f) Post := by
  have hj : j < xs.length := by
    rcases Nat.lt_or_ge j xs.length with h | h
    · exact h
    · rw [List.getElem?_eq_none h] at hx; cases hx
  obtain ⟨h1, hr | ⟨b, off, cs, ty, fr, g1, g2, g3⟩⟩ := hr
  · rw [hr] at h1; simp at h1; rw [h1] at hj; simp at hj
  · rw [hs] at g1
    injection g1 with g1
    exact en_ldSR (ha b off g1) g2 (by rw [g3 j hj, hx]) h
theorem u8_all {ns : List Int} (hb : ∀ x ∈ ns, (Lit.int .u8 x).wf = true) : ∀ x ∈ ns, 0 ≤ x ∧ x < 256 := fun x hx => by
  have := hb x hx
  simp [Lit.wf, IntKind.min, IntKind.max, IntKind.signed, IntKind.bits] at this
  omega
theorem u8_getD {ns : List Int} (hb : ∀ x ∈ ns, 0 ≤ x ∧ x < 256) (i : Nat) : 0 ≤ ns.getD i 0 ∧ ns.getD i 0 < 256 := by
  rw [List.getD_eq_getElem?_getD]
  cases h : ns[i]? with
  | none => simp
  | some x => exact hb x (List.mem_of_getElem? h)
/-- a loaded group out of a slice that stays -/
theorem en_ldRog {s : Slc} {m : Nat} {xs : List Value} {a0 a : Addr} {j : Nat} (hs : s.a = some a0) (hr : RoS ρ s m xs) (ha : ∀ b o, a0 = ⟨b, o, none⟩ → a = ⟨b, o + j, none⟩) :
    ∀ (ks : List LK) (i : Nat) {f : LTs ks → Tree} {x : LTs ks} (_ : ∀ e v, (vals ks x)[e]? = some v → xs[j + i + e]? = some v) (_ : Tr ρ0 ρ L (f x) Post), Tr ρ0 ρ L (ldG a i ks f) Post
  | [], i, f, x, _, h => h
  | k :: ks, i, f, x, hv, h => by
    refine en_ldRo (j := j + i) (x := x.1) hs hr (fun b o e => by rw [ha b o e, fa_mk, Nat.add_assoc]) (by simpa using hv 0 (k.val x.1) rfl) ?_
    exact en_ldRog hs hr ha ks (i + 1) (x := x.2) (fun e v he => by have := hv (e + 1) v he; rw [← this]; congr 1; omega) h
theorem en_ldRg {s : Slc} {m : Nat} {xs : List Value} {a0 a : Addr} {j : Nat} {ks : List LK} {f : LTs ks → Tree} {x : LTs ks} (hs : s.a = some a0) (hr : RoS ρ s m xs) (ha : ∀ b o, a0 = ⟨b, o, none⟩ → a = ⟨b, o + j, none⟩)
    (hv : ∀ e v, (vals ks x)[e]? = some v → xs[j + 0 + e]? = some v) (h : Tr ρ0 ρ L (f x) Post) : Tr ρ0 ρ L (ld (.g ks) a f) Post := en_ldRog hs hr ha ks 0 hv h
end Go.Gl
namespace Go.Proofs.Ytncpnmpfghppeaa
open Go Go.Gl
variable {ρ0 ρ : FR} {L L' : List Asn} {Post : Value → List Asn → Prop} {T : Tree}

namespace Gr
def cs : List Cls := [(3, [0, 2])]
/-- a head by a number -/
def hd (n : Int) : Hd := if n % 4 = 0 then ⟨1, 1, 3, false⟩ else if n % 4 = 3 then ⟨4, 1 + n / 4 % 3, 5, false⟩ else ⟨1 + n % 4, 0, 1 + n / 4 % 5, false⟩
def heads (ns : List Int) : List Hd := (ns.take 24).map hd
def isA (h : Hd) (k : Int) : Bool := decide (h.k = 2 ∨ (h.k = 1 ∧ k ≠ 1) ∨ (h.k = 4 ∧ (k = 0 ∨ k = 2)))
def num (ns : List Int) (i k : Nat) : Int := ns.getD ((i * 7 + k * 3 + 1) % ns.length) 0 + 13 * i + 5 * k
def word0 (h : Hd) (l ns : List Int) (i k : Nat) : Int := if isA h k then (if num ns i k % 3 > 0 then l.getD ((num ns i k).toNat % l.length) 0 else 0) else num ns i k
def n3 (ns : List Int) (i : Nat) : Int := ns.getD ((i * 5 + 2) % ns.length) 0 % 4 - 1
def prt (f : Nat → Int) (n k : Nat) : List Int := (List.range n).map fun j => if j < k then f j else 0
/-- an object's fields -/
def words (h : Hd) (l ns : List Int) (i : Nat) : List Int :=
  if h.k = 4 then ((((prt (word0 h l ns i) h.n.toNat h.n.toNat).set 2 0).set 1 (n3 ns i)).set 3 (ns.getD (i % ns.length) 0)).set 4 ((i : Int) + 1) else prt (word0 h l ns i) h.n.toNat h.n.toNat
def step (q : Spc × List Int) (h : Hd) : Spc × List Int := ((Ob.make q.1 cs h).2.2, q.2 ++ [(Ob.make q.1 cs h).1])
def made (hs : List Hd) : Spc × List Int := hs.foldl step (Sp.newSpc 60, [])
def putN (S : Spc) (a : Int) (ws : List Int) (n : Nat) : Spc := (List.range n).foldl (fun S (k : Nat) => (Ob.put S a k (ws.getD k 0)).2) S
def putW (S : Spc) (a : Int) (ws : List Int) : Spc := putN S a ws ws.length
def puts (S : Spc) (hs : List Hd) (l ns : List Int) (n : Nat) : Spc := (List.range n).foldl (fun S (i : Nat) => putW S (l.getD i 0) (words (hs.getD i ⟨0, 0, 0, false⟩) l ns i)) S
/-- the heap of a graph, and its objects as they were made -/
def graph (ns : List Int) : Spc × List Int := (puts (made (heads ns)).1 (heads ns) (made (heads ns)).2 ns (heads ns).length, (made (heads ns)).2)

theorem part_set {f : Nat → Int} {n k : Nat} : (prt f n k).set k (f k) = prt f n (k + 1) := by
  unfold prt
  apply List.ext_getElem?
  intro j
  rw [List.getElem?_set]
  simp only [List.length_map, List.length_range, List.getElem?_map]
  by_cases hj : k = j
  · subst hj
    rw [if_pos rfl]
    by_cases hk : k < n
    · rw [if_pos hk, List.getElem?_range hk, Option.map_some, if_pos (by omega)]
    · rw [if_neg hk, List.getElem?_eq_none (by simp; omega)]; rfl
  · rw [if_neg hj]
    by_cases hk : j < n
    · rw [List.getElem?_range hk, Option.map_some, Option.map_some]
      congr 1
      by_cases h : j < k
      · rw [if_pos h, if_pos (by omega)]
      · rw [if_neg h, if_neg (by omega)]
    · rw [List.getElem?_eq_none (by simp; omega)]; rfl
theorem part_len {f : Nat → Int} {n k : Nat} : (prt f n k).length = n := by simp [prt]
theorem part_zero {f : Nat → Int} {n k : Nat} (h : f k = 0) : prt f n (k + 1) = prt f n k := by
  unfold prt
  refine List.map_congr_left fun j hj => ?_
  by_cases hk : j < k
  · rw [if_pos hk, if_pos (by omega)]
  · rw [if_neg hk]
    by_cases h2 : j = k
    · subst h2; rw [if_pos (by omega), h]
    · rw [if_neg (by omega)]
theorem part0 {f : Nat → Int} {n : Nat} : prt f n 0 = List.replicate n 0 := by
  unfold prt
  apply List.ext_getElem?
  intro j
  rw [List.getElem?_map, List.getElem?_replicate]
  by_cases hk : j < n
  · rw [List.getElem?_range hk, if_pos hk]; simp
  · rw [List.getElem?_eq_none (by simp; omega), if_neg hk]; rfl
theorem words_len {h : Hd} {l ns : List Int} {i : Nat} : (words h l ns i).length = h.n.toNat := by
  unfold words; split <;> simp [part_len]

/-- a head that a graph may have -/
structure Good (h : Hd) : Prop where
  may : Ob.may cs h = 0
  small : Sp.need (h.n + 1) ≤ 1
  rf : h.k = 4 → h.n = 5
  n0 : 0 ≤ h.n
  n1 : h.n ≤ 5
theorem hd_good {n : Int} (hn : 0 ≤ n) : Good (hd n) := by
  unfold hd
  split
  · exact ⟨by decide, need1 (by decide) (by decide), by simp, by decide, by decide⟩
  · split
    · rename_i h1 h2
      refine ⟨?_, need1 (by dsimp only; omega) (by dsimp only; omega), by simp, by dsimp only; omega, by dsimp only; omega⟩
      have hm : Sp.mayH ⟨4, 1 + n / 4 % 3, 5, false⟩ = true := by
        have : n / 4 % 3 = 0 ∨ n / 4 % 3 = 1 ∨ n / 4 % 3 = 2 := by omega
        rcases this with e | e | e <;> rw [e] <;> decide
      unfold Ob.may; rw [hm]; simp
    · rename_i h1 h2
      have hk : n % 4 = 1 ∨ n % 4 = 2 := by omega
      refine ⟨?_, need1 (by dsimp only; omega) (by dsimp only; omega), fun h => by dsimp only at h; omega, by dsimp only; omega, by dsimp only; omega⟩
      have hm : Sp.mayH ⟨1 + n % 4, 0, 1 + n / 4 % 5, false⟩ = true := by
        unfold Sp.mayH; dsimp only
        rw [if_neg (by omega), if_pos (by omega), Bool.and_eq_true]
        exact ⟨decide_eq_true (by omega), rfl⟩
      unfold Ob.may; rw [hm]
      dsimp only
      rw [if_neg (by simp), if_pos (by omega)]
theorem heads_good {ns : List Int} (hb : ∀ x ∈ ns, 0 ≤ x ∧ x < 256) : ∀ h ∈ heads ns, Good h := fun h hh => by
  unfold heads at hh
  obtain ⟨n, hn, rfl⟩ := List.mem_map.mp hh
  exact hd_good (hb n (List.mem_of_mem_take hn)).1
theorem heads_len {ns : List Int} : (heads ns).length ≤ 24 := by unfold heads; simp; omega

structure OK (S : Spc) (hs : List Hd) (l : List Int) : Prop where
  hw : HWf S cs
  len : l.length = hs.length
  pfx : ∃ m, Pfx S.pg m ∧ m ≤ 1 + hs.length
  pgs : S.pg.length = 60
  head : ∀ i h, hs[i]? = some h → Ob.head S (l.getD i 0) = some h
  each : (Sp.each S).Perm l
theorem OK.start : OK (Sp.newSpc 60) [] [] := by
  refine ⟨hwf_add (cs := []) (newSpc_hwf (by omega) (by omega)) (by simp) (by decide), rfl, ⟨1, Pfx.new (by omega), by simp⟩, by kernel_rfl, by simp, ?_⟩
  have : Sp.each (Sp.newSpc 60) = [] := by kernel_rfl
  rw [this]
theorem getD_last {xs : List Int} {y d : Int} : (xs ++ [y]).getD xs.length d = y := by
  rw [List.getD_eq_getElem?_getD, List.getElem?_append_right (Nat.le_refl _), Nat.sub_self]; rfl
theorem getD_front {xs : List Int} {y d : Int} {j : Nat} (h : j < xs.length) : (xs ++ [y]).getD j d = xs.getD j d := by
  rw [List.getD_eq_getElem?_getD, List.getElem?_append_left h, List.getD_eq_getElem?_getD]
theorem OK.make {S : Spc} {hs : List Hd} {l : List Int} (H : OK S hs l) (hn : hs.length < 24) {h : Hd} (hg : Good h) :
    (Ob.make S cs h).2.1 = 0 ∧ OK (Ob.make S cs h).2.2 (hs ++ [h]) (l ++ [(Ob.make S cs h).1]) := by
  obtain ⟨m, hp, hm⟩ := H.pfx
  have := hg.small
  have hpg := H.pgs
  obtain ⟨h0, ⟨m', p1, p2⟩, p3⟩ := make_pfx H.hw hp hg.may (by omega)
  refine ⟨h0, H.hw.make _, by simp [H.len], ⟨m', p1, by simp; omega⟩, by omega, fun i h' hi => ?_, ?_⟩
  · rcases Nat.lt_or_ge i hs.length with c | c
    · rw [List.getElem?_append_left c] at hi
      rw [getD_front (by rw [H.len]; exact c)]
      exact (Ob.make_keep H.hw h0 (H.head i h' hi)).1
    · have hlt := getElem?_lt hi
      simp at hlt
      have : i = hs.length := by omega
      subst this
      rw [List.getElem?_append_right (Nat.le_refl _), Nat.sub_self] at hi
      injection hi with hi
      subst hi
      rw [← H.len, getD_last]
      exact Ob.make_head H.hw h0
  · refine (each_make H.hw h0).trans ?_
    exact (List.Perm.cons _ H.each).trans (List.perm_append_singleton _ _).symm
theorem OK.put {S : Spc} {hs : List Hd} {l : List Int} (H : OK S hs l) {i : Nat} {h : Hd} (hi : hs[i]? = some h) {k : Int} (k0 : 0 ≤ k) (k1 : k < h.n) (x : Int) :
    (Ob.put S (l.getD i 0) k x).1 = 0 ∧ OK (Ob.put S (l.getD i 0) k x).2 hs l := by
  obtain ⟨h0, hk⟩ := Ob.put_keep H.hw (x := x) (H.head i h hi) k0 k1
  obtain ⟨ws', e, hl⟩ := put_pg S (l.getD i 0) k x
  refine ⟨h0, H.hw.put _ _ _, H.len, by rw [e]; exact H.pfx, by rw [e]; exact H.pgs, fun j h' hj => (hk _ _ (H.head j h' hj)).1, ?_⟩
  rw [put_each H.hw]; exact H.each
theorem made_step {hs : List Hd} {i : Nat} {h : Hd} (hi : hs[i]? = some h) : made (hs.take (i + 1)) = step (made (hs.take i)) h := by
  unfold made
  rw [List.take_add_one, hi, List.foldl_append]; rfl
theorem made_ok {hs : List Hd} (hg : ∀ h ∈ hs, Good h) (hn : hs.length ≤ 24) : ∀ i, i ≤ hs.length → OK (made (hs.take i)).1 (hs.take i) (made (hs.take i)).2
  | 0, _ => OK.start
  | i + 1, hi => by
    have ih := made_ok hg hn i (by omega)
    have hh : hs[i]? = some hs[i] := List.getElem?_eq_getElem (by omega)
    rw [made_step hh, List.take_add_one, hh]
    exact (ih.make (by simp; omega) (hg _ (List.getElem_mem _))).2
theorem putN_succ {S : Spc} {a : Int} {ws : List Int} {n : Nat} : putN S a ws (n + 1) = (Ob.put (putN S a ws n) a n (ws.getD n 0)).2 := by
  unfold putN; rw [List.range_succ, List.foldl_append]; rfl
theorem puts_succ {S : Spc} {hs : List Hd} {l ns : List Int} {n : Nat} : puts S hs l ns (n + 1) = putW (puts S hs l ns n) (l.getD n 0) (words (hs.getD n ⟨0, 0, 0, false⟩) l ns n) := by
  unfold puts; rw [List.range_succ, List.foldl_append]; rfl
theorem OK.putN {S : Spc} {hs : List Hd} {l : List Int} (H : OK S hs l) {i : Nat} {h : Hd} (hi : hs[i]? = some h) (ws : List Int) : ∀ n : Nat, (n : Int) ≤ h.n → OK (Gr.putN S (l.getD i 0) ws n) hs l
  | 0, _ => H
  | n + 1, hn => by rw [putN_succ]; exact ((OK.putN H hi ws n (by omega)).put hi (by omega) (by omega) _).2
theorem getD_hd {hs : List Hd} {i : Nat} {h d : Hd} (hi : hs[i]? = some h) : hs.getD i d = h := by rw [List.getD_eq_getElem?_getD, hi]; rfl
theorem OK.puts {S : Spc} {hs : List Hd} {l : List Int} (H : OK S hs l) (hg : ∀ h ∈ hs, Good h) (ns : List Int) : ∀ n, n ≤ hs.length → OK (Gr.puts S hs l ns n) hs l
  | 0, _ => H
  | n + 1, hn => by
    have hi : hs[n]? = some hs[n] := List.getElem?_eq_getElem (by omega)
    rw [puts_succ]
    refine (OK.puts H hg ns n (by omega)).putN hi _ _ ?_
    rw [words_len, getD_hd hi]
    have := (hg _ (List.getElem_mem (by omega : n < hs.length))).n0
    omega
theorem graph_ok {ns : List Int} (hb : ∀ x ∈ ns, 0 ≤ x ∧ x < 256) : OK (graph ns).1 (heads ns) (graph ns).2 := by
  have h := made_ok (heads_good hb) heads_len (heads ns).length (Nat.le_refl _)
  rw [List.take_length] at h
  exact h.puts (heads_good hb) ns _ (Nat.le_refl _)
end Gr

theorem appHd : appB Try.prog #[98, 98] 4 32 = true := by kernel_rfl
theorem hcs_len (h : Hd) : (Hd.cs h).length = 4 := rfl

open Gr in
theorem g_heads (s : Slc) (ns : List Int) (ro : RoS ρ s 1 (ns.map fun x => .int .u8 x)) (hb : ∀ x ∈ ns, 0 ≤ x ∧ x < 256) (hl : ns.length < 2 ^ 63) : Gl.Spec ρ Try.prog 57 [.slice s.a s.n s.c] [] RS
    fun r M => r.n = (heads ns).length ∧ M = [SLc r 4 ((heads ns).flatMap Hd.cs)] := by
  refine Spec.of (fun Q w h => F.gloaminglaw17.heads.calls s h) fun R => ?_
  unfold F.gloaminglaw17.heads
  try simp only [List.cons_append, List.nil_append]
  have hsn : s.n = ns.length := by have := ro.1; simpa using this.symm
  refine Tr.nilSL 4 ?_
  refine en_lp (fun n u M => (fun (t : Slc) (i : Int) => M = SLc t 4 (((ns.take i.toNat).map hd).flatMap Hd.cs) :: R ∧ t.n = i.toNat ∧ 0 ≤ i ∧ i ≤ 24 ∧ i ≤ ns.length ∧ n = 24 - i.toNat) u.1 u.2.1) 24 ?_ ?_
  · exact ⟨rfl, rfl, by simp, by simp, by dsimp only; omega, by simp⟩
  · rintro n ⟨(t : Slc), (i : Int), ⟨⟩⟩ M ⟨rfl, htn, i0, i1, i2, rfl⟩ X hX
    dsimp only at *
    have hend : (i = 24 ∨ i = ns.length) → Tr ρ ρ (SLc t 4 (((ns.take i.toNat).map hd).flatMap Hd.cs) :: R) (ret (.slice t.a t.n t.c)) (SP RS (fun r M => r.n = (heads ns).length ∧ M = [SLc r 4 ((heads ns).flatMap Hd.cs)]) R) := fun hc => by
      have e : (ns.take i.toNat).map hd = heads ns := by
        unfold heads
        rcases hc with e | e
        · rw [e]; rfl
        · rw [List.take_of_length_le (by omega), List.take_of_length_le (by omega)]
      have hlen : (heads ns).length = i.toNat := by rw [← e]; simp; omega
      rw [e]
      exact en_rets (x := t) rfl ⟨by omega, rfl⟩ tks ens
    refine en_br (fun h => ?_) (fun h => hend (.inr (by have : ¬ i < (s.n : Int) := of_decide_eq_false h; omega)))
    replace h : i < (s.n : Int) := of_decide_eq_true h
    refine en_br (fun h2 => ?_) (fun h => hend (.inl (by have : ¬ i < 24 := of_decide_eq_false h; omega)))
    replace h2 : i < 24 := of_decide_eq_true h2
    have hi : i.toNat < ns.length := by omega
    have hv := u8_getD hb i.toNat
    have hget := get_u8 hi
    have htk : ns.take (i + 1).toNat = ns.take i.toNat ++ [ns.getD i.toNat 0] := by rw [show (i + 1).toNat = i.toNat + 1 by omega, take_succ_getD 0 hi]
    generalize ns.getD i.toNat 0 = v at hv hget htk
    have hk : IntKind.wrap .i64 (1 + Int.tmod (IntKind.wrap .i64 v) 4) = 1 + v % 4 := by
      rw [wrap64 (n := v) (by omega) (by omega), Int.tmod_eq_emod_of_nonneg hv.1, wrap64 (by omega) (by omega)]
    have hd4 : Int.tdiv (IntKind.wrap .i64 v) 4 = v / 4 := by rw [wrap64 (n := v) (by omega) (by omega), Int.tdiv_eq_ediv_of_nonneg hv.1]
    have hn : IntKind.wrap .i64 (1 + Int.tmod (IntKind.wrap .i64 (Int.tdiv (IntKind.wrap .i64 v) 4)) 5) = 1 + v / 4 % 5 := by
      rw [hd4, wrap64 (n := v / 4) (by omega) (by omega), Int.tmod_eq_emod_of_nonneg (by omega), wrap64 (by omega) (by omega)]
    have hn3 : IntKind.wrap .i64 (1 + Int.tmod (IntKind.wrap .i64 (Int.tdiv (IntKind.wrap .i64 v) 4)) 3) = 1 + v / 4 % 3 := by
      rw [hd4, wrap64 (n := v / 4) (by omega) (by omega), Int.tmod_eq_emod_of_nonneg (by omega), wrap64 (by omega) (by omega)]
    have w2 : IntKind.wrap .i64 (i + 1) = i + 1 := wrap64 (by omega) (by omega)
    refine en_drw (en_held [] .nil ?_)
    refine en_ixRo ro i0 h fun a0 ha => ?_
    refine en_ldRoS (k := .int .u8) (j := i.toNat) (x := v) ha ro (by rintro b o rfl; simp [fa_mk]) hget ?_
    refine en_need (by decide) ?_
    refine en_ixRo ro i0 h fun a0 ha => ?_
    refine en_ldRoS (k := .int .u8) (j := i.toNat) (x := v) ha ro (by rintro b o rfl; simp [fa_mk]) hget ?_
    refine en_need (by decide) (en_need (by decide) ?_)
    refine en_nw fun b8 => ?_
    rw [zcH, hk, hn]
    refine en_chk .nil ?_
    refine en_st (b := b8) (off := 0) rfl tk (by simp) rfl ?_
    have happ : ∀ (k c n : Int) (vs : List Value), (hd v).cs = [.int .i64 k, .int .i64 c, .int .i64 n, .bool false] → Tr ρ ρ (blk b8 vs :: SLc t 4 (((ns.take i.toNat).map hd).flatMap Hd.cs) :: R)
        (nw 32 [.int .i64 k, .int .i64 c, .int .i64 n, .bool false] fun b11 => opr Try.prog (Builtin.append_ #[98, 98] 98 #[.slice t.a t.n t.c, .slice (some ⟨b11, 0, none⟩) 1 1]) (.one (.l .slice)) fun (r12 : Slc) =>
          X (⟨r12.a, r12.n, r12.c⟩, IntKind.wrap .i64 (i + 1), ())) (SP RS (fun r M => r.n = (heads ns).length ∧ M = [SLc r 4 ((heads ns).flatMap Hd.cs)]) R) := fun k c n vs hcs => by
      refine en_nw fun b => ?_
      refine en_app (x := ⟨some ⟨b, 0, none⟩, 1, 1⟩) (ys := [.int .i64 k, .int .i64 c, .int .i64 n, .bool false]) appHd tk (Rd.cl tk rfl rfl) rfl (by rw [htn]; dsimp only; omega) (by rw [htn]; dsimp only; omega) fun r hr => ?_
      rw [← hcs, w2]
      refine Tr.drop (A := blk b _) tk (Tr.drop (A := blk b8 _) tk ?_)
      refine hX (24 - (i + 1).toNat) _ _ (by omega) ⟨?_, by dsimp only; rw [hr, htn]; show _ + 1 = _; omega, by dsimp only; omega, by dsimp only; omega, by dsimp only; omega, rfl⟩
      dsimp only
      rw [htk]; simp
    refine en_ld (k := .int .i64) (b := b8) (off := 0) (x := (1 + v % 4)) (by rw [fa_mk]) tk rfl ?_
    refine en_br (fun h3 => ?_) (fun h3 => ?_)
    · have h3 : v % 4 = 0 := by have : 1 + v % 4 = 1 := by simpa using h3
                                omega
      refine en_st (b := b8) (off := 1) (by rw [fa_mk]) tk (by simp [setL]) rfl ?_
      refine en_st (b := b8) (off := 2) (by rw [fa_mk]) tk (by simp [setL]) rfl ?_
      refine en_ldg (b := b8) (x := (1 + v % 4, (1 : Int), (3 : Int), false, ())) [] rfl tk rfl ?_
      exact happ _ _ _ _ (by unfold hd; rw [if_pos h3, h3]; rfl)
    · have h3 : v % 4 ≠ 0 := by intro h; rw [h] at h3; revert h3; decide
      refine en_br (fun h4 => ?_) (fun h4 => ?_)
      · have h4 : v % 4 = 3 := by have : 1 + v % 4 = 4 := by simpa using h4
                                  omega
        refine en_ixRo ro i0 h fun a0 ha => ?_
        refine en_ldRo (k := .int .u8) (j := i.toNat) (x := v) ha ro (by rintro b o rfl; simp [fa_mk]) hget ?_
        refine en_need (by decide) (en_need (by decide) ?_)
        rw [hn3]
        refine en_st (b := b8) (off := 1) (by rw [fa_mk]) tk (by simp [setL]) rfl ?_
        refine en_st (b := b8) (off := 2) (by rw [fa_mk]) tk (by simp [setL]) rfl ?_
        refine en_ldg (b := b8) (x := (1 + v % 4, 1 + v / 4 % 3, (5 : Int), false, ())) [] rfl tk rfl ?_
        exact happ _ _ _ _ (by unfold hd; rw [if_neg h3, if_pos h4, h4]; rfl)
      · have h4 : v % 4 ≠ 3 := by intro h; rw [h] at h4; revert h4; decide
        refine en_ldg (b := b8) (x := (1 + v % 4, (0 : Int), 1 + v / 4 % 5, false, ())) [] rfl tk rfl ?_
        exact happ _ _ _ _ (by unfold hd; rw [if_neg h3, if_neg h4])

theorem ix_mod {n : Nat} {a : Int} (ha : 0 ≤ a) (hn : 0 < n) : Int.tmod a (n : Int) = ((a.toNat % n : Nat) : Int) := by
  obtain ⟨k, rfl⟩ := Int.eq_ofNat_of_zero_le ha
  rw [Int.tmod_eq_emod_of_nonneg ha]; rfl

open Gr in
theorem g_n3 (s : Slc) (ns : List Int) (ro : RoS ρ s 1 (ns.map fun x => .int .u8 x)) (hb : ∀ x ∈ ns, 0 ≤ x ∧ x < 256) (h0 : 0 < ns.length) (i : Nat) (hi : i < 1000) : Gl.Spec ρ Try.prog 75 [.slice s.a s.n s.c, i64 i] [] R1
    fun r M => r = n3 ns i ∧ M = [] := by
  refine Spec.of (fun Q w h => F.gloaminglaw17.n3.calls s i h) fun R => ?_
  unfold F.gloaminglaw17.n3
  try simp only [List.cons_append, List.nil_append]
  have hsn : s.n = ns.length := by have := ro.1; simpa using this.symm
  refine en_need (by omega) ?_
  rw [hsn, wrap64 (n := (i : Int) * 5) (by omega) (by omega), wrap64 (n := (i : Int) * 5 + 2) (by omega) (by omega), ix_mod (by omega) h0, show ((i : Int) * 5 + 2).toNat = i * 5 + 2 by omega]
  have hlt : (i * 5 + 2) % ns.length < ns.length := Nat.mod_lt _ h0
  rw [← hsn]
  refine en_ixRo ro (by omega) (by rw [hsn]; rw [hsn] at *; omega) fun a0 ha => ?_
  rw [hsn]
  have hv := u8_getD hb ((i * 5 + 2) % ns.length)
  refine en_ldRo (k := .int .u8) (j := (i * 5 + 2) % ns.length) (x := ns.getD ((i * 5 + 2) % ns.length) 0) ha ro (by rintro b o rfl; simp only [fa_mk, Nat.mul_one, Int.toNat_natCast]) (get_u8 hlt) ?_
  refine en_need (by decide) ?_
  have e : n3 ns i = ns.getD ((i * 5 + 2) % ns.length) 0 % 4 - 1 := rfl
  generalize ns.getD ((i * 5 + 2) % ns.length) 0 = v at hv e
  rw [wrap64 (n := v) (by omega) (by omega), Int.tmod_eq_emod_of_nonneg hv.1, wrap64 (by omega) (by omega), e]
  exact en_rets (x := v % 4 - 1) rfl ⟨rfl, rfl⟩ tks ens

end Go.Proofs.Ytncpnmpfghppeaa
