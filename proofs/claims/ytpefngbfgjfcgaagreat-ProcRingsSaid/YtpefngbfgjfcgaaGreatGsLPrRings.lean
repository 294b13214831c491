/- ProcRings. -/
import Derived.Test.YtpefngbfgjfcgaaGreatGsFlat
import Derived.Test.YtpefngbfgjfcgaaGreatGsTxProcRings
set_option linter.unusedSimpArgs false
set_option linter.unusedVariables false
namespace Go.Proofs.YtpefngbfgjfcgaaGreat
open Go Go.Gl
variable {ρ0 ρ : FR} {L L' : List Asn} {Post : Value → List Asn → Prop} {T : Tree}
namespace Ring
def bx (a x : Int) : Ob1 := ⟨a, ⟨2, 0, 1, false⟩, [x]⟩
def part (l : List Int) (n : Nat) : List Ob1 := (List.range l.length).map fun j => bx (l.getD j 0) (if j < n then l.getD ((j + 1) % l.length) 0 else 0)
theorem part_len {l : List Int} {n : Nat} : (part l n).length = l.length := by simp [part]
theorem part_get {l : List Int} {n j : Nat} (hj : j < l.length) : (part l n)[j]? = some (bx (l.getD j 0) (if j < n then l.getD ((j + 1) % l.length) 0 else 0)) := by
 unfold part; rw [List.getElem?_map, List.getElem?_range hj]; rfl
theorem part0 {l : List Int} : part l 0 = l.map fun a => bx a 0 := by
 apply List.ext_getElem?
 intro j
 by_cases hj : j < l.length
 ·rw [part_get hj, if_neg (by omega), List.getElem?_map, List.getD_eq_getElem?_getD, List.getElem?_eq_getElem hj]; rfl
 ·rw [List.getElem?_eq_none (by rw [part_len]; omega), List.getElem?_eq_none (by simp; omega)]
theorem part_set {l : List Int} {n : Nat} (hn : n < l.length) : (part l n).set n (bx (l.getD n 0) (l.getD ((n + 1) % l.length) 0)) = part l (n + 1) := by
 apply List.ext_getElem?
 intro j
 rw [List.getElem?_set]
 by_cases hj : j < l.length
 ·rw [part_get hj]
  by_cases e : n = j
  ·subst e
   rw [if_pos rfl, if_pos (by rw [part_len]; exact hn), part_get hn, if_pos (by omega)]
  ·rw [if_neg e, part_get hj]
   by_cases h : j < n
   ·rw [if_pos h, if_pos (by omega)]
   ·rw [if_neg h, if_neg (by omega)]
 ·rw [List.getElem?_eq_none (l := part l (n + 1)) (by rw [part_len]; omega), if_neg (by omega), List.getElem?_eq_none (by rw [part_len]; omega)]
theorem part_mem {l : List Int} {n : Nat} {o : Ob1} (h : o ∈ part l n) : ∃ j, j < l.length ∧ o = bx (l.getD j 0) (if j < n then l.getD ((j + 1) % l.length) 0 else 0) := by
 unfold part at h
 obtain ⟨j, hj, rfl⟩ := List.mem_map.mp h
 exact ⟨j, List.mem_range.mp hj, rfl⟩
theorem part_as {l : List Int} {n : Nat} : (part l n).map (·.a) = l := by
 apply List.ext_getElem?
 intro j
 rw [List.getElem?_map]
 by_cases hj : j < l.length
 ·rw [part_get hj, Option.map_some, List.getD_eq_getElem?_getD, List.getElem?_eq_getElem hj]; rfl
 ·rw [List.getElem?_eq_none (by rw [part_len]; omega), List.getElem?_eq_none (by omega)]; rfl
variable {S : Spc} {l : List Int}
theorem obj (H : Bx S Gr.cs 60 (part l l.length)) {a : Int} : Mk.obj S a ↔ a ∈ l := by
 rw [H.obj]
 constructor
 ·rintro ⟨o, ho, rfl⟩
  rw [← part_as (l := l) (n := l.length)]; exact List.mem_map.mpr ⟨o, ho, rfl⟩
 ·intro h
  rw [← part_as (l := l) (n := l.length)] at h
  obtain ⟨o, ho, e⟩ := List.mem_map.mp h
  exact ⟨o, ho, e⟩
theorem getD_in {j : Nat} (hj : j < l.length) : l.getD j 0 ∈ l := by rw [List.getD_eq_getElem?_getD, List.getElem?_eq_getElem hj]; exact List.getElem_mem hj
theorem reach (H : Bx S Gr.cs 60 (part l l.length)) {j : Nat} (hj : j < l.length) {R : List Int} (h : Mk.Rch S Gr.cs R (l.getD j 0)) : ∀ d, Mk.Rch S Gr.cs R (l.getD ((j + d) % l.length) 0)
 | 0 => by rw [Nat.add_zero, Nat.mod_eq_of_lt hj]; exact h
 | d + 1 => by
  have ih := reach H hj h d
  have hlt : (j + d) % l.length < l.length := Nat.mod_lt _ (by omega)
  have hk := H.kids (List.mem_of_getElem? (part_get (n := l.length) hlt)) (show (2 : Int) ≠ 1 by decide)
  rw [if_pos hlt, Nat.mod_add_mod] at hk
  refine .step ih ?_ ((obj H).mpr (getD_in (Nat.mod_lt _ (by omega))))
  change Mk.kids S Gr.cs (l.getD ((j + d) % l.length) 0) = _ at hk
  rw [hk]
  simp [Bx.kidsO, bx, Nat.add_assoc]
theorem reach_all (H : Bx S Gr.cs 60 (part l l.length)) {a b : Int} (ha : a ∈ l) (hb : b ∈ l) {R : List Int} (h : Mk.Rch S Gr.cs R a) : Mk.Rch S Gr.cs R b := by
 obtain ⟨j, hj, rfl⟩ := List.mem_iff_getElem.mp ha
 obtain ⟨t, ht, rfl⟩ := List.mem_iff_getElem.mp hb
 have e1 : l.getD j 0 = l[j] := by rw [List.getD_eq_getElem?_getD, List.getElem?_eq_getElem hj]; rfl
 have e2 : l.getD t 0 = l[t] := by rw [List.getD_eq_getElem?_getD, List.getElem?_eq_getElem ht]; rfl
 rw [← e1] at h
 have := reach H hj h (t + l.length - j)
 rw [show j + (t + l.length - j) = t + l.length by omega, Nat.add_mod_right, Nat.mod_eq_of_lt ht, e2] at this
 exact this
def dd1 (w : List Int) (a : Int) : List Int := if a ∈ w then w else w ++ [a]
def dd (fs : List Int) : List Int := fs.foldl dd1 []
theorem dd_mem : ∀ (fs w : List Int) {a : Int}, a ∈ fs.foldl dd1 w ↔ (a ∈ w ∨ a ∈ fs)
 | [], w, a => by simp
 | b :: fs, w, a => by
  rw [List.foldl_cons, dd_mem fs]
  unfold dd1
  split
  ·rename_i h
   constructor
   ·rintro (h' | h')
    ·exact .inl h'
    ·exact .inr (.tail _ h')
   ·rintro (h' | h')
    ·exact .inl h'
    ·rcases List.mem_cons.mp h' with rfl | h'
     ·exact .inl h
     ·exact .inr h'
  ·rw [List.mem_append, List.mem_singleton, List.mem_cons, or_assoc]
theorem dd_len : ∀ (fs w : List Int), (fs.foldl dd1 w).length ≤ w.length + fs.length
 | [], w => by simp
 | b :: fs, w => by
  rw [List.foldl_cons]
  have := dd_len fs (dd1 w b)
  have h1 : (dd1 w b).length ≤ w.length + 1 := by unfold dd1; split <;> simp
  rw [List.length_cons]; omega
theorem pend_dd {m : List Bool} (fs w : List Int) (h : ∀ a ∈ fs, lostB S m (0, 0, a, 0, 0, 0, ()) = true) : fs.foldl (pend1 S m) w = fs.foldl dd1 w := by
 induction fs generalizing w with
 | nil => rfl
 | cons b fs ih =>
  rw [List.foldl_cons, List.foldl_cons]
  have : pend1 S m w b = dd1 w b := by
   unfold pend1 dd1
   have hb := h b (.head _)
   by_cases hw : b ∈ w
   ·rw [if_neg (fun g => g.2 hw), if_pos hw]
   ·rw [if_pos ⟨hb, hw⟩, if_neg hw]
  rw [this]
  exact ih _ fun a ha => h a (.tail _ ha)
theorem pend_none {m : List Bool} (fs w : List Int) (h : ∀ a ∈ fs, lostB S m (0, 0, a, 0, 0, 0, ()) = false) : fs.foldl (pend1 S m) w = w := by
 induction fs generalizing w with
 | nil => rfl
 | cons b fs ih =>
  rw [List.foldl_cons]
  have : pend1 S m w b = w := by
   unfold pend1
   rw [if_neg (fun g => by rw [h b (.head _)] at g; cases g.1)]
  rw [this]
  exact ih _ fun a ha => h a (.tail _ ha)
theorem out (H : Bx S Gr.cs 60 (part l l.length)) (hnd : l.Nodup) {x : In7} {ros fs : List Int} {l9 : List Rf6} {m2 m3 : List Bool} (hC : Coll S Gr.cs x ros fs l9 m2 m3) (held : Bool) (hr : if held then ∃ a ∈ l, ros = [a] else ros = []) (hfs : ∀ a ∈ fs, a ∈ l) :
  clrOf S m2 m3 l9 = [] ∧ pendOf S m2 fs = (if held then [] else dd fs) ∧ (Mk.all m3).length = (if held || decide (0 < (dd fs).length) then l.length else 0) := by
 have hno : refsOf S = [] := by
  have h := H.refs
  have : (part l l.length).filterMap ref1 = [] := by
   rw [List.filterMap_eq_nil_iff]
   intro o ho
   obtain ⟨j, _, rfl⟩ := part_mem ho
   rfl
  rw [this] at h
  exact List.perm_nil.mp h
 have hl9 : l9 = [] := by
  have := hC.perm
  rw [hno] at this
  exact List.perm_nil.mp this
 subst hl9
 have hsoft : ∀ a, Sp.has m2 a = true ↔ Mk.Rch S Gr.cs ros a := fun a => by
  rw [hC.has2, hno]
  constructor
  ·intro h
   cases h with
   | base h => exact h
   | keep hr => cases hr
  ·exact .base
 refine ⟨rfl, ?_⟩
 cases held with
 | true =>
  obtain ⟨a, ha, rfl⟩ := hr
  have h2 : ∀ b, Sp.has m2 b = true ↔ b ∈ l := fun b => by
   rw [hsoft]
   exact ⟨fun h => (obj H).mp h.obj, fun h => reach_all H ha h (.root (by simp) ((obj H).mpr ha))⟩
  have hp : pendOf S m2 fs = [] := by
   unfold pendOf
   refine pend_none fs [] fun b hb => ?_
   cases e : lostB S m2 (0, 0, b, 0, 0, 0, ()) with
   | false => rfl
   | true => exact absurd ((h2 b).mpr (hfs b hb)) (lost_iff.mp e).2
  have h3 : ∀ b, Sp.has m3 b = true ↔ b ∈ l := fun b => by
   rw [hC.has3, hp, h2]
   exact ⟨fun h => h.elim id fun h => absurd h Mk.rch_nil, .inl⟩
  exact ⟨hp, (Mk.all_perm hnd h3).length_eq⟩
 | false =>
  subst hr
  have h2 : ∀ b, Sp.has m2 b = false := fun b => by
   cases e : Sp.has m2 b with
   | false => rfl
   | true => exact absurd ((hsoft b).mp e) Mk.rch_nil
  have hp : pendOf S m2 fs = dd fs := by
   unfold pendOf dd
   exact pend_dd fs [] fun b hb => lost_iff.mpr ⟨(obj H).mpr (hfs b hb), by rw [h2]; simp⟩
  have h3 : ∀ b, Sp.has m3 b = true ↔ Mk.Rch S Gr.cs (dd fs) b := fun b => by
   rw [hC.has3, hp, h2]; simp
  refine ⟨hp, ?_⟩
  rw [Bool.false_or]
  by_cases hd : 0 < (dd fs).length
  ·rw [decide_eq_true hd, if_pos rfl]
   obtain ⟨a, ha⟩ := List.exists_mem_of_length_pos hd
   have hal : a ∈ l := hfs a (by have := (dd_mem fs []).mp ha; simpa using this)
   exact (Mk.all_perm hnd fun b => by
    rw [h3]
    exact ⟨fun h => (obj H).mp h.obj, fun h => reach_all H hal h (.root ha ((obj H).mpr hal))⟩).length_eq
  ·rw [decide_eq_false hd, if_neg (by simp)]
   have e : dd fs = [] := List.eq_nil_of_length_eq_zero (by omega)
   rw [Mk.all_nil fun b hb => by
    have := (h3 b).mp hb
    rw [e] at this
    exact Mk.rch_nil this]
   rfl
end Ring
open Ring in
theorem law_procrings (n : Int) (z : Slc) (vs : List Int) (held : Int) (hn : 0 ≤ n ∧ n < 256) (hh : 0 ≤ held ∧ held < 256) (ro : RoS ρ z 1 (vs.map fun x => .int .u8 x)) (hb : ∀ x ∈ vs, (Lit.int .u8 x).wf = true) (hl : vs.length < 2 ^ 63) :
  Gl.Spec ρ Tryz.prog 10 [.int .u8 n, .slice z.a z.n z.c, .int .u8 held] [] RB fun r M => r = true ∧ M = [] := by
 refine Spec.of (fun Q w h => F.gloaminglaw18.ProcRings.calls n z held h) fun R => ?_
 unfold F.gloaminglaw18.ProcRings
 try simp only [lca, lna]
 have hb := u8_all hb
 have hzn := ro.len8
 refine en_call (g_graph ⟨none, 0, 0⟩ [] RoS.nil1 (by simp) (by simp)) tks ?_
 rintro x' M ⟨ph, q, rfl, rfl⟩
 try simp only [lca, lna]
 have H := Bx.start
 change Bx (Gr.graph []).1 Gr.cs 60 [] at H
 generalize (Gr.graph []).1 = S0 at *
 refine Tr.drop (A := SLc q 1 ((Gr.graph []).2.map i64)) tk ?_
 refine en_brf rfl (en_need (by decide) ?_)
 rw [wrap64 (n := n) (by omega) (by omega), Int.tmod_eq_emod_of_nonneg hn.1, wrap64 (n := 2 + n % 9) (by omega) (by omega), wrap64 (n := held) (by omega) (by omega), Int.tmod_eq_emod_of_nonneg hh.1, zcIn, zcOut]
 obtain ⟨K, hK, hK1, hK2⟩ : ∃ K : Nat, 2 + n % 9 = K ∧ 2 ≤ K ∧ K ≤ 10 := ⟨(2 + n % 9).toNat, by omega, by omega, by omega⟩
 rw [hK]
 refine Tr.nilSL 1 ?_
 refine en_lp (fun m u M => (fun (tl : Slc) (i : Int) => ∃ (S' : Spc) (l : List Int), M = SLc tl 1 (l.map i64) :: HeapA ph S' Gr.cs :: R ∧ 0 ≤ i ∧ i ≤ K ∧ m = K - i.toNat ∧ Bx S' Gr.cs 60 (l.map fun a => bx a 0) ∧ l.length = i.toNat) u.1 u.2.1) K ?_ ?_
 ·exact ⟨S0, [], rfl, by simp, by dsimp only; omega, by simp, H, rfl⟩
 ·rintro m ⟨(tl : Slc), (i : Int), ⟨⟩⟩ M ⟨S', l, rfl, i0, i1, rfl, H', hll⟩ X hX
  dsimp only at i0 i1 hll hX ⊢
  refine en_br (fun h => ?_) (fun h => ?_)
  ·replace h : i < (K : Int) := of_decide_eq_true h
   refine en_nw fun b4 => ?_
   refine Rd.bk (n := 1) (m := 1) (vs := ([0] : List Int).map i64) rfl tk fun ρ1 hle1 ro1 => ?_
   refine en_call (g_box ph S' Gr.cs 60 _ H' (by simp; omega) ⟨some ⟨b4, 0, none⟩, 1, 1⟩ [0] ro1 (by decide) (by decide)) tks ?_
   rintro a M ⟨S2, rfl, a0, H2⟩
   try simp only [lca, lna]
   refine en_appI (s := tl) (xs := l) appInt tk (by omega) fun r7 h7 => ?_
   refine en_getSL (s := r7) (xs := l ++ [a]) tk i0 (by simp; omega) ?_
   rw [← hll, Gr.getD_last]
   refine en_brf (by simpa using a0) ?_
   rw [wrap64 (n := i + 1) (by omega) (by omega)]
   refine tr_weak2 (Le.refl _) hle1 ?_
   refine hX (K - (i + 1).toNat) _ _ (by omega) ⟨S2, l ++ [a], rfl, by dsimp only; omega, by dsimp only; omega, rfl, ?_, by rw [List.length_append, List.length_singleton]; dsimp only; omega⟩
   rw [List.map_append]; exact H2
  ·replace h : ¬ i < (K : Int) := of_decide_eq_false h
   have hlK : l.length = K := by omega
   clear hX h i0 i1 hll i
   have hnd := H'.nodup
   rw [← part0, part_as] at hnd
   rw [← part0] at H'
   refine Tr.keepSL (s := tl) tk fun ρ1 hle1 hrl => ?_
   replace ro := ro.le hle1
   have hln := hrl.len
   refine en_lp (fun m u M => (fun (i : Int) => ∃ (S' : Spc), M = HeapA ph S' Gr.cs :: R ∧ 0 ≤ i ∧ i ≤ K ∧ m = K - i.toNat ∧ Bx S' Gr.cs 60 (Ring.part l i.toNat)) u.1) K ?_ ?_
   ·exact ⟨S', rfl, by simp, by dsimp only; omega, by simp, H'⟩
   ·clear H' S'
    rintro m ⟨(i : Int), ⟨⟩⟩ M ⟨S', rfl, i0, i1, rfl, H'⟩ X hX
    dsimp only at i0 i1 H' hX ⊢
    refine en_br (fun h => ?_) (fun h => ?_)
    ·replace h : i < (K : Int) := of_decide_eq_true h
     have hi : i.toNat < l.length := by omega
     refine en_drw ?_
     refine en_getRo hrl i0 (by omega) ?_
     refine en_need (by omega) ?_
     rw [wrap64 (n := i + 1) (by omega) (by omega), ix_mod (n := K) (by omega) (by omega)]
     have hlt : (i + 1).toNat % K < K := Nat.mod_lt _ (by omega)
     refine en_getRo hrl (by omega) (by omega) ?_
     rw [Int.toNat_natCast, show (i + 1).toNat = i.toNat + 1 by omega]
     obtain ⟨p1, p2⟩ := H'.put (i := i.toNat) (o := bx (l.getD i.toNat 0) (if i.toNat < i.toNat then l.getD ((i.toNat + 1) % l.length) 0 else 0)) (part_get hi) (k := 0) (show ((0 : Nat) : Int) < 1 by decide) (l.getD ((i.toNat + 1) % K) 0)
     refine en_call (object_put ph S' Gr.cs H'.hw (l.getD i.toNat 0) 0 (l.getD ((i.toNat + 1) % K) 0)) tks ?_
     rintro x' M ⟨rfl, rfl⟩
     try simp only [lca, lna]
     refine hX (K - (i + 1).toNat) _ _ (by omega) ⟨_, rfl, by dsimp only; omega, by dsimp only; omega, rfl, ?_⟩
     dsimp only
     rw [show (i + 1).toNat = i.toNat + 1 by omega, ← part_set hi, hlK]
     exact p2
    ·replace h : ¬ i < (K : Int) := of_decide_eq_false h
     have hiK : i.toNat = l.length := by omega
     rw [hiK] at H'
     clear hX h i0 i1 hiK i
     have hst : ∀ r ∈ refsOf S', r.2.2.2.2.1 < 9223372036854775808 := fun r hr => by
      have hr := H'.refs.mem_iff.mp hr
      obtain ⟨o, ho, e⟩ := List.mem_filterMap.mp hr
      obtain ⟨j, _, rfl⟩ := part_mem ho
      cases e
     refine en_nw fun b6 => ?_
     refine en_st (b := b6) (off := 0) rfl tk (by simp) rfl ?_
     refine Tr.take (A := blk b6 (inC ⟨⟨none, 0, 0⟩, ⟨none, 0, 0⟩, 0, 0, 0, false, 1⟩)) tk ?_
     refine en_jn (fun (u : LTs [.slice]) M => (fun (tw : Slc) => ∃ (fs : List Int) (sf : Slc), M = SLc tw 1 ((dd fs).map i64) :: SLc sf 1 (fs.map i64) :: blk b6 (inC ⟨⟨none, 0, 0⟩, sf, 0, 0, 0, false, 1⟩) :: HeapA ph S' Gr.cs :: R ∧ (∀ a ∈ fs, a ∈ l) ∧ fs.length ≤ 12) u.1) ?_ ?_
     ·rintro ⟨(tw : Slc), ⟨⟩⟩ M ⟨fs, sf, rfl, hfs, hfl⟩
      have hdl := dd_len fs []
      have hdl : (dd fs).length ≤ 12 := by unfold dd; simp at hdl; omega
      refine en_jn (fun (u : LTs [.slice]) M => (fun (tw' : Slc) => ∃ (ros : List Int) (sr : Slc), M = SLc tw' 1 ((if decide (held % 2 = 1) then [] else dd fs).map i64) :: SLc sr 1 (ros.map i64) :: SLc sf 1 (fs.map i64) :: blk b6 (inC ⟨sr, sf, 0, 0, 0, false, 1⟩) :: HeapA ph S' Gr.cs :: R ∧ (if decide (held % 2 = 1) then ∃ a ∈ l, ros = [a] else ros = [])) u.1) ?_ ?_
      ·rintro ⟨(tw' : Slc), ⟨⟩⟩ M ⟨ros, sr, rfl, hros⟩
       have hrol : ros.length ≤ 1 := by
        split at hros
        ·obtain ⟨_, _, rfl⟩ := hros; simp
        ·subst hros; simp
       refine en_ldg (b := b6) (off := 0) (x := inT ⟨sr, sf, 0, 0, 0, false, 1⟩) [] rfl tk rfl ?_
       refine Tr.keepSL (s := sr) tk fun ρ2 hle2 hro => Tr.keepSL (s := sf) tk fun ρ3 hle3 hfi => ?_
       replace hro := hro.le hle3
       refine en_call (proc_process ph S' Gr.cs H'.hw ⟨sr, sf, 0, 0, 0, false, 1⟩ ⟨show (0 : Int) < _ by decide, show (0 : Int) < _ by decide, show (0 : Int) < _ by decide⟩ ros fs hro hfi (by omega) (by omega) hst (show (1 : Int) ≤ 1 ∧ (1 : Int) ≤ 4096 by decide)) tks ?_
       rintro r12 M ⟨t1, t2, t3, t4, l9, m2, m3, rfl, hC, rfl⟩
       try simp only [lca, lna]
       obtain ⟨f1, f2, f3⟩ := out H' hnd hC (decide (held % 2 = 1)) hros hfs
       rw [f1, f2]
       refine en_nw fun b13 => ?_
       refine en_st (b := b13) (off := 0) rfl tk (by simp) rfl ?_
       refine Tr.take (A := blk b13 [.slice t1.a t1.n t1.c, .slice t2.a t2.n t2.c, .slice t3.a t3.n t3.c, .slice t4.a t4.n t4.c]) tk ?_
       refine Tr.nlen (s := t1) (xs := []) tk fun n1 => Tr.nlen (s := t4) (xs := Mk.all m3) tk fun n4 => Tr.nlen (s := tw') (xs := if decide (held % 2 = 1) then [] else dd fs) tk fun nw => ?_
       rw [f3, hlK] at n4
       refine Tr.keepSL (s := t3) tk fun ρ4 hle4 a3 => Tr.keepSL (s := tw') tk fun ρ5 hle5 aw => ?_
       replace a3 := a3.le hle5
       refine en_need (by decide) ?_
       refine en_br (fun h => ?_) (fun h => ?_)
       ·have h : held % 2 = 1 := eq_of_beq h
        rw [decide_eq_true h, if_pos rfl] at a3 aw
        rw [decide_eq_true h, Bool.true_or, if_pos rfl] at n4
        iterate 1
         refine en_call (law_err _) .nil ?_
         rintro x' M ⟨rfl, rfl⟩
         try simp only [lca, lna]
        refine en_brt rfl ?_
        refine en_ld (k := .slice) (b := b13) (off := 2) (x := t3) (by rw [fa_mk]) tk rfl ?_
        refine en_call (same_ints t3 tw' [] [] a3 aw (by simp)) tks ?_
        rintro x' M ⟨rfl, rfl⟩
        try simp only [lca, lna]
        refine en_brt (by simp) ?_
        refine en_ld (k := .slice) (b := b13) (off := 3) (x := t4) (by rw [fa_mk]) tk rfl ?_
        refine en_brt (by rw [n4]; simp) ?_
        refine en_ld (k := .slice) (b := b13) (off := 0) (x := t1) (by rw [fa_mk]) tk rfl ?_
        refine en_brt (by rw [n1]; rfl) ?_
        refine en_call (law_awake18) tks ?_
        rintro x' M ⟨rfl, rfl⟩
        try simp only [lca, lna]
        exact en_rets (x := true) rfl ⟨rfl, rfl⟩ tks ens
       ·have h : held % 2 ≠ 1 := by simpa using h
        rw [decide_eq_false h, if_neg (by simp)] at a3 aw nw
        rw [decide_eq_false h, Bool.false_or] at n4
        refine en_br (fun h2 => ?_) (fun h2 => ?_)
        ·have h2 : ((tw'.n : Nat) : Int) > 0 := of_decide_eq_true h2
         rw [decide_eq_true (by omega), if_pos rfl] at n4
         iterate 1
          refine en_call (law_err _) .nil ?_
          rintro x' M ⟨rfl, rfl⟩
          try simp only [lca, lna]
         refine en_brt rfl ?_
         refine en_ld (k := .slice) (b := b13) (off := 2) (x := t3) (by rw [fa_mk]) tk rfl ?_
         refine en_call (same_ints t3 tw' (dd fs) (dd fs) a3 aw (by omega)) tks ?_
         rintro x' M ⟨rfl, rfl⟩
         try simp only [lca, lna]
         refine en_brt (by simp) ?_
         refine en_ld (k := .slice) (b := b13) (off := 3) (x := t4) (by rw [fa_mk]) tk rfl ?_
         refine en_brt (by rw [n4]; simp) ?_
         refine en_ld (k := .slice) (b := b13) (off := 0) (x := t1) (by rw [fa_mk]) tk rfl ?_
         refine en_brt (by rw [n1]; rfl) ?_
         refine en_call (law_awake18) tks ?_
         rintro x' M ⟨rfl, rfl⟩
         try simp only [lca, lna]
         exact en_rets (x := true) rfl ⟨rfl, rfl⟩ tks ens
        ·have h2 : ¬ ((tw'.n : Nat) : Int) > 0 := of_decide_eq_false h2
         rw [decide_eq_false (by omega), if_neg (by simp)] at n4
         iterate 1
          refine en_call (law_err _) .nil ?_
          rintro x' M ⟨rfl, rfl⟩
          try simp only [lca, lna]
         refine en_brt rfl ?_
         refine en_ld (k := .slice) (b := b13) (off := 2) (x := t3) (by rw [fa_mk]) tk rfl ?_
         refine en_call (same_ints t3 tw' (dd fs) (dd fs) a3 aw (by omega)) tks ?_
         rintro x' M ⟨rfl, rfl⟩
         try simp only [lca, lna]
         refine en_brt (by simp) ?_
         refine en_ld (k := .slice) (b := b13) (off := 3) (x := t4) (by rw [fa_mk]) tk rfl ?_
         refine en_brt (by rw [n4]; rfl) ?_
         refine en_ld (k := .slice) (b := b13) (off := 0) (x := t1) (by rw [fa_mk]) tk rfl ?_
         refine en_brt (by rw [n1]; rfl) ?_
         refine en_call (law_awake18) tks ?_
         rintro x' M ⟨rfl, rfl⟩
         try simp only [lca, lna]
         exact en_rets (x := true) rfl ⟨rfl, rfl⟩ tks ens
      ·intro J hJ
       refine en_need (by decide) ?_
       refine en_br (fun h => ?_) (fun h => ?_)
       ·have h : held % 2 = 1 := eq_of_beq h
        refine en_need (by omega) ?_
        rw [ix_mod (n := K) hh.1 (by omega)]
        have hlt : held.toNat % K < K := Nat.mod_lt _ (by omega)
        refine en_getRo hrl (by omega) (by omega) ?_
        rw [Int.toNat_natCast]
        have hain : l.getD (held.toNat % K) 0 ∈ l := Ring.getD_in (by omega)
        generalize l.getD (held.toNat % K) 0 = a at *
        refine en_nw fun b17 => ?_
        refine Tr.imp (A := blk b17 (([a] : List Int).map i64)) (A' := SLc ⟨some ⟨b17, 0, none⟩, 1, 1⟩ 1 (([a] : List Int).map i64)) tk (SLc.of_cl rfl) ?_
        refine en_st (b := b6) (off := 0) rfl tk (by simp) rfl ?_
        refine Tr.drop (A := SLc tw 1 ((dd fs).map i64)) tk (Tr.nilSL 1 ?_)
        refine Tr.take (A := blk b6 (inC ⟨⟨some ⟨b17, 0, none⟩, 1, 1⟩, sf, 0, 0, 0, false, 1⟩)) tk (Tr.take (A := SLc sf 1 (fs.map i64)) tk (Tr.take (A := SLc ⟨some ⟨b17, 0, none⟩, 1, 1⟩ 1 (([a] : List Int).map i64)) tk (Tr.take (A := SLc ⟨none, 0, 0⟩ 1 []) tk ?_)))
        exact hJ (⟨none, 0, 0⟩, ()) _ ⟨[a], ⟨some ⟨b17, 0, none⟩, 1, 1⟩, by rw [decide_eq_true h, if_pos rfl]; rfl, by rw [decide_eq_true h, if_pos rfl]; exact ⟨a, hain, rfl⟩⟩
       ·have h : held % 2 ≠ 1 := by simpa using h
        refine Tr.nilSL 1 ?_
        refine Tr.take (A := blk b6 (inC ⟨⟨none, 0, 0⟩, sf, 0, 0, 0, false, 1⟩)) tk (Tr.take (A := SLc sf 1 (fs.map i64)) tk (Tr.take (A := SLc ⟨none, 0, 0⟩ 1 []) tk (Tr.take (A := SLc tw 1 ((dd fs).map i64)) tk ?_)))
        exact hJ (tw, ()) _ ⟨[], ⟨none, 0, 0⟩, by rw [decide_eq_false h, if_neg (by simp)]; rfl, by rw [decide_eq_false h, if_neg (by simp)]⟩
     ·intro J hJ
      refine Tr.nilSL 1 (Tr.nilSL 1 ?_)
      refine en_lp (fun m u M => (fun (tw : Slc) (i : Int) => ∃ (fs : List Int) (sf : Slc), M = SLc tw 1 ((dd fs).map i64) :: SLc sf 1 (fs.map i64) :: blk b6 (inC ⟨⟨none, 0, 0⟩, sf, 0, 0, 0, false, 1⟩) :: HeapA ph S' Gr.cs :: R ∧ 0 ≤ i ∧ i ≤ 12 ∧ m = 12 - i.toNat ∧ (∀ a ∈ fs, a ∈ l) ∧ fs.length = i.toNat) u.1 u.2.1) 12 ?_ ?_
      ·exact ⟨[], ⟨none, 0, 0⟩, rfl, by simp, by simp, by simp, by simp, rfl⟩
      ·rintro m ⟨(tw : Slc), (i : Int), ⟨⟩⟩ M ⟨fs, sf, rfl, i0, i1, rfl, hfs, hfl⟩ X hX
       dsimp only at i0 i1 hfl hX ⊢
       have hdl := dd_len fs []
       have hdl : (dd fs).length ≤ 12 := by unfold dd; simp at hdl; omega
       refine en_br (fun h => ?_) (fun h => hJ (tw, ()) _ ⟨fs, sf, rfl, hfs, by omega⟩)
       replace h : i < (z.n : Int) := of_decide_eq_true h
       refine en_br (fun h2 => ?_) (fun h2 => hJ (tw, ()) _ ⟨fs, sf, rfl, hfs, by omega⟩)
       replace h2 : i < 12 := of_decide_eq_true h2
       refine en_getU8 ro i0 (by omega) ?_
       have hv := u8_getD hb i.toNat
       generalize vs.getD i.toNat 0 = v at *
       refine en_need (by omega) ?_
       rw [wrap64 (n := v) (by omega) (by omega), ix_mod (n := K) hv.1 (by omega), wrap64 (n := i + 1) (by omega) (by omega)]
       have hlt : v.toNat % K < K := Nat.mod_lt _ (by omega)
       refine en_getRo hrl (by omega) (by omega) ?_
       rw [Int.toNat_natCast]
       have hain : l.getD (v.toNat % K) 0 ∈ l := Ring.getD_in (by omega)
       generalize l.getD (v.toNat % K) 0 = a at *
       refine en_ld (k := .slice) (b := b6) (off := 1) (x := sf) (by rw [fa_mk]) tk rfl ?_
       refine en_appI (s := sf) (xs := fs) appInt tk (by omega) fun r23 h23 => ?_
       refine en_st (b := b6) (off := 1) rfl tk (by simp) rfl ?_
       refine Tr.take (A := blk b6 (inC ⟨⟨none, 0, 0⟩, r23, 0, 0, 0, false, 1⟩)) tk ?_
       refine Tr.nlen (s := tw) (xs := dd fs) tk fun htw => ?_
       refine en_call (Spec.own (s := tw) (xs := (dd fs).map i64) (A := []) fun ρ' _ hro' => ref_in tw (dd fs) hro' (by omega) a) tks ?_
       rintro x' M ⟨M', ⟨rfl, rfl⟩, rfl⟩
       try simp only [lca, lna]
       have hdd : dd (fs ++ [a]) = dd1 (dd fs) a := by unfold dd; rw [List.foldl_append]; rfl
       have go : ∀ tw' : Slc, Tr ρ ρ1 (SLc tw' 1 ((dd (fs ++ [a])).map i64) :: SLc r23 1 ((fs ++ [a]).map i64) :: blk b6 (inC ⟨⟨none, 0, 0⟩, r23, 0, 0, 0, false, 1⟩) :: HeapA ph S' Gr.cs :: R) (X (tw', i + 1, ())) (SP RB (fun r M => r = true ∧ M = []) R) := fun tw' =>
        hX (12 - (i + 1).toNat) _ _ (by omega) ⟨fs ++ [a], r23, rfl, by dsimp only; omega, by dsimp only; omega, rfl, fun b hb => by
         rcases List.mem_append.mp hb with hb | hb
         ·exact hfs b hb
         ·rw [List.mem_singleton] at hb; rw [hb]; exact hain, by rw [List.length_append, List.length_singleton]; dsimp only; omega⟩
       rw [hdd] at go
       unfold dd1 at go
       refine en_br (fun h3 => ?_) (fun h3 => ?_)
       ·have h3 : a ∉ dd fs := by simpa using h3
        rw [if_neg h3] at go
        refine en_appI (s := tw) (xs := dd fs) appInt tk (by omega) fun r26 h26 => ?_
        refine Tr.take (A := blk b6 (inC ⟨⟨none, 0, 0⟩, r23, 0, 0, 0, false, 1⟩)) tk (Tr.take (A := SLc r23 1 ((fs ++ [a]).map i64)) tk (Tr.take (A := SLc r26 1 ((dd fs ++ [a]).map i64)) tk ?_))
        exact go r26
       ·have h3 : a ∈ dd fs := by simpa using h3
        rw [if_pos h3] at go
        refine Tr.take (A := blk b6 (inC ⟨⟨none, 0, 0⟩, r23, 0, 0, 0, false, 1⟩)) tk (Tr.take (A := SLc r23 1 ((fs ++ [a]).map i64)) tk (Tr.take (A := SLc tw 1 ((dd fs).map i64)) tk ?_))
        exact go tw
end Go.Proofs.YtpefngbfgjfcgaaGreat
