/- ProcOrder. -/
import Derived.Test.YtpefngbfgjfcgaaGreatGsFlat
import Derived.Test.YtpefngbfgjfcgaaGreatGsTxProcOrder
set_option linter.unusedSimpArgs false
set_option linter.unusedVariables false
namespace Go.Proofs.YtpefngbfgjfcgaaGreat
open Go Go.Gl
variable {ρ0 ρ : FR} {L L' : List Asn} {Post : Value → List Asn → Prop} {T : Tree}
namespace Order
def rob (o : Int) (r : Rf6) : Ob1 := ⟨r.1, ⟨4, r.2.1, 5, false⟩, [o, r.2.2.2.1, 0, 0, key6 r]⟩
def box (o : Int) : Ob1 := ⟨o, ⟨2, 0, 1, false⟩, [0]⟩
abbrev at6 (r : Rf6) : Int := r.1
def isP (r : Rf6) : Bool := r.2.1 == 3
structure Rs (o : Int) (rs : List Rf6) (roots : List Int) (i : Int) : Prop where
 one : ∀ r ∈ rs, (r.2.1 = 1 ∨ r.2.1 = 2 ∨ r.2.1 = 3) ∧ r.2.2.1 = o ∧ r.2.2.2.2.1 = 0 ∧ 50 - i < key6 r
 srt : rs.Pairwise fun a b => key6 b < key6 a
 root : ∀ a ∈ roots, ∃ r ∈ rs, r.1 = a
 nd : roots.Nodup
theorem refs_of {o : Int} {rs : List Rf6} (h : ∀ r ∈ rs, r.2.2.1 = o ∧ r.2.2.2.2.1 = 0) : (rs.map (rob o)).filterMap ref1 = rs := by
 induction rs with
 | nil => rfl
 | cons r rs ih =>
  obtain ⟨e1, e2⟩ := h r (.head _)
  have : ref1 (rob o r) = some r := by
   obtain ⟨r1, r2, r3, r4, r5, r6, ⟨⟩⟩ := r
   dsimp only at e1 e2
   subst e1 e2
   rfl
  rw [List.map_cons, List.filterMap_cons, this, ih fun r hr => h r (.tail _ hr)]
theorem out {S : Spc} {o : Int} {rs : List Rf6} {roots : List Int} {i : Int} (H : Bx S Gr.cs 60 (box o :: rs.map (rob o))) (hR : Rs o rs roots i) {x : In7} (hx : x.clock = 7 ∧ x.free = 0 ∧ x.rate = 0) {l : List Rf6} {m2 m3 : List Bool} (hC : Coll S Gr.cs x roots [] l m2 m3) :
  clrOf S m2 m3 l = ((rs.filter fun r => !isP r).map at6).reverse ++ ((rs.filter isP).map at6).reverse ∧ (∀ a, Sp.has m3 a = true ↔ a ∈ roots) ∧ (Mk.all m3).length = roots.length := by
 have hrf : (box o :: rs.map (rob o)).filterMap ref1 = rs := by
  rw [List.filterMap_cons, show ref1 (box o) = none from rfl]
  exact refs_of fun r hr => ⟨(hR.one r hr).2.1, (hR.one r hr).2.2.1⟩
 have hl : l = rs.reverse := H.l_is hC (lr := rs.reverse) (by rw [hrf]; exact List.reverse_perm _) (by rw [List.pairwise_reverse]; exact hR.srt)
 subst hl
 have hnd := H.nodup
 rw [List.map_cons, List.nodup_cons, List.map_map] at hnd
 have hflat : Flat S Gr.cs := H.flat (fun y hy => by
  rcases List.mem_cons.mp hy with rfl | hy
  ·exact (show (2 : Int) ≠ 1 by decide)
  ·obtain ⟨r, _, rfl⟩ := List.mem_map.mp hy
   exact (show (4 : Int) ≠ 1 by decide)) (fun y hy => by
  rcases List.mem_cons.mp hy with rfl | hy
  ·simp [box, Bx.kidsO]
  ·obtain ⟨r, _, rfl⟩ := List.mem_map.mp hy
   simp [rob, Bx.kidsO])
 have oo : Mk.obj S o := H.obj.mpr ⟨box o, .head _, rfl⟩
 have hor : ∀ r ∈ rs, r.1 ≠ o := fun r hr e => hnd.1 (List.mem_map.mpr ⟨r, hr, e⟩)
 have hoo : o ∉ roots := fun h => by
  obtain ⟨r, hr, e⟩ := hR.root o h
  exact hor r hr e
 have h2 : ∀ a, Sp.has m2 a = true ↔ a ∈ roots := fun a => by
  rw [hC.has2, soft_flat hflat]
  constructor
  ·rintro (⟨h, _⟩ | ⟨r, hr, _, _, _, h4, _, _⟩)
   ·exact h
   ·obtain ⟨e1, e2, e3⟩ := hx
    have hr' := List.mem_reverse.mp (hC.perm.mem_iff.mpr hr)
    rw [e1, e2, e3, (hR.one r hr').2.2.1] at h4
    exact absurd h4 (by decide)
  ·intro h
   obtain ⟨r, hr, e⟩ := hR.root a h
   exact .inl ⟨h, H.obj.mpr ⟨rob o r, .tail _ (List.mem_map.mpr ⟨r, hr, rfl⟩), e⟩⟩
 have h3 : ∀ a, Sp.has m3 a = true ↔ a ∈ roots := fun a => by
  rw [hC.has3, h2]
  exact ⟨fun h => h.elim id fun h => absurd h Mk.rch_nil, .inl⟩
 have hlost : ∀ m : List Bool, (∀ a, Sp.has m a = true ↔ a ∈ roots) → ∀ r ∈ rs, lostB S m r = true := fun m hm r hr => by
  rw [lost_iff, (hR.one r hr).2.1, hm]
  exact ⟨oo, hoo⟩
 refine ⟨?_, h3, (Mk.all_perm hR.nd h3).length_eq⟩
 unfold clrOf clearOf
 rw [List.filter_reverse, List.filter_reverse, List.map_reverse, List.map_reverse]
 have e1 : (rs.filter fun r => decide (r.2.1 ∈ [1, 2]) && lostB S m2 r) = rs.filter fun r => !isP r := List.filter_congr fun r hr => by
  rw [hlost m2 h2 r hr, Bool.and_true]
  unfold isP
  rcases (hR.one r hr).1 with e | e | e <;> rw [e] <;> decide
 have e2 : (rs.filter fun r => decide (r.2.1 ∈ [3]) && lostB S m3 r) = rs.filter isP := List.filter_congr fun r hr => by
  rw [hlost m3 h3 r hr, Bool.and_true]
  unfold isP
  rcases (hR.one r hr).1 with e | e | e <;> rw [e] <;> decide
 rw [e1, e2]
theorem Rs.add {S : Spc} {o : Int} {rs : List Rf6} {roots : List Int} {i : Int} (hR : Rs o rs roots i) {a k q : Int} (hk : k = 1 ∨ k = 2 ∨ k = 3) (H : Bx S Gr.cs 60 (box o :: (rs ++ [(a, k, o, q, 0, 50 - i, ())]).map (rob o))) (live : Bool) :
  Rs o (rs ++ [(a, k, o, q, 0, 50 - i, ())]) (roots ++ if live then [a] else []) (i + 1) := by
 have hnd := H.nodup
 rw [List.map_cons, List.nodup_cons, List.map_map, List.map_append, List.nodup_append] at hnd
 refine ⟨fun r hr => ?_, ?_, fun c hc => ?_, ?_⟩
 ·rcases List.mem_append.mp hr with hr | hr
  ·obtain ⟨h1, h2, h3, h4⟩ := hR.one r hr
   exact ⟨h1, h2, h3, by omega⟩
  ·rw [List.mem_singleton] at hr
   subst hr
   exact ⟨hk, rfl, rfl, show 50 - (i + 1) < 50 - i by omega⟩
 ·rw [List.pairwise_append]
  refine ⟨hR.srt, by simp, fun r hr r' hr' => ?_⟩
  rw [List.mem_singleton] at hr'
  subst hr'
  exact (hR.one r hr).2.2.2
 ·rcases List.mem_append.mp hc with hc | hc
  ·obtain ⟨r, hr, e⟩ := hR.root c hc
   exact ⟨r, List.mem_append_left _ hr, e⟩
  ·cases live with
   | true => rw [if_pos rfl, List.mem_singleton] at hc; exact ⟨(a, k, o, q, 0, 50 - i, ()), by simp, hc.symm⟩
   | false => simp at hc
 ·rw [List.nodup_append]
  refine ⟨hR.nd, by cases live <;> simp, fun c hc d hd e => ?_⟩
  cases live with
  | false => simp at hd
  | true =>
   rw [if_pos rfl, List.mem_singleton] at hd
   obtain ⟨r, hr, e2⟩ := hR.root c hc
   exact hnd.2.2.2 r.1 (List.mem_map.mpr ⟨r, hr, rfl⟩) a (by simp [rob]) (by rw [e2, e, hd])
end Order
open Order in
theorem law_procorder (s : Slc) (ns : List Int) (ro : RoS ρ s 1 (ns.map fun x => .int .u8 x)) (hb : ∀ x ∈ ns, (Lit.int .u8 x).wf = true) (hl : ns.length < 2 ^ 63) :
  Gl.Spec ρ Tryz.prog 9 [.slice s.a s.n s.c] [] RB fun r M => r = true ∧ M = [] := by
 refine Spec.of (fun Q w h => F.gloaminglaw18.ProcOrder.calls s h) fun R => ?_
 unfold F.gloaminglaw18.ProcOrder
 try simp only [lca, lna]
 have hb := u8_all hb
 have hsn := ro.len8
 refine en_call (g_graph ⟨none, 0, 0⟩ [] RoS.nil1 (by simp) (by simp)) tks ?_
 rintro x' M ⟨ph, q, rfl, rfl⟩
 try simp only [lca, lna]
 have H := Bx.start
 change Bx (Gr.graph []).1 Gr.cs 60 [] at H
 generalize (Gr.graph []).1 = S0 at *
 refine Tr.drop (A := SLc q 1 ((Gr.graph []).2.map i64)) tk ?_
 refine en_brf rfl ?_
 refine en_nw fun b2 => ?_
 refine Rd.bk (n := 1) (m := 1) (vs := ([0] : List Int).map i64) rfl tk fun ρ1 hle1 ro1 => ?_
 refine en_call (g_box ph S0 Gr.cs 60 [] H (by decide) ⟨some ⟨b2, 0, none⟩, 1, 1⟩ [0] ro1 (by decide) (by decide)) tks ?_
 rintro o M ⟨S1, rfl, o0, H1⟩
 try simp only [lca, lna]
 replace ro := ro.le hle1
 have hK1 : (if (10 : Int) < (s.n : Nat) then (10 : Int) else (s.n : Nat)) ≤ 10 := by split <;> omega
 have hK2 : (if (10 : Int) < (s.n : Nat) then (10 : Int) else (s.n : Nat)) ≤ ns.length := by split <;> omega
 have hK0 : 0 ≤ (if (10 : Int) < (s.n : Nat) then (10 : Int) else (s.n : Nat)) := by split <;> omega
 generalize (if (10 : Int) < (s.n : Nat) then (10 : Int) else (s.n : Nat)) = K at *
 refine Tr.nilSL 1 (Tr.nilSL 1 (Tr.nilSL 1 ?_))
 refine en_lp (fun n u M => (fun (tr tf tl : Slc) (i : Int) => ∃ (S' : Spc) (rs : List Rf6) (roots : List Int), M = SLc tr 1 (roots.map i64) :: SLc tf 1 ((((rs.filter fun r => !isP r).map at6).reverse).map i64) :: SLc tl 1 ((((rs.filter isP).map at6).reverse).map i64) :: HeapA ph S' Gr.cs :: R ∧ 0 ≤ i ∧ i ≤ K ∧ n = K.toNat - i.toNat ∧ Bx S' Gr.cs 60 (box o :: rs.map (rob o)) ∧ rs.length = i.toNat ∧ Rs o rs roots i) u.1 u.2.1 u.2.2.1 u.2.2.2.1) K.toNat ?_ ?_
 ·exact ⟨S1, [], [], rfl, by simp, by dsimp only; omega, by simp, H1, rfl, ⟨by simp, .nil, by simp, .nil⟩⟩
 ·rintro n ⟨(tr : Slc), (tf : Slc), (tl : Slc), (i : Int), ⟨⟩⟩ M ⟨S', rs, roots, rfl, i0, i1, rfl, H', hrl, hR⟩ X hX
  dsimp only at i0 i1 hrl hR hX ⊢
  have hf1 := Nat.le_trans (List.length_filter_le (fun r => !isP r) rs) (Nat.le_of_eq hrl)
  have hf2 := Nat.le_trans (List.length_filter_le isP rs) (Nat.le_of_eq hrl)
  have hrl2 : roots.length ≤ rs.length := by
   have : roots ⊆ rs.map at6 := fun a ha => by
    obtain ⟨r, hr, e⟩ := hR.root a ha
    exact List.mem_map.mpr ⟨r, hr, e⟩
   have := hR.nd.length_le_of_subset this
   simpa using this
  refine Tr.nlen (s := tr) (xs := roots) tk fun htr => ?_
  refine Tr.nlen (s := tf) (xs := ((rs.filter fun r => !isP r).map at6).reverse) tk fun htf => ?_
  refine Tr.nlen (s := tl) (xs := ((rs.filter isP).map at6).reverse) tk fun htl => ?_
  rw [List.length_reverse, List.length_map] at htf htl
  refine en_br (fun h => ?_) (fun h => ?_)
  ·replace h : i < K := of_decide_eq_true h
   refine en_getU8 ro i0 (by omega) ?_
   refine en_need (by decide) ?_
   refine en_getU8 ro i0 (by omega) ?_
   refine en_need (by decide) (en_need (by decide) ?_)
   have hv := u8_getD hb i.toNat
   generalize hgv : ns.getD i.toNat 0 = v at *
   have e1 : IntKind.wrap .i64 v = v := wrap64 (by omega) (by omega)
   have e2 : Int.tdiv v 4 = v / 4 := Int.tdiv_eq_ediv_of_nonneg hv.1
   have e3 : IntKind.wrap .i64 (v / 4) = v / 4 := wrap64 (by omega) (by omega)
   have e4 : Int.tmod (v / 4) 3 = v / 4 % 3 := Int.tmod_eq_emod_of_nonneg (by omega)
   have e5 : Int.tmod v 3 = v % 3 := Int.tmod_eq_emod_of_nonneg hv.1
   rw [e1, e2, e3, e4, e5, wrap64 (n := 1 + v % 3) (by omega) (by omega), wrap64 (n := v / 4 % 3 - 1) (by omega) (by omega), wrap64 (n := 50 - i) (by omega) (by omega), wrap64 (n := i + 1) (by omega) (by omega)]
   have hk : 1 + v % 3 = 1 ∨ 1 + v % 3 = 2 ∨ 1 + v % 3 = 3 := by omega
   generalize 1 + v % 3 = k at *
   generalize v / 4 % 3 - 1 = qq at *
   refine en_call (g_refer ph S' Gr.cs 60 _ H' (by simp; omega) k o qq 0 (50 - i) (by omega) (by omega)) tks ?_
   rintro a M ⟨S2, rfl, a0, H2⟩
   try simp only [lca, lna]
   refine en_brf (by simpa using a0) ?_
   refine en_getU8 ro i0 (by omega) ?_
   rw [hgv]
   replace H2 : Bx S2 Gr.cs 60 (box o :: (rs ++ [(a, k, o, qq, 0, 50 - i, ())]).map (rob o)) := by
    rw [List.map_append]; exact H2
   have hstep : ∀ g : Rf6 → Bool, (((rs ++ [(a, k, o, qq, 0, 50 - i, ())]).filter g).map at6).reverse = (if g (a, k, o, qq, 0, 50 - i, ()) then [a] else []) ++ ((rs.filter g).map at6).reverse := fun g => by
    rw [List.filter_append, List.map_append, List.reverse_append]
    congr 1
    cases hg : g (a, k, o, qq, 0, 50 - i, ()) <;> simp [List.filter_cons, hg]
   have go : ∀ (tr' tf' tl' : Slc) (live : Bool), Tr ρ ρ1 (SLc tr' 1 ((roots ++ if live then [a] else []).map i64) :: SLc tf' 1 ((((rs ++ [(a, k, o, qq, 0, 50 - i, ())]).filter fun r => !isP r).map at6).reverse.map i64) :: SLc tl' 1 ((((rs ++ [(a, k, o, qq, 0, 50 - i, ())]).filter isP).map at6).reverse.map i64) :: HeapA ph S2 Gr.cs :: R) (X (tr', tf', tl', i + 1, ())) (SP RB (fun r M => r = true ∧ M = []) R) := fun tr' tf' tl' live =>
    hX (K.toNat - (i + 1).toNat) _ _ (by omega) ⟨S2, _, _, rfl, by dsimp only; omega, by dsimp only; omega, rfl, H2, by rw [List.length_append, List.length_singleton]; dsimp only; omega, hR.add hk H2 live⟩
   rw [hstep, hstep] at go
   have hP : isP (a, k, o, qq, 0, 50 - i, ()) = (k == 3) := rfl
   rw [hP] at go
   refine en_br (fun h64 => ?_) (fun h64 => ?_)
   ·refine en_appI (s := tr) (xs := roots) appInt tk (by omega) fun r14 h14 => ?_
    refine en_br (fun h3 => ?_) (fun h3 => ?_)
    ·refine en_nw fun b15 => ?_
     refine Tr.imp (A := blk b15 (([a] : List Int).map i64)) (A' := SLc ⟨some ⟨b15, 0, none⟩, 1, 1⟩ 1 (([a] : List Int).map i64)) tk (SLc.of_cl rfl) ?_
     refine en_appS (s := ⟨some ⟨b15, 0, none⟩, 1, 1⟩) (x := tl) (xs := [a]) (ys := ((rs.filter isP).map at6).reverse) appInt tk (Rd.sl tk (by simp [htl])) (by rw [List.length_reverse, List.length_map, List.length_singleton]; omega) fun r16 h16 => ?_
     refine Tr.drop (A := SLc tl 1 ((((rs.filter isP).map at6).reverse).map i64)) tk ?_
     refine Tr.take (A := HeapA ph S2 Gr.cs) tk (Tr.take (A := SLc r16 1 (([a] ++ ((rs.filter isP).map at6).reverse).map i64)) tk (Tr.take (A := SLc tf 1 ((((rs.filter fun r => !isP r).map at6).reverse).map i64)) tk (Tr.take (A := SLc r14 1 ((roots ++ [a]).map i64)) tk ?_)))
     have := go r14 tf r16 true
     rw [h3] at this
     exact this
    ·refine en_nw fun b15 => ?_
     refine Tr.imp (A := blk b15 (([a] : List Int).map i64)) (A' := SLc ⟨some ⟨b15, 0, none⟩, 1, 1⟩ 1 (([a] : List Int).map i64)) tk (SLc.of_cl rfl) ?_
     refine en_appS (s := ⟨some ⟨b15, 0, none⟩, 1, 1⟩) (x := tf) (xs := [a]) (ys := ((rs.filter fun r => !isP r).map at6).reverse) appInt tk (Rd.sl tk (by simp [htf])) (by rw [List.length_reverse, List.length_map, List.length_singleton]; omega) fun r16 h16 => ?_
     refine Tr.drop (A := SLc tf 1 ((((rs.filter fun r => !isP r).map at6).reverse).map i64)) tk ?_
     refine Tr.take (A := HeapA ph S2 Gr.cs) tk (Tr.take (A := SLc tl 1 ((((rs.filter isP).map at6).reverse).map i64)) tk (Tr.take (A := SLc r16 1 (([a] ++ ((rs.filter fun r => !isP r).map at6).reverse).map i64)) tk (Tr.take (A := SLc r14 1 ((roots ++ [a]).map i64)) tk ?_)))
     have := go r14 r16 tl true
     rw [h3] at this
     exact this
   ·refine en_br (fun h3 => ?_) (fun h3 => ?_)
    ·refine en_nw fun b15 => ?_
     refine Tr.imp (A := blk b15 (([a] : List Int).map i64)) (A' := SLc ⟨some ⟨b15, 0, none⟩, 1, 1⟩ 1 (([a] : List Int).map i64)) tk (SLc.of_cl rfl) ?_
     refine en_appS (s := ⟨some ⟨b15, 0, none⟩, 1, 1⟩) (x := tl) (xs := [a]) (ys := ((rs.filter isP).map at6).reverse) appInt tk (Rd.sl tk (by simp [htl])) (by rw [List.length_reverse, List.length_map, List.length_singleton]; omega) fun r16 h16 => ?_
     refine Tr.drop (A := SLc tl 1 ((((rs.filter isP).map at6).reverse).map i64)) tk ?_
     refine Tr.take (A := HeapA ph S2 Gr.cs) tk (Tr.take (A := SLc r16 1 (([a] ++ ((rs.filter isP).map at6).reverse).map i64)) tk (Tr.take (A := SLc tf 1 ((((rs.filter fun r => !isP r).map at6).reverse).map i64)) tk (Tr.take (A := SLc tr 1 (roots.map i64)) tk ?_)))
     have := go tr tf r16 false
     rw [h3, if_neg (by simp), List.append_nil] at this
     exact this
    ·refine en_nw fun b15 => ?_
     refine Tr.imp (A := blk b15 (([a] : List Int).map i64)) (A' := SLc ⟨some ⟨b15, 0, none⟩, 1, 1⟩ 1 (([a] : List Int).map i64)) tk (SLc.of_cl rfl) ?_
     refine en_appS (s := ⟨some ⟨b15, 0, none⟩, 1, 1⟩) (x := tf) (xs := [a]) (ys := ((rs.filter fun r => !isP r).map at6).reverse) appInt tk (Rd.sl tk (by simp [htf])) (by rw [List.length_reverse, List.length_map, List.length_singleton]; omega) fun r16 h16 => ?_
     refine Tr.drop (A := SLc tf 1 ((((rs.filter fun r => !isP r).map at6).reverse).map i64)) tk ?_
     refine Tr.take (A := HeapA ph S2 Gr.cs) tk (Tr.take (A := SLc tl 1 ((((rs.filter isP).map at6).reverse).map i64)) tk (Tr.take (A := SLc r16 1 (([a] ++ ((rs.filter fun r => !isP r).map at6).reverse).map i64)) tk (Tr.take (A := SLc tr 1 (roots.map i64)) tk ?_)))
     have := go tr r16 tl false
     rw [h3] at this
     simp only [Bool.false_eq_true, if_false, List.append_nil] at this
     exact this
  ·clear hX
   have hst : ∀ r ∈ refsOf S', r.2.2.2.2.1 < 9223372036854775808 := fun r hr => by
    have hr := H'.refs.mem_iff.mp hr
    rw [List.filterMap_cons, show ref1 (box o) = none from rfl] at hr
    replace hr : r ∈ (rs.map (rob o)).filterMap ref1 := hr
    rw [refs_of fun r hr => ⟨(hR.one r hr).2.1, (hR.one r hr).2.2.1⟩] at hr
    rw [(hR.one r hr).2.2.1]; decide
   refine Tr.keepSL (s := tr) tk fun ρ2 hle2 hro => ?_
   refine en_call (proc_process ph S' Gr.cs H'.hw ⟨tr, ⟨none, 0, 0⟩, 7, 0, 0, false, 2⟩ ⟨show (7 : Int) < _ by decide, show (0 : Int) < _ by decide, show (0 : Int) < _ by decide⟩ roots [] hro RoS.nil1 (by omega) (by simp) hst (show (1 : Int) ≤ 2 ∧ (2 : Int) ≤ 4096 by decide)) tks ?_
   rintro r6 M ⟨t1, t2, t3, t4, l, m2, m3, rfl, hC, rfl⟩
   try simp only [lca, lna]
   obtain ⟨f1, f2, f3⟩ := out H' hR ⟨rfl, rfl, rfl⟩ hC
   rw [f1]
   have hA1 : (((rs.filter fun r => !isP r).map at6).reverse).length ≤ 10 := by rw [List.length_reverse, List.length_map]; omega
   have hA2 : (((rs.filter isP).map at6).reverse).length ≤ 10 := by rw [List.length_reverse, List.length_map]; omega
   generalize ((rs.filter fun r => !isP r).map at6).reverse = A1 at *
   generalize ((rs.filter isP).map at6).reverse = A2 at *
   refine Tr.nlen (s := tf) (xs := A1) tk fun n1 => Tr.nlen (s := tl) (xs := A2) tk fun n2 => Tr.nlen (s := t4) (xs := Mk.all m3) tk fun n4 => ?_
   rw [f3] at n4
   refine en_nw fun b7 => ?_
   rw [zcOut]
   refine en_st (b := b7) (off := 0) rfl tk (by simp) rfl ?_
   refine Tr.take (A := blk b7 [.slice t1.a t1.n t1.c, .slice t2.a t2.n t2.c, .slice t3.a t3.n t3.c, .slice t4.a t4.n t4.c]) tk ?_
   refine en_nw fun b8 => ?_
   refine Tr.imp (A := blk b8 []) (A' := SLc ⟨some ⟨b8, 0, none⟩, 0, 0⟩ 1 (([] : List Int).map i64)) tk (SLc.emp b8 1) ?_
   refine en_appS (s := ⟨some ⟨b8, 0, none⟩, 0, 0⟩) (x := tf) (xs := []) (ys := A1) appInt tk (Rd.sl tk (by simp [n1])) (by rw [List.length_nil]; omega) fun r9 h9 => ?_
   rw [List.nil_append]
   refine en_appS (s := r9) (x := tl) (xs := A1) (ys := A2) appInt tk (Rd.sl tk (by simp [n2])) (by omega) fun r10 h10 => ?_
   refine Tr.keepSL (s := r10) tk fun ρ3 hle3 hr10 => Tr.keepSL (s := t1) tk fun ρ4 hle4 g1 => Tr.keepSL (s := t2) tk fun ρ5 hle5 g2 => ?_
   have q3 := hle4.trans hle5
   replace hr10 := hr10.le q3
   replace g1 := g1.le hle5
   replace hro := (hro.le hle3).le q3
   have hwl : (A1 ++ A2).length ≤ 20 := by rw [List.length_append]; omega
   rw [← List.length_append] at h10
   generalize A1 ++ A2 = want at *
   refine Tr.take (A := HeapA ph S' Gr.cs) tk (Tr.take (A := blk b7 [.slice t1.a t1.n t1.c, .slice t2.a t2.n t2.c, .slice t3.a t3.n t3.c, .slice t4.a t4.n t4.c]) tk ?_)
   refine Tr.drop (A := SLc t3 1 ((pendOf S' m2 []).map i64)) tk (Tr.drop (A := SLc t4 1 ((Mk.all m3).map i64)) tk (Tr.drop (A := SLc tf 1 (A1.map i64)) tk (Tr.drop (A := SLc tl 1 (A2.map i64)) tk ?_)))
   have hroots : roots.length ≤ 10 := by omega
   clear h i0 i1 hrl hR htf htl hf1 hf2 i
   refine Tr.nilSL 1 ?_
   refine en_lp (fun n u M => (fun (tp : Slc) (i : Int) => M = SLc tp 1 ((putOf S' m3 (want.take i.toNat)).map i64) :: blk b7 [.slice t1.a t1.n t1.c, .slice t2.a t2.n t2.c, .slice t3.a t3.n t3.c, .slice t4.a t4.n t4.c] :: HeapA ph S' Gr.cs :: R ∧ 0 ≤ i ∧ i ≤ want.length ∧ n = want.length - i.toNat) u.1 u.2.1) want.length ?_ ?_
   ·exact ⟨rfl, by simp, by dsimp only; omega, by simp⟩
   ·rintro n ⟨(tp : Slc), (i : Int), ⟨⟩⟩ M ⟨rfl, i0, i1, rfl⟩ Y hY
    dsimp only at i0 i1 hY ⊢
    have hpul := put_len (S := S') (m := m3) (xs := want.take i.toNat)
    rw [List.length_take] at hpul
    refine en_br (fun h => ?_) (fun h => ?_)
    ·replace h : i < (r10.n : Int) := of_decide_eq_true h
     have hi : i.toNat < want.length := by omega
     have hstep := put_step (S := S') (m := m3) i0 hi
     have h3 := f2 (want.getD i.toNat 0)
     refine en_getRo hr10 i0 (by omega) ?_
     generalize hga : want.getD i.toNat 0 = a at *
     refine en_call (object_get ph S' Gr.cs H'.hw a 1) tks ?_
     rintro x' M ⟨rfl, rfl⟩
     try simp only [lca, lna]
     refine en_getRo hr10 i0 (by omega) ?_
     rw [hga]
     refine en_call (ref_in tr roots hro (by omega) a) tks ?_
     rintro x' M ⟨rfl, rfl⟩
     try simp only [lca, lna]
     rw [wrap64 (n := i + 1) (by omega) (by omega)]
     refine Tr.take (A := blk b7 [.slice t1.a t1.n t1.c, .slice t2.a t2.n t2.c, .slice t3.a t3.n t3.c, .slice t4.a t4.n t4.c]) tk (Tr.take (A := SLc tp 1 ((putOf S' m3 (want.take i.toNat)).map i64)) tk ?_)
     have go : ∀ (tp' : Slc) (os : List Int), os = putOf S' m3 (want.take (i + 1).toNat) → Tr ρ ρ5 (SLc tp' 1 (os.map i64) :: blk b7 [.slice t1.a t1.n t1.c, .slice t2.a t2.n t2.c, .slice t3.a t3.n t3.c, .slice t4.a t4.n t4.c] :: HeapA ph S' Gr.cs :: R) (Y (tp', i + 1, ())) (SP RB (fun r M => r = true ∧ M = []) R) := fun tp' os e => by
      refine hY (want.length - (i + 1).toNat) _ _ (by omega) ⟨?_, by dsimp only; omega, by dsimp only; omega, rfl⟩
      dsimp only
      rw [e]
     refine en_br (fun h4 => ?_) (fun h4 => ?_)
     ·have h4 : a ∈ roots := of_decide_eq_true h4
      refine en_br (fun h5 => ?_) (fun h5 => ?_)
      ·refine en_getRo hr10 i0 (by omega) ?_
       rw [hga]
       refine en_appI (s := tp) (xs := putOf S' m3 (want.take i.toNat)) appInt tk (by omega) fun r22 h22 => ?_
       exact go r22 _ (by rw [hstep, h3.mpr h4, if_pos (by rw [Bool.true_and]; exact h5)])
      ·exact go tp _ (by rw [hstep, h3.mpr h4, if_neg (by rw [Bool.true_and]; exact fun g => by rw [show decide ((Ob.get S' a 1).1 > 0) = false from h5] at g; cases g), List.append_nil])
     ·have h4 : a ∉ roots := of_decide_eq_false h4
      exact go tp _ (by rw [hstep, if_neg (fun g => h4 (h3.mp (by rw [Bool.and_eq_true] at g; exact g.1))), List.append_nil])
    ·replace h : ¬ i < (r10.n : Int) := of_decide_eq_false h
     rw [List.take_of_length_le (by omega)]
     rw [List.take_of_length_le (by omega)] at hpul
     refine Tr.keepSL (s := tp) tk fun ρ6 hle6 htp => ?_
     iterate 1
      refine en_call (law_err _) .nil ?_
      rintro x' M ⟨rfl, rfl⟩
      try simp only [lca, lna]
     refine en_brt rfl ?_
     refine en_ld (k := .slice) (b := b7) (off := 0) (x := t1) (by rw [fa_mk]) tk rfl ?_
     refine en_call (same_ints t1 r10 want want (g1.le hle6) (hr10.le hle6) (by omega)) tks ?_
     rintro x' M ⟨rfl, rfl⟩
     try simp only [lca, lna]
     refine en_brt (by simp) ?_
     refine en_ld (k := .slice) (b := b7) (off := 1) (x := t2) (by rw [fa_mk]) tk rfl ?_
     refine en_call (same_ints t2 tp _ _ (g2.le hle6) htp (by omega)) tks ?_
     rintro x' M ⟨rfl, rfl⟩
     try simp only [lca, lna]
     refine en_brt (by simp) ?_
     refine en_ld (k := .slice) (b := b7) (off := 3) (x := t4) (by rw [fa_mk]) tk rfl ?_
     refine en_brt (by rw [n4, htr]; simp) ?_
     refine en_call (law_awake18) tks ?_
     rintro x' M ⟨rfl, rfl⟩
     try simp only [lca, lna]
     exact en_rets (x := true) rfl ⟨rfl, rfl⟩ tks ens
end Go.Proofs.YtpefngbfgjfcgaaGreat
