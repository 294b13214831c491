/- Laws of collections: what they share. -/
import Derived.Test.YtpefngbfgjfcgaaGreatGsBx
import Derived.Test.YtpefngbfgjfcgaaGreatGsTl18
set_option linter.unusedSimpArgs false
set_option linter.unusedVariables false
namespace Go.Proofs.YtpefngbfgjfcgaaGreat
open Go Go.Gl
variable {ρ0 ρ : FR} {L L' : List Asn} {Post : Value → List Asn → Prop} {T : Tree}
abbrev INL : List LK := [.slice, .slice, .int .i64, .int .i64, .int .i64, .bool, .int .i64]
theorem zcIn : zc Tryz.prog 31 = [.slice none 0 0, .slice none 0 0, .int .i64 0, .int .i64 0, .int .i64 0, .bool false, .int .i64 0] := by kernel_rfl
theorem may_box (cs : List Cls) {n : Int} (h0 : 0 ≤ n) (h1 : n ≤ 1023) : Ob.may cs ⟨2, 0, n, false⟩ = 0 := by
 have hm : Sp.mayH ⟨2, 0, n, false⟩ = true := by
  unfold Sp.mayH; dsimp only
  rw [decide_eq_true (by omega), if_neg (by omega), if_pos (by omega)]; rfl
 unfold Ob.may; rw [hm]; rfl
theorem may_data (cs : List Cls) {n : Int} (h0 : 0 ≤ n) (h1 : n ≤ 1023) : Ob.may cs ⟨3, 0, n, false⟩ = 0 := by
 have hm : Sp.mayH ⟨3, 0, n, false⟩ = true := by
  unfold Sp.mayH; dsimp only
  rw [decide_eq_true (by omega), if_neg (by omega), if_pos (by omega)]; rfl
 unfold Ob.may; rw [hm]; rfl
theorem may_refer (cs : List Cls) {c : Int} (h0 : 1 ≤ c) (h1 : c ≤ 3) : Ob.may cs ⟨4, c, 5, false⟩ = 0 := by
 have : c = 1 ∨ c = 2 ∨ c = 3 := by omega
 rcases this with rfl | rfl | rfl <;> rfl
theorem set_last {os : List Ob1} {x y : Ob1} : (os ++ [x]).set os.length y = os ++ [y] := by simp
theorem get_last {os : List Ob1} {x : Ob1} : (os ++ [x])[os.length]? = some x := by simp
theorem prt_full {l : List Int} : Gr.prt (fun j => l.getD j 0) l.length l.length = l := by
 unfold Gr.prt
 apply List.ext_getElem?
 intro j
 rw [List.getElem?_map]
 by_cases hj : j < l.length
 ·rw [List.getElem?_range hj, Option.map_some, if_pos hj]
  show some (l.getD j 0) = _
  rw [List.getD_eq_getElem?_getD, List.getElem?_eq_getElem hj]; rfl
 ·rw [List.getElem?_eq_none (by simp; omega), List.getElem?_eq_none (by omega)]; rfl
theorem g_box (p : Nat) (S : Spc) (cs : List Cls) (P : Nat) (os : List Ob1) (H : Bx S cs P os) (hn : os.length + 1 < P) (z : Slc) (l : List Int) (hz : RoS ρ z 1 (l.map i64)) (h1 : 1 ≤ l.length) (h2 : l.length ≤ 63) :
  Gl.Spec ρ Tryz.prog 28 [.pointer (some ⟨p, 0, none⟩), .slice z.a z.n z.c] [HeapA p S cs] R1
  fun r M => ∃ S', M = [HeapA p S' cs] ∧ r ≠ 0 ∧ Bx S' cs P (os ++ [⟨r, ⟨2, 0, l.length, false⟩, l⟩]) := by
 refine Spec.of (fun Q w h => F.gloaminglaw18.box.calls (some ⟨p, 0, none⟩) z h) fun R => ?_
 unfold F.gloaminglaw18.box
 try simp only [List.cons_append, List.nil_append]
 have hzn := hz.len
 have hif : (if (1 : Int) > (z.n : Nat) then (1 : Int) else (z.n : Nat)) = (l.length : Nat) := by split <;> omega
 rw [hif]
 obtain ⟨h0, H1⟩ := H.make hn (may_box cs (n := (l.length : Nat)) (by omega) (by omega)) (need1 (by dsimp only; omega) (by dsimp only; omega))
 have hne := H.make_ne h0
 refine en_call (object_make p S cs H.hw ⟨2, 0, (l.length : Nat), false⟩) tks ?_
 rintro x' M ⟨rfl, rfl⟩
 try simp only [List.cons_append, List.nil_append]
 rw [h0]
 generalize (Ob.make S cs ⟨2, 0, (l.length : Nat), false⟩).1 = a at *
 generalize (Ob.make S cs ⟨2, 0, (l.length : Nat), false⟩).2.2 = S1 at *
 iterate 1
  refine en_call (law_err _) .nil ?_
  rintro x' M ⟨rfl, rfl⟩
  try simp only [List.cons_append, List.nil_append]
 refine en_brf rfl ?_
 rw [show ((l.length : Nat) : Int).toNat = l.length from Int.toNat_natCast _, ← Gr.part0 (f := fun j => l.getD j 0)] at H1
 refine en_lp (fun m u M => (fun i : Int => ∃ S2, M = HeapA p S2 cs :: R ∧ 0 ≤ i ∧ i ≤ l.length ∧ m = l.length - i.toNat ∧ Bx S2 cs P (os ++ [⟨a, ⟨2, 0, (l.length : Nat), false⟩, Gr.prt (fun j => l.getD j 0) l.length i.toNat⟩])) u.1) l.length ?_ ?_
 ·exact ⟨S1, rfl, by simp, by dsimp only; omega, by simp, H1⟩
 ·rintro m ⟨(i : Int), ⟨⟩⟩ M ⟨S2, rfl, i0, i1, rfl, H2⟩ X hX
  dsimp only at i0 i1 H2 hX ⊢
  refine en_br (fun h => ?_) (fun h => ?_)
  ·replace h : i < (z.n : Int) := of_decide_eq_true h
   obtain ⟨k, rfl⟩ := Int.eq_ofNat_of_zero_le i0
   rw [Int.toNat_natCast] at H2
   refine en_getRo hz i0 (by omega) ?_
   rw [Int.toNat_natCast]
   obtain ⟨g0, H3⟩ := H2.put get_last (k := k) (by dsimp only; omega) (l.getD k 0)
   dsimp only at g0 H3
   rw [set_last, Gr.part_set (f := fun j => l.getD j 0)] at H3
   refine en_call (object_put p S2 cs H2.hw a k (l.getD k 0)) tks ?_
   rintro x' M ⟨rfl, rfl⟩
   try simp only [List.cons_append, List.nil_append]
   rw [wrap64 (n := (k : Int) + 1) (by omega) (by omega)]
   refine hX (l.length - (k + 1)) _ _ (by rw [Int.toNat_natCast]; omega) ⟨_, rfl, by dsimp only; omega, by dsimp only; omega, by dsimp only; omega, ?_⟩
   dsimp only
   rw [show ((k : Int) + 1).toNat = k + 1 by omega]
   exact H3
  ·replace h : ¬ i < (z.n : Int) := of_decide_eq_false h
   rw [show i.toNat = l.length by omega, prt_full] at H2
   exact en_rets (x := a) rfl ⟨S2, rfl, hne, H2⟩ tks ens
theorem g_refer (p : Nat) (S : Spc) (cs : List Cls) (P : Nat) (os : List Ob1) (H : Bx S cs P os) (hn : os.length + 1 < P) (c o q t n : Int) (h1 : 1 ≤ c) (h2 : c ≤ 3) :
  Gl.Spec ρ Tryz.prog 29 [.pointer (some ⟨p, 0, none⟩), i64 c, i64 o, i64 q, i64 t, i64 n] [HeapA p S cs] R1
  fun r M => ∃ S', M = [HeapA p S' cs] ∧ r ≠ 0 ∧ Bx S' cs P (os ++ [⟨r, ⟨4, c, 5, false⟩, [o, q, 0, t, n]⟩]) := by
 refine Spec.of (fun Q w h => F.gloaminglaw18.refer.calls (some ⟨p, 0, none⟩) c o q t n h) fun R => ?_
 unfold F.gloaminglaw18.refer
 try simp only [List.cons_append, List.nil_append]
 obtain ⟨h0, H1⟩ := H.make hn (may_refer cs h1 h2) (need1 (by dsimp only; omega) (by dsimp only; omega))
 have hne := H.make_ne h0
 refine en_call (object_make p S cs H.hw ⟨4, c, 5, false⟩) tks ?_
 rintro x' M ⟨rfl, rfl⟩
 try simp only [List.cons_append, List.nil_append]
 rw [h0]
 generalize (Ob.make S cs ⟨4, c, 5, false⟩).1 = a at *
 generalize (Ob.make S cs ⟨4, c, 5, false⟩).2.2 = S1 at *
 iterate 1
  refine en_call (law_err _) .nil ?_
  rintro x' M ⟨rfl, rfl⟩
  try simp only [List.cons_append, List.nil_append]
 refine en_brf rfl ?_
 obtain ⟨g1, H2⟩ := H1.put get_last (k := 0) (show ((0 : Nat) : Int) < 5 by decide) o
 rw [set_last] at H2
 refine en_call (object_put p S1 cs H1.hw a 0 o) tks ?_
 rintro x' M ⟨rfl, rfl⟩
 try simp only [List.cons_append, List.nil_append]
 obtain ⟨g2, H3⟩ := H2.put get_last (k := 1) (show ((1 : Nat) : Int) < 5 by decide) q
 rw [set_last] at H3
 refine en_call (object_put p _ cs H2.hw a 1 q) tks ?_
 rintro x' M ⟨rfl, rfl⟩
 try simp only [List.cons_append, List.nil_append]
 obtain ⟨g3, H4⟩ := H3.put get_last (k := 3) (show ((3 : Nat) : Int) < 5 by decide) t
 rw [set_last] at H4
 refine en_call (object_put p _ cs H3.hw a 3 t) tks ?_
 rintro x' M ⟨rfl, rfl⟩
 try simp only [List.cons_append, List.nil_append]
 obtain ⟨g4, H5⟩ := H4.put get_last (k := 4) (show ((4 : Nat) : Int) < 5 by decide) n
 rw [set_last] at H5
 refine en_call (object_put p _ cs H4.hw a 4 n) tks ?_
 rintro x' M ⟨rfl, rfl⟩
 try simp only [List.cons_append, List.nil_append]
 exact en_rets (x := a) rfl ⟨_, rfl, hne, H5⟩ tks ens
abbrev outV (o : LTs OutL) : Value := .agg #[.slice o.1.a o.1.n o.1.c, .slice o.2.1.a o.2.1.n o.2.1.c, .slice o.2.2.1.a o.2.2.1.n o.2.2.1.c, .slice o.2.2.2.1.a o.2.2.2.1.n o.2.2.2.1.c]
theorem same_out (a1 a2 a3 a4 b1 b2 b3 b4 : Slc) (x1 x2 x3 x4 : List Int) (h1 : RoS ρ a1 1 (x1.map i64)) (h2 : RoS ρ a2 1 (x2.map i64)) (h3 : RoS ρ a3 1 (x3.map i64)) (h4 : RoS ρ a4 1 (x4.map i64)) (g1 : RoS ρ b1 1 (x1.map i64)) (g2 : RoS ρ b2 1 (x2.map i64)) (g3 : RoS ρ b3 1 (x3.map i64)) (g4 : RoS ρ b4 1 (x4.map i64))
  (l1 : x1.length < 2 ^ 62) (l2 : x2.length < 2 ^ 62) (l3 : x3.length < 2 ^ 62) (l4 : x4.length < 2 ^ 62) :
  Gl.Spec ρ Tryz.prog 18 [outV (a1, a2, a3, a4, ()), outV (b1, b2, b3, b4, ())] [] RB fun r M => r = true ∧ M = [] := by
 refine Spec.of (fun Q w h => F.gloamingref9.SameOut.calls (a1, a2, a3, a4, ()) (b1, b2, b3, b4, ()) h) fun R => ?_
 unfold F.gloamingref9.SameOut
 try simp only [List.cons_append, List.nil_append]
 refine en_nw fun c1 => en_nw fun c2 => ?_
 refine en_ld (k := .slice) (b := c1) (off := 0) (x := a1) (by rw [fa_mk]) tk rfl ?_
 refine en_ld (k := .slice) (b := c2) (off := 0) (x := b1) (by rw [fa_mk]) tk rfl ?_
 refine en_call (same_ints a1 b1 x1 x1 h1 g1 l1) tks ?_
 rintro x' M ⟨rfl, rfl⟩
 try simp only [List.cons_append, List.nil_append]
 refine en_brt (by simp) ?_
 refine en_ld (k := .slice) (b := c1) (off := 1) (x := a2) (by rw [fa_mk]) tk rfl ?_
 refine en_ld (k := .slice) (b := c2) (off := 1) (x := b2) (by rw [fa_mk]) tk rfl ?_
 refine en_call (same_ints a2 b2 x2 x2 h2 g2 l2) tks ?_
 rintro x' M ⟨rfl, rfl⟩
 try simp only [List.cons_append, List.nil_append]
 refine en_brt (by simp) ?_
 refine en_ld (k := .slice) (b := c1) (off := 2) (x := a3) (by rw [fa_mk]) tk rfl ?_
 refine en_ld (k := .slice) (b := c2) (off := 2) (x := b3) (by rw [fa_mk]) tk rfl ?_
 refine en_call (same_ints a3 b3 x3 x3 h3 g3 l3) tks ?_
 rintro x' M ⟨rfl, rfl⟩
 try simp only [List.cons_append, List.nil_append]
 refine en_brt (by simp) ?_
 refine en_ld (k := .slice) (b := c1) (off := 3) (x := a4) (by rw [fa_mk]) tk rfl ?_
 refine en_ld (k := .slice) (b := c2) (off := 3) (x := b4) (by rw [fa_mk]) tk rfl ?_
 refine en_call (same_ints a4 b4 x4 x4 h4 g4 l4) tks ?_
 rintro x' M ⟨rfl, rfl⟩
 try simp only [List.cons_append, List.nil_append]
 refine en_rets (x := true) ?_ ⟨rfl, rfl⟩ tks ens
 simp; rfl
theorem g_in (q : Slc) (l : List Int) (r1 : RoS ρ q 1 (l.map i64)) (z1 : Slc) (v1 : List Int) (ro1 : RoS ρ z1 1 (v1.map fun x => .int .u8 x)) (hb1 : ∀ x ∈ v1, 0 ≤ x ∧ x < 256) (z2 : Slc) (v2 : List Int) (ro2 : RoS ρ z2 1 (v2.map fun x => .int .u8 x)) (hb2 : ∀ x ∈ v2, 0 ≤ x ∧ x < 256)
  (c f r : Int) (all : Bool) (n : Int) (hc : 0 ≤ c ∧ c < 256) (hf : 0 ≤ f ∧ f < 256) (hr : 0 ≤ r ∧ r < 256) (hn : 0 ≤ n ∧ n < 256) :
  Gl.Spec ρ Tryz.prog 15 [.slice q.a q.n q.c, .slice z1.a z1.n z1.c, .slice z2.a z2.n z2.c, .int .u8 c, .int .u8 f, .int .u8 r, .bool all, .int .u8 n] [] (.one (.g INL))
  fun x M => ∃ s1 s2, x = inT ⟨s1, s2, c, f % 20, r % 9, all, 1 + n % 9⟩ ∧ M = [SLc s1 1 ((Gr.some l v1 5).map i64), SLc s2 1 ((Gr.some l v2 5).map i64)] := by
 refine Spec.of (fun Q w h => F.gloaminglaw18.In.calls q z1 z2 c f r all n h) fun R => ?_
 unfold F.gloaminglaw18.In
 try simp only [List.cons_append, List.nil_append]
 refine en_nw fun b1 => ?_
 rw [zcIn]
 refine en_call (g_some q l r1 z1 v1 ro1 hb1 5 (by decide)) tks ?_
 rintro s1 M rfl
 try simp only [List.cons_append, List.nil_append]
 refine en_call (g_some q l r1 z2 v2 ro2 hb2 5 (by decide)) tks ?_
 rintro s2 M rfl
 try simp only [List.cons_append, List.nil_append]
 refine en_need (by decide) (en_need (by decide) (en_need (by decide) ?_))
 rw [wrap64 (n := c) (by omega) (by omega), wrap64 (n := f) (by omega) (by omega), wrap64 (n := r) (by omega) (by omega), wrap64 (n := n) (by omega) (by omega), Int.tmod_eq_emod_of_nonneg hf.1, Int.tmod_eq_emod_of_nonneg hr.1, Int.tmod_eq_emod_of_nonneg hn.1, wrap64 (n := 1 + n % 9) (by omega) (by omega)]
 refine en_st (b := b1) (off := 0) rfl tk (by simp) rfl ?_
 refine en_ldg (b := b1) (off := 0) (x := inT ⟨s1, s2, c, f % 20, r % 9, all, 1 + n % 9⟩) [] rfl tk rfl ?_
 exact en_rets (x := inT ⟨s1, s2, c, f % 20, r % 9, all, 1 + n % 9⟩) rfl ⟨s1, s2, rfl, rfl⟩ tks ens
theorem law_awake18 : Gl.Spec ρ Tryz.prog 23 [] [] RB fun r M => r = true ∧ M = [] := by
 refine Spec.of (fun Q w h => F.gloaminglaw18.awake.calls h) fun R => ?_
 unfold F.gloaminglaw18.awake
 try simp only [List.cons_append, List.nil_append]
 refine en_call (g_graph ⟨none, 0, 0⟩ [] RoS.nil1 (by simp) (by simp)) tks ?_
 rintro x' M ⟨p, q, rfl, rfl⟩
 try simp only [List.cons_append, List.nil_append]
 have H := Bx.start
 rw [show Gr.cs = Gr.cs from rfl] at H
 generalize (Gr.graph []).1 = S0 at *
 refine Tr.drop (A := SLc q 1 ((Gr.graph []).2.map i64)) tk ?_
 have hr0 : refsOf S0 = [] := List.perm_nil.mp H.refs
 refine en_call (proc_process p S0 Gr.cs H.hw ⟨⟨none, 0, 0⟩, ⟨none, 0, 0⟩, 0, 0, 0, false, 1⟩ ⟨by decide, by decide, by decide⟩ [] [] RoS.nil1 RoS.nil1 (by decide) (by decide) (by rw [hr0]; simp) (by decide)) tks ?_
 rintro r2 M ⟨s1, s2, s3, s4, l, m2, m3, rfl, hC, rfl⟩
 try simp only [List.cons_append, List.nil_append]
 refine en_nw fun b3 => ?_
 rw [zcOut]
 refine en_st (b := b3) (off := 0) rfl tk (by simp) rfl ?_
 refine Tr.take (A := blk b3 [.slice s1.a s1.n s1.c, .slice s2.a s2.n s2.c, .slice s3.a s3.n s3.c, .slice s4.a s4.n s4.c]) tk ?_
 refine en_brf rfl ?_
 iterate 1
  refine en_call (law_err _) .nil ?_
  rintro x' M ⟨rfl, rfl⟩
  try simp only [List.cons_append, List.nil_append]
 refine en_brf rfl ?_
 refine en_ld (k := .slice) (b := b3) (off := 3) (x := s4) (by rw [fa_mk]) tk rfl ?_
 refine Tr.nlen (s := s4) (xs := Mk.all m3) tk fun h4 => ?_
 have e0 : Mk.all m3 = [] := Mk.all_nil fun a ha => by
  obtain ⟨o, ho, _⟩ := H.obj.mp (hC.c3.obj a ha)
  cases ho
 rw [e0] at h4
 rw [h4]
 refine en_brf rfl ?_
 clear e0 h4 hC
 obtain ⟨g1, H1⟩ := H.make (by decide) (may_data Gr.cs (n := 1) (by decide) (by decide)) (need1 (by decide) (by decide))
 refine en_call (object_make p S0 Gr.cs H.hw ⟨3, 0, 1, false⟩) tks ?_
 rintro x' M ⟨rfl, rfl⟩
 try simp only [List.cons_append, List.nil_append]
 rw [g1]
 generalize (Ob.make S0 Gr.cs ⟨3, 0, 1, false⟩).1 = a at *
 generalize (Ob.make S0 Gr.cs ⟨3, 0, 1, false⟩).2.2 = S1 at *
 obtain ⟨g2, H2⟩ := H1.make (by simp) (may_refer Gr.cs (c := 2) (by decide) (by decide)) (need1 (by decide) (by decide))
 refine en_call (object_make p S1 Gr.cs H1.hw ⟨4, 2, 5, false⟩) tks ?_
 rintro x' M ⟨rfl, rfl⟩
 try simp only [List.cons_append, List.nil_append]
 rw [g2]
 generalize (Ob.make S1 Gr.cs ⟨4, 2, 5, false⟩).1 = b at *
 generalize (Ob.make S1 Gr.cs ⟨4, 2, 5, false⟩).2.2 = S2 at *
 obtain ⟨g3, H3⟩ := H2.put (i := 1) rfl (k := 0) (show ((0 : Nat) : Int) < 5 by decide) a
 refine en_call (object_put p S2 Gr.cs H2.hw b 0 a) tks ?_
 rintro x' M ⟨rfl, rfl⟩
 try simp only [List.cons_append, List.nil_append]
 change Bx (Ob.put S2 b 0 a).2 Gr.cs 60 [⟨a, ⟨3, 0, 1, false⟩, [0]⟩, ⟨b, ⟨4, 2, 5, false⟩, [a, 0, 0, 0, 0]⟩] at H3
 generalize (Ob.put S2 b 0 a).2 = S3 at *
 clear g3 g2 H1 H2 H
 have hr3 := H3.refs
 change (refsOf S3).Perm [(b, 2, a, 0, 0, 0, ())] at hr3
 have hr3 := List.perm_singleton.mp hr3
 have hab : a ≠ b := fun e => by
  have := H3.inj (i := 0) (j := 1) rfl rfl e
  cases this
 have hnz := Mk.obj_zero H3.hw
 refine en_nw fun b9 => ?_
 refine Rd.bk (n := 1) (m := 1) (vs := ([b] : List Int).map i64) rfl tk fun ρ1 hle1 ro1 => ?_
 refine en_call (proc_process p S3 Gr.cs H3.hw ⟨⟨some ⟨b9, 0, none⟩, 1, 1⟩, ⟨none, 0, 0⟩, 0, 0, 0, false, 1⟩ ⟨show (0 : Int) < _ by decide, show (0 : Int) < _ by decide, show (0 : Int) < _ by decide⟩ [b] [] ro1 RoS.nil1 (by simp) (by decide) (by rw [hr3]; simp) (show (1 : Int) ≤ 1 ∧ (1 : Int) ≤ 4096 by decide)) tks ?_
 rintro r2 M ⟨t1, t2, t3, t4, l, m2, m3, rfl, hC, rfl⟩
 try simp only [List.cons_append, List.nil_append]
 have hl : l = [(b, 2, a, 0, 0, 0, ())] := by
  have := hC.perm
  rw [hr3] at this
  exact List.perm_singleton.mp this
 subst hl
 have hcl : ∀ c, c = b → Mk.obj S3 c → ∀ d ∈ Mk.kids S3 Gr.cs c, Mk.obj S3 d → d = b := fun c e hc d hd ho => by
  obtain ⟨o, ho', e1, hk⟩ := H3.kid_in (by simp) hc hd
  rw [e] at e1
  simp only [List.mem_cons, List.not_mem_nil, or_false] at ho'
  rcases ho' with rfl | rfl
  ·exact absurd e1 hab
  ·simp [Bx.kidsO] at hk
   subst hk; exact absurd ho hnz
 have hob : Mk.obj S3 b := H3.obj.mpr ⟨⟨b, ⟨4, 2, 5, false⟩, [a, 0, 0, 0, 0]⟩, by simp, rfl⟩
 have hoa : Mk.obj S3 a := H3.obj.mpr ⟨⟨a, ⟨3, 0, 1, false⟩, [0]⟩, by simp, rfl⟩
 have h2 : ∀ c, Sp.has m2 c = true ↔ c = b := fun c => by
  rw [hC.has2]
  refine ⟨SoftR.le (T := fun c => c = b) (fun d hd => hd.le (T := fun c => c = b) (fun e he _ => by simpa using he) hcl) (fun r hr h1 => ?_) hcl, fun e => ?_⟩
  ·rw [hr3, List.mem_singleton] at hr
   subst hr; cases h1
  ·subst e; exact .base (.root (by simp) hob)
 have h3 : ∀ c, Sp.has m3 c = true ↔ c = b := fun c => by
  rw [hC.has3, h2]
  exact ⟨fun h => h.elim id fun h => absurd h Mk.rch_nil, .inl⟩
 have ea : Mk.all m3 = [b] := Mk.all_eq (by simp) fun c => by rw [h3, List.mem_singleton]
 have e1 : clrOf S3 m2 m3 [(b, 2, a, 0, 0, 0, ())] = [b] := by
  have hlo : lostB S3 m2 (b, 2, a, 0, 0, 0, ()) = true := lost_iff.mpr ⟨hoa, fun g => hab ((h2 a).mp g)⟩
  unfold clrOf clearOf
  rw [List.filter_cons_of_pos (by rw [hlo]; rfl), List.filter_cons_of_neg (by simp)]; rfl
 have e2 : putOf S3 m3 [b] = [] := by
  unfold putOf
  have := H3.get ⟨b, ⟨4, 2, 5, false⟩, [a, 0, 0, 0, 0]⟩ (by simp) 1 (show ((1 : Nat) : Int) < 5 by decide)
  dsimp only at this
  rw [List.filter_cons_of_neg]; rfl
  rw [show ((1 : Int)) = ((1 : Nat) : Int) from rfl, this]
  simp
 rw [e1, e2, ea]
 refine Tr.nlen (s := t1) (xs := [b]) tk fun n1 => Tr.nlen (s := t2) (xs := []) tk fun n2 => Tr.nlen (s := t4) (xs := [b]) tk fun n4 => ?_
 refine en_st (b := b3) (off := 0) rfl tk (by simp) rfl ?_
 refine Tr.take (A := blk b3 [.slice t1.a t1.n t1.c, .slice t2.a t2.n t2.c, .slice t3.a t3.n t3.c, .slice t4.a t4.n t4.c]) tk ?_
 iterate 3
  refine en_call (law_err _) .nil ?_
  rintro x' M ⟨rfl, rfl⟩
  try simp only [List.cons_append, List.nil_append]
 refine en_brt rfl ?_
 refine en_ld (k := .slice) (b := b3) (off := 0) (x := t1) (by rw [fa_mk]) tk rfl ?_
 refine en_brt (by rw [n1]; rfl) ?_
 refine en_ld (k := .slice) (b := b3) (off := 3) (x := t4) (by rw [fa_mk]) tk rfl ?_
 refine en_brt (by rw [n4]; rfl) ?_
 refine en_ld (k := .slice) (b := b3) (off := 1) (x := t2) (by rw [fa_mk]) tk rfl ?_
 refine en_rets (x := true) ?_ ⟨rfl, rfl⟩ tks ens
 rw [n2]; rfl
end Go.Proofs.YtpefngbfgjfcgaaGreat
