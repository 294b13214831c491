/- Laws of collections: what they share. -/
import Derived.Test.YtpefngbfgjfcgaaGreatGsBx
import Derived.Test.YtpefngbfgjfcgaaGreatGsTl18
set_option linter.unusedSimpArgs false
set_option linter.unusedVariables false
namespace Go.Proofs.YtpefngbfgjfcgaaGreat
open Go Go.Gl
variable {ρ0 ρ : FR} {L L' : List Asn} {Post : Value → List Asn → Prop} {T : Tree}
abbrev INL : List LK := [.slice, .slice, .int .i64, .int .i64, .int .i64, .bool, .int .i64]
theorem zcIn : zc Tryz.prog 31 = [.slice none 0 0, .slice none 0 0, .int .i64 0, .int .i64 0, .int .i64 0, .bool false, .int .i64 0] := by kernel_rfl
theorem may_data (cs : List Cls) {n : Int} (h0 : 0 ≤ n) (h1 : n ≤ 1023) : Ob.may cs ⟨3, 0, n, false⟩ = 0 := by
 have hm : Sp.mayH ⟨3, 0, n, false⟩ = true := by
  unfold Sp.mayH; dsimp only
  rw [decide_eq_true (by omega), if_neg (by omega), if_pos (by omega)]; rfl
 unfold Ob.may; rw [hm]; rfl
theorem may_refer (cs : List Cls) {c : Int} (h0 : 1 ≤ c) (h1 : c ≤ 3) : Ob.may cs ⟨4, c, 5, false⟩ = 0 := by
 have : c = 1 ∨ c = 2 ∨ c = 3 := by omega
 rcases this with rfl | rfl | rfl <;> rfl
theorem g_in (q : Slc) (l : List Int) (r1 : RoS ρ q 1 (l.map i64)) (z1 : Slc) (v1 : List Int) (ro1 : RoS ρ z1 1 (v1.map fun x => .int .u8 x)) (hb1 : ∀ x ∈ v1, 0 ≤ x ∧ x < 256) (z2 : Slc) (v2 : List Int) (ro2 : RoS ρ z2 1 (v2.map fun x => .int .u8 x)) (hb2 : ∀ x ∈ v2, 0 ≤ x ∧ x < 256)
  (c f r : Int) (all : Bool) (n : Int) (hc : 0 ≤ c ∧ c < 256) (hf : 0 ≤ f ∧ f < 256) (hr : 0 ≤ r ∧ r < 256) (hn : 0 ≤ n ∧ n < 256) :
  Gl.Spec ρ Tryz.prog 15 [.slice q.a q.n q.c, .slice z1.a z1.n z1.c, .slice z2.a z2.n z2.c, .int .u8 c, .int .u8 f, .int .u8 r, .bool all, .int .u8 n] [] (.one (.g INL))
  fun x M => ∃ s1 s2, x = inT ⟨s1, s2, c, f % 20, r % 9, all, 1 + n % 9⟩ ∧ M = [SLc s1 1 ((Gr.some l v1 5).map i64), SLc s2 1 ((Gr.some l v2 5).map i64)] := by
 refine Spec.of (fun Q w h => F.gloaminglaw18.In.calls q z1 z2 c f r all n h) fun R => ?_
 unfold F.gloaminglaw18.In
 try simp only [List.cons_append, List.nil_append]
 refine en_nw fun b1 => ?_
 rw [zcIn]
 refine en_call (g_some q l r1 z1 v1 ro1 hb1 5 (by decide)) tks ?_
 rintro s1 M rfl
 try simp only [List.cons_append, List.nil_append]
 refine en_call (g_some q l r1 z2 v2 ro2 hb2 5 (by decide)) tks ?_
 rintro s2 M rfl
 try simp only [List.cons_append, List.nil_append]
 refine en_need (by decide) (en_need (by decide) (en_need (by decide) ?_))
 rw [wrap64 (n := c) (by omega) (by omega), wrap64 (n := f) (by omega) (by omega), wrap64 (n := r) (by omega) (by omega), wrap64 (n := n) (by omega) (by omega), Int.tmod_eq_emod_of_nonneg hf.1, Int.tmod_eq_emod_of_nonneg hr.1, Int.tmod_eq_emod_of_nonneg hn.1, wrap64 (n := 1 + n % 9) (by omega) (by omega)]
 refine en_st (b := b1) (off := 0) rfl tk (by simp) rfl ?_
 refine en_ldg (b := b1) (off := 0) (x := inT ⟨s1, s2, c, f % 20, r % 9, all, 1 + n % 9⟩) [] rfl tk rfl ?_
 exact en_rets (x := inT ⟨s1, s2, c, f % 20, r % 9, all, 1 + n % 9⟩) rfl ⟨s1, s2, rfl, rfl⟩ tks ens
theorem law_awake18 : Gl.Spec ρ Tryz.prog 23 [] [] RB fun r M => r = true ∧ M = [] := by
 refine Spec.of (fun Q w h => F.gloaminglaw18.awake.calls h) fun R => ?_
 unfold F.gloaminglaw18.awake
 try simp only [List.cons_append, List.nil_append]
 refine en_call (g_graph ⟨none, 0, 0⟩ [] RoS.nil1 (by simp) (by simp)) tks ?_
 rintro x' M ⟨p, q, rfl, rfl⟩
 try simp only [List.cons_append, List.nil_append]
 have H := Bx.start
 rw [show Gr.cs = Gr.cs from rfl] at H
 generalize (Gr.graph []).1 = S0 at *
 refine Tr.drop (A := SLc q 1 ((Gr.graph []).2.map i64)) tk ?_
 have hr0 : refsOf S0 = [] := List.perm_nil.mp H.refs
 refine en_call (proc_process p S0 Gr.cs H.hw ⟨⟨none, 0, 0⟩, ⟨none, 0, 0⟩, 0, 0, 0, false, 1⟩ ⟨by decide, by decide, by decide⟩ [] [] RoS.nil1 RoS.nil1 (by decide) (by decide) (by rw [hr0]; simp) (by decide)) tks ?_
 rintro r2 M ⟨s1, s2, s3, s4, l, m2, m3, rfl, hC, rfl⟩
 try simp only [List.cons_append, List.nil_append]
 refine en_nw fun b3 => ?_
 rw [zcOut]
 refine en_st (b := b3) (off := 0) rfl tk (by simp) rfl ?_
 refine Tr.take (A := blk b3 [.slice s1.a s1.n s1.c, .slice s2.a s2.n s2.c, .slice s3.a s3.n s3.c, .slice s4.a s4.n s4.c]) tk ?_
 refine en_brf rfl ?_
 iterate 1
  refine en_call (law_err _) .nil ?_
  rintro x' M ⟨rfl, rfl⟩
  try simp only [List.cons_append, List.nil_append]
 refine en_brf rfl ?_
 refine en_ld (k := .slice) (b := b3) (off := 3) (x := s4) (by rw [fa_mk]) tk rfl ?_
 refine Tr.nlen (s := s4) (xs := Mk.all m3) tk fun h4 => ?_
 have e0 : Mk.all m3 = [] := Mk.all_nil fun a ha => by
  obtain ⟨o, ho, _⟩ := H.obj.mp (hC.c3.obj a ha)
  cases ho
 rw [e0] at h4
 rw [h4]
 refine en_brf rfl ?_
 clear e0 h4 hC
 obtain ⟨g1, H1⟩ := H.make (by decide) (may_data Gr.cs (n := 1) (by decide) (by decide)) (need1 (by decide) (by decide))
 refine en_call (object_make p S0 Gr.cs H.hw ⟨3, 0, 1, false⟩) tks ?_
 rintro x' M ⟨rfl, rfl⟩
 try simp only [List.cons_append, List.nil_append]
 rw [g1]
 generalize (Ob.make S0 Gr.cs ⟨3, 0, 1, false⟩).1 = a at *
 generalize (Ob.make S0 Gr.cs ⟨3, 0, 1, false⟩).2.2 = S1 at *
 obtain ⟨g2, H2⟩ := H1.make (by simp) (may_refer Gr.cs (c := 2) (by decide) (by decide)) (need1 (by decide) (by decide))
 refine en_call (object_make p S1 Gr.cs H1.hw ⟨4, 2, 5, false⟩) tks ?_
 rintro x' M ⟨rfl, rfl⟩
 try simp only [List.cons_append, List.nil_append]
 rw [g2]
 generalize (Ob.make S1 Gr.cs ⟨4, 2, 5, false⟩).1 = b at *
 generalize (Ob.make S1 Gr.cs ⟨4, 2, 5, false⟩).2.2 = S2 at *
 obtain ⟨g3, H3⟩ := H2.put (i := 1) rfl (k := 0) (show ((0 : Nat) : Int) < 5 by decide) a
 refine en_call (object_put p S2 Gr.cs H2.hw b 0 a) tks ?_
 rintro x' M ⟨rfl, rfl⟩
 try simp only [List.cons_append, List.nil_append]
 change Bx (Ob.put S2 b 0 a).2 Gr.cs 60 [⟨a, ⟨3, 0, 1, false⟩, [0]⟩, ⟨b, ⟨4, 2, 5, false⟩, [a, 0, 0, 0, 0]⟩] at H3
 generalize (Ob.put S2 b 0 a).2 = S3 at *
 clear g3 g2 H1 H2 H
 have hr3 := H3.refs
 change (refsOf S3).Perm [(b, 2, a, 0, 0, 0, ())] at hr3
 have hr3 := List.perm_singleton.mp hr3
 have hab : a ≠ b := fun e => by
  have := H3.inj (i := 0) (j := 1) rfl rfl e
  cases this
 have hnz := Mk.obj_zero H3.hw
 refine en_nw fun b9 => ?_
 refine Rd.bk (n := 1) (m := 1) (vs := ([b] : List Int).map i64) rfl tk fun ρ1 hle1 ro1 => ?_
 refine en_call (proc_process p S3 Gr.cs H3.hw ⟨⟨some ⟨b9, 0, none⟩, 1, 1⟩, ⟨none, 0, 0⟩, 0, 0, 0, false, 1⟩ ⟨show (0 : Int) < _ by decide, show (0 : Int) < _ by decide, show (0 : Int) < _ by decide⟩ [b] [] ro1 RoS.nil1 (by simp) (by decide) (by rw [hr3]; simp) (show (1 : Int) ≤ 1 ∧ (1 : Int) ≤ 4096 by decide)) tks ?_
 rintro r2 M ⟨t1, t2, t3, t4, l, m2, m3, rfl, hC, rfl⟩
 try simp only [List.cons_append, List.nil_append]
 have hl : l = [(b, 2, a, 0, 0, 0, ())] := by
  have := hC.perm
  rw [hr3] at this
  exact List.perm_singleton.mp this
 subst hl
 have hcl : ∀ c, c = b → Mk.obj S3 c → ∀ d ∈ Mk.kids S3 Gr.cs c, Mk.obj S3 d → d = b := fun c e hc d hd ho => by
  obtain ⟨o, ho', e1, hk⟩ := H3.kid_in (by simp) hc hd
  rw [e] at e1
  simp only [List.mem_cons, List.not_mem_nil, or_false] at ho'
  rcases ho' with rfl | rfl
  ·exact absurd e1 hab
  ·simp [Bx.kidsO] at hk
   subst hk; exact absurd ho hnz
 have hob : Mk.obj S3 b := H3.obj.mpr ⟨⟨b, ⟨4, 2, 5, false⟩, [a, 0, 0, 0, 0]⟩, by simp, rfl⟩
 have hoa : Mk.obj S3 a := H3.obj.mpr ⟨⟨a, ⟨3, 0, 1, false⟩, [0]⟩, by simp, rfl⟩
 have h2 : ∀ c, Sp.has m2 c = true ↔ c = b := fun c => by
  rw [hC.has2]
  refine ⟨SoftR.le (T := fun c => c = b) (fun d hd => hd.le (T := fun c => c = b) (fun e he _ => by simpa using he) hcl) (fun r hr h1 => ?_) hcl, fun e => ?_⟩
  ·rw [hr3, List.mem_singleton] at hr
   subst hr; cases h1
  ·subst e; exact .base (.root (by simp) hob)
 have h3 : ∀ c, Sp.has m3 c = true ↔ c = b := fun c => by
  rw [hC.has3, h2]
  exact ⟨fun h => h.elim id fun h => absurd h Mk.rch_nil, .inl⟩
 have ea : Mk.all m3 = [b] := Mk.all_eq (by simp) fun c => by rw [h3, List.mem_singleton]
 have e1 : clrOf S3 m2 m3 [(b, 2, a, 0, 0, 0, ())] = [b] := by
  have hlo : lostB S3 m2 (b, 2, a, 0, 0, 0, ()) = true := lost_iff.mpr ⟨hoa, fun g => hab ((h2 a).mp g)⟩
  unfold clrOf clearOf
  rw [List.filter_cons_of_pos (by rw [hlo]; rfl), List.filter_cons_of_neg (by simp)]; rfl
 have e2 : putOf S3 m3 [b] = [] := by
  unfold putOf
  have := H3.get ⟨b, ⟨4, 2, 5, false⟩, [a, 0, 0, 0, 0]⟩ (by simp) 1 (show ((1 : Nat) : Int) < 5 by decide)
  dsimp only at this
  rw [List.filter_cons_of_neg]; rfl
  rw [show ((1 : Int)) = ((1 : Nat) : Int) from rfl, this]
  simp
 rw [e1, e2, ea]
 refine Tr.nlen (s := t1) (xs := [b]) tk fun n1 => Tr.nlen (s := t2) (xs := []) tk fun n2 => Tr.nlen (s := t4) (xs := [b]) tk fun n4 => ?_
 refine en_st (b := b3) (off := 0) rfl tk (by simp) rfl ?_
 refine Tr.take (A := blk b3 [.slice t1.a t1.n t1.c, .slice t2.a t2.n t2.c, .slice t3.a t3.n t3.c, .slice t4.a t4.n t4.c]) tk ?_
 iterate 3
  refine en_call (law_err _) .nil ?_
  rintro x' M ⟨rfl, rfl⟩
  try simp only [List.cons_append, List.nil_append]
 refine en_brt rfl ?_
 refine en_ld (k := .slice) (b := b3) (off := 0) (x := t1) (by rw [fa_mk]) tk rfl ?_
 refine en_brt (by rw [n1]; rfl) ?_
 refine en_ld (k := .slice) (b := b3) (off := 3) (x := t4) (by rw [fa_mk]) tk rfl ?_
 refine en_brt (by rw [n4]; rfl) ?_
 refine en_ld (k := .slice) (b := b3) (off := 1) (x := t2) (by rw [fa_mk]) tk rfl ?_
 refine en_rets (x := true) ?_ ⟨rfl, rfl⟩ tks ens
 rw [n2]; rfl
end Go.Proofs.YtpefngbfgjfcgaaGreat
