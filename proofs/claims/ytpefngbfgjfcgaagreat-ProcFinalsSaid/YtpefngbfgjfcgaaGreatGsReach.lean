/- Laws of collections: all that some lead to. -/
import Derived.Test.YtpefngbfgjfcgaaGreatGsL18
set_option linter.unusedSimpArgs false
set_option linter.unusedVariables false
namespace Go.Proofs.YtpefngbfgjfcgaaGreat
open Go Go.Gl
variable {ρ0 ρ : FR} {L L' : List Asn} {Post : Value → List Asn → Prop} {T : Tree}
theorem g_reach (p : Nat) (S : Spc) (cs : List Cls) (hw : HWf S cs) (z : Slc) (l : List Int) (hz : RoS ρ z 1 (l.map i64)) (K : Nat) (hK : ∀ a, (Ob.refs S cs a).length ≤ K) (hK2 : K ≤ 1023) (hb : l.length + K * (Sp.each S).length < 5000) :
  Gl.Spec ρ Tryz.prog 24 [.pointer (some ⟨p, 0, none⟩), .slice z.a z.n z.c] [HeapA p S cs] RS
  fun r M => ∃ out : List Int, M = [SLc r 1 (out.map i64), HeapA p S cs] ∧ (∀ a, a ∈ out ↔ Mk.Rch S cs l a) ∧ out.length ≤ (Sp.each S).length := by
 refine Spec.of (fun Q w h => F.gloaminglaw18.reach.calls (some ⟨p, 0, none⟩) z h) fun R => ?_
 unfold F.gloaminglaw18.reach
 try simp only [lca, lna]
 have hlen := hw.wf.len
 have hmost := hw.wf.most
 have hel := Sp.each_len hw.wf
 refine en_nw fun b1 => ?_
 refine Tr.imp (A := blk b1 []) (A' := SLc ⟨some ⟨b1, 0, none⟩, 0, 0⟩ 1 (([] : List Int).map i64)) tk (SLc.emp b1 1) ?_
 refine en_appS (s := ⟨some ⟨b1, 0, none⟩, 0, 0⟩) (x := z) (xs := []) (ys := l) appInt tk (Rd.ro hz) (by rw [List.length_nil]; omega) fun r2 h2 => ?_
 rw [List.nil_append]
 have hm0 : Mk.Closed S cs (Mk.st0 S.ws.length).m := Mk.closed0
 have hz0 : ∀ a, Sp.has (Mk.st0 S.ws.length).m a = false := fun a => Mk.has0 a
 generalize (Mk.st0 S.ws.length).m = m0 at *
 refine Tr.nilSL 1 ?_
 refine en_lp (fun n u M => (fun (to tt : Slc) (i : Int) => ∃ (out tl : List Int) (m : List Bool), M = SLc to 1 (out.map i64) :: SLc tt 1 (tl.map i64) :: HeapA p S cs :: R ∧ 0 ≤ i ∧ i ≤ tl.length ∧ n = (K + 1) * m.count false + (tl.length - i.toNat) ∧ Rm S cs m0 l m tl i.toNat ∧ (∀ a, a ∈ out ↔ Sp.has m a = true) ∧ out.Nodup ∧ tl.length ≤ l.length + K * out.length) u.1 u.2.1 u.2.2.1) ((K + 1) * m0.count false + l.length) ?_ ?_
 ·refine ⟨[], l, m0, rfl, by simp, by dsimp only; omega, by simp, ⟨hm0.len, fun _ h => h, fun _ h => .inl h, hm0.obj, fun a ha ho => .inr (.root ha ho), fun a ha b hb ho => .inl (hm0.kid a ha b hb ho), fun a ha _ => .inr (by simpa using ha), ?_⟩, fun a => by simp [hz0 a], .nil, by simp⟩
  have := List.count_le_length (a := false) (l := m0)
  have h3 := hm0.len
  omega
 ·rintro n ⟨(to : Slc), (tt : Slc), (i : Int), ⟨⟩⟩ M ⟨out, tl, m, rfl, i0, i1, rfl, H, hout, hnd, hsz⟩ X hX
  dsimp only at i0 i1 H hX ⊢
  have hoe : out.length ≤ (Sp.each S).length := hnd.length_le_of_subset fun a ha => by
   have := H.obj a ((hout a).mp ha)
   unfold Mk.obj at this
   cases hh : Ob.head S a with
   | none => rw [hh] at this; cases this
   | some hd => exact (obj_each hw).mpr ⟨hd, hh⟩
  have hKo : K * out.length ≤ K * (Sp.each S).length := Nat.mul_le_mul_left _ hoe
  have hml := H.len
  refine Tr.nlen (s := to) (xs := out) tk fun hto => ?_
  refine Tr.nlen (s := tt) (xs := tl) tk fun htt => ?_
  refine en_br (fun h => ?_) (fun h => ?_)
  ·replace h : i < (tt.n : Int) := of_decide_eq_true h
   have hi : i.toNat < tl.length := by omega
   have e1 : (i + 1).toNat = i.toNat + 1 := by omega
   refine en_brt (decide_eq_true (show i < 5000 by omega)) ?_
   refine en_getSL (s := tt) (xs := tl) tk i0 (by omega) ?_
   generalize hx : tl.getD i.toNat 0 = x at *
   refine en_call (object_head p S cs hw x) tks ?_
   rintro x' M ⟨rfl, rfl⟩
   try simp only [lca, lna]
   refine en_nw fun b8 => ?_
   rw [zcH, wrap64 (n := i + 1) (by omega) (by omega)]
   have skip : (Mk.obj S x → Sp.has m x = true) → Tr ρ ρ (SLc to 1 (out.map i64) :: SLc tt 1 (tl.map i64) :: HeapA p S cs :: R) (X (to, tt, i + 1, ())) (SP RS (fun r M => ∃ out : List Int, M = [SLc r 1 (out.map i64), HeapA p S cs] ∧ (∀ a, a ∈ out ↔ Mk.Rch S cs l a) ∧ out.length ≤ (Sp.each S).length) R) := fun hs => by
    refine hX ((K + 1) * m.count false + (tl.length - (i + 1).toNat)) _ _ (by omega) ⟨out, tl, m, rfl, by dsimp only; omega, by dsimp only; omega, rfl, ?_, hout, hnd, hsz⟩
    dsimp only
    rw [e1]
    exact H.skip hi (by rw [hx]; exact hs)
   cases hh : Ob.head S x with
   | none =>
    dsimp only [Ob.headR]
    refine en_st (b := b8) (off := 0) rfl tk (by simp) rfl ?_
    iterate 1
     refine en_call (law_err _) .nil ?_
     rintro x' M ⟨rfl, rfl⟩
     try simp only [lca, lna]
    refine en_brt rfl ?_
    refine Tr.drop .here (Tr.take (A := SLc tt 1 (tl.map i64)) tk (Tr.take (A := SLc to 1 (out.map i64)) tk (skip fun ho => ?_)))
    unfold Mk.obj at ho; rw [hh] at ho; cases ho
   | some hd =>
    obtain ⟨hk, hc, hn, hf⟩ := hd
    have ho : Mk.obj S x := by unfold Mk.obj; rw [hh]; rfl
    have hin := Mk.obj_in hw ho
    dsimp only [Ob.headR, Hd.t]
    refine en_st (b := b8) (off := 0) rfl tk (by simp) rfl ?_
    iterate 1
     refine en_call (law_err _) .nil ?_
     rintro x' M ⟨rfl, rfl⟩
     try simp only [lca, lna]
    refine en_brf rfl ?_
    refine Tr.drop .here ?_
    refine en_call (Spec.own (s := to) (xs := out.map i64) (A := []) fun ρ' _ hro' => ref_in to out hro' (by omega) x) tks ?_
    rintro x' M ⟨M', ⟨rfl, rfl⟩, rfl⟩
    try simp only [lca, lna]
    refine en_br (fun h3 => ?_) (fun h3 => ?_)
    ·have h3 : x ∈ out := of_decide_eq_true h3
     exact Tr.take (A := SLc tt 1 (tl.map i64)) tk (Tr.take (A := SLc to 1 (out.map i64)) tk (skip fun _ => (hout x).mp h3))
    ·have h3 : x ∉ out := of_decide_eq_false h3
     clear skip
     have hnm : m.getD x.toNat false = false := by
      cases e : m.getD x.toNat false with
      | false => rfl
      | true => exact absurd ((hout x).mpr (by rw [has_getD hin.1, e])) h3
     have hrs := hK x
     obtain ⟨H2, hc2⟩ := H.mark hw hm0 hi hx ho hnm (by omega)
     refine en_appI (s := to) (xs := out) appInt tk (by omega) fun r12 h12 => ?_
     refine en_call (object_refs p S cs hw x) tks ?_
     rintro r13 M ⟨hrn, rfl⟩
     try simp only [lca, lna]
     generalize Ob.refs S cs x = xs at *
     let vs : Nat → List Int := fun c => tl ++ (xs.take c).map fun f => (Ob.get S x f).1
     have hvs : ∀ c : Nat, c < xs.length → vs (c + 1) = vs c ++ [(Ob.get S x (xs.getD c 0)).1] := fun c hc => by
      show tl ++ _ = (tl ++ _) ++ _
      rw [take_succ_getD 0 hc, List.map_append, List.append_assoc]; rfl
     have hvl : ∀ c : Nat, c ≤ xs.length → (vs c).length = tl.length + c := fun c hc => by
      show (tl ++ _).length = _
      rw [List.length_append, List.length_map, List.length_take]; omega
     have hv0 : vs 0 = tl := by show tl ++ _ = tl; simp
     have hbig : tl.length < 5000 := by omega
     refine Tr.take (A := SLc tt 1 (tl.map i64)) tk ?_
     refine en_lp (fun n u M => (fun (td : Slc) (c : Int) => M = SLc td 1 ((vs c.toNat).map i64) :: SLc r13 1 (xs.map i64) :: HeapA p S cs :: SLc r12 1 ((out ++ [x]).map i64) :: R ∧ 0 ≤ c ∧ c ≤ xs.length ∧ n = xs.length - c.toNat) u.1 u.2.1) xs.length ?_ ?_
     ·refine ⟨?_, by simp, by dsimp only; omega, by simp⟩
      show _ = SLc _ 1 ((vs 0).map i64) :: _
      rw [hv0]
     ·rintro n ⟨(td : Slc), (c : Int), ⟨⟩⟩ M ⟨rfl, c0, c1, rfl⟩ Y hY
      dsimp only at c0 c1 hY ⊢
      refine en_br (fun h4 => ?_) (fun h4 => ?_)
      ·replace h4 : c < (r13.n : Int) := of_decide_eq_true h4
       have hc : c.toNat < xs.length := by omega
       have hstep := hvs c.toNat hc
       have hvl1 := hvl c.toNat (by omega)
       refine en_getSL (s := r13) (xs := xs) tk c0 (by omega) ?_
       generalize xs.getD c.toNat 0 = f at *
       refine en_call (object_get p S cs hw x f) tks ?_
       rintro x' M ⟨rfl, rfl⟩
       try simp only [lca, lna]
       refine en_appI (s := td) (xs := vs c.toNat) appInt tk (by omega) fun r hr => ?_
       rw [wrap64 (n := c + 1) (by omega) (by omega)]
       refine Tr.take (A := SLc r13 1 (xs.map i64)) tk (Tr.take (A := SLc r 1 ((vs c.toNat ++ [(Ob.get S x f).1]).map i64)) tk ?_)
       refine hY (xs.length - (c + 1).toNat) _ _ (by omega) ⟨?_, by dsimp only; omega, by dsimp only; omega, rfl⟩
       dsimp only
       rw [show (c + 1).toNat = c.toNat + 1 by omega, hstep]
      ·replace h4 : ¬ c < (r13.n : Int) := of_decide_eq_false h4
       have hfull : vs c.toNat = tl ++ xs.map fun f => (Ob.get S x f).1 := by
        show tl ++ (xs.take c.toNat).map _ = _
        rw [List.take_of_length_le (by omega)]
       rw [hfull]
       rw [← List.length_map (f := fun f => (Ob.get S x f).1)] at hrs
       generalize (xs.map fun f => (Ob.get S x f).1) = ws at *
       refine Tr.drop (A := SLc r13 1 (xs.map i64)) tk ?_
       refine Tr.take (A := HeapA p S cs) tk (Tr.take (A := SLc td 1 ((tl ++ ws).map i64)) tk (Tr.take (A := SLc r12 1 ((out ++ [x]).map i64)) tk ?_))
       have hmul : (K + 1) * m.count false = (K + 1) * (m.set x.toNat true).count false + (K + 1) := by rw [← hc2, Nat.mul_add, Nat.mul_one]
       refine hX ((K + 1) * (m.set x.toNat true).count false + ((tl ++ ws).length - (i + 1).toNat)) _ _ (by rw [List.length_append]; omega) ⟨out ++ [x], tl ++ ws, m.set x.toNat true, rfl, by dsimp only; omega, by dsimp only; rw [List.length_append]; omega, rfl, ?_, fun a => ?_, ?_, ?_⟩
       ·dsimp only; rw [e1]; exact H2
       ·rw [List.mem_append, List.mem_singleton, hout, Mk.has_set hin.1 (by omega), Bool.or_eq_true, decide_eq_true_iff]
        exact ⟨fun h => h.symm, fun h => h.symm⟩
       ·rw [List.nodup_append]
        exact ⟨hnd, by simp, fun a ha b hb e => h3 (by rw [List.mem_singleton] at hb; rw [← hb, ← e]; exact ha)⟩
       ·rw [List.length_append, List.length_append, List.length_singleton, Nat.mul_add, Nat.mul_one]; omega
  ·replace h : ¬ i < (tt.n : Int) := of_decide_eq_false h
   have hnil : tl.drop i.toNat = [] := List.drop_eq_nil_of_le (by omega)
   have hC : Mk.Closed S cs m := ⟨H.len, H.obj, fun a ha b hb ho => by
    rcases H.kid a ha b hb ho with h' | h'
    ·exact h'
    ·rw [hnil] at h'; cases h'⟩
   refine en_rets (x := to) rfl ⟨out, rfl, fun a => ?_, hoe⟩ tks ens
   rw [hout]
   constructor
   ·intro h'
    rcases H.new a h' with h'' | h''
    ·rw [hz0] at h''; cases h''
    ·exact h''
   ·intro h'
    refine hC.rch (fun b hb ho => ?_) h'
    rcases H.root b hb ho with h'' | h''
    ·exact h''
    ·rw [hnil] at h''; cases h''
end Go.Proofs.YtpefngbfgjfcgaaGreat
