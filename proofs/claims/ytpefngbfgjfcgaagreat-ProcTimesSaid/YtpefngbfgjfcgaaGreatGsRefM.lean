/- The document's answer for marks. -/
import Derived.Test.YtpefngbfgjfcgaaGreatGsModel
import Derived.Test.YtpefngbfgjfcgaaGreatGsMark5
set_option linter.unusedSimpArgs false
set_option linter.unusedVariables false
namespace Go.Proofs.YtpefngbfgjfcgaaGreat
open Go Go.Gl
variable {ρ0 ρ : FR} {L L' : List Asn} {Post : Value → List Asn → Prop} {T : Tree}
theorem _root_.Go.Gl.Tr.drops {A R : List Asn} (t : Takes L A R) (h : Tr ρ0 ρ R T Post) : Tr ρ0 ρ L T Post := fun hle w hw => h hle w (hw.perm t.perm).dropL
theorem take_appR {B : Asn} {X X' : List Asn} (A : List Asn) (h : Take X B X') : Take (A ++ X) B (A ++ X') := by
 induction A with
 | nil => exact h
 | cons _ A ih => exact .skip ih
theorem rm_new (p : Nat) (S : Spc) (lc : List (Cls × Slc)) (hw : Wf S) : Gl.Spec ρ Tryz.prog 51 [.pointer (some ⟨p, 0, none⟩)] [RHp p S lc] RS
  fun r M => r.n = S.ws.length ∧ M = [SLc r 1 ((Mk.st0 S.ws.length).m.map bv), RHp p S lc] := by
 refine Spec.of (fun Q w' h => F.gloamingref9.NewMarks.calls (some ⟨p, 0, none⟩) h) fun R => ?_
 have hlen := hw.len
 have hmost := hw.most
 unfold F.gloamingref9.NewMarks
 try simp only [List.cons_append, List.nil_append]
 refine en_nn (RHp.op tk fun ps q hq => ?_)
 refine en_ld (k := .ptr) (b := p) (off := 0) (x := some ⟨ps, 0, none⟩) (by rw [fa_mk]) tk rfl ?_
 refine en_nn (RSpaceA.op tk fun sa sk sm sq ql hql => ?_)
 refine en_ld (k := .slice) (b := ps) (off := 0) (x := sa) (by rw [fa_mk]) tk rfl ?_
 refine Tr.nlen (s := sa) (xs := S.ws) tk fun hsa => ?_
 rw [hsa]
 refine Tr.close tks (RSpaceA.cl (p := ps) (S := S) (a := sa) (k := sk) (m := sm) (q := sq) (ql := ql) hql) ?_
 refine Tr.close tks (RHp.cl (p := p) (ps := ps) (S := S) (l := lc) (s := q) hq) ?_
 refine en_mks (e := 4) (m := 1) (bytes := 1) (z := .bool false) (by kernel_rfl) (by kernel_rfl) rfl (by omega) (by omega) (by omega) fun b => ?_
 have e : (List.replicate ((S.ws.length : Nat) : Int).toNat (Value.cells (.bool false)).toList).flatten = (Mk.st0 S.ws.length).m.map bv := by
  rw [show (Value.cells (.bool false)).toList = [bv false] from rfl, rep1, Int.toNat_natCast]; simp [Mk.st0]
 rw [e, Int.toNat_natCast]
 exact en_rets (x := (⟨some ⟨b, 0, none⟩, S.ws.length, S.ws.length⟩ : Slc)) rfl ⟨rfl, rfl⟩ tks ens
theorem rm_all (s : Slc) (m : List Bool) (hl : m.length ≤ 16384) : Gl.Spec ρ Tryz.prog 57 [.slice s.a s.n s.c] [SLc s 1 (m.map bv)] RS
  fun r M => M = [SLc r 1 ((Mk.all m).map i64), SLc s 1 (m.map bv)] := by
 refine Spec.of (fun Q w' h => F.gloamingref9.Marks.All.calls s h) fun R => ?_
 unfold F.gloamingref9.Marks.All
 try simp only [List.cons_append, List.nil_append]
 let pt : Nat → List Int := fun p => ((List.range p).filter fun i => m.getD i false).map fun i : Nat => (i : Int)
 have hpl : ∀ p, (pt p).length ≤ p := fun p => by
  show (((List.range p).filter _).map _).length ≤ p
  rw [List.length_map]; exact Nat.le_trans (List.length_filter_le _ _) (by simp)
 have hps : ∀ k, m.getD k false = true → pt (k + 1) = pt k ++ [(k : Int)] := fun k h => by
  show ((List.range (k + 1)).filter _).map _ = _
  rw [List.range_succ, List.filter_append, List.map_append, List.filter_cons_of_pos (by exact h)]; rfl
 have hpn : ∀ k, m.getD k false = false → pt (k + 1) = pt k := fun k h => by
  show ((List.range (k + 1)).filter _).map _ = _
  rw [List.range_succ, List.filter_append, List.map_append, List.filter_cons_of_neg (by rw [h]; simp)]
  simp [pt]
 refine Tr.vlen (s := s) (xs := m.map bv) tk fun hsn => ?_
 rw [List.length_map] at hsn
 refine Tr.nilSL 1 ?_
 refine en_lp (fun n u M => (fun (t : Slc) (i : Int) => M = SLc t 1 ((pt i.toNat).map i64) :: SLc s 1 (m.map bv) :: R ∧ 0 ≤ i ∧ i ≤ m.length ∧ n = m.length - i.toNat) u.1 u.2.1) m.length ?_ ?_
 ·exact ⟨rfl, by simp, by dsimp only; omega, by simp⟩
 ·rintro n ⟨(t : Slc), (i : Int), ⟨⟩⟩ M ⟨rfl, i0, i1, rfl⟩ X hX
  dsimp only at i0 i1 hX ⊢
  refine en_br (fun h => ?_) (fun h => ?_)
  ·replace h : i < (s.n : Int) := of_decide_eq_true h
   refine en_getB (s := s) (xs := m) tk i0 (by omega) ?_
   rw [wrap64 (n := i + 1) (by omega) (by omega)]
   have e1 : (i + 1).toNat = i.toNat + 1 := by omega
   have hl1 := hpl i.toNat
   refine en_br (fun h2 => ?_) (fun h2 => ?_)
   ·refine en_appI (s := t) (xs := pt i.toNat) appInt tk (by omega) fun r hr => ?_
    refine hX (m.length - (i + 1).toNat) _ _ (by omega) ⟨?_, by dsimp only; omega, by dsimp only; omega, rfl⟩
    dsimp only
    rw [e1, hps _ h2, show ((i.toNat : Nat) : Int) = i by omega]
   ·refine hX (m.length - (i + 1).toNat) _ _ (by omega) ⟨?_, by dsimp only; omega, by dsimp only; omega, rfl⟩
    dsimp only
    rw [e1, hpn _ h2]
  ·replace h : ¬ i < (s.n : Int) := of_decide_eq_false h
   have e : pt i.toNat = Mk.all m := by
    show _ = pt m.length
    rw [show i.toNat = m.length by omega]
   rw [e]
   exact en_rets (x := t) rfl rfl tks ens
structure Rm (S : Spc) (cs : List Cls) (m0 : List Bool) (l : List Int) (m : List Bool) (tl : List Int) (i : Nat) : Prop where
 len : m.length = S.ws.length
 old : ∀ a, Sp.has m0 a = true → Sp.has m a = true
 new : ∀ a, Sp.has m a = true → Sp.has m0 a = true ∨ Mk.Rch S cs l a
 obj : ∀ a, Sp.has m a = true → Mk.obj S a
 snd : ∀ a ∈ tl, Mk.obj S a → Sp.has m0 a = true ∨ Mk.Rch S cs l a
 kid : ∀ a, Sp.has m a = true → ∀ b ∈ Mk.kids S cs a, Mk.obj S b → Sp.has m b = true ∨ b ∈ tl.drop i
 root : ∀ a ∈ l, Mk.obj S a → Sp.has m a = true ∨ a ∈ tl.drop i
 size : tl.length + 1024 * m.count false ≤ l.length + 1024 * S.ws.length
theorem Rm.skip {S : Spc} {cs : List Cls} {m0 : List Bool} {l : List Int} {m : List Bool} {tl : List Int} {i : Nat} (H : Rm S cs m0 l m tl i) (hi : i < tl.length) (hx : Mk.obj S (tl.getD i 0) → Sp.has m (tl.getD i 0) = true) : Rm S cs m0 l m tl (i + 1) := by
 have hd : tl.drop i = tl.getD i 0 :: tl.drop (i + 1) := drop_getD 0 hi
 refine ⟨H.len, H.old, H.new, H.obj, H.snd, fun a ha b hb ho => ?_, fun a ha ho => ?_, H.size⟩
 ·rcases H.kid a ha b hb ho with h | h
  ·exact .inl h
  ·rw [hd] at h
   rcases List.mem_cons.mp h with rfl | h
   ·exact .inl (hx ho)
   ·exact .inr h
 ·rcases H.root a ha ho with h | h
  ·exact .inl h
  ·rw [hd] at h
   rcases List.mem_cons.mp h with rfl | h
   ·exact .inl (hx ho)
   ·exact .inr h
theorem Rm.mark {S : Spc} {cs : List Cls} (hw : HWf S cs) {m0 : List Bool} (hm0 : Mk.Closed S cs m0) {l : List Int} {m : List Bool} {tl : List Int} {i : Nat} (H : Rm S cs m0 l m tl i) (hi : i < tl.length) {x : Int} (hxx : tl.getD i 0 = x) (ho : Mk.obj S x) (hn : m.getD x.toNat false = false) (hr : (Ob.refs S cs x).length ≤ 1023) :
  Rm S cs m0 l (m.set x.toNat true) (tl ++ (Ob.refs S cs x).map fun f => (Ob.get S x f).1) (i + 1) ∧ (m.set x.toNat true).count false + 1 = m.count false := by
 obtain ⟨g1, g2⟩ := Mk.obj_in hw ho
 have hl := H.len
 have hd : tl.drop i = x :: tl.drop (i + 1) := by rw [← hxx]; exact drop_getD 0 hi
 have hc := Mk.count_set (m := m) (i := x.toNat) (by omega) hn
 have hhas : ∀ a, Sp.has (m.set x.toNat true) a = (decide (a = x) || Sp.has m a) := fun a => Mk.has_set g1 (by omega)
 have hup : ∀ a, Sp.has m a = true → Sp.has (m.set x.toNat true) a = true := fun a h => by rw [hhas, h, Bool.or_true]
 have hself : Sp.has (m.set x.toNat true) x = true := by rw [hhas, decide_eq_true rfl]; rfl
 have hxin : x ∈ tl := by rw [← hxx, List.getD_eq_getElem?_getD, List.getElem?_eq_getElem hi]; exact List.getElem_mem hi
 have hsx := H.snd x hxin ho
 have hdrop : (tl ++ (Ob.refs S cs x).map fun f => (Ob.get S x f).1).drop (i + 1) = tl.drop (i + 1) ++ (Ob.refs S cs x).map fun f => (Ob.get S x f).1 := by rw [List.drop_append_of_le_length (by omega)]
 refine ⟨⟨by simp [hl], fun a h => hup a (H.old a h), fun a h => ?_, fun a h => ?_, fun a h hoa => ?_, fun a h b hb hob => ?_, fun a h hoa => ?_, ?_⟩, hc⟩
 ·rw [hhas, Bool.or_eq_true, decide_eq_true_iff] at h
  rcases h with rfl | h
  ·exact hsx
  ·exact H.new a h
 ·rw [hhas, Bool.or_eq_true, decide_eq_true_iff] at h
  rcases h with rfl | h
  ·exact ho
  ·exact H.obj a h
 ·rcases List.mem_append.mp h with h | h
  ·exact H.snd a h hoa
  ·obtain ⟨f, hf, rfl⟩ := List.mem_map.mp h
   by_cases he : (Ob.get S x f).2 = 0
   ·have hk : (Ob.get S x f).1 ∈ Mk.kids S cs x := Mk.mem_kids.mpr ⟨f, hf, he, rfl⟩
    rcases hsx with h | h
    ·exact .inl (hm0.kid x h _ hk hoa)
    ·exact .inr (.step h hk hoa)
   ·have : (Ob.get S x f).1 = 0 := by
     unfold Ob.get at he ⊢
     split
     ·rfl
     ·rename_i hc; rw [if_neg hc] at he; exact absurd rfl he
    rw [this] at hoa
    exact (Mk.obj_zero hw hoa).elim
 ·rw [hdrop]
  rw [hhas, Bool.or_eq_true, decide_eq_true_iff] at h
  rcases h with rfl | h
  ·obtain ⟨f, hf, _, hv⟩ := Mk.mem_kids.mp hb
   exact .inr (List.mem_append_right _ (List.mem_map.mpr ⟨f, hf, hv⟩))
  ·rcases H.kid a h b hb hob with h' | h'
   ·exact .inl (hup b h')
   ·rw [hd] at h'
    rcases List.mem_cons.mp h' with rfl | h'
    ·exact .inl hself
    ·exact .inr (List.mem_append_left _ h')
 ·rw [hdrop]
  rcases H.root a h hoa with h' | h'
  ·exact .inl (hup a h')
  ·rw [hd] at h'
   rcases List.mem_cons.mp h' with rfl | h'
   ·exact .inl hself
   ·exact .inr (List.mem_append_left _ h')
 ·have := H.size
  rw [List.length_append, List.length_map]
  omega
theorem refs_small {S : Spc} {cs : List Cls} (hw : HWf S cs) (hc : ∀ c ∈ cs, c.2.length ≤ 1023) (a : Int) : (Ob.refs S cs a).length ≤ 1023 := by
 unfold Ob.refs
 split
 ·simp
 ·rename_i hd hh
  obtain ⟨_, _, _, _, _, g, _⟩ := Ob.head_is hw hh
  have := Sp.mayH_is g
  split
  ·split
   ·rename_i c hc'
    have hin : c ∈ cs := by
     unfold Sp.clsAt at hc'
     split at hc'
     ·exact List.mem_of_getElem? hc'
     ·cases hc'
    exact hc c hin
   ·simp
  ·split
   ·unfold Sp.upto; simp; omega
   ·split <;> simp
theorem rm_mark (p : Nat) (S : Spc) (lc : List (Cls × Slc)) (hw : HWf S (csO lc)) (hk : Kn S (csO lc)) (hln : ∀ x ∈ lc, x.2.n = x.1.2.length) (hcl : ∀ c ∈ csO lc, c.2.length ≤ 1023) (s : Slc) (m : List Bool) (hm0 : Mk.Closed S (csO lc) m) (z : Slc) (l : List Int) (ro : RoS ρ z 1 (l.map i64)) (hl : l.length < 2 ^ 30) :
  Gl.Spec ρ Tryz.prog 52 [.slice s.a s.n s.c, .pointer (some ⟨p, 0, none⟩), .slice z.a z.n z.c] [SLc s 1 (m.map bv), RHp p S lc] (.many [])
  fun _ M => ∃ m', M = [SLc s 1 (m'.map bv), RHp p S lc] ∧ Mk.Closed S (csO lc) m' ∧ ∀ a, Sp.has m' a = true ↔ (Sp.has m a = true ∨ Mk.Rch S (csO lc) l a) := by
 refine Spec.of (fun Q w' h => F.gloamingref9.Marks.Mark.calls s (some ⟨p, 0, none⟩) z h) fun R => ?_
 unfold F.gloamingref9.Marks.Mark
 try simp only [List.cons_append, List.nil_append]
 have hlen := hw.wf.len
 have hmost := hw.wf.most
 refine en_nw fun b1 => ?_
 refine Tr.imp (A := blk b1 []) (A' := SLc ⟨some ⟨b1, 0, none⟩, 0, 0⟩ 1 (([] : List Int).map i64)) tk (SLc.emp b1 1) ?_
 refine en_appS (s := ⟨some ⟨b1, 0, none⟩, 0, 0⟩) (x := z) (xs := []) (ys := l) appInt tk (Rd.ro ro) (by simp; omega) fun r2 h2 => ?_
 rw [List.nil_append]
 refine en_lp (fun n u M => (fun (t : Slc) (i : Int) => ∃ (m1 : List Bool) (tl : List Int), M = SLc t 1 (tl.map i64) :: SLc s 1 (m1.map bv) :: RHp p S lc :: R ∧ 0 ≤ i ∧ i ≤ tl.length ∧ n = 1025 * m1.count false + (tl.length - i.toNat) ∧ Rm S (csO lc) m l m1 tl i.toNat) u.1 u.2.1) (1025 * m.count false + l.length) ?_ ?_
 ·refine ⟨m, l, rfl, by simp, by dsimp only; omega, by simp, ⟨hm0.len, fun _ h => h, fun _ h => .inl h, hm0.obj, fun a ha ho => .inr (.root ha ho), fun a ha b hb ho => .inl (hm0.kid a ha b hb ho), fun a ha _ => .inr (by simpa using ha), ?_⟩⟩
  have := List.count_le_length (a := false) (l := m)
  have h3 := hm0.len
  omega
 ·rintro n ⟨(t : Slc), (i : Int), ⟨⟩⟩ M ⟨m1, tl, rfl, i0, i1, rfl, H⟩ X hX
  dsimp only at i0 i1 H hX ⊢
  have hsz := H.size
  refine Tr.nlen (s := t) (xs := tl) tk fun htn => ?_
  refine en_br (fun h => ?_) (fun h => ?_)
  ·replace h : i < (t.n : Int) := of_decide_eq_true h
   have hi : i.toNat < tl.length := by omega
   have e1 : (i + 1).toNat = i.toNat + 1 := by omega
   refine en_getSL (s := t) (xs := tl) tk i0 (by omega) ?_
   refine en_call (rh_head p S lc hw (tl.getD i.toNat 0)) tks ?_
   rintro x' M ⟨rfl, rfl⟩
   try simp only [List.cons_append, List.nil_append]
   rw [wrap64 (n := i + 1) (by omega) (by omega)]
   cases hh : Ob.head S (tl.getD i.toNat 0) with
   | none =>
    refine en_brt rfl ?_
    have hno : ¬ Mk.obj S (tl.getD i.toNat 0) := fun ho => by unfold Mk.obj at ho; rw [hh] at ho; cases ho
    have H2 := H.skip hi (fun ho => (hno ho).elim)
    refine Tr.take (A := SLc s 1 (m1.map bv)) tk (Tr.take (A := SLc t 1 (tl.map i64)) tk ?_)
    refine hX (1025 * m1.count false + (tl.length - (i + 1).toNat)) _ _ (by omega) ⟨m1, tl, rfl, by dsimp only; omega, by dsimp only; omega, rfl, ?_⟩
    dsimp only; rw [e1]; exact H2
   | some hd =>
    have ho : Mk.obj S (tl.getD i.toNat 0) := by unfold Mk.obj; rw [hh]; rfl
    obtain ⟨g1, g2⟩ := Mk.obj_in hw ho
    have hml := H.len
    refine en_brf rfl ?_
    refine en_getB (s := s) (xs := m1) tk g1 (by omega) ?_
    refine en_br (fun h3 => ?_) (fun h3 => ?_)
    ·have H2 := H.skip hi (fun _ => by unfold Sp.has; rw [decide_eq_true g1, h3]; rfl)
     refine Tr.take (A := SLc s 1 (m1.map bv)) tk (Tr.take (A := SLc t 1 (tl.map i64)) tk ?_)
     refine hX (1025 * m1.count false + (tl.length - (i + 1).toNat)) _ _ (by omega) ⟨m1, tl, rfl, by dsimp only; omega, by dsimp only; omega, rfl, ?_⟩
     dsimp only; rw [e1]; exact H2
    ·refine en_setB (s := s) (xs := m1) tk g1 (by omega) ?_
     have hrs := refs_small hw hcl (tl.getD i.toNat 0)
     obtain ⟨H2, hc2⟩ := H.mark hw hm0 hi rfl ho h3 hrs
     have hcl1 := List.count_le_length (a := false) (l := m1)
     generalize tl.getD i.toNat 0 = x at *
     refine en_call (rh_refs p S lc hw hk hln x) tks ?_
     rintro r11 M ⟨A, rfl, hA⟩
     try simp only [List.cons_append, List.nil_append]
     generalize Ob.refs S (csO lc) x = xs at *
     have hrn : r11.n = xs.length := by have := (hA ρ S).1; simpa using this.symm
     refine Tr.take (A := SLc t 1 (tl.map i64)) (.skip (take_appR A (.skip .here))) ?_
     let vs : Nat → List Int := fun c => tl ++ (xs.take c).map fun f => (Ob.get S x f).1
     have hvs : ∀ c : Nat, c < xs.length → vs (c + 1) = vs c ++ [(Ob.get S x (xs.getD c 0)).1] := fun c hc => by
      show tl ++ _ = (tl ++ _) ++ _
      rw [take_succ_getD 0 hc, List.map_append, List.append_assoc]; rfl
     have hvl : ∀ c : Nat, c ≤ xs.length → (vs c).length = tl.length + c := fun c hc => by
      show (tl ++ _).length = _
      rw [List.length_append, List.length_map, List.length_take]; omega
     have hv0 : vs 0 = tl := by show tl ++ _ = tl; simp
     refine en_lp (fun n u M => (fun (td : Slc) (c : Int) => M = SLc td 1 ((vs c.toNat).map i64) :: RHp p S lc :: (A ++ SLc s 1 ((m1.set x.toNat true).map bv) :: R) ∧ 0 ≤ c ∧ c ≤ xs.length ∧ n = xs.length - c.toNat) u.1 u.2.1) xs.length ?_ ?_
     ·refine ⟨?_, by simp, by dsimp only; omega, by simp⟩
      show _ = SLc _ 1 ((vs 0).map i64) :: _
      rw [hv0]
     ·rintro n ⟨(td : Slc), (c : Int), ⟨⟩⟩ M ⟨rfl, c0, c1, rfl⟩ Y hY
      dsimp only at c0 c1 hY ⊢
      refine en_br (fun h4 => ?_) (fun h4 => ?_)
      ·replace h4 : c < (r11.n : Int) := of_decide_eq_true h4
       have hc : c.toNat < xs.length := by omega
       have hstep := hvs c.toNat hc
       have hvl1 := hvl c.toNat (by omega)
       refine en_getRd (hA ρ S) (Takes.skip1 (.cons .here (Takes.app A _))) c0 (by omega) ?_
       generalize xs.getD c.toNat 0 = f at *
       refine en_call (rh_field p S lc hw x f) tks ?_
       rintro x' M ⟨rfl, rfl⟩
       try simp only [List.cons_append, List.nil_append]
       refine en_appI (s := td) (xs := vs c.toNat) appInt tk (by omega) fun r hr => ?_
       rw [wrap64 (n := c + 1) (by omega) (by omega)]
       refine hY (xs.length - (c + 1).toNat) _ _ (by omega) ⟨?_, by dsimp only; omega, by dsimp only; omega, rfl⟩
       dsimp only
       rw [show (c + 1).toNat = c.toNat + 1 by omega, hstep]
      ·replace h4 : ¬ c < (r11.n : Int) := of_decide_eq_false h4
       have hfull : vs c.toNat = tl ++ xs.map fun f => (Ob.get S x f).1 := by
        show tl ++ (xs.take c.toNat).map _ = _
        rw [List.take_of_length_le (by omega)]
       rw [hfull]
       rw [← List.length_map (f := fun f => (Ob.get S x f).1)] at hrs
       generalize (xs.map fun f => (Ob.get S x f).1) = ws at *
       refine Tr.drops (Takes.skip1 (Takes.skip1 (Takes.app A _))) ?_
       refine Tr.take (A := SLc s 1 ((m1.set x.toNat true).map bv)) tk (Tr.take (A := SLc td 1 ((tl ++ ws).map i64)) tk ?_)
       refine hX (1025 * (m1.set x.toNat true).count false + ((tl ++ ws).length - (i + 1).toNat)) _ _ (by rw [List.length_append]; omega) ⟨m1.set x.toNat true, tl ++ ws, rfl, by dsimp only; omega, by dsimp only; rw [List.length_append]; omega, rfl, ?_⟩
       dsimp only; rw [e1]; exact H2
  ·replace h : ¬ i < (t.n : Int) := of_decide_eq_false h
   have hnil : tl.drop i.toNat = [] := List.drop_eq_nil_of_le (by omega)
   have hC : Mk.Closed S (csO lc) m1 := ⟨H.len, H.obj, fun a ha b hb ho => by
    rcases H.kid a ha b hb ho with h' | h'
    ·exact h'
    ·rw [hnil] at h'; cases h'⟩
   refine en_rets (x := ()) rfl ⟨m1, rfl, hC, fun a => ⟨H.new a, ?_⟩⟩ tks ens
   rintro (h' | h')
   ·exact H.old a h'
   ·refine hC.rch (fun b hb ho => ?_) h'
    rcases H.root b hb ho with h'' | h''
    ·exact h''
    ·rw [hnil] at h''; cases h''
end Go.Proofs.YtpefngbfgjfcgaaGreat
