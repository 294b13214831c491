/- What is asked of both heaps. -/
import Derived.Test.YtapchggmifbfoaaGreatGlModel
import Derived.Test.YtapchggmifbfoaaGreatGlMark4
set_option linter.unusedSimpArgs false
set_option linter.unusedVariables false
namespace Go.Proofs.YtapchggmifbfoaaGreat
open Go Go.Gl
variable {ρ0 ρ : FR} {L L' : List Asn} {Post : Value → List Asn → Prop} {T : Tree}

theorem tr_drops {A R : List Asn} (t : Takes L A R) (h : Tr ρ0 ρ R T Post) : Tr ρ0 ρ L T Post := fun hle w hw => h hle w (hw.perm t.perm).dropL
theorem tr_weak2 {ρ' : FR} (h0 : Le ρ0 ρ) (hle : Le ρ ρ') (h : Tr ρ0 ρ L T Post) : Tr ρ0 ρ' L T Post := fun _ w hw => h h0 w (hw.weak hle)
theorem obj_each {S : Spc} {cs : List Cls} (hw : HWf S cs) {a : Int} : a ∈ Sp.each S ↔ ∃ h, Ob.head S a = some h := by
  constructor
  · intro h
    obtain ⟨n, w, rfl, hf⟩ := (mem_each hw.wf).mp h
    exact ⟨_, by unfold Ob.head; rw [hf]; dsimp only; rw [if_pos rfl]⟩
  · rintro ⟨h, hh⟩
    obtain ⟨n, w, rfl, hf, _⟩ := Ob.head_is hw hh
    exact (mem_each hw.wf).mpr ⟨n, w, rfl, hf⟩
theorem Kn.make {S : Spc} {cs : List Cls} (hw : HWf S cs) (hk : Kn S cs) (h : Hd) : Kn (Ob.make S cs h).2.2 cs := by
  by_cases h0 : (Ob.make S cs h).2.1 = 0
  · intro a h' hh hk1
    have hin := (each_make hw h0).mem_iff.mp ((obj_each (hw.make h)).mpr ⟨h', hh⟩)
    rcases List.mem_cons.mp hin with rfl | hin
    · rw [Ob.make_head hw h0] at hh
      injection hh with hh
      subst hh
      obtain ⟨_, _, _, hm, _⟩ := Ob.make_ok hw h0
      unfold Ob.may at hm
      split at hm
      · cases hm
      · rw [if_neg (fun g => g hk1)] at hm
        split at hm
        · exact ⟨_, by assumption⟩
        · cases hm
    · obtain ⟨h1, hh1⟩ := (obj_each hw).mp hin
      rw [(Ob.make_keep hw h0 hh1).1] at hh
      injection hh with hh
      subst hh
      exact hk a _ hh1 hk1
  · have : (Ob.make S cs h).2.2 = S := by
      unfold Ob.make at h0 ⊢
      split
      · rfl
      · rename_i h1
        rw [if_neg h1] at h0
        split
        · rfl
        · rename_i h2; rw [if_neg h2] at h0; exact absurd rfl h0
    rw [this]; exact hk
theorem Kn.put {S : Spc} {cs : List Cls} (hw : HWf S cs) (hk : Kn S cs) (a i x : Int) : Kn (Ob.put S a i x).2 cs := by
  by_cases h0 : (Ob.fieldAt S a i).2 = 0
  · obtain ⟨hd, e, i0, i1, _⟩ := Ob.fieldAt_ok hw h0
    obtain ⟨_, hkeep⟩ := Ob.put_keep (x := x) hw e i0 i1
    intro b h' hh hk1
    have hin := (obj_each (hw.put a i x)).mpr ⟨h', hh⟩
    rw [put_each hw] at hin
    obtain ⟨h1, hh1⟩ := (obj_each hw).mp hin
    rw [(hkeep b h1 hh1).1] at hh
    injection hh with hh
    subst hh
    exact hk b _ hh1 hk1
  · have : (Ob.put S a i x).2 = S := by unfold Ob.put; rw [if_pos h0]
    rw [this]; exact hk
theorem Kn.final {S : Spc} {cs : List Cls} (hw : HWf S cs) (hk : Kn S cs) (a : Int) : Kn (Ob.final S a).2 cs := by
  cases hh : Ob.head S a with
  | none =>
    have : (Ob.final S a).2 = S := by unfold Ob.final; rw [hh]
    rw [this]; exact hk
  | some h =>
    by_cases h4 : h.k = 4
    · have : (Ob.final S a).2 = S := by unfold Ob.final; rw [hh]; dsimp only; rw [if_pos h4]
      rw [this]; exact hk
    · cases hf : h.f with
      | true =>
        have : (Ob.final S a).2 = S := by unfold Ob.final; rw [hh]; dsimp only; rw [if_neg h4, if_pos hf]
        rw [this]; exact hk
      | false =>
        obtain ⟨_, g2, g3, _⟩ := Ob.final_keep hw hh h4 hf
        have he : Sp.each (Ob.final S a).2 = Sp.each S := by
          unfold Ob.final; rw [hh]; dsimp only; rw [if_neg h4, if_neg (by rw [hf]; simp)]; rfl
        intro b h' hb hk1
        have hin := (obj_each (hw.final a)).mpr ⟨h', hb⟩
        rw [he] at hin
        obtain ⟨h1, hh1⟩ := (obj_each hw).mp hin
        by_cases hba : b = a
        · subst hba
          rw [g2] at hb
          injection hb with hb
          subst hb
          exact hk b h hh hk1
        · rw [g3 b h1 hba hh1] at hb
          injection hb with hb
          subst hb
          exact hk b _ hh1 hk1
theorem Kn.free {S : Spc} {cs : List Cls} (hw : HWf S cs) (hk : Kn S cs) (a : Int) : Kn (Sp.freeS S a).2 cs := by
  have hno : ∀ {S1 : Spc}, S1 = S → Kn S1 cs := fun e => by rw [e]; exact hk
  cases hf : Sp.find S a with
  | none => exact hno (by unfold Sp.freeS; rw [hf])
  | some x =>
    obtain ⟨s, w⟩ := x
    by_cases hs : (s : Int) = a
    · subst hs
      obtain ⟨_, e2, _, e4⟩ := find_free hw.wf hf
      intro b h' hb hk1
      obtain ⟨n, w', rfl, hfn, _⟩ := Ob.head_is (hw.free s) hb
      have hfS : Sp.find S n = some (n, w') := by
        rw [e4] at hfn
        split at hfn
        · cases hfn
        · exact hfn
      refine hk n h' ?_ hk1
      rw [← hb]
      unfold Ob.head
      rw [hfS, hfn, e2]
    · exact hno (by unfold Sp.freeS; rw [hf]; dsimp only; rw [if_neg hs])
theorem HWf.addC {S : Spc} {cs : List Cls} (hw : HWf S cs) {n : Int} {xs : List Int} (hl : xs.length ≤ 2 ^ 20) : HWf S (Sp.addC cs (n, xs)).2.2 := by
  unfold Sp.addC
  split
  · exact hw
  · split
    · exact hw
    · exact hwf_add hw (by omega) hl
theorem Kn.addC {S : Spc} {cs : List Cls} (hk : Kn S cs) {c : Cls} : Kn S (Sp.addC cs c).2.2 := by
  unfold Sp.addC
  split
  · exact hk
  · split
    · exact hk
    · intro a h hh hk1
      obtain ⟨x, hx⟩ := hk a h hh hk1
      obtain ⟨i, hi, hx⟩ := Sp.clsAt_some hx
      refine ⟨x, ?_⟩
      have hlt := getElem?_lt hx
      unfold Sp.clsAt
      dsimp only
      rw [if_pos ⟨by omega, by simp; omega⟩, List.getElem?_append_left (by omega), show (h.c - 1).toNat = i by omega]
      exact hx

theorem same_ints_rd {A : List Asn} (s1 s2 : Slc) (xs ys : List Int) (h1 : RoS ρ s1 1 (xs.map i64)) (h2 : Rd ρ A s2 1 (ys.map i64)) (hl : xs.length < 2 ^ 62) :
    Gl.Spec ρ Tryz.prog 28 [.slice s1.a s1.n s1.c, .slice s2.a s2.n s2.c] A RB fun r M => r = decide (xs = ys) ∧ M = A := by
  refine Spec.of (fun Q w h => F.gloamingref1.SameInts.calls s1 s2 h) fun R => ?_
  unfold F.gloamingref1.SameInts
  try simp only [List.cons_append, List.nil_append]
  have n1 : s1.n = xs.length := by have := h1.1; simpa using this.symm
  have n2 : s2.n = ys.length := by have := h2.1; simpa using this.symm
  have hA : Takes (A ++ R) A R := Takes.app A R
  refine en_br (fun h => ?_) (fun h => ?_)
  · have hne : xs ≠ ys := by rintro rfl; rw [n1, n2] at h; simp at h
    refine en_rets (x := decide (xs = ys)) ?_ ⟨rfl, rfl⟩ hA ens
    rw [decide_eq_false hne]; rfl
  · have hle : xs.length = ys.length := by rw [n1, n2] at h; simp at h; omega
    refine en_lp (fun n u M => (fun i : Int => M = A ++ R ∧ 0 ≤ i ∧ i ≤ xs.length ∧ n = xs.length - i.toNat ∧ xs.take i.toNat = ys.take i.toNat) u.1) xs.length ?_ ?_
    · exact ⟨rfl, by simp, by dsimp only; omega, by simp, by simp⟩
    · rintro n ⟨(i : Int), ⟨⟩⟩ M ⟨rfl, i0, i1, rfl, ht⟩ X hX
      dsimp only at *
      refine en_br (fun h3 => ?_) (fun h3 => ?_)
      · replace h3 : i < (s1.n : Int) := of_decide_eq_true h3
        have hi : i.toNat < xs.length := by omega
        refine en_drw (en_getRo h1 i0 (by omega) ?_)
        refine en_getRd h2 hA i0 (by omega) ?_
        refine en_br (fun h4 => ?_) (fun h4 => ?_)
        · have hne : xs ≠ ys := by rintro rfl; simp at h4
          refine en_rets (x := decide (xs = ys)) ?_ ⟨rfl, rfl⟩ hA ens
          rw [decide_eq_false hne]; rfl
        · have h4 : xs.getD i.toNat 0 = ys.getD i.toNat 0 := by simpa using h4
          rw [wrap64 (by omega) (by omega)]
          refine hX (xs.length - (i + 1).toNat) _ _ (by omega) ⟨rfl, by dsimp only; omega, by dsimp only; omega, rfl, ?_⟩
          dsimp only
          rw [show (i + 1).toNat = i.toNat + 1 by omega, take_succ_getD 0 hi, take_succ_getD 0 (by omega), ht, h4]
      · replace h3 : ¬ i < (s1.n : Int) := of_decide_eq_false h3
        have he : xs = ys := by
          have := ht
          rwa [List.take_of_length_le (by omega), List.take_of_length_le (by omega)] at this
        refine en_rets (x := decide (xs = ys)) ?_ ⟨rfl, rfl⟩ hA ens
        rw [decide_eq_true he]; rfl

def addr (S : Spc) (a : Int) : Int := if 0 < (Sp.each S).length ∧ 0 ≤ a ∧ a < 64 then (Sp.each S).getD (a.toNat % (Sp.each S).length) 0 else a
theorem g_address (p : Nat) (S : Spc) (lc : List (Cls × Slc)) (hw : Wf S) (a : Int) : Gl.Spec ρ Tryz.prog 79 [.pointer (some ⟨p, 0, none⟩), i64 a] [RHp p S lc] R1
    fun r M => r = addr S a ∧ M = [RHp p S lc] := by
  refine Spec.of (fun Q w h => F.gloaminglaw9.address.calls (some ⟨p, 0, none⟩) a h) fun R => ?_
  have hel := Sp.each_len hw
  unfold F.gloaminglaw9.address
  try simp only [List.cons_append, List.nil_append]
  refine en_nn (RHp.op tk fun ps q hq => ?_)
  refine en_ld (k := .ptr) (b := p) (off := 0) (x := some ⟨ps, 0, none⟩) (by rw [fa_mk]) tk rfl ?_
  refine en_call (rf_each ps S hw) tks ?_
  rintro e M rfl
  try simp only [List.cons_append, List.nil_append]
  refine Tr.close tks (RHp.cl (p := p) (ps := ps) (S := S) (l := lc) (s := q) hq) ?_
  refine Tr.nlen (s := e) (xs := Sp.each S) tk fun hen => ?_
  have fin : ¬ (0 < (Sp.each S).length ∧ 0 ≤ a ∧ a < 64) → Tr ρ ρ (RHp p S lc :: SLc e 1 ((Sp.each S).map i64) :: R) (ret (.int .i64 a)) (SP R1 (fun r M => r = addr S a ∧ M = [RHp p S lc]) R) := fun hc => by
    have e : addr S a = a := by unfold addr; rw [if_neg hc]
    rw [e]
    exact en_rets (x := a) rfl ⟨rfl, rfl⟩ tks ens
  refine en_br (fun h1 => ?_) (fun h1 => fin (fun g => by have : ¬ ((e.n : Nat) : Int) > 0 := of_decide_eq_false h1; omega))
  replace h1 : ((e.n : Nat) : Int) > 0 := of_decide_eq_true h1
  refine en_br (fun h2 => ?_) (fun h2 => fin (fun g => by have : ¬ a ≥ 0 := of_decide_eq_false h2; omega))
  replace h2 : a ≥ 0 := of_decide_eq_true h2
  refine en_br (fun h3 => ?_) (fun h3 => fin (fun g => by have : ¬ a < 64 := of_decide_eq_false h3; omega))
  replace h3 : a < 64 := of_decide_eq_true h3
  refine en_need (by omega) ?_
  have hlt : a.toNat % (Sp.each S).length < (Sp.each S).length := Nat.mod_lt _ (by omega)
  rw [show Int.tmod a (e.n : Nat) = ((a.toNat % (Sp.each S).length : Nat) : Int) by rw [hen, ix_mod h2 (by omega)]]
  refine en_getSL (s := e) (xs := Sp.each S) tk (by omega) (by omega) ?_
  rw [Int.toNat_natCast]
  have e2 : addr S a = (Sp.each S).getD (a.toNat % (Sp.each S).length) 0 := by unfold addr; rw [if_pos ⟨by omega, h2, h3⟩]
  rw [e2]
  exact en_rets (x := (Sp.each S).getD (a.toNat % (Sp.each S).length) 0) rfl ⟨rfl, rfl⟩ tks ens

/-- something that is asked -/
structure Ask1 where
  d : Int
  k : Int
  c : Int
  n : Int
  f : Bool
  cn : Int
  cr : Slc
  at' : Int
  i : Int
  x : Int
abbrev KA : List LK := [.int .i64, .int .i64, .int .i64, .int .i64, .bool, .int .i64, .slice, .int .i64, .int .i64, .int .i64]
def Ask1.t (a : Ask1) : LTs KA := (a.d, a.k, a.c, a.n, a.f, a.cn, a.cr, a.at', a.i, a.x, ())
def Ask1.cs (a : Ask1) : List Value := vals KA a.t
theorem ask_len (a : Ask1) : (Ask1.cs a).length = 10 := rfl
def RoAsks (ρ : FR) (s : Slc) (l : List Ask1) : Prop := RoS ρ s 10 (l.flatMap Ask1.cs) ∧ ∀ j a, j < 60 → l[j]? = some a → ∃ xs : List Int, RoS ρ a.cr 1 (xs.map i64) ∧ xs.length ≤ 2 ^ 20
theorem zcAsk : zc Tryz.prog 56 = [.int .i64 0, .int .i64 0, .int .i64 0, .int .i64 0, .bool false, .int .i64 0, .slice none 0 0, .int .i64 0, .int .i64 0, .int .i64 0] := by kernel_rfl

/-- two heaps, one the document's, that are alike -/
structure Both (S : Spc) (lc : List (Cls × Slc)) : Prop where
  hw : HWf S (csO lc)
  kn : Kn S (csO lc)
  ln : ∀ x ∈ lc, x.2.n = x.1.2.length

theorem g_runs (n : Int) (h0 : 1 ≤ n) (h1 : n ≤ 256) (s : Slc) (l : List Ask1) (ro : RoAsks ρ s l) (hl : l.length < 2 ^ 63) : Gl.Spec ρ Tryz.prog 36 [i64 n, .slice s.a s.n s.c] [] RB fun r M => r = true ∧ M = [] := by
  refine Spec.of (fun Q w h => F.gloaminglaw9.runs.calls n s h) fun R => ?_
  obtain ⟨ro, hrefs⟩ := ro
  unfold F.gloaminglaw9.runs
  try simp only [List.cons_append, List.nil_append]
  refine en_call (object_new n h0 h1) tks ?_
  rintro x' M ⟨p, rfl, rfl⟩
  try simp only [List.cons_append, List.nil_append]
  refine en_call (law_whole p (Sp.newSpc n.toNat) []) tks ?_
  rintro x' M ⟨rfl, rfl⟩
  try simp only [List.cons_append, List.nil_append]
  refine en_brf rfl ?_
  iterate 1
    refine en_call (law_err _) .nil ?_
    rintro x' M ⟨rfl, rfl⟩
    try simp only [List.cons_append, List.nil_append]
  refine en_brf rfl ?_
  refine en_call (rh_new n h0 h1) tks ?_
  rintro x' M ⟨pm, rfl, rfl⟩
  try simp only [List.cons_append, List.nil_append]
  have hsn : s.n = l.length := by
    have := ro.1
    rw [flat_len (g := Ask1.cs) (m := 10) ask_len] at this
    omega
  have B0 : Both (Sp.newSpc n.toNat) [] := ⟨newSpc_hwf (by omega) (by omega), fun a h hh => (by
    unfold Ob.head at hh
    rw [newSpc_find (by omega)] at hh
    cases hh), by simp⟩
  refine Tr.take (A := HeapA p (Sp.newSpc n.toNat) []) tk ?_
  refine en_lp (fun m u M => (fun i : Int => ∃ (S : Spc) (lc : List (Cls × Slc)), M = HeapA p S (csO lc) :: RHp pm S lc :: R ∧ 0 ≤ i ∧ i ≤ l.length ∧ m = l.length - i.toNat ∧ Both S lc) u.1) l.length ?_ ?_
  · exact ⟨_, [], rfl, by simp, by dsimp only; omega, by simp, B0⟩
  · clear B0
    rintro m ⟨(i : Int), ⟨⟩⟩ M ⟨S, lc, rfl, i0, i1, rfl, B⟩ X hX
    dsimp only at i0 i1 hX ⊢
    -- the end
    have fin : Tr ρ ρ (HeapA p S (csO lc) :: RHp pm S lc :: R) (drw <| held fun S7 =>
        call Tryz.prog 30 [.pointer (some ⟨p, 0, none⟩)] (.one (.l .slice)) fun (r8 : Slc) =>
        chk S7 <| narrow S7 fun S9 =>
        call Tryz.prog 31 [.pointer (some ⟨pm, 0, none⟩)] (.one (.l .slice)) fun (r10 : Slc) =>
        chk S9 <| narrow S9 fun S11 =>
        call Tryz.prog 29 [.slice r8.a r8.n r8.c, .slice r10.a r10.n r10.c] (.one (.l .bool)) fun (r12 : Bool) =>
        chk S11 <| narrow S11 fun S13 =>
        br r12
         (nn (some ⟨p, 0, none⟩) fun a14 =>
         ldS S13 (.l .ptr) (fa a14 0) fun (x15 : Option Addr) =>
         nn (some ⟨pm, 0, none⟩) fun a16 =>
         ldS S13 (.l .ptr) (fa a16 0) fun (x17 : Option Addr) =>
         call Tryz.prog 32 [.pointer x15] (.one (.l (.int .i64))) fun (r18 : Int) =>
         chk S13 <|
         call Tryz.prog 33 [.pointer x17] (.one (.l (.int .i64))) fun (r19 : Int) =>
         ret (.bool ((r18 : Int) == r19)))
         (ret (.bool false))) (SP RB (fun r M => r = true ∧ M = []) R) := by
      obtain ⟨ho1, ho2⟩ := objs_small B.hw
      refine en_drw (en_held [] .nil ?_)
      refine en_call (object_objects p S (csO lc) B.hw) tks ?_
      rintro s6 M ⟨rfl, hn6⟩
      try simp only [List.cons_append, List.nil_append]
      refine en_chk .nil (en_cut [] .nil (fun w h => h) ?_)
      refine en_call (rh_objects pm S lc B.hw) tks ?_
      rintro s7 M ⟨rfl, hn7⟩
      try simp only [List.cons_append, List.nil_append]
      refine en_chk .nil (en_cut [] .nil (fun w h => h) ?_)
      refine Tr.keepObs (s := s6) (os := Ob.objs S) tk fun ρ5 hle5 hobs => ?_
      refine Tr.keepObs (s := s7) (os := Ob.objs S) tk fun ρ6 hle6 hobs2 => ?_
      refine en_call (same_objs s6 s7 (Ob.objs S) (RoObs.le hobs hle6) hobs2 ho1 ho2) .nil ?_
      rintro x' M ⟨rfl, rfl⟩
      try simp only [List.cons_append, List.nil_append]
      refine HeapA.op (p := p) tk fun ps pt => ?_
      refine RHp.op (p := pm) tk fun ps2 q hq => ?_
      refine en_chkW (hle5.trans hle6) .nil (en_cut [blk p [.pointer (some ⟨ps, 0, none⟩), .pointer (some ⟨pt, 0, none⟩)], blk pm [.pointer (some ⟨ps2, 0, none⟩), slv q]] tks (fun w h => (h.sub .nil).weak (hle5.trans hle6)) ?_)
      refine en_brt rfl ?_
      refine en_nn (en_ldS (k := .ptr) (b := p) (x := some ⟨ps, 0, none⟩) (by rw [fa_mk]) tk rfl ?_)
      refine en_nn (en_ldS (k := .ptr) (b := pm) (x := some ⟨ps2, 0, none⟩) (by rw [fa_mk]) tk rfl ?_)
      refine en_call (space_used ps S B.hw.wf) tks ?_
      rintro x' M ⟨rfl, rfl⟩
      try simp only [List.cons_append, List.nil_append]
      refine en_chk tks ?_
      refine en_call (rf_used ps2 S B.hw.wf) tks ?_
      rintro x' M ⟨rfl, rfl⟩
      try simp only [List.cons_append, List.nil_append]
      refine en_rets (x := true) ?_ ⟨rfl, rfl⟩ tks ens
      show Value.bool _ = Value.bool true
      simp
    refine en_br (fun h => ?_) (fun h => fin)
    replace h : i < (s.n : Int) := of_decide_eq_true h
    refine en_br (fun h60 => ?_) (fun h60 => fin)
    replace h60 : i < 60 := of_decide_eq_true h60
    clear fin
    have hi : i.toNat < l.length := by omega
    have ha : l[i.toNat]? = some l[i.toNat] := List.getElem?_eq_getElem hi
    obtain ⟨xs, hxs, hxl⟩ := hrefs i.toNat _ (by omega) ha
    have hcell : ∀ e v, (vals KA l[i.toNat].t)[e]? = some v → (l.flatMap Ask1.cs)[i.toNat * 10 + 0 + e]? = some v := fun e v he => by
      have hlt : e < 10 := getElem?_lt he
      rw [Nat.add_zero, flat_get (g := Ask1.cs) (m := 10) ask_len ha hlt]
      exact he
    generalize l[i.toNat] = a at *
    obtain ⟨d, k, c, n', f, cn, cr, at', ii, xx⟩ := a
    have wi : IntKind.wrap .i64 (i + 1) = i + 1 := wrap64 (by omega) (by omega)
    refine en_jn (fun _ M => ∃ (S : Spc) (lc : List (Cls × Slc)), M = HeapA p S (csO lc) :: RHp pm S lc :: R ∧ Both S lc) ?_ ?_
    · rintro _ M ⟨S', lc', rfl, B'⟩
      rw [wi]
      exact hX (l.length - (i + 1).toNat) _ _ (by omega) ⟨S', lc', rfl, by dsimp only; omega, by dsimp only; omega, rfl, B'⟩
    · clear hX
      intro J hJ
      refine en_ixRo ro i0 h fun a0 ha0 => ?_
      refine en_ldRg (x := (⟨d, k, c, n', f, cn, cr, at', ii, xx⟩ : Ask1).t) ha0 ro (j := i.toNat * 10) (by rintro b o rfl; simp [fa_mk]) hcell ?_
      dsimp only [Ask1.t]
      refine en_nw fun b11 => ?_
      rw [zcAsk]
      refine en_st (b := b11) (off := 0) rfl tk (by simp) rfl ?_
      refine en_ld (k := .int .i64) (b := b11) (off := 7) (x := at') (by rw [fa_mk]) tk rfl ?_
      refine en_call (g_address pm S lc B.hw.wf at') tks ?_
      rintro x' M ⟨rfl, rfl⟩
      try simp only [List.cons_append, List.nil_append]
      generalize addr S at' = ad
      refine en_jn (fun _ M => ∃ (S : Spc) (lc : List (Cls × Slc)), M = blk b11 [.int .i64 d, .int .i64 k, .int .i64 c, .int .i64 n', .bool f, .int .i64 cn, .slice cr.a cr.n cr.c, .int .i64 at', .int .i64 ii, .int .i64 xx] :: HeapA p S (csO lc) :: RHp pm S lc :: R ∧ Both S lc) ?_ ?_
      · clear B lc S
        rintro _ M ⟨S, lc, rfl, B⟩
        have hwc := B.hw
        refine en_ld (k := .int .i64) (b := b11) (off := 8) (x := ii) (by rw [fa_mk]) tk rfl ?_
        refine en_call (object_get p S (csO lc) hwc ad ii) tks ?_
        rintro x' M ⟨rfl, rfl⟩
        try simp only [List.cons_append, List.nil_append]
        refine en_ld (k := .int .i64) (b := b11) (off := 8) (x := ii) (by rw [fa_mk]) tk rfl ?_
        refine en_call (rh_field pm S lc hwc ad ii) tks ?_
        rintro x' M ⟨rfl, rfl⟩
        try simp only [List.cons_append, List.nil_append]
        generalize Ob.get S ad ii = g
        refine en_nw fun b20 => ?_
        rw [zcGot]
        refine en_st (b := b20) (off := 0) rfl tk (by simp) rfl ?_
        refine en_call (object_head p S (csO lc) hwc ad) tks ?_
        rintro x' M ⟨rfl, rfl⟩
        try simp only [List.cons_append, List.nil_append]
        refine en_nw fun b22 => ?_
        rw [zcH]
        have refs : ∀ {junk : Slc → Slc → Bool → Tree}, (∀ r36 r37, Tr ρ ρ (HeapA p S (csO lc) :: RHp pm S lc :: R) (junk r36 r37 true) (SP RB (fun r M => r = true ∧ M = []) R)) → Tr ρ ρ (HeapA p S (csO lc) :: RHp pm S lc :: R)
            (call Tryz.prog 45 [.pointer (some ⟨p, 0, none⟩), .int .i64 ad] (.one (.l .slice)) fun (r36 : Slc) =>
            call Tryz.prog 84 [.pointer (some ⟨pm, 0, none⟩), .int .i64 ad] (.one (.l .slice)) fun (r37 : Slc) =>
            call Tryz.prog 28 [.slice r36.a r36.n r36.c, .slice r37.a r37.n r37.c] (.one (.l .bool)) fun (r38 : Bool) =>
            br (!r38) (ret (.bool false)) (junk r36 r37 r38)) (SP RB (fun r M => r = true ∧ M = []) R) := fun {junk} hj => by
          refine en_call (object_refs p S (csO lc) hwc ad) tks ?_
          rintro r36 M ⟨h36, rfl⟩
          try simp only [List.cons_append, List.nil_append]
          have hrl := refs_len hwc ad
          refine Tr.keepSL (s := r36) tk fun ρ1 hle1 hr36 => ?_
          refine en_call (rh_refs pm S lc hwc B.kn B.ln ad) tks ?_
          rintro r37 M ⟨A, rfl, hA⟩
          refine en_call (same_ints_rd r36 r37 _ _ hr36 (hA ρ1 S) (by omega)) (Takes.app _ _) ?_
          rintro x' M ⟨rfl, rfl⟩
          have e : decide (Ob.refs S (csO lc) ad = Ob.refs S (csO lc) ad) = true := by simp
          rw [e]
          refine en_brf rfl ?_
          try simp only [List.cons_append, List.nil_append]
          refine tr_drops (Takes.skip1 (Takes.app A _)) ?_
          refine Tr.take (A := HeapA p S (csO lc)) tk ?_
          refine tr_weak2 (Le.refl _) hle1 ?_
          exact hj r36 r37
        cases hh : Ob.head S ad with
        | none =>
          dsimp only [Ob.headR]
          refine en_st (b := b22) (off := 0) rfl tk (by simp) rfl ?_
          refine en_call (rh_head pm S lc hwc ad) tks ?_
          rintro x' M ⟨rfl, rfl⟩
          try simp only [List.cons_append, List.nil_append]
          rw [hh]
          dsimp only [Rf.hd]
          refine en_nw fun b24 => ?_
          rw [zcHX]
          refine en_st (b := b24) (off := 0) rfl tk (by simp) rfl ?_
          refine en_drw (en_held [blk b20 [.int .i64 g.1, .int .i64 g.2], blk b22 [.int .i64 0, .int .i64 0, .int .i64 0, .bool false], blk b24 [.int .i64 0, .int .i64 0, .int .i64 0, .bool false, .bool false]] tks ?_)
          refine en_ldS (k := .int .i64) (b := b20) (off := 0) (x := g.1) (by rw [fa_mk]) tk rfl ?_
          refine en_brf (by simp) ?_
          refine en_ldS (k := .int .i64) (b := b20) (off := 1) (x := g.2) (by rw [fa_mk]) tk rfl ?_
          iterate 1
            refine en_call (law_err _) .nil ?_
            rintro x' M ⟨rfl, rfl⟩
            try simp only [List.cons_append, List.nil_append]
          refine en_chk tks (en_cut [blk b20 [.int .i64 g.1, .int .i64 g.2], blk b22 [.int .i64 0, .int .i64 0, .int .i64 0, .bool false], blk b24 [.int .i64 0, .int .i64 0, .int .i64 0, .bool false, .bool false]] tks (fun w h => h) ?_)
          refine en_brf (by simp) ?_
          refine en_ldgS (b := b22) (off := 0) (x := ((0 : Int), (0 : Int), (0 : Int), false, ())) [] rfl tk rfl ?_
          refine en_ldgS (b := b24) (off := 0) (x := ((0 : Int), (0 : Int), (0 : Int), false, ())) [.bool false] (by rw [fa_mk]) tk rfl ?_
          refine en_brf (by simp) ?_
          refine en_ldS (k := .bool) (b := b24) (off := 4) (x := false) (by rw [fa_mk]) tk rfl ?_
          iterate 1
            refine en_call (law_err _) .nil ?_
            rintro x' M ⟨rfl, rfl⟩
            try simp only [List.cons_append, List.nil_append]
          refine en_chk tks (en_cut [blk b20 [.int .i64 g.1, .int .i64 g.2], blk b22 [.int .i64 0, .int .i64 0, .int .i64 0, .bool false], blk b24 [.int .i64 0, .int .i64 0, .int .i64 0, .bool false, .bool false]] tks (fun w h => h) ?_)
          refine en_brf rfl ?_
          refine en_ldS (k := .bool) (b := b24) (off := 4) (x := false) (by rw [fa_mk]) tk rfl ?_
          refine en_brt rfl ?_
          iterate 1
            refine en_call (law_err _) .nil ?_
            rintro x' M ⟨rfl, rfl⟩
            try simp only [List.cons_append, List.nil_append]
          refine en_brf rfl ?_
          refine Tr.drop (A := blk b20 [.int .i64 g.1, .int .i64 g.2]) tk (Tr.drop (A := blk b22 [.int .i64 0, .int .i64 0, .int .i64 0, .bool false]) tk (Tr.drop (A := blk b24 [.int .i64 0, .int .i64 0, .int .i64 0, .bool false, .bool false]) tk (Tr.drop (A := blk b11 [.int .i64 d, .int .i64 k, .int .i64 c, .int .i64 n', .bool f, .int .i64 cn, .slice cr.a cr.n cr.c, .int .i64 at', .int .i64 ii, .int .i64 xx]) tk ?_)))
          refine Tr.take (A := RHp pm S lc) tk (Tr.take (A := HeapA p S (csO lc)) tk ?_)
          exact refs fun _ _ => hJ _ _ ⟨S, lc, rfl, B⟩
        | some hd =>
          obtain ⟨hk, hc, hn, hf⟩ := hd
          dsimp only [Ob.headR, Hd.t]
          refine en_st (b := b22) (off := 0) rfl tk (by simp) rfl ?_
          refine en_call (rh_head pm S lc hwc ad) tks ?_
          rintro x' M ⟨rfl, rfl⟩
          try simp only [List.cons_append, List.nil_append]
          rw [hh]
          dsimp only [Rf.hd]
          refine en_nw fun b24 => ?_
          rw [zcHX]
          refine en_st (b := b24) (off := 0) rfl tk (by simp) rfl ?_
          refine en_drw (en_held [blk b20 [.int .i64 g.1, .int .i64 g.2], blk b22 [.int .i64 hk, .int .i64 hc, .int .i64 hn, .bool hf], blk b24 [.int .i64 hk, .int .i64 hc, .int .i64 hn, .bool hf, .bool true]] tks ?_)
          refine en_ldS (k := .int .i64) (b := b20) (off := 0) (x := g.1) (by rw [fa_mk]) tk rfl ?_
          refine en_brf (by simp) ?_
          refine en_ldS (k := .int .i64) (b := b20) (off := 1) (x := g.2) (by rw [fa_mk]) tk rfl ?_
          iterate 1
            refine en_call (law_err _) .nil ?_
            rintro x' M ⟨rfl, rfl⟩
            try simp only [List.cons_append, List.nil_append]
          refine en_chk tks (en_cut [blk b20 [.int .i64 g.1, .int .i64 g.2], blk b22 [.int .i64 hk, .int .i64 hc, .int .i64 hn, .bool hf], blk b24 [.int .i64 hk, .int .i64 hc, .int .i64 hn, .bool hf, .bool true]] tks (fun w h => h) ?_)
          refine en_brf (by simp) ?_
          refine en_ldgS (b := b22) (off := 0) (x := (hk, hc, hn, hf, ())) [] rfl tk rfl ?_
          refine en_ldgS (b := b24) (off := 0) (x := (hk, hc, hn, hf, ())) [.bool true] (by rw [fa_mk]) tk rfl ?_
          refine en_brf (by simp) ?_
          refine en_ldS (k := .bool) (b := b24) (off := 4) (x := true) (by rw [fa_mk]) tk rfl ?_
          iterate 1
            refine en_call (law_err _) .nil ?_
            rintro x' M ⟨rfl, rfl⟩
            try simp only [List.cons_append, List.nil_append]
          refine en_chk tks (en_cut [blk b20 [.int .i64 g.1, .int .i64 g.2], blk b22 [.int .i64 hk, .int .i64 hc, .int .i64 hn, .bool hf], blk b24 [.int .i64 hk, .int .i64 hc, .int .i64 hn, .bool hf, .bool true]] tks (fun w h => h) ?_)
          refine en_brf rfl ?_
          refine en_ldS (k := .bool) (b := b24) (off := 4) (x := true) (by rw [fa_mk]) tk rfl ?_
          refine en_brf rfl ?_
          refine Tr.drop (A := blk b20 [.int .i64 g.1, .int .i64 g.2]) tk (Tr.drop (A := blk b22 [.int .i64 hk, .int .i64 hc, .int .i64 hn, .bool hf]) tk (Tr.drop (A := blk b24 [.int .i64 hk, .int .i64 hc, .int .i64 hn, .bool hf, .bool true]) tk (Tr.drop (A := blk b11 [.int .i64 d, .int .i64 k, .int .i64 c, .int .i64 n', .bool f, .int .i64 cn, .slice cr.a cr.n cr.c, .int .i64 at', .int .i64 ii, .int .i64 xx]) tk ?_)))
          refine Tr.take (A := RHp pm S lc) tk (Tr.take (A := HeapA p S (csO lc)) tk ?_)
          exact refs fun _ _ => hJ _ _ ⟨S, lc, rfl, B⟩
      · intro J' hJ'
        have go : ∀ S lc, Both S lc → Tr ρ ρ (blk b11 [.int .i64 d, .int .i64 k, .int .i64 c, .int .i64 n', .bool f, .int .i64 cn, .slice cr.a cr.n cr.c, .int .i64 at', .int .i64 ii, .int .i64 xx] :: HeapA p S (csO lc) :: RHp pm S lc :: R) (J' ()) (SP RB (fun r M => r = true ∧ M = []) R) := fun S lc B => hJ' () _ ⟨S, lc, rfl, B⟩
        clear hJ' hJ
        refine en_ld (k := .int .i64) (b := b11) (off := 0) (x := d) (by rw [fa_mk]) tk rfl ?_
        have hd : d = 0 ∨ d = 1 ∨ d = 2 ∨ d = 3 ∨ d = 4 ∨ d = 5 ∨ d = 6 ∨ d = 7 ∨ (d ≠ 0 ∧ d ≠ 1 ∧ d ≠ 2 ∧ d ≠ 3 ∧ d ≠ 4 ∧ d ≠ 5 ∧ d ≠ 6 ∧ d ≠ 7) := by omega
        rcases hd with rfl | rfl | rfl | rfl | rfl | rfl | rfl | rfl | ⟨d0, d1, d2, d3, d4, d5, d6, d7⟩
        · repeat (first | refine en_brt rfl ?_ | refine en_brf rfl ?_)
          have B' : Both (Ob.make S (csO lc) ⟨k, c, n', f⟩).2.2 lc := ⟨B.hw.make _, B.kn.make B.hw _, B.ln⟩
          refine en_ldg (b := b11) (off := 1) (x := (k, c, n', f, ())) [.int .i64 cn, .slice cr.a cr.n cr.c, .int .i64 at', .int .i64 ii, .int .i64 xx] (by rw [fa_mk]) tk rfl ?_
          refine en_call (object_make p S (csO lc) B.hw ⟨k, c, n', f⟩) tks ?_
          rintro x' M ⟨rfl, rfl⟩
          try simp only [List.cons_append, List.nil_append]
          refine en_ldg (b := b11) (off := 1) (x := (k, c, n', f, ())) [.int .i64 cn, .slice cr.a cr.n cr.c, .int .i64 at', .int .i64 ii, .int .i64 xx] (by rw [fa_mk]) tk rfl ?_
          refine en_call (rh_make pm S lc B.hw ⟨k, c, n', f⟩) tks ?_
          rintro x' M ⟨rfl, rfl⟩
          try simp only [List.cons_append, List.nil_append]
          generalize Ob.make S (csO lc) ⟨k, c, n', f⟩ = mk at *
          refine en_nw fun b44 => ?_
          rw [zcGot]
          refine en_st (b := b44) (off := 0) rfl tk (by simp) rfl ?_
          refine en_drw (en_held [blk b44 [.int .i64 mk.1, .int .i64 mk.2.1]] tks ?_)
          refine en_ldS (k := .int .i64) (b := b44) (off := 0) (x := mk.1) (by rw [fa_mk]) tk rfl ?_
          refine en_brf (by simp) ?_
          refine en_ldS (k := .int .i64) (b := b44) (off := 1) (x := mk.2.1) (by rw [fa_mk]) tk rfl ?_
          iterate 1
            refine en_call (law_err _) .nil ?_
            rintro x' M ⟨rfl, rfl⟩
            try simp only [List.cons_append, List.nil_append]
          refine en_chk tks (en_brf (by simp) ?_)
          refine Tr.drop (A := blk b44 [.int .i64 mk.1, .int .i64 mk.2.1]) tk ?_
          refine Tr.take (A := RHp pm mk.2.2 lc) tk (Tr.take (A := HeapA p mk.2.2 (csO lc)) tk (Tr.take (A := blk b11 [.int .i64 0, .int .i64 k, .int .i64 c, .int .i64 n', .bool f, .int .i64 cn, .slice cr.a cr.n cr.c, .int .i64 at', .int .i64 ii, .int .i64 xx]) tk ?_))
          exact go _ _ B'
        · repeat (first | refine en_brt rfl ?_ | refine en_brf rfl ?_)
          have B' : Both (Ob.make S (csO lc) ⟨k, c, n', f⟩).2.2 lc := ⟨B.hw.make _, B.kn.make B.hw _, B.ln⟩
          refine en_ldg (b := b11) (off := 1) (x := (k, c, n', f, ())) [.int .i64 cn, .slice cr.a cr.n cr.c, .int .i64 at', .int .i64 ii, .int .i64 xx] (by rw [fa_mk]) tk rfl ?_
          refine en_call (object_make p S (csO lc) B.hw ⟨k, c, n', f⟩) tks ?_
          rintro x' M ⟨rfl, rfl⟩
          try simp only [List.cons_append, List.nil_append]
          refine en_ldg (b := b11) (off := 1) (x := (k, c, n', f, ())) [.int .i64 cn, .slice cr.a cr.n cr.c, .int .i64 at', .int .i64 ii, .int .i64 xx] (by rw [fa_mk]) tk rfl ?_
          refine en_call (rh_make pm S lc B.hw ⟨k, c, n', f⟩) tks ?_
          rintro x' M ⟨rfl, rfl⟩
          try simp only [List.cons_append, List.nil_append]
          generalize Ob.make S (csO lc) ⟨k, c, n', f⟩ = mk at *
          refine en_nw fun b44 => ?_
          rw [zcGot]
          refine en_st (b := b44) (off := 0) rfl tk (by simp) rfl ?_
          refine en_drw (en_held [blk b44 [.int .i64 mk.1, .int .i64 mk.2.1]] tks ?_)
          refine en_ldS (k := .int .i64) (b := b44) (off := 0) (x := mk.1) (by rw [fa_mk]) tk rfl ?_
          refine en_brf (by simp) ?_
          refine en_ldS (k := .int .i64) (b := b44) (off := 1) (x := mk.2.1) (by rw [fa_mk]) tk rfl ?_
          iterate 1
            refine en_call (law_err _) .nil ?_
            rintro x' M ⟨rfl, rfl⟩
            try simp only [List.cons_append, List.nil_append]
          refine en_chk tks (en_brf (by simp) ?_)
          refine Tr.drop (A := blk b44 [.int .i64 mk.1, .int .i64 mk.2.1]) tk ?_
          refine Tr.take (A := RHp pm mk.2.2 lc) tk (Tr.take (A := HeapA p mk.2.2 (csO lc)) tk (Tr.take (A := blk b11 [.int .i64 1, .int .i64 k, .int .i64 c, .int .i64 n', .bool f, .int .i64 cn, .slice cr.a cr.n cr.c, .int .i64 at', .int .i64 ii, .int .i64 xx]) tk ?_))
          exact go _ _ B'
        · repeat (first | refine en_brt rfl ?_ | refine en_brf rfl ?_)
          have B' : Both (Ob.make S (csO lc) ⟨k, c, n', f⟩).2.2 lc := ⟨B.hw.make _, B.kn.make B.hw _, B.ln⟩
          refine en_ldg (b := b11) (off := 1) (x := (k, c, n', f, ())) [.int .i64 cn, .slice cr.a cr.n cr.c, .int .i64 at', .int .i64 ii, .int .i64 xx] (by rw [fa_mk]) tk rfl ?_
          refine en_call (object_make p S (csO lc) B.hw ⟨k, c, n', f⟩) tks ?_
          rintro x' M ⟨rfl, rfl⟩
          try simp only [List.cons_append, List.nil_append]
          refine en_ldg (b := b11) (off := 1) (x := (k, c, n', f, ())) [.int .i64 cn, .slice cr.a cr.n cr.c, .int .i64 at', .int .i64 ii, .int .i64 xx] (by rw [fa_mk]) tk rfl ?_
          refine en_call (rh_make pm S lc B.hw ⟨k, c, n', f⟩) tks ?_
          rintro x' M ⟨rfl, rfl⟩
          try simp only [List.cons_append, List.nil_append]
          generalize Ob.make S (csO lc) ⟨k, c, n', f⟩ = mk at *
          refine en_nw fun b44 => ?_
          rw [zcGot]
          refine en_st (b := b44) (off := 0) rfl tk (by simp) rfl ?_
          refine en_drw (en_held [blk b44 [.int .i64 mk.1, .int .i64 mk.2.1]] tks ?_)
          refine en_ldS (k := .int .i64) (b := b44) (off := 0) (x := mk.1) (by rw [fa_mk]) tk rfl ?_
          refine en_brf (by simp) ?_
          refine en_ldS (k := .int .i64) (b := b44) (off := 1) (x := mk.2.1) (by rw [fa_mk]) tk rfl ?_
          iterate 1
            refine en_call (law_err _) .nil ?_
            rintro x' M ⟨rfl, rfl⟩
            try simp only [List.cons_append, List.nil_append]
          refine en_chk tks (en_brf (by simp) ?_)
          refine Tr.drop (A := blk b44 [.int .i64 mk.1, .int .i64 mk.2.1]) tk ?_
          refine Tr.take (A := RHp pm mk.2.2 lc) tk (Tr.take (A := HeapA p mk.2.2 (csO lc)) tk (Tr.take (A := blk b11 [.int .i64 2, .int .i64 k, .int .i64 c, .int .i64 n', .bool f, .int .i64 cn, .slice cr.a cr.n cr.c, .int .i64 at', .int .i64 ii, .int .i64 xx]) tk ?_))
          exact go _ _ B'
        · repeat (first | refine en_brt rfl ?_ | refine en_brf rfl ?_)
          refine HeapA.op (p := p) tk fun ps pt => ?_
          refine en_drw (en_held [blk p [.pointer (some ⟨ps, 0, none⟩), .pointer (some ⟨pt, 0, none⟩)], blk b11 [.int .i64 3, .int .i64 k, .int .i64 c, .int .i64 n', .bool f, .int .i64 cn, .slice cr.a cr.n cr.c, .int .i64 at', .int .i64 ii, .int .i64 xx]] tks ?_)
          refine en_nn (en_ldS (k := .ptr) (b := p) (off := 1) (x := some ⟨pt, 0, none⟩) (by rw [fa_mk]) tk rfl ?_)
          refine en_ldgS (b := b11) (off := 5) (x := (cn, cr, ())) [.int .i64 at', .int .i64 ii, .int .i64 xx] (by rw [fa_mk]) tk rfl ?_
          refine en_call (class_add pt (csO lc) cn cr xs hxs (by omega)) tks ?_
          rintro x' M ⟨rfl, rfl⟩
          try simp only [List.cons_append, List.nil_append]
          refine Tr.close tks (HeapA.cl (p := p) (ps := ps) (pt := pt) (S := S) (cs := (Sp.addC (csO lc) (cn, xs)).2.2)) ?_
          refine en_ldg (b := b11) (off := 5) (x := (cn, cr, ())) [.int .i64 at', .int .i64 ii, .int .i64 xx] (by rw [fa_mk]) tk rfl ?_
          refine en_call (rh_add pm S lc B.hw cn cr xs hxs (by omega)) tks ?_
          rintro x' M ⟨lc', hcs', hln', rfl, rfl⟩
          try simp only [List.cons_append, List.nil_append]
          have B' : Both S lc' := ⟨by rw [hcs']; exact B.hw.addC hxl, by rw [hcs']; exact B.kn.addC, hln' B.ln⟩
          rw [← hcs']
          generalize Sp.addC (csO lc) (cn, xs) = mk at *
          refine en_nw fun b44 => ?_
          rw [zcGot]
          refine en_st (b := b44) (off := 0) rfl tk (by simp) rfl ?_
          refine en_drw (en_held [blk b44 [.int .i64 mk.1, .int .i64 mk.2.1]] tks ?_)
          refine en_ldS (k := .int .i64) (b := b44) (off := 0) (x := mk.1) (by rw [fa_mk]) tk rfl ?_
          refine en_brf (by simp) ?_
          refine en_ldS (k := .int .i64) (b := b44) (off := 1) (x := mk.2.1) (by rw [fa_mk]) tk rfl ?_
          iterate 1
            refine en_call (law_err _) .nil ?_
            rintro x' M ⟨rfl, rfl⟩
            try simp only [List.cons_append, List.nil_append]
          refine en_chk tks (en_brf (by simp) ?_)
          refine Tr.drop (A := blk b44 [.int .i64 mk.1, .int .i64 mk.2.1]) tk ?_
          refine Tr.take (A := RHp pm S lc') tk (Tr.take (A := HeapA p S (csO lc')) tk (Tr.take (A := blk b11 [.int .i64 3, .int .i64 k, .int .i64 c, .int .i64 n', .bool f, .int .i64 cn, .slice cr.a cr.n cr.c, .int .i64 at', .int .i64 ii, .int .i64 xx]) tk ?_))
          exact go _ _ B'
        · repeat (first | refine en_brt rfl ?_ | refine en_brf rfl ?_)
          have B' : Both (Ob.put S ad ii xx).2 lc := ⟨B.hw.put _ _ _, B.kn.put B.hw _ _ _, B.ln⟩
          refine en_drw (en_held [blk b11 [.int .i64 4, .int .i64 k, .int .i64 c, .int .i64 n', .bool f, .int .i64 cn, .slice cr.a cr.n cr.c, .int .i64 at', .int .i64 ii, .int .i64 xx]] tks ?_)
          refine en_ldS (k := .int .i64) (b := b11) (off := 8) (x := ii) (by rw [fa_mk]) tk rfl ?_
          refine en_ldS (k := .int .i64) (b := b11) (off := 9) (x := xx) (by rw [fa_mk]) tk rfl ?_
          refine en_ldS (k := .int .i64) (b := b11) (off := 8) (x := ii) (by rw [fa_mk]) tk rfl ?_
          refine en_ldS (k := .int .i64) (b := b11) (off := 9) (x := xx) (by rw [fa_mk]) tk rfl ?_
          refine en_call (object_put p S (csO lc) B.hw ad ii xx) tks ?_
          rintro x' M ⟨rfl, rfl⟩
          try simp only [List.cons_append, List.nil_append]
          refine en_chk tks ?_
          iterate 1
            refine en_call (law_err _) .nil ?_
            rintro x' M ⟨rfl, rfl⟩
            try simp only [List.cons_append, List.nil_append]
          refine en_chk tks ?_
          refine en_call (rh_put pm S lc B.hw ad ii xx) tks ?_
          rintro x' M ⟨rfl, rfl⟩
          try simp only [List.cons_append, List.nil_append]
          refine en_brf (by simp) ?_
          refine Tr.take (A := RHp pm (Ob.put S ad ii xx).2 lc) tk (Tr.take (A := HeapA p (Ob.put S ad ii xx).2 (csO lc)) tk (Tr.take (A := blk b11 [.int .i64 4, .int .i64 k, .int .i64 c, .int .i64 n', .bool f, .int .i64 cn, .slice cr.a cr.n cr.c, .int .i64 at', .int .i64 ii, .int .i64 xx]) tk ?_))
          exact go _ _ B'
        · repeat (first | refine en_brt rfl ?_ | refine en_brf rfl ?_)
          have B' : Both (Ob.put S ad ii xx).2 lc := ⟨B.hw.put _ _ _, B.kn.put B.hw _ _ _, B.ln⟩
          refine en_drw (en_held [blk b11 [.int .i64 5, .int .i64 k, .int .i64 c, .int .i64 n', .bool f, .int .i64 cn, .slice cr.a cr.n cr.c, .int .i64 at', .int .i64 ii, .int .i64 xx]] tks ?_)
          refine en_ldS (k := .int .i64) (b := b11) (off := 8) (x := ii) (by rw [fa_mk]) tk rfl ?_
          refine en_ldS (k := .int .i64) (b := b11) (off := 9) (x := xx) (by rw [fa_mk]) tk rfl ?_
          refine en_ldS (k := .int .i64) (b := b11) (off := 8) (x := ii) (by rw [fa_mk]) tk rfl ?_
          refine en_ldS (k := .int .i64) (b := b11) (off := 9) (x := xx) (by rw [fa_mk]) tk rfl ?_
          refine en_call (object_put p S (csO lc) B.hw ad ii xx) tks ?_
          rintro x' M ⟨rfl, rfl⟩
          try simp only [List.cons_append, List.nil_append]
          refine en_chk tks ?_
          iterate 1
            refine en_call (law_err _) .nil ?_
            rintro x' M ⟨rfl, rfl⟩
            try simp only [List.cons_append, List.nil_append]
          refine en_chk tks ?_
          refine en_call (rh_put pm S lc B.hw ad ii xx) tks ?_
          rintro x' M ⟨rfl, rfl⟩
          try simp only [List.cons_append, List.nil_append]
          refine en_brf (by simp) ?_
          refine Tr.take (A := RHp pm (Ob.put S ad ii xx).2 lc) tk (Tr.take (A := HeapA p (Ob.put S ad ii xx).2 (csO lc)) tk (Tr.take (A := blk b11 [.int .i64 5, .int .i64 k, .int .i64 c, .int .i64 n', .bool f, .int .i64 cn, .slice cr.a cr.n cr.c, .int .i64 at', .int .i64 ii, .int .i64 xx]) tk ?_))
          exact go _ _ B'
        · repeat (first | refine en_brt rfl ?_ | refine en_brf rfl ?_)
          have B' : Both (Ob.final S ad).2 lc := ⟨B.hw.final _, B.kn.final B.hw _, B.ln⟩
          refine en_call (object_final p S (csO lc) B.hw ad) tks ?_
          rintro x' M ⟨rfl, rfl⟩
          try simp only [List.cons_append, List.nil_append]
          iterate 1
            refine en_call (law_err _) .nil ?_
            rintro x' M ⟨rfl, rfl⟩
            try simp only [List.cons_append, List.nil_append]
          refine en_call (rh_final pm S lc B.hw ad) tks ?_
          rintro x' M ⟨rfl, rfl⟩
          try simp only [List.cons_append, List.nil_append]
          refine en_brf (by simp) ?_
          refine Tr.take (A := RHp pm (Ob.final S ad).2 lc) tk (Tr.take (A := HeapA p (Ob.final S ad).2 (csO lc)) tk (Tr.take (A := blk b11 [.int .i64 6, .int .i64 k, .int .i64 c, .int .i64 n', .bool f, .int .i64 cn, .slice cr.a cr.n cr.c, .int .i64 at', .int .i64 ii, .int .i64 xx]) tk ?_))
          exact go _ _ B'
        · repeat (first | refine en_brt rfl ?_ | refine en_brf rfl ?_)
          have B' : Both (Sp.freeS S ad).2 lc := ⟨B.hw.free _, B.kn.free B.hw _, B.ln⟩
          refine HeapA.op (p := p) tk fun ps pt => ?_
          refine RHp.op (p := pm) tk fun ps2 q hq => ?_
          refine en_drw (en_held [blk p [.pointer (some ⟨ps, 0, none⟩), .pointer (some ⟨pt, 0, none⟩)], blk pm [.pointer (some ⟨ps2, 0, none⟩), slv q]] tks ?_)
          refine en_nn (en_ldS (k := .ptr) (b := p) (off := 0) (x := some ⟨ps, 0, none⟩) (by rw [fa_mk]) tk rfl ?_)
          refine en_nn (en_ldS (k := .ptr) (b := pm) (off := 0) (x := some ⟨ps2, 0, none⟩) (by rw [fa_mk]) tk rfl ?_)
          refine en_call (space_free ps S B.hw.wf ad) tks ?_
          rintro x' M ⟨rfl, rfl⟩
          try simp only [List.cons_append, List.nil_append]
          refine en_chk tks ?_
          iterate 1
            refine en_call (law_err _) .nil ?_
            rintro x' M ⟨rfl, rfl⟩
            try simp only [List.cons_append, List.nil_append]
          refine en_chk tks ?_
          refine en_call (rf_free ps2 S B.hw.wf ad) tks ?_
          rintro x' M ⟨rfl, rfl⟩
          try simp only [List.cons_append, List.nil_append]
          refine en_brf (by simp) ?_
          refine Tr.close tks (HeapA.cl (p := p) (ps := ps) (pt := pt) (S := (Sp.freeS S ad).2) (cs := csO lc)) ?_
          refine Tr.close tks (RHp.cl (p := pm) (ps := ps2) (S := (Sp.freeS S ad).2) (l := lc) (s := q) hq) ?_
          refine Tr.take (A := RHp pm (Sp.freeS S ad).2 lc) tk (Tr.take (A := HeapA p (Sp.freeS S ad).2 (csO lc)) tk (Tr.take (A := blk b11 [.int .i64 7, .int .i64 k, .int .i64 c, .int .i64 n', .bool f, .int .i64 cn, .slice cr.a cr.n cr.c, .int .i64 at', .int .i64 ii, .int .i64 xx]) tk ?_))
          exact go _ _ B'
        · repeat (first | refine en_brf (beq_eq_false_iff_ne.2 d0) ?_ | refine en_brf (beq_eq_false_iff_ne.2 d1) ?_ | refine en_brf (beq_eq_false_iff_ne.2 d2) ?_ | refine en_brf (beq_eq_false_iff_ne.2 d3) ?_ | refine en_brf (beq_eq_false_iff_ne.2 d4) ?_ | refine en_brf (beq_eq_false_iff_ne.2 d5) ?_ | refine en_brf (beq_eq_false_iff_ne.2 d6) ?_ | refine en_brf (beq_eq_false_iff_ne.2 d7) ?_)
          refine Tr.take (A := RHp pm S lc) tk (Tr.take (A := HeapA p S (csO lc)) tk (Tr.take (A := blk b11 [.int .i64 d, .int .i64 k, .int .i64 c, .int .i64 n', .bool f, .int .i64 cn, .slice cr.a cr.n cr.c, .int .i64 at', .int .i64 ii, .int .i64 xx]) tk ?_))
          exact go _ _ B

end Go.Proofs.YtapchggmifbfoaaGreat
