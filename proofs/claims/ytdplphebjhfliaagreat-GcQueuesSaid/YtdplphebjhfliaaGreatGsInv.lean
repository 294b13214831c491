/- What stays true of a runtime, whatever is done. -/
import Derived.Test.YtdplphebjhfliaaGreatGsBo
set_option linter.unusedSimpArgs false
set_option linter.unusedVariables false
namespace Go.Proofs.YtdplphebjhfliaaGreat
open Go Go.Gl
theorem isR_putA {S : Spc} {cs : List Cls} (hw : HWf S cs) {a i x : Int} (b : Int) : Qu.isR (Ob.put S a i x).2 b = Qu.isR S b := by unfold Qu.isR; rw [put_head hw]
theorem get_put {S : Spc} {cs : List Cls} (hw : HWf S cs) {a i x b j : Int} {hd : Hd} (hb : Ob.head S b = some hd) (h0 : 0 ≤ j) (h1 : j < hd.n) : Ob.get (Ob.put S a i x).2 b j = if b = a ∧ j = i then (x, 0) else Ob.get S b j := by
 by_cases g : (Ob.fieldAt S a i).2 = 0
 ·obtain ⟨ha, hha, i0, i1, _⟩ := Ob.fieldAt_ok hw g
  exact ((Ob.put_keep hw (x := x) hha i0 i1).2 _ _ hb).2 j h0 h1
 ·have e : (Ob.put S a i x).2 = S := by unfold Ob.put; rw [if_pos g]
  rw [e, if_neg]
  rintro ⟨rfl, rfl⟩
  exact g (by unfold Ob.fieldAt; rw [hb]; dsimp only; rw [if_neg (by rintro (h | h) <;> omega)])
theorem get_putR {S : Spc} {cs : List Cls} (hw : HWf S cs) {a i x b j : Int} (hr : Qu.isR S b = true) (h0 : 0 ≤ j) (h5 : j < 5) : Ob.get (Ob.put S a i x).2 b j = if b = a ∧ j = i then (x, 0) else Ob.get S b j := by
 obtain ⟨hd, hh, hk⟩ := isR_head hr
 have := isR_n hw hh hk
 exact get_put hw hh h0 (by omega)
theorem lk_mono {S S' : Spc} : ∀ {r : List Int}, (∀ b ∈ r, Ob.get S' b 2 = Ob.get S b 2) → Qu.Lk S r → Qu.Lk S' r
 | [], _, _ => trivial
 | a :: r, h, H => ⟨H.1, by rw [h a (.head _)]; exact H.2.1, lk_mono (fun b hb => h b (.tail _ hb)) H.2.2⟩
theorem last_mem {b : Int} {r : List Int} (h : r ≠ []) : r.getLastD b ∈ r := by
 cases r with
 | nil => exact absurd rfl h
 | cons a r => rw [List.getLastD_cons]; exact List.getLastD_mem_cons
theorem lk_snoc {S S' : Spc} {a : Int} (ha : a ≠ 0) (h2 : Ob.get S' a 2 = (0, 0)) : ∀ {r : List Int}, r.Nodup → (∀ b ∈ r, Ob.get S' b 2 = if b = r.getLastD 0 then (a, 0) else Ob.get S b 2) → Qu.Lk S r → Qu.Lk S' (r ++ [a])
 | [], _, _, _ => ⟨ha, h2, trivial⟩
 | [b], _, h, H => ⟨H.1, (by rw [h b (.head _)]; exact if_pos rfl), ha, h2, trivial⟩
 | b :: c :: r, hn, h, H => by
  obtain ⟨n1, n2⟩ := List.nodup_cons.mp hn
  have e : (b :: c :: r).getLastD 0 = (c :: r).getLastD 0 := by rw [List.getLastD_cons, List.getLastD_cons, List.getLastD_cons]
  rw [e] at h
  have hne : b ≠ (c :: r).getLastD 0 := fun e => n1 (by rw [e]; exact last_mem (by simp))
  refine ⟨H.1, ?_, lk_snoc ha h2 n2 (fun d hd => h d (.tail _ hd)) H.2.2⟩
  rw [h b (.head _), if_neg hne, H.2.1]; rfl
theorem flat_snoc (a : Int) : ∀ {rows : List (List Int)} {i : Nat} (h : i < rows.length), (rows.set i (rows[i] ++ [a])).flatten.Perm (a :: rows.flatten)
 | [], i, h => absurd h (by simp)
 | r :: rows, 0, h => by
  show ((r ++ [a]) ++ rows.flatten).Perm (a :: (r ++ rows.flatten))
  rw [List.append_assoc]
  exact List.perm_middle
 | r :: rows, i + 1, h => by
  have hi : i < rows.length := by simpa using h
  have ih := flat_snoc a (rows := rows) (i := i) hi
  show (r ++ (rows.set i (rows[i]'hi ++ [a])).flatten).Perm (a :: (r ++ rows.flatten))
  exact (ih.append_left r).trans List.perm_middle
theorem flat_tail : ∀ {rows : List (List Int)} {i : Nat} (h : i < rows.length) {b : Int} {t : List Int}, rows[i] = b :: t → rows.flatten.Perm (b :: (rows.set i t).flatten)
 | [], i, h, _, _, _ => absurd h (by simp)
 | r :: rows, 0, h, b, t, e => by
  have e : r = b :: t := e
  subst e
  exact .refl _
 | r :: rows, i + 1, h, b, t, e => by
  have ih := flat_tail (rows := rows) (i := i) (by simpa using h) (b := b) (t := t) e
  show (r ++ rows.flatten).Perm (b :: (r ++ (rows.set i t).flatten))
  exact (ih.append_left r).trans List.perm_middle
theorem flat_disj {rows : List (List Int)} (h : rows.flatten.Nodup) {i j : Nat} (hi : i < rows.length) (hj : j < rows.length) (hne : i ≠ j) {x : Int} (h1 : x ∈ rows[i]) (h2 : x ∈ rows[j]) : False := by
 unfold List.Nodup at h
 rw [List.pairwise_flatten] at h
 have h := List.pairwise_iff_getElem.mp h.2
 rcases Nat.lt_or_gt_of_ne hne with g | g
 ·exact h i j hi hj g x h1 x h2 rfl
 ·exact h j i hj hi g x h2 x h1 rfl
theorem flat_nd {rows : List (List Int)} (h : rows.flatten.Nodup) {i : Nat} (hi : i < rows.length) : rows[i].Nodup := by
 unfold List.Nodup at h
 rw [List.pairwise_flatten] at h
 exact h.1 _ (List.getElem_mem hi)
theorem flat_mem {rows : List (List Int)} {i : Nat} (hi : i < rows.length) {x : Int} (h : x ∈ rows[i]) : x ∈ rows.flatten := List.mem_flatten.mpr ⟨_, List.getElem_mem hi, h⟩
structure QI (S : Spc) (rows : List (List Int)) : Prop where
 few : rows.length ≤ 8
 lk : ∀ r ∈ rows, Qu.Lk S r
 qr : ∀ a ∈ rows.flatten, Qu.isR S a = true ∧ (Ob.get S a 1).1 = -1
 nd : rows.flatten.Nodup
namespace QI
variable {S S' : Spc} {cs : List Cls} {rows : List (List Int)}
theorem mono (H : QI S rows) (h : ∀ a ∈ rows.flatten, Qu.isR S' a = true ∧ (Ob.get S' a 1).1 = -1 ∧ Ob.get S' a 2 = Ob.get S a 2) : QI S' rows :=
 ⟨H.few, fun r hr => lk_mono (fun b hb => (h b (List.mem_flatten.mpr ⟨r, hr, hb⟩)).2.2) (H.lk r hr), fun a ha => ⟨(h a ha).1, (h a ha).2.1⟩, H.nd⟩
theorem put (hw : HWf S cs) (H : QI S rows) {a i x : Int} (hc : (i ≠ 1 ∧ i ≠ 2) ∨ a ∉ rows.flatten) : QI (Ob.put S a i x).2 rows := H.mono fun b hb => by
 have hr := (H.qr b hb).1
 have hn : ∀ j, j = 1 ∨ j = 2 → ¬ (b = a ∧ j = i) := fun j hj g => by
  rcases hc with hc | hc
  ·rcases hj with rfl | rfl
   ·exact hc.1 g.2.symm
   ·exact hc.2 g.2.symm
  ·exact hc (g.1 ▸ hb)
 rw [isR_putA hw, get_putR hw hr (by decide) (by decide), get_putR hw hr (by decide) (by decide), if_neg (hn 1 (.inl rfl)), if_neg (hn 2 (.inr rfl))]
 exact ⟨hr, (H.qr b hb).2, rfl⟩
theorem clr (hw : HWf S cs) (H : QI S rows) (l : List Int) : QI (Rf.clr S l) rows := by
 induction l generalizing S with
 | nil => exact H
 | cons a l ih => exact ih (hw.put _ _ _) (H.put hw (.inl ⟨by decide, by decide⟩))
theorem notin (H : QI S rows) {a : Int} (h : (Ob.get S a 1).1 ≠ -1) : a ∉ rows.flatten := fun ha => h (H.qr a ha).2
theorem push (hw : HWf S cs) (H : QI S rows) {a i : Int} (hr : Qu.isR S a = true) (ha : a ∉ rows.flatten) (hi : Qu.has rows i = true) :
  QI (Ob.put (Qu.pushS S rows i a) a 1 (-1)).2 (Qu.pushQ S rows i a) ∧ Qu.pushR S rows i a = 0 ∧ HWf (Qu.pushS S rows i a) cs ∧ (Qu.pushQ S rows i a).flatten.Perm (a :: rows.flatten) := by
 obtain ⟨i0, i1⟩ := row_has hi
 have he : Qu.row rows i = rows[i.toNat] := by unfold Qu.row; rw [List.getD_eq_getElem?_getD, List.getElem?_eq_getElem i1]; rfl
 have hq : Qu.pushQ S rows i a = rows.set i.toNat (rows[i.toNat] ++ [a]) := by unfold Qu.pushQ; rw [hi, hr, he]; rfl
 have ha0 := isR_ne hw hr
 have hnd := flat_nd H.nd i1
 have hlk := H.lk _ (List.getElem_mem i1)
 have hw1 := hw.put a 2 0
 have hr1 : Qu.isR (Ob.put S a 2 0).2 a = true := by rw [isR_putA hw]; exact hr
 have hS : HWf (Qu.pushS S rows i a) cs ∧ Qu.pushR S rows i a = 0 ∧ ∀ b, Qu.isR S b = true → Qu.isR (Qu.pushS S rows i a) b = true ∧ (∀ j, 0 ≤ j → j < 5 → Ob.get (Qu.pushS S rows i a) b j = if b = a ∧ j = 2 then (0, 0) else if rows[i.toNat] ≠ [] ∧ b = rows[i.toNat].getLastD 0 ∧ j = 2 then (a, 0) else Ob.get S b j) := by
  unfold Qu.pushS Qu.pushR
  rw [hi, hr, he]
  rw [Bool.and_true]
  rw [if_pos rfl, if_pos rfl, if_pos rfl]
  by_cases hn : rows[i.toNat] = []
  ·rw [if_pos hn, if_pos hn]
   refine ⟨hw1, rfl, fun b hb => ⟨by rw [isR_putA hw]; exact hb, fun j j0 j5 => ?_⟩⟩
   rw [get_putR hw hb j0 j5, if_neg (c := rows[i.toNat] ≠ [] ∧ b = rows[i.toNat].getLastD 0 ∧ j = 2) (fun g => g.1 hn)]
  ·rw [if_neg hn, if_neg hn]
   have hlm : rows[i.toNat].getLastD 0 ∈ rows.flatten := flat_mem i1 (last_mem hn)
   have hlr := (H.qr _ hlm).1
   have hne : rows[i.toNat].getLastD 0 ≠ a := fun e => ha (e ▸ hlm)
   refine ⟨hw1.put _ _ _, ?_, fun b hb => ⟨by rw [isR_putA hw1, isR_putA hw]; exact hb, fun j j0 j5 => ?_⟩⟩
   ·obtain ⟨hd, hh, hk⟩ := isR_head (show Qu.isR (Ob.put S a 2 0).2 (rows[i.toNat].getLastD 0) = true by rw [isR_putA hw]; exact hlr)
    exact put_in hh (by decide) (by rw [isR_n hw1 hh hk]; decide)
   ·rw [get_putR hw1 (by rw [isR_putA hw]; exact hb) j0 j5, get_putR hw hb j0 j5]
    by_cases h1 : b = a ∧ j = 2
    ·rw [if_pos h1, if_neg (c := b = rows[i.toNat].getLastD 0 ∧ j = 2) (fun g => hne (g.1.symm.trans h1.1)), if_pos h1]
    ·rw [if_neg h1, if_neg h1]
     by_cases h2 : b = rows[i.toNat].getLastD 0 ∧ j = 2
     ·rw [if_pos h2, if_pos ⟨hn, h2⟩]
     ·rw [if_neg h2, if_neg (fun g => h2 g.2)]
 obtain ⟨s1, s2, s3⟩ := hS
 have hp : (Qu.pushQ S rows i a).flatten.Perm (a :: rows.flatten) := by rw [hq]; exact flat_snoc a i1
 have fin : ∀ b, Qu.isR S b = true → Qu.isR (Ob.put (Qu.pushS S rows i a) a 1 (-1)).2 b = true ∧ (∀ j, 0 ≤ j → j < 5 → Ob.get (Ob.put (Qu.pushS S rows i a) a 1 (-1)).2 b j = if b = a ∧ j = 1 then (-1, 0) else if b = a ∧ j = 2 then (0, 0) else if rows[i.toNat] ≠ [] ∧ b = rows[i.toNat].getLastD 0 ∧ j = 2 then (a, 0) else Ob.get S b j) := fun b hb => by
  obtain ⟨t1, t2⟩ := s3 b hb
  exact ⟨by rw [isR_putA s1]; exact t1, fun j j0 j5 => by rw [get_putR s1 t1 j0 j5, t2 j j0 j5]⟩
 refine ⟨⟨by rw [hq, List.length_set]; exact H.few, fun r hr' => ?_, fun b hb => ?_, hp.nodup_iff.mpr (List.nodup_cons.mpr ⟨ha, H.nd⟩)⟩, s2, s1, hp⟩
 ·rw [hq] at hr'
  obtain ⟨j, hj, rfl⟩ := List.mem_iff_getElem.mp hr'
  rw [List.length_set] at hj
  rw [List.getElem_set]
  by_cases e : i.toNat = j
  ·rw [if_pos e]
   refine lk_snoc ha0 ?_ hnd (fun b hb => ?_) hlk
   ·rw [(fin a hr).2 2 (by decide) (by decide), if_neg (by simp), if_pos ⟨rfl, rfl⟩]
   ·have hbm := flat_mem i1 hb
    have hba : b ≠ a := fun e => ha (e ▸ hbm)
    rw [(fin b (H.qr b hbm).1).2 2 (by decide) (by decide), if_neg (fun g => hba g.1), if_neg (fun g => hba g.1)]
    by_cases hl : b = rows[i.toNat].getLastD 0
    ·rw [if_pos ⟨List.ne_nil_of_mem hb, hl, rfl⟩, if_pos hl]
    ·rw [if_neg (fun g => hl g.2.1), if_neg hl]
  ·rw [if_neg e]
   refine lk_mono (fun b hb => ?_) (H.lk _ (List.getElem_mem hj))
   have hbm := flat_mem hj hb
   have hba : b ≠ a := fun e => ha (e ▸ hbm)
   rw [(fin b (H.qr b hbm).1).2 2 (by decide) (by decide), if_neg (fun g => hba g.1), if_neg (fun g => hba g.1), if_neg (fun g => flat_disj H.nd i1 hj e (last_mem g.1) (g.2.1 ▸ hb))]
 ·rcases List.mem_cons.mp (hp.mem_iff.mp hb) with rfl | hb
  ·obtain ⟨t1, t2⟩ := fin b hr
   exact ⟨t1, by rw [t2 1 (by decide) (by decide), if_pos ⟨rfl, rfl⟩]⟩
  ·have hba : b ≠ a := fun e => ha (e ▸ hb)
   obtain ⟨t1, t2⟩ := fin b (H.qr b hb).1
   exact ⟨t1, by rw [t2 1 (by decide) (by decide), if_neg (fun g => hba g.1), if_neg (fun g => hba g.1), if_neg (by simp)]; exact (H.qr b hb).2⟩
theorem enq (hw : HWf S cs) (H : QI S rows) (a : Int) : QI (Rf.enq S rows a).2.1 (Rf.enq S rows a).2.2 ∧ HWf (Rf.enq S rows a).2.1 cs ∧ ∀ b, b ∈ (Rf.enq S rows a).2.2.flatten → b = a ∨ b ∈ rows.flatten := by
 unfold Rf.enq
 by_cases hr : Qu.isR S a = true
 ·have hw1 := hw.put a 0 0
  have H1 : QI (Ob.put S a 0 0).2 rows := H.put hw (.inl ⟨by decide, by decide⟩)
  have hr1 : Qu.isR (Ob.put S a 0 0).2 a = true := by rw [isR_putA hw]; exact hr
  rw [if_pos hr]
  by_cases hq : Rf.qn S a < 1
  ·rw [if_pos hq]; exact ⟨H1, hw1, fun b hb => .inr hb⟩
  ·rw [if_neg hq]
   have ha : a ∉ rows.flatten := H1.notin (by unfold Rf.qn at hq; omega)
   by_cases hh : Qu.has rows (Rf.qn S a - 1) = true
   ·obtain ⟨p1, p2, p3, p4⟩ := H1.push hw1 hr1 ha hh
    rw [if_neg (fun g => g p2)]
    exact ⟨p1, p3.put _ _ _, fun b hb => by
     rcases List.mem_cons.mp (p4.mem_iff.mp hb) with h | h
     ·exact .inl h
     ·exact .inr h⟩
   ·have e1 : Qu.pushR (Ob.put S a 0 0).2 rows (Rf.qn S a - 1) a = 2 := by unfold Qu.pushR; rw [if_neg hh]
    have e2 : Qu.pushS (Ob.put S a 0 0).2 rows (Rf.qn S a - 1) a = (Ob.put S a 0 0).2 := by unfold Qu.pushS; rw [if_neg (by simp [hh])]
    have e3 : Qu.pushQ (Ob.put S a 0 0).2 rows (Rf.qn S a - 1) a = rows := by unfold Qu.pushQ; rw [if_neg (by simp [hh])]
    rw [if_pos (by rw [e1]; decide), e2, e3]
    exact ⟨H1, hw1, fun b hb => .inr hb⟩
 ·rw [if_neg hr]; exact ⟨H, hw, fun b hb => .inr hb⟩
theorem enqs (l : List Int) : ∀ {S : Spc} {rows : List (List Int)}, HWf S cs → QI S rows → QI (Rf.enqs S rows l).1 (Rf.enqs S rows l).2 ∧ HWf (Rf.enqs S rows l).1 cs ∧ ∀ b, b ∈ (Rf.enqs S rows l).2.flatten → b ∈ l ∨ b ∈ rows.flatten := by
 induction l with
 | nil => exact fun hw H => ⟨H, hw, fun b hb => .inr hb⟩
 | cons a l ih =>
  intro S rows hw H
  obtain ⟨h1, h2, h3⟩ := H.enq hw a
  obtain ⟨g1, g2, g3⟩ := ih h2 h1
  refine ⟨g1, g2, fun b hb => ?_⟩
  rcases g3 b hb with h | h
  ·exact .inl (.tail _ h)
  ·rcases h3 b h with rfl | h
   ·exact .inl (.head _)
   ·exact .inr h
theorem poll (hw : HWf S cs) (H : QI S rows) (i : Int) : QI (Qu.pollS S rows i) (Qu.pollQ rows i) ∧ HWf (Qu.pollS S rows i) cs := by
 unfold Qu.pollS Qu.pollQ
 by_cases hh : Qu.has rows i = true
 ·obtain ⟨i0, i1⟩ := row_has hh
  have he : Qu.row rows i = rows[i.toNat] := by unfold Qu.row; rw [List.getD_eq_getElem?_getD, List.getElem?_eq_getElem i1]; rfl
  rw [if_pos hh, he]
  cases hr : rows[i.toNat] with
  | nil =>
   rw [if_neg (fun g => g.2 rfl)]
   have : rows.set i.toNat [] = rows := by rw [← hr]; exact List.set_getElem_self i1
   show QI S (rows.set i.toNat []) ∧ _
   rw [this]; exact ⟨H, hw⟩
  | cons b t =>
   rw [if_pos ⟨hh, by simp⟩]
   have hp := flat_tail i1 hr
   have hnd := hp.nodup_iff.mp H.nd
   obtain ⟨n1, n2⟩ := List.nodup_cons.mp hnd
   have hsub : ∀ x, x ∈ (rows.set i.toNat t).flatten → x ∈ rows.flatten ∧ x ≠ b := fun x hx => ⟨hp.mem_iff.mpr (.tail _ hx), fun e => n1 (e ▸ hx)⟩
   have H0 : QI S (rows.set i.toNat t) := by
    refine ⟨by rw [List.length_set]; exact H.few, fun r hr' => ?_, fun a ha => H.qr a (hsub a ha).1, n2⟩
    rcases List.mem_or_eq_of_mem_set hr' with h | rfl
    ·exact H.lk r h
    ·have := H.lk _ (List.getElem_mem i1)
     rw [hr] at this
     exact this.2.2
   exact ⟨H0.put hw (.inr n1), hw.put _ _ _⟩
 ·rw [if_neg hh, if_neg (fun g => hh g.1)]; exact ⟨H, hw⟩
theorem open_ (H : QI S rows) (h : rows.length < 8) : QI S (rows ++ [[]]) := by
 have e : (rows ++ [[]]).flatten = rows.flatten := by simp
 refine ⟨by simp; omega, fun r hr => ?_, by rw [e]; exact H.qr, by rw [e]; exact H.nd⟩
 rcases List.mem_append.mp hr with hr | hr
 ·exact H.lk r hr
 ·rw [List.mem_singleton] at hr; subst hr; trivial
end QI
theorem nodup_le : ∀ {l m : List Int}, l.Nodup → (∀ a ∈ l, a ∈ m) → l.length ≤ m.length
 | [], _, _, _ => Nat.zero_le _
 | a :: l, m, hn, h => by
  obtain ⟨n1, n2⟩ := List.nodup_cons.mp hn
  have hm := h a (.head _)
  have := nodup_le (l := l) (m := m.erase a) n2 fun b hb => by
   refine (List.mem_erase_of_ne (fun e => n1 (by rw [← e]; exact hb))).mpr (h b (.tail _ hb))
  rw [List.length_erase_of_mem hm] at this
  have := List.length_pos_of_mem hm
  rw [List.length_cons]; omega
theorem QI.rowsOk {S : Spc} {cs : List Cls} {rows : List (List Int)} (hw : HWf S cs) (H : QI S rows) : RowsOk S rows := by
 refine ⟨H.few, H.lk, fun r hr => ?_⟩
 obtain ⟨i, hi, rfl⟩ := List.mem_iff_getElem.mp hr
 have := nodup_le (flat_nd H.nd hi) (m := Sp.each S) fun a ha => by
  obtain ⟨hd, hh, _⟩ := isR_head (H.qr a (flat_mem hi ha)).1
  exact (obj_each hw).mpr ⟨hd, hh⟩
 have := Sp.each_len hw.wf
 omega
structure RI (S : Spc) (ser : Int) : Prop where
 q : ∀ a, Qu.isR S a = true → (Ob.get S a 1).1 < 2 ^ 62
 t : ∀ a, Qu.isR S a = true → (Ob.get S a 3).1 < 9223372036854775808
 k : ∀ a, Qu.isR S a = true → 1 ≤ (Ob.get S a 4).1 ∧ (Ob.get S a 4).1 ≤ ser
 inj : ∀ a b, Qu.isR S a = true → Qu.isR S b = true → (Ob.get S a 4).1 = (Ob.get S b 4).1 → a = b
namespace RI
variable {S S' : Spc} {cs : List Cls} {ser : Int}
theorem mono (H : RI S ser) (h : ∀ a, Qu.isR S' a = true → Qu.isR S a = true ∧ (Ob.get S' a 1).1 < 2 ^ 62 ∧ (Ob.get S' a 3).1 < 9223372036854775808 ∧ Ob.get S' a 4 = Ob.get S a 4) : RI S' ser :=
 ⟨fun a ha => (h a ha).2.1, fun a ha => (h a ha).2.2.1, fun a ha => by rw [(h a ha).2.2.2]; exact H.k a (h a ha).1,
  fun a b ha hb e => H.inj a b (h a ha).1 (h b hb).1 (by rw [← (h a ha).2.2.2, ← (h b hb).2.2.2]; exact e)⟩
theorem put (hw : HWf S cs) (H : RI S ser) {a i x : Int} (hc : Qu.isR S a = false ∨ i ≠ 4 ∧ (i = 1 → x < 2 ^ 62) ∧ (i = 3 → x < 9223372036854775808)) : RI (Ob.put S a i x).2 ser := H.mono fun b hb => by
 rw [isR_putA hw] at hb
 rw [get_putR hw hb (by decide) (by decide), get_putR hw hb (by decide) (by decide), get_putR hw hb (by decide) (by decide)]
 rcases hc with hc | ⟨h4, h1, h3⟩
 ·have hne : b ≠ a := fun e => by rw [e, hc] at hb; cases hb
  rw [if_neg (fun g => hne g.1), if_neg (fun g => hne g.1), if_neg (fun g => hne g.1)]
  exact ⟨hb, H.q b hb, H.t b hb, rfl⟩
 ·refine ⟨hb, ?_, ?_, by rw [if_neg (fun g => h4 g.2.symm)]⟩
  ·split
   ·rename_i g; exact h1 g.2.symm
   ·exact H.q b hb
  ·split
   ·rename_i g; exact h3 g.2.symm
   ·exact H.t b hb
theorem qb (H : RI S ser) : QB S := H.q
theorem st (hw : HWf S cs) (H : RI S ser) : ∀ r ∈ refsOf S, r.2.2.2.2.1 < 9223372036854775808 := fun r hr => by
 obtain ⟨h, hh, hk, e⟩ := (mem_refsOf hw).mp hr
 have : Qu.isR S r.1 = true := by unfold Qu.isR; rw [hh]; simpa using hk
 rw [e]; exact H.t r.1 this
theorem key (hw : HWf S cs) (H : RI S ser) : KeyInj S := fun r hr r' hr' e => by
 obtain ⟨h, hh, hk, e1⟩ := (mem_refsOf hw).mp hr
 obtain ⟨h', hh', hk', e2⟩ := (mem_refsOf hw).mp hr'
 have t1 : Qu.isR S r.1 = true := by unfold Qu.isR; rw [hh]; simpa using hk
 have t2 : Qu.isR S r'.1 = true := by unfold Qu.isR; rw [hh']; simpa using hk'
 refine refs_by hw hr hr' (H.inj _ _ t1 t2 ?_)
 rw [e1, e2] at e
 exact e
theorem clr (hw : HWf S cs) (H : RI S ser) (l : List Int) : RI (Rf.clr S l) ser := by
 induction l generalizing S with
 | nil => exact H
 | cons a l ih => exact ih (hw.put _ _ _) (H.put hw (.inr ⟨by decide, (fun h => by cases h), (fun h => by cases h)⟩))
theorem pushS (hw : HWf S cs) (H : RI S ser) (rows : List (List Int)) (i a : Int) : RI (Qu.pushS S rows i a) ser ∧ HWf (Qu.pushS S rows i a) cs := by
 have p2 : ∀ {S : Spc} {a x : Int}, HWf S cs → RI S ser → RI (Ob.put S a 2 x).2 ser := fun hw H => H.put hw (.inr ⟨by decide, (fun h => by cases h), (fun h => by cases h)⟩)
 unfold Qu.pushS
 split
 ·split
  ·exact ⟨p2 hw H, hw.put _ _ _⟩
  ·exact ⟨p2 (hw.put _ _ _) (p2 hw H), (hw.put _ _ _).put _ _ _⟩
 ·exact ⟨H, hw⟩
theorem enq (hw : HWf S cs) (H : RI S ser) (rows : List (List Int)) (a : Int) : RI (Rf.enq S rows a).2.1 ser ∧ HWf (Rf.enq S rows a).2.1 cs := by
 have h1 : RI (Ob.put S a 0 0).2 ser := H.put hw (.inr ⟨by decide, (fun h => by cases h), (fun h => by cases h)⟩)
 have hw1 := hw.put a 0 0
 unfold Rf.enq
 split
 ·split
  ·exact ⟨h1, hw1⟩
  ·obtain ⟨h2, hw2⟩ := h1.pushS hw1 rows (Rf.qn S a - 1) a
   split
   ·exact ⟨h2, hw2⟩
   ·exact ⟨h2.put hw2 (.inr ⟨by decide, fun _ => by decide, (fun h => by cases h)⟩), hw2.put _ _ _⟩
 ·exact ⟨H, hw⟩
theorem enqs (l : List Int) : ∀ {S : Spc} {rows : List (List Int)}, HWf S cs → RI S ser → RI (Rf.enqs S rows l).1 ser := by
 induction l with
 | nil => exact fun _ H => H
 | cons a l ih =>
  intro S rows hw H
  obtain ⟨h1, h2⟩ := H.enq hw rows a
  exact ih h2 h1
end RI
end Go.Proofs.YtdplphebjhfliaaGreat
