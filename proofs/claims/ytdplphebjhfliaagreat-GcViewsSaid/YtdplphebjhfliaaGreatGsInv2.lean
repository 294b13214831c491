/- What stays true of a runtime: finalizers, and all of it. -/
import Derived.Test.YtdplphebjhfliaaGreatGsInv
set_option linter.unusedSimpArgs false
set_option linter.unusedVariables false
namespace Go.Proofs.YtdplphebjhfliaaGreat
open Go Go.Gl
def Fl (S : Spc) (a : Int) : Prop := ∃ hd, Ob.head S a = some hd ∧ hd.f = true
structure FI (S : Spc) (wa pe : List Int) : Prop where
 nd : (wa ++ pe).Nodup
 fl : ∀ a ∈ wa ++ pe, Fl S a
namespace FI
variable {S S' : Spc} {cs : List Cls} {wa pe : List Int}
theorem mono (H : FI S wa pe) (h : ∀ a ∈ wa ++ pe, Fl S a → Fl S' a) : FI S' wa pe := ⟨H.nd, fun a ha => h a ha (H.fl a ha)⟩
theorem heads (H : FI S wa pe) (h : ∀ b, Ob.head S' b = Ob.head S b) : FI S' wa pe := H.mono fun a _ g => by
 obtain ⟨hd, h1, h2⟩ := g
 exact ⟨hd, by rw [h]; exact h1, h2⟩
theorem len (hw : HWf S cs) (H : FI S wa pe) : wa.length + pe.length ≤ 8192 := by
 have h1 := nodup_le H.nd (m := Sp.each S) fun a ha => by
  obtain ⟨hd, hh, _⟩ := H.fl a ha
  exact (obj_each hw).mpr ⟨hd, hh⟩
 rw [List.length_append] at h1
 have := Sp.each_len hw.wf
 omega
theorem await (hw : HWf S cs) (H : FI S wa pe) (a : Int) : FI (Ob.final S a).2 (if (Ob.final S a).1 = 0 then wa ++ [a] else wa) pe := by
 cases hh : Ob.head S a with
 | none =>
  have e : Ob.final S a = (2, S) := by unfold Ob.final; rw [hh]
  rw [e]; exact H
 | some h =>
  by_cases hk : h.k = 4
  ·have e : Ob.final S a = (5, S) := by unfold Ob.final; rw [hh]; dsimp only; rw [if_pos hk]
   rw [e]; exact H
  ·cases hf : h.f with
   | true =>
    have e : Ob.final S a = (4, S) := by unfold Ob.final; rw [hh]; dsimp only; rw [if_neg hk, if_pos hf]
    rw [e]; exact H
   | false =>
    obtain ⟨h1, h2, h3, _⟩ := Ob.final_keep hw hh hk hf
    rw [if_pos h1]
    have hn : a ∉ wa ++ pe := fun ha => by
     obtain ⟨hd, g1, g2⟩ := H.fl a ha
     rw [hh] at g1
     injection g1 with g1
     rw [← g1, hf] at g2; cases g2
    have hp : (wa ++ [a] ++ pe).Perm (a :: (wa ++ pe)) := by rw [List.append_assoc]; exact List.perm_middle
    refine ⟨hp.nodup_iff.mpr (List.nodup_cons.mpr ⟨hn, H.nd⟩), fun b hb => ?_⟩
    by_cases e : b = a
    ·subst e; exact ⟨_, h2, rfl⟩
    ·rcases List.mem_cons.mp (hp.mem_iff.mp hb) with g | g
     ·exact absurd g e
     ·obtain ⟨hd, g1, g2⟩ := H.fl b g
      exact ⟨hd, h3 _ _ e g1, g2⟩
end FI
theorem put_wsl (S : Spc) (a i x : Int) : (Ob.put S a i x).2.ws.length = S.ws.length := by
 obtain ⟨ws', e, hl⟩ := put_pg S a i x
 rw [e]; exact hl
structure Wl (S : Spc) (cs : List Cls) (rows : List (List Int)) (ser : Int) (wa pe : List Int) : Prop where
 hw : HWf S cs
 q : QI S rows
 r : RI S ser
 f : FI S wa pe
 ws : 64 ≤ S.ws.length
namespace Wl
variable {S S' : Spc} {cs : List Cls} {rows : List (List Int)} {ser : Int} {wa pe : List Int}
theorem make_old (hw : HWf S cs) {h : Hd} (h0 : (Ob.make S cs h).2.1 = 0) {b : Int} {hd : Hd} (hh : Ob.head (Ob.make S cs h).2.2 b = some hd) : (b = (Ob.make S cs h).1 ∧ hd = h) ∨ (b ≠ (Ob.make S cs h).1 ∧ Ob.head S b = some hd) := by
 have hm := Ob.make_head hw h0
 have hb : b ∈ Sp.each (Ob.make S cs h).2.2 := (obj_each (hw.make h)).mpr ⟨hd, hh⟩
 rcases List.mem_cons.mp ((each_make hw h0).mem_iff.mp hb) with e | g
 ·subst e
  rw [hm] at hh
  injection hh with hh
  exact .inl ⟨rfl, hh.symm⟩
 ·obtain ⟨h', hh'⟩ := (obj_each hw).mp g
  obtain ⟨k1, k2, _⟩ := Ob.make_keep hw h0 hh'
  rw [hh] at k1
  injection k1 with k1
  exact .inr ⟨k2, by rw [hh', k1]⟩
theorem make_wsl (hw : HWf S cs) (h : Hd) (hl : 64 ≤ S.ws.length) : 64 ≤ (Ob.make S cs h).2.2.ws.length := by
 have h1 := hw.wf.len
 have h2 := (hw.make h).wf.len
 by_cases h0 : (Ob.make S cs h).2.1 = 0
 ·obtain ⟨b, n, e1, e2, e3, e4, e5, e6, _⟩ := Ob.make_ok hw h0
  rw [e6, List.length_set]
  have : (Sp.clr S.ws b n).length = S.ws.length := clr_len e5
  omega
 ·have e : (Ob.make S cs h).2.2 = S := by
   unfold Ob.make at h0 ⊢
   split
   ·rfl
   ·rename_i g1
    rw [if_neg g1] at h0
    split
    ·rfl
    ·rename_i g2
     rw [if_neg g2] at h0
     exact absurd rfl h0
  rw [e]; exact hl
theorem make_err {h : Hd} (h0 : (Ob.make S cs h).2.1 ≠ 0) : (Ob.make S cs h).2.2 = S ∧ (Ob.make S cs h).1 = 0 := by
 unfold Ob.make at h0 ⊢
 split
 ·exact ⟨rfl, rfl⟩
 ·rename_i g1
  rw [if_neg g1] at h0
  split
  ·exact ⟨rfl, rfl⟩
  ·rename_i g2
   rw [if_neg g2] at h0
   exact absurd rfl h0
theorem makeR (hw : HWf S cs) {h : Hd} (h0 : (Ob.make S cs h).2.1 = 0) {b : Int} (hr : Qu.isR S b = true) : Qu.isR (Ob.make S cs h).2.2 b = true ∧ b ≠ (Ob.make S cs h).1 ∧ ∀ j, 0 ≤ j → j < 5 → Ob.get (Ob.make S cs h).2.2 b j = Ob.get S b j := by
 obtain ⟨hd, hh, hk⟩ := isR_head hr
 obtain ⟨k1, k2, k3⟩ := Ob.make_keep hw h0 hh
 have hn := isR_n hw hh hk
 exact ⟨by unfold Qu.isR; rw [k1]; simpa using hk, k2, fun j j0 j5 => k3 j j0 (by omega)⟩
theorem make (H : Wl S cs rows ser wa pe) {h : Hd} (hk : h.k ≠ 4) : Wl (Ob.make S cs h).2.2 cs rows ser wa pe := by
 by_cases h0 : (Ob.make S cs h).2.1 = 0
 ·have hw := H.hw
  refine ⟨hw.make h, H.q.mono fun a ha => ?_, H.r.mono fun a ha => ?_, H.f.mono fun a _ g => ?_, make_wsl hw h H.ws⟩
  ·obtain ⟨g1, g2⟩ := H.q.qr a ha
   obtain ⟨k1, _, k3⟩ := makeR hw h0 g1
   exact ⟨k1, by rw [k3 1 (by decide) (by decide)]; exact g2, k3 2 (by decide) (by decide)⟩
  ·obtain ⟨hd, hh, hk'⟩ := isR_head ha
   rcases make_old hw h0 hh with ⟨_, e⟩ | ⟨_, g⟩
   ·exact absurd (e ▸ hk') hk
   ·have hr : Qu.isR S a = true := by unfold Qu.isR; rw [g]; simpa using hk'
    obtain ⟨_, _, k3⟩ := makeR hw h0 hr
    rw [k3 1 (by decide) (by decide), k3 3 (by decide) (by decide)]
    exact ⟨hr, H.r.q a hr, H.r.t a hr, k3 4 (by decide) (by decide)⟩
  ·obtain ⟨hd, hh, hf⟩ := g
   exact ⟨hd, (Ob.make_keep hw h0 hh).1, hf⟩
 ·rw [(make_err h0).1]; exact H
theorem puts_get {a : Int} (l : List Int) : ∀ {S : Spc} {i : Nat}, HWf S cs → ∀ {b : Int} {j : Nat}, Qu.isR S b = true → j < 5 → Ob.get (Rf.puts S a i l) b j = if b = a ∧ i ≤ j ∧ j < i + l.length then (l.getD (j - i) 0, 0) else Ob.get S b j := by
 induction l with
 | nil => intro S i hw b j _ _; rw [if_neg (by rintro ⟨_, h1, h2⟩; rw [List.length_nil] at h2; omega)]; rfl
 | cons x l ih =>
  intro S i hw b j hb hj
  have e := ih (S := (Ob.put S a i x).2) (i := i + 1) (hw.put _ _ _) (b := b) (j := j) (by rw [isR_putA hw]; exact hb) hj
  show Ob.get (Rf.puts (Ob.put S a i x).2 a (i + 1) l) b j = _
  rw [e, get_putR hw hb (by omega) (by omega)]
  by_cases h1 : b = a ∧ i + 1 ≤ j ∧ j < i + 1 + l.length
  ·rw [if_pos h1, if_pos ⟨h1.1, by omega, by rw [List.length_cons]; omega⟩]
   rw [show j - i = (j - (i + 1)) + 1 by omega]; rfl
  ·rw [if_neg h1]
   by_cases h2 : b = a ∧ (j : Int) = i
   ·have : j = i := by omega
    subst this
    rw [if_pos h2, if_pos ⟨h2.1, by omega, by rw [List.length_cons]; omega⟩, Nat.sub_self]; rfl
   ·rw [if_neg h2, if_neg]
    rintro ⟨g1, g2, g3⟩
    rw [List.length_cons] at g3
    by_cases g4 : j = i
    ·exact h2 ⟨g1, by omega⟩
    ·exact h1 ⟨g1, by omega, by omega⟩
theorem puts_head {a : Int} (l : List Int) : ∀ {S : Spc} {i : Nat}, HWf S cs → ∀ b, Ob.head (Rf.puts S a i l) b = Ob.head S b := by
 induction l with
 | nil => exact fun _ _ => rfl
 | cons x l ih => intro S i hw b; exact (ih (hw.put a i x) b).trans (put_head hw b)
theorem puts_wsl {a : Int} (l : List Int) : ∀ {S : Spc} {i : Nat}, (Rf.puts S a i l).ws.length = S.ws.length := by
 induction l with
 | nil => exact rfl
 | cons x l ih => intro S i; exact (ih (S := (Ob.put S a i x).2)).trans (put_wsl ..)
theorem refer (H : Wl S cs rows ser wa pe) (c o q t : Int) (ht : t < 9223372036854775808) (hs : 0 ≤ ser) : Wl (Rf.refer S cs rows ser c o q t).2.2.1 cs rows (Rf.refer S cs rows ser c o q t).2.2.2 wa pe ∧ ser ≤ (Rf.refer S cs rows ser c o q t).2.2.2 ∧ (Rf.refer S cs rows ser c o q t).2.2.2 ≤ ser + 1 := by
 unfold Rf.refer
 by_cases h1 : Rf.may S rows c o q ≠ 0
 ·rw [if_pos h1]; exact ⟨H, by dsimp only; omega, by dsimp only; omega⟩
 rw [if_neg h1]
 by_cases h2 : (Ob.make S cs ⟨4, c, 5, false⟩).2.1 ≠ 0
 ·rw [if_pos h2]; dsimp only; rw [(make_err h2).1]; exact ⟨H, by omega, by omega⟩
 rw [if_neg h2]
 have h0 : (Ob.make S cs ⟨4, c, 5, false⟩).2.1 = 0 := by simpa using h2
 have hw := H.hw
 have hqb : q < rows.length := by
  have h1 : Rf.may S rows c o q = 0 := by simpa using h1
  unfold Rf.may at h1
  split at h1
  ·cases h1
  ·split at h1
   ·cases h1
   ·split at h1
    ·cases h1
    ·split at h1
     ·cases h1
     ·omega
 have hfew := H.q.few
 dsimp only
 have hm := Ob.make_head hw h0
 have hw1 := hw.make ⟨4, c, 5, false⟩
 have hra : Qu.isR (Ob.make S cs ⟨4, c, 5, false⟩).2.2 (Ob.make S cs ⟨4, c, 5, false⟩).1 = true := by unfold Qu.isR; rw [hm]; rfl
 have old : ∀ b, Qu.isR S b = true → Qu.isR (Ob.make S cs ⟨4, c, 5, false⟩).2.2 b = true ∧ b ≠ (Ob.make S cs ⟨4, c, 5, false⟩).1 ∧ ∀ j, 0 ≤ j → j < 5 → Ob.get (Ob.make S cs ⟨4, c, 5, false⟩).2.2 b j = Ob.get S b j := fun b hb => makeR hw h0 hb
 have isr : ∀ b, Qu.isR (Ob.make S cs ⟨4, c, 5, false⟩).2.2 b = true → b = (Ob.make S cs ⟨4, c, 5, false⟩).1 ∨ Qu.isR S b = true := fun b hb => by
  obtain ⟨hd, hh, hk'⟩ := isR_head hb
  rcases make_old hw h0 hh with ⟨e, _⟩ | ⟨_, g⟩
  ·exact .inl e
  ·exact .inr (by unfold Qu.isR; rw [g]; simpa using hk')
 have hf1 : FI (Ob.make S cs ⟨4, c, 5, false⟩).2.2 wa pe := H.f.mono fun a _ g => by
  obtain ⟨hd, hh, hf⟩ := g
  exact ⟨hd, (Ob.make_keep hw h0 hh).1, hf⟩
 have hwl := make_wsl hw ⟨4, c, 5, false⟩ H.ws
 generalize (Ob.make S cs ⟨4, c, 5, false⟩).2.2 = S1 at *
 generalize (Ob.make S cs ⟨4, c, 5, false⟩).1 = a at *
 have hR : ∀ b, Qu.isR (Rf.puts S1 a 0 [o, q + 1, 0, t, ser + 1]) b = Qu.isR S1 b := fun b => by unfold Qu.isR; rw [puts_head _ hw1]
 have g0 : ∀ b, Qu.isR S b = true → ∀ j : Nat, j < 5 → Ob.get (Rf.puts S1 a 0 [o, q + 1, 0, t, ser + 1]) b j = Ob.get S b j := fun b hb j hj => by
  obtain ⟨k1, k2, k3⟩ := old b hb
  rw [puts_get _ hw1 k1 hj, if_neg (fun g => k2 g.1), k3 j (by omega) (by omega)]
 have ga : ∀ j : Nat, j < 5 → Ob.get (Rf.puts S1 a 0 [o, q + 1, 0, t, ser + 1]) a j = ([o, q + 1, 0, t, ser + 1].getD j 0, 0) := fun j hj => by
  rw [puts_get _ hw1 hra hj, if_pos ⟨rfl, by omega, by show j < 0 + 5; omega⟩]; rfl
 refine ⟨⟨HWf.puts hw1, H.q.mono fun b hb => ?_, ⟨fun b hb => ?_, fun b hb => ?_, fun b hb => ?_, fun b b' hb hb' e => ?_⟩, hf1.heads (puts_head _ hw1), by rw [puts_wsl]; exact hwl⟩, by omega, by omega⟩
 ·obtain ⟨k1, k2⟩ := H.q.qr b hb
  refine ⟨by rw [hR]; exact (old b k1).1, ?_, g0 b k1 2 (by decide)⟩
  have := g0 b k1 1 (by decide)
  exact (congrArg Prod.fst this).trans k2
 ·rw [hR] at hb
  rcases isr b hb with rfl | hb
  ·have e : (Ob.get (Rf.puts S1 b 0 [o, q + 1, 0, t, ser + 1]) b 1).1 = _ := congrArg Prod.fst (ga 1 (by decide))
   rw [e]
   show q + 1 < _
   omega
  ·have e : (Ob.get (Rf.puts S1 a 0 [o, q + 1, 0, t, ser + 1]) b 1).1 = (Ob.get S b 1).1 := congrArg Prod.fst (g0 b hb 1 (by decide))
   rw [e]
   exact H.r.q b hb
 ·rw [hR] at hb
  rcases isr b hb with rfl | hb
  ·have e : (Ob.get (Rf.puts S1 b 0 [o, q + 1, 0, t, ser + 1]) b 3).1 = _ := congrArg Prod.fst (ga 3 (by decide))
   rw [e]
   exact ht
  ·have e : (Ob.get (Rf.puts S1 a 0 [o, q + 1, 0, t, ser + 1]) b 3).1 = (Ob.get S b 3).1 := congrArg Prod.fst (g0 b hb 3 (by decide))
   rw [e]
   exact H.r.t b hb
 ·rw [hR] at hb
  rcases isr b hb with rfl | hb
  ·have e : (Ob.get (Rf.puts S1 b 0 [o, q + 1, 0, t, ser + 1]) b 4).1 = _ := congrArg Prod.fst (ga 4 (by decide))
   rw [e]
   show 1 ≤ ser + 1 ∧ ser + 1 ≤ ser + 1
   omega
  ·have e : (Ob.get (Rf.puts S1 a 0 [o, q + 1, 0, t, ser + 1]) b 4).1 = (Ob.get S b 4).1 := congrArg Prod.fst (g0 b hb 4 (by decide))
   rw [e]
   have := H.r.k b hb
   omega
 ·rw [hR] at hb hb'
  have e4 : ∀ b, Qu.isR S b = true → (Ob.get (Rf.puts S1 a 0 [o, q + 1, 0, t, ser + 1]) b 4).1 ≤ ser := fun b hb => by
   have e : (Ob.get (Rf.puts S1 a 0 [o, q + 1, 0, t, ser + 1]) b 4).1 = (Ob.get S b 4).1 := congrArg Prod.fst (g0 b hb 4 (by decide))
   rw [e]
   exact (H.r.k b hb).2
  have ea : (Ob.get (Rf.puts S1 a 0 [o, q + 1, 0, t, ser + 1]) a 4).1 = ser + 1 := congrArg Prod.fst (ga 4 (by decide))
  rcases isr b hb with rfl | hb
  ·rcases isr b' hb' with rfl | hb'
   ·rfl
   ·have := e4 b' hb'; omega
  ·rcases isr b' hb' with rfl | hb'
   ·have := e4 b hb; omega
   ·refine H.r.inj b b' hb hb' ?_
    have t1 := congrArg Prod.fst (g0 b hb 4 (by decide))
    have t2 := congrArg Prod.fst (g0 b' hb' 4 (by decide))
    exact t1.symm.trans (e.trans t2)
theorem await (H : Wl S cs rows ser wa pe) (a : Int) : Wl (Ob.final S a).2 cs rows ser (if (Ob.final S a).1 = 0 then wa ++ [a] else wa) pe := by
 have hf := H.f.await H.hw a
 have hw' := H.hw.final a
 by_cases h0 : (Ob.final S a).1 = 0
 ·cases hh : Ob.head S a with
  | none => unfold Ob.final at h0; rw [hh] at h0; cases h0
  | some h =>
   have hk : h.k ≠ 4 := fun hk => by unfold Ob.final at h0; rw [hh] at h0; dsimp only at h0; rw [if_pos hk] at h0; cases h0
   have hff : h.f = false := by
    cases hff : h.f with
    | false => rfl
    | true => unfold Ob.final at h0; rw [hh] at h0; dsimp only at h0; rw [if_neg hk, if_pos hff] at h0; cases h0
   obtain ⟨k1, k2, k3, k4⟩ := Ob.final_keep H.hw hh hk hff
   have hpg : (Ob.final S a).2.pg = S.pg ∧ (Ob.final S a).2.ws.length = S.ws.length := by
    unfold Ob.final
    rw [hh]
    dsimp only
    rw [if_neg hk, if_neg (by rw [hff]; simp)]
    exact ⟨rfl, List.length_set ..⟩
   have hR : ∀ b, Qu.isR S b = true → Qu.isR (Ob.final S a).2 b = true ∧ ∀ j, 0 ≤ j → j < 5 → Ob.get (Ob.final S a).2 b j = Ob.get S b j := fun b hb => by
    obtain ⟨hd, g1, g2⟩ := isR_head hb
    have hn := isR_n H.hw g1 g2
    have hne : b ≠ a := fun e => hk (by subst e; rw [hh] at g1; injection g1 with g1; rw [g1]; exact g2)
    refine ⟨by unfold Qu.isR; rw [k3 _ _ hne g1]; simpa using g2, fun j j0 j5 => k4 _ _ j g1 j0 (by omega)⟩
   have hR' : ∀ b, Qu.isR (Ob.final S a).2 b = true → Qu.isR S b = true := fun b hb => by
    obtain ⟨hd, g1, g2⟩ := isR_head hb
    have : b ∈ Sp.each S := by
     obtain ⟨n, w, rfl, hfd, _⟩ := Ob.head_is hw' g1
     refine (mem_each H.hw.wf).mpr ⟨n, w, rfl, ?_⟩
     rw [← hfd]
     generalize hS : (Ob.final S a).2 = S' at *
     obtain ⟨ws', pg'⟩ := S'
     obtain ⟨e1, e2⟩ := hpg
     dsimp only at e1 e2
     subst e1
     exact (find_ws e2 _).symm
    obtain ⟨h', hh'⟩ := (obj_each H.hw).mp this
    by_cases e : b = a
    ·subst e
     rw [k2] at g1
     injection g1 with g1
     exact absurd (by rw [← g1] at g2; exact g2) hk
    ·rw [k3 _ _ e hh'] at g1
     injection g1 with g1
     unfold Qu.isR; rw [hh', g1]; simpa using g2
   refine ⟨hw', H.q.mono fun b hb => ?_, H.r.mono fun b hb => ?_, hf, by rw [hpg.2]; exact H.ws⟩
   ·obtain ⟨g1, g2⟩ := H.q.qr b hb
    obtain ⟨t1, t2⟩ := hR b g1
    exact ⟨t1, by rw [t2 1 (by decide) (by decide)]; exact g2, t2 2 (by decide) (by decide)⟩
   ·have hb' := hR' b hb
    obtain ⟨t1, t2⟩ := hR b hb'
    rw [t2 1 (by decide) (by decide), t2 3 (by decide) (by decide)]
    exact ⟨hb', H.r.q b hb', H.r.t b hb', t2 4 (by decide) (by decide)⟩
 ·have e : (Ob.final S a).2 = S := by
   unfold Ob.final at h0 ⊢
   split
   ·rfl
   ·split
    ·rfl
    ·rename_i hh g1
     rw [hh] at h0
     dsimp only at h0
     rw [if_neg g1] at h0
     split
     ·rfl
     ·rename_i g2
      rw [if_neg g2] at h0
      exact absurd rfl h0
  rw [if_neg h0, e]; exact H
theorem open_ (H : Wl S cs rows ser wa pe) (h : rows.length < 8) : Wl S cs (rows ++ [[]]) ser wa pe := ⟨H.hw, H.q.open_ h, H.r, H.f, H.ws⟩
end Wl
structure HI (N : Int) (hs : List Hn.Slot) : Prop where
 len : hs.length = 512
 turn : ∀ e ∈ hs, 0 ≤ e.1 ∧ e.1 ≤ N
theorem HI.ok {N : Int} {hs : List Hn.Slot} (H : HI N hs) (h : N < 2 ^ 50) : Hn.Ok hs := ⟨H.len, fun e he => by have := H.turn e he; omega⟩
theorem HI.get {N : Int} {hs : List Hn.Slot} (H : HI N hs) {i : Nat} (hi : i < 512) : 0 ≤ (Hn.at' hs i).1 ∧ (Hn.at' hs i).1 ≤ N := by
 unfold Hn.at'
 rw [List.getD_eq_getElem?_getD, List.getElem?_eq_getElem (by rw [H.len]; exact hi)]
 exact H.turn _ (List.getElem_mem _)
theorem HI.le {N M : Int} {hs : List Hn.Slot} (H : HI N hs) (h : N ≤ M) : HI M hs := ⟨H.len, fun e he => by have := H.turn e he; omega⟩
theorem HI.hold {N : Int} {hs : List Hn.Slot} (H : HI N hs) (a : Int) : HI N (Hn.holdS hs a) := by
 unfold Hn.holdS
 split
 ·exact H
 ·split
  ·rename_i i hi
   obtain ⟨h1, _, _⟩ := Hn.free_some hi
   rw [H.len] at h1
   refine ⟨by rw [List.length_set]; exact H.len, fun e he => ?_⟩
   rcases List.mem_or_eq_of_mem_set he with h | rfl
   ·exact H.turn e h
   ·exact H.get h1
  ·exact H
structure Rt.Inv (N : Int) (x : Rt) : Prop where
 w : Wl x.S x.cs x.rows x.ser x.wa x.pe
 h : HI N x.hs
 ro : x.ro.length = 16
 ck : 0 ≤ x.ck ∧ x.ck < 9223372036854775808
 ser : 0 ≤ x.ser ∧ x.ser ≤ N
 rn : 0 ≤ x.rn ∧ x.rn ≤ N
 rate : 0 ≤ x.rate ∧ x.rate < 9223372036854775808
 stack : 1 ≤ x.stack ∧ x.stack ≤ 4096
namespace Rt.Inv
variable {N : Int} {x : Rt}
theorem ok2 (H : x.Inv N) (h : N < 2 ^ 50) : x.Ok2 := by
 have hl := H.w.f.len H.w.hw
 have h1 := H.rn
 exact { hw := H.w.hw, rows := H.w.q.rowsOk H.w.hw, hs := H.h.ok h, ro := H.ro, wa := by omega, pe := by omega, ws := H.w.ws, qb := H.w.r.qb, st := H.w.r.st H.w.hw, ck := H.ck.2, rate := H.rate.2, stack := H.stack, rn := ⟨h1.1, by omega⟩ }
theorem ok (H : x.Inv N) (h : N < 2 ^ 50) : x.Ok := (H.ok2 h).toOk
theorem new {pg rate stack : Int} (h : (1 ≤ pg ∧ pg ≤ 256) ∧ 0 ≤ rate ∧ (1 ≤ stack ∧ stack ≤ 4096)) (hr : rate < 9223372036854775808) : (Rt.new pg rate stack).Inv 0 := by
 have h0 : 1 ≤ pg.toNat := by omega
 have h1 : pg.toNat ≤ 256 := by omega
 have hno : ∀ a, Qu.isR (Sp.newSpc pg.toNat) a = true → False := fun a ha => by
  obtain ⟨hd, hh, _⟩ := isR_head ha
  rw [new_head h0 a] at hh; cases hh
 have hws : 64 ≤ (Sp.newSpc pg.toNat).ws.length := by
  show 64 ≤ (List.replicate (pg.toNat * 64) (0 : Int)).length
  rw [List.length_replicate]; omega
 refine { w := ⟨newSpc_hwf h0 h1, ⟨Nat.zero_le _, (fun r hr => by cases hr), (fun a ha => by cases ha), .nil⟩, ⟨fun a ha => (hno a ha).elim, fun a ha => (hno a ha).elim, fun a ha => (hno a ha).elim, fun a _ ha => (hno a ha).elim⟩, ⟨.nil, (fun a ha => by cases ha)⟩, hws⟩, h := ⟨List.length_replicate, fun e he => by rw [List.eq_of_mem_replicate he]; decide⟩, ro := List.length_replicate, ck := ⟨Int.le_refl 0, (by decide : (0 : Int) < 9223372036854775808)⟩, ser := ⟨Int.le_refl 0, Int.le_refl 0⟩, rn := ⟨Int.le_refl 0, Int.le_refl 0⟩, rate := ⟨h.2.1, hr⟩, stack := h.2.2 }
end Rt.Inv
end Go.Proofs.YtdplphebjhfliaaGreat
