/- Heaps, plainly: what is found behind a making, a freeing. -/
import Derived.Test.YtncpnmpfghppeaaGlObj4
set_option linter.unusedSimpArgs false
set_option linter.unusedVariables false
namespace Go.Proofs.Ytncpnmpfghppeaa
open Go Go.Gl

theorem getD_set_ne' {ws : List Int} {i j : Nat} {x : Int} (h : i ≠ j) : (ws.set i x).getD j 0 = ws.getD j 0 := by
  rw [List.getD_eq_getElem?_getD, List.getElem?_set_ne h, List.getD_eq_getElem?_getD]
theorem getD_set_eq' {ws : List Int} {i : Nat} {x : Int} (h : i < ws.length) : (ws.set i x).getD i 0 = x := by
  simp [List.getD_eq_getElem?_getD, h]
theorem clr_getD {ws : List Int} {i n j : Nat} (h : i + n ≤ ws.length) : (Sp.clr ws i n).getD j 0 = if i ≤ j ∧ j < i + n then 0 else ws.getD j 0 := by
  unfold Sp.clr
  rw [List.getD_eq_getElem?_getD, List.getD_eq_getElem?_getD]
  rcases Nat.lt_or_ge j i with c | c
  · rw [List.getElem?_append_left (by simp; omega), if_neg (by omega), List.getElem?_take, if_pos c]
  · rw [List.getElem?_append_right (by simp; omega)]
    rw [show j - (ws.take i).length = j - i by simp; omega]
    rcases Nat.lt_or_ge j (i + n) with c2 | c2
    · rw [List.getElem?_append_left (by simp; omega), if_pos ⟨c, c2⟩, List.getElem?_replicate, if_pos (by omega)]; rfl
    · rw [List.getElem?_append_right (by simp; omega), if_neg (by omega), List.getElem?_drop]
      congr 2
      simp; omega

theorem own_eq {S S' : Spc} (hw : Wf S) (hw' : Wf S') {p : Nat} (h : ∀ j k : Nat, j ≤ p → p < j + k → (S.pg[j]? = some (.head k) ↔ S'.pg[j]? = some (.head k))) : Sp.own S.pg p = Sp.own S'.pg p := by
  cases h1 : Sp.own S.pg p with
  | some x =>
    obtain ⟨g1, g2, g3⟩ := Sp.own_is (j := x.1) (k := x.2) h1
    rw [Sp.own_of hw' ((h _ _ g2 g3).mp g1) ⟨g2, g3⟩]
  | none =>
    cases h2 : Sp.own S'.pg p with
    | none => rfl
    | some x =>
      obtain ⟨g1, g2, g3⟩ := Sp.own_is (j := x.1) (k := x.2) h2
      rw [Sp.own_of hw ((h _ _ g2 g3).mpr g1) ⟨g2, g3⟩] at h1; cases h1
theorem own_free {S : Spc} (hw : Wf S) {p : Nat} (h : S.pg[p]? = some .free) : Sp.own S.pg p = none := by
  refine Sp.own_no fun j k hj hp => ?_
  rcases Nat.lt_or_ge j p with c | c
  · have := (hw.head _ _ hj).2.2.2 p c hp.2
    rw [h] at this; cases this
  · have : j = p := by omega
    subst this; rw [h] at hj; cases hj
theorem find_pg {S S' : Spc} (hw : Wf S) (hw' : Wf S') (hl : S'.ws.length = S.ws.length) {m : Nat} (hp : S'.pg[m / 64]? = S.pg[m / 64]?) (ho : Sp.own S'.pg (m / 64) = Sp.own S.pg (m / 64)) : Sp.find S' m = Sp.find S m := by
  unfold Sp.find
  rw [hl, Int.toNat_natCast, hp, ho]
theorem find_ws {S : Spc} {ws : List Int} (hl : ws.length = S.ws.length) (a : Int) : Sp.find ⟨ws, S.pg⟩ a = Sp.find S a := by
  unfold Sp.find; rw [hl]

/-- what is found behind an allocation -/
theorem find_alloc {S : Spc} (hw : Wf S) {w : Int} (h : (Sp.alloc S w).2.1 = 0) : ∃ a n : Nat, (Sp.alloc S w).1 = a ∧ Sp.blk w = n ∧ 2 ≤ n ∧ n ≤ 1024 ∧ a + n ≤ S.ws.length ∧ (Sp.alloc S w).2.2.ws = Sp.clr S.ws a n ∧
    (∀ m : Nat, Sp.find (Sp.alloc S w).2.2 m = if a ≤ m ∧ m < a + n then some (a, n) else Sp.find S m) ∧ ∀ m : Nat, a ≤ m → m < a + n → Sp.find S m = none := by
  obtain ⟨a, n, h1, h2, h3, h4, h5, h6, h7⟩ := Sp.alloc_ok hw h
  have hw' := Sp.alloc_wf hw w
  have hlen := hw.len
  refine ⟨a, n, h1, h2, h3, h4, h5, h6, ?_⟩
  have hb : Sp.blk w ≠ 0 := by omega
  have hpl : (Sp.place S.pg w).2.1 = 0 ∧ (Sp.alloc S w).2.2.pg = (Sp.place S.pg w).2.2 ∧ (Sp.place S.pg w).1 = (Sp.alloc S w).1 := by
    unfold Sp.alloc at h ⊢
    rw [if_neg hb] at h ⊢
    split at h
    · rename_i h0; rw [if_pos h0]; exact ⟨h0, rfl, rfl⟩
    · rename_i h0; exact absurd h h0
  obtain ⟨p1, p2, p3⟩ := hpl
  generalize (Sp.alloc S w).2.2 = S' at h6 h7 hw' p2 ⊢
  have hl' := hw'.len
  rcases Sp.place_cases hw hb with e | ⟨i, k, _, _, k1, k2, k3, k4, k5, e⟩ | ⟨c, i, k, l, _, c1, c2, c3, c4, c5, c6, c7, e⟩
  · rw [e] at p1; cases p1
  · rw [e] at p2 p3
    dsimp only at p2 p3
    have ha : a = i * 64 := by omega
    have hn : n = k * 64 := by omega
    have hnone : ∀ m : Nat, a ≤ m → m < a + n → Sp.find S m = none := fun m g1 g2 => by
      have hf := k5 (m / 64) (by omega) (by omega)
      rw [Sp.find_other (by omega) (fun c l hc => by rw [hf] at hc; cases hc), own_free hw hf]; rfl
    refine ⟨fun m => ?_, hnone⟩
    by_cases hm : a ≤ m ∧ m < a + n
    · rw [if_pos hm]
      have hi : S'.pg[i]? = some (.head k) := by rw [p2, putL_get, if_pos (by omega), if_pos rfl]
      rw [Sp.find_other (by omega) (fun c l hc => by
        rw [p2, putL_get, if_pos (by omega)] at hc
        split at hc
        · cases hc
        · rw [if_pos (by omega)] at hc; cases hc), Sp.own_of hw' hi (by omega)]
      rw [Option.map_some, ha, hn]
    · rw [if_neg hm]
      have hoff : ¬ (i ≤ m / 64 ∧ m / 64 < i + k) := by omega
      refine find_pg hw hw' h7 (by rw [p2, putL_off k1 hoff]) ?_
      refine own_eq hw' hw fun j k' g1 g2 => ?_
      rw [p2]
      by_cases hj : i ≤ j ∧ j < i + k
      · rw [k5 j hj.1 hj.2, putL_get, if_pos (by omega)]
        constructor
        · intro hh
          split at hh
          · rename_i e2
            injection hh with hh; injection hh with hh
            subst hh; omega
          · rw [if_pos (by omega)] at hh; cases hh
        · intro hh; cases hh
      · rw [putL_off k1 hj]
  · rw [e] at p2 p3
    dsimp only at p2 p3
    obtain ⟨f1, f2, f3⟩ := sz_fit c1 c6 c5
    have ha : a = i * 64 + k * Sp.sz c := by omega
    have hn : n = Sp.sz c := by omega
    have hi' : S'.pg[i]? = some (.small c (l.set k true)) := by rw [p2, set_get c3, if_pos rfl]
    have nh : ∀ k, S.pg[i]? ≠ some (.head k) := by intro k h; rcases c4 with h' | ⟨h', _⟩ <;> rw [h'] at h <;> cases h
    have hidx : ∀ m : Nat, m / 64 = i → ((a ≤ m ∧ m < a + n) ↔ m % 64 / Sp.sz c = k) := fun m hm => by
      rw [ha, hn]
      have hd := Nat.div_add_mod (m % 64) (Sp.sz c)
      have hlt := Nat.mod_lt (m % 64) (show 0 < Sp.sz c by omega)
      constructor
      · rintro ⟨g1, g2⟩
        have hx : k * Sp.sz c ≤ m % 64 ∧ m % 64 < k * Sp.sz c + Sp.sz c := by omega
        have := Nat.div_le_div_right (c := Sp.sz c) hx.1
        rw [Nat.mul_div_cancel _ (by omega)] at this
        have h2 : m % 64 / Sp.sz c < k + 1 := (Nat.div_lt_iff_lt_mul (by omega)).mpr (by rw [Nat.add_mul]; omega)
        omega
      · intro g
        rw [g] at hd
        rw [Nat.mul_comm] at hd
        omega
    have hfS : ∀ m : Nat, m < S.ws.length → m / 64 = i → Sp.find S m = if l.getD (m % 64 / Sp.sz c) false then some (m / 64 * 64 + m % 64 / Sp.sz c * Sp.sz c, Sp.sz c) else none := fun m hml hm => by
      rcases c4 with h' | ⟨h', hl2, _⟩
      · rw [Sp.find_small hml (by rw [hm]; exact h')]
      · rw [Sp.find_other hml (fun c l hc => by rw [hm, h'] at hc; cases hc), hm, own_free hw h', hl2]
        rw [List.getD_eq_getElem?_getD, List.getElem?_replicate]
        split <;> rfl
    refine ⟨fun m => ?_, fun m g1 g2 => ?_⟩
    · by_cases hml : m < S.ws.length
      · by_cases hm : m / 64 = i
        · rw [Sp.find_small (by omega) (by rw [hm]; exact hi'), hfS m hml hm]
          by_cases hk : m % 64 / Sp.sz c = k
          · rw [if_pos ((hidx m hm).mpr hk), hk, List.getD_eq_getElem?_getD, List.getElem?_set, if_pos rfl, if_pos c6, hm, ha, hn]; rfl
          · rw [if_neg (fun h => hk ((hidx m hm).mp h)), List.getD_eq_getElem?_getD, List.getElem?_set_ne (fun e => hk e.symm), List.getD_eq_getElem?_getD]
        · rw [if_neg (by omega)]
          refine find_pg hw hw' h7 (by rw [p2, set_get c3, if_neg (fun e => hm e.symm)]) ?_
          refine own_eq hw' hw fun j k' g1 g2 => ?_
          rw [p2]
          exact (heads_set nh (fun k h => by cases h) j k').symm
      · rw [if_neg (by omega), Sp.find_out (by omega), Sp.find_out (by omega)]
    · rw [hfS m (by omega) (by omega), (hidx m (by omega)).mp ⟨g1, g2⟩, c7]; rfl

/-- the block of an address within a block -/
theorem find_in {S : Spc} (hw : Wf S) {a w : Nat} (h : Sp.find S a = some (a, w)) {m : Nat} (h1 : a ≤ m) (h2 : m < a + w) : Sp.find S m = some (a, w) := by
  have hlen := hw.len
  obtain ⟨hn, hcase⟩ := Sp.find_at hw h rfl
  rcases hcase with ⟨c, l, k, g1, g2, g3, g4, g5, g6, g7⟩ | ⟨k, g1, g2, g3⟩
  · have hk : k < l.length := by
      rcases Nat.lt_or_ge k l.length with c | c
      · exact c
      · rw [List.getD_eq_getElem?_getD, List.getElem?_eq_none c] at g5; cases g5
    obtain ⟨f1, f2, f3⟩ := sz_fit g2 hk g3
    have hp := getElem?_lt g1
    have hm : m / 64 = a / 64 := by omega
    have hx : k * Sp.sz c ≤ m % 64 ∧ m % 64 < k * Sp.sz c + Sp.sz c := by omega
    have hidx : m % 64 / Sp.sz c = k := by
      have t1 := Nat.div_le_div_right (c := Sp.sz c) hx.1
      rw [Nat.mul_div_cancel _ (by omega)] at t1
      have t2 : m % 64 / Sp.sz c < k + 1 := (Nat.div_lt_iff_lt_mul (by omega)).mpr (by rw [Nat.add_mul]; omega)
      omega
    rw [Sp.find_small (by omega) (by rw [hm]; exact g1), hidx, g5, if_pos rfl, hm, ← g6, g7]
  · obtain ⟨k1, k2, k3, k4⟩ := hw.head _ _ g1
    have hns : ∀ c l, S.pg[m / 64]? ≠ some (.small c l) := fun c l hc => by
      rcases Nat.lt_or_ge (a / 64) (m / 64) with c' | c'
      · rw [k4 (m / 64) c' (by omega)] at hc; cases hc
      · have : m / 64 = a / 64 := by omega
        rw [this, g1] at hc; cases hc
    rw [Sp.find_other (by omega) hns, Sp.own_of hw g1 (by omega), Option.map_some, g3, ← g2]

/-- heaps stay as they should be -/
theorem HWf.set_word {S : Spc} {cs : List Cls} (hw : HWf S cs) {i : Nat} {x : Int} (h : ∀ w : Nat, Sp.find S i = some (i, w) → ∃ h : Hd, Sp.mayH h = true ∧ x = Sp.putH h ∧ h.n + 1 ≤ (w : Int)) : HWf ⟨S.ws.set i x, S.pg⟩ cs := by
  have hl : (S.ws.set i x).length = S.ws.length := by simp
  refine ⟨⟨by simp [hw.wf.len], hw.wf.most, hw.wf.pos, hw.wf.res, hw.wf.small, hw.wf.head, hw.wf.tail⟩, fun n w hf => ?_, hw.cls, hw.refs⟩
  rw [find_ws hl] at hf
  by_cases hni : i = n
  · subst hni
    obtain ⟨hd, h1, h2, h3⟩ := h w hf
    have hn : i < S.ws.length := (Sp.find_at hw.wf hf rfl).1
    exact ⟨hd, h1, by dsimp only; rw [getD_set_eq' hn]; exact h2, h3⟩
  · obtain ⟨hd, h1, h2, h3⟩ := hw.obj n w hf
    exact ⟨hd, h1, by dsimp only; rw [getD_set_ne' hni]; exact h2, h3⟩

theorem HWf.put {S : Spc} {cs : List Cls} (hw : HWf S cs) (a i x : Int) : HWf (Ob.put S a i x).2 cs := by
  unfold Ob.put
  split
  · exact hw
  · rename_i h
    have h : (Ob.fieldAt S a i).2 = 0 := by simpa using h
    obtain ⟨hd, h1, h2, h3, h4, h5, h6⟩ := Ob.fieldAt_ok hw h
    obtain ⟨n, w, rfl, f1, f2, f3, f4, f5⟩ := Ob.head_is hw h1
    refine hw.set_word fun w' hf => ?_
    exfalso
    have := find_in hw.wf f1 (m := (Ob.fieldAt S n i).1.toNat) (by omega) (by omega)
    rw [this] at hf
    injection hf with hf; injection hf with hf _
    omega
theorem HWf.final {S : Spc} {cs : List Cls} (hw : HWf S cs) (a : Int) : HWf (Ob.final S a).2 cs := by
  unfold Ob.final
  split
  · exact hw
  · rename_i h hh
    obtain ⟨n, w, rfl, f1, f2, f3, f4, f5⟩ := Ob.head_is hw hh
    split
    · exact hw
    · rename_i hk
      split
      · exact hw
      · rw [Int.toNat_natCast]
        refine hw.set_word fun w' hf => ?_
        rw [f1] at hf; injection hf with hf; injection hf with _ hf
        subst hf
        exact ⟨_, Sp.mayH_f f3 hk, rfl, f4⟩

theorem blk_ge {w : Int} (h : Sp.blk w ≠ 0) : w ≤ Sp.blk w := by
  by_cases hc : Sp.cls w < 0
  · obtain ⟨k1, k2, k3⟩ := Sp.pgs_pos h hc
    rw [k3]
    unfold Sp.pgs at k1 ⊢
    split at k1
    · omega
    · rename_i hn; rw [if_neg hn]; omega
  · unfold Sp.blk
    rw [if_pos (by omega)]
    rcases Sp.cls_cases w with ⟨_, e⟩ | ⟨_, h2, e⟩ | ⟨_, h2, e⟩ | ⟨_, h2, e⟩ | ⟨_, h2, e⟩ | ⟨_, h2, e⟩ | ⟨_, e⟩ <;> rw [e] at hc ⊢
    · omega
    · exact h2
    · exact h2
    · exact h2
    · exact h2
    · exact h2
    · omega

/-- an object is made: what is found behind it -/
theorem Ob.make_ok {S : Spc} {cs : List Cls} (hw : HWf S cs) {h : Hd} (h0 : (Ob.make S cs h).2.1 = 0) : ∃ a n : Nat, (Ob.make S cs h).1 = a ∧ Ob.may cs h = 0 ∧ Sp.blk (h.n + 1) = n ∧ h.n + 1 ≤ (n : Int) ∧ a + n ≤ S.ws.length ∧ (Ob.make S cs h).2.2.ws = (Sp.clr S.ws a n).set a (Sp.putH h) ∧
    (∀ m : Nat, Sp.find (Ob.make S cs h).2.2 m = if a ≤ m ∧ m < a + n then some (a, n) else Sp.find S m) ∧ (∀ m : Nat, a ≤ m → m < a + n → Sp.find S m = none) ∧ HWf (Ob.make S cs h).2.2 cs := by
  unfold Ob.make at h0 ⊢
  split at h0
  · rename_i h1; exact absurd h0 h1
  · rename_i h1
    rw [if_neg h1]
    have h1 : Ob.may cs h = 0 := by simpa using h1
    split at h0
    · rename_i h2; exact absurd h0 h2
    · rename_i h2
      rw [if_neg h2]
      have h2 : (Sp.alloc S (h.n + 1)).2.1 = 0 := by simpa using h2
      obtain ⟨a, n, e1, e2, e3, e4, e5, e6, e7, e8⟩ := find_alloc hw.wf h2
      have hwa := Sp.alloc_wf hw.wf (h.n + 1)
      have hge := blk_ge (w := h.n + 1) (by omega)
      have hlen : (Sp.alloc S (h.n + 1)).2.2.ws.length = S.ws.length := by rw [e6]; exact clr_len e5
      have hfind : ∀ m : Nat, Sp.find ⟨(Sp.alloc S (h.n + 1)).2.2.ws.set a (Sp.putH h), (Sp.alloc S (h.n + 1)).2.2.pg⟩ m = if a ≤ m ∧ m < a + n then some (a, n) else Sp.find S m := fun m => by
        rw [find_ws (by simp)]; exact e7 m
      refine ⟨a, n, e1, h1, e2, by omega, e5, by dsimp only; rw [e1, e6, Int.toNat_natCast], ?_, e8, ?_⟩
      · dsimp only; rw [e1, Int.toNat_natCast]; exact hfind
      · dsimp only
        rw [e1, Int.toNat_natCast]
        refine ⟨⟨by simp [hwa.len], hwa.most, hwa.pos, hwa.res, hwa.small, hwa.head, hwa.tail⟩, fun m w hf => ?_, hw.cls, hw.refs⟩
        rw [hfind] at hf
        dsimp only
        by_cases hm : a ≤ m ∧ m < a + n
        · rw [if_pos hm] at hf
          injection hf with hf; injection hf with f1 f2
          subst f1; subst f2
          exact ⟨h, (Ob.may_ok h1).1, by rw [getD_set_eq' (by omega)], by omega⟩
        · rw [if_neg hm] at hf
          obtain ⟨hd, g1, g2, g3⟩ := hw.obj m w hf
          refine ⟨hd, g1, ?_, g3⟩
          rw [getD_set_ne' (by omega), e6, clr_getD e5, if_neg hm]; exact g2
theorem HWf.make {S : Spc} {cs : List Cls} (hw : HWf S cs) (h : Hd) : HWf (Ob.make S cs h).2.2 cs := by
  by_cases h0 : (Ob.make S cs h).2.1 = 0
  · obtain ⟨_, _, _, _, _, _, _, _, _, _, r⟩ := Ob.make_ok hw h0
    exact r
  · unfold Ob.make at h0 ⊢
    split
    · exact hw
    · rename_i h1
      rw [if_neg h1] at h0
      split
      · exact hw
      · rename_i h2; rw [if_neg h2] at h0; exact absurd rfl h0

theorem newSpc_find {n : Nat} (h0 : 1 ≤ n) (a : Int) : Sp.find (Sp.newSpc n) a = none := by
  unfold Sp.find
  split
  · have hno : ∀ (i : Nat) (x : Pg), (Sp.newSpc n).pg[i]? = some x → x = .res ∨ x = .free := fun i x h => by
      unfold Sp.newSpc at h
      cases i with
      | zero => simp at h; exact .inl h.symm
      | succ i => simp [List.getElem?_replicate] at h; exact .inr h.2.symm
    split
    · rename_i c l h; rcases hno _ _ h with e | e <;> cases e
    · rw [Sp.own_no fun j k h => by rcases hno _ _ h with e | e <;> cases e]; rfl
  · rfl
theorem newSpc_hwf {n : Nat} (h0 : 1 ≤ n) (h1 : n ≤ 256) : HWf (Sp.newSpc n) [] :=
  ⟨Sp.newSpc_wf h0 h1, fun m w h => by (rw [newSpc_find h0] at h; cases h), by simp, by simp⟩

/-! ### pages alone decide where blocks come -/
theorem freeS_ws {ws ws' : List Int} {pg : List Pg} (hl : ws'.length = ws.length) (a : Int) : Sp.freeS ⟨ws', pg⟩ a = ((Sp.freeS ⟨ws, pg⟩ a).1, ⟨ws', (Sp.freeS ⟨ws, pg⟩ a).2.pg⟩) := by
  have hf : Sp.find ⟨ws', pg⟩ a = Sp.find ⟨ws, pg⟩ a := find_ws (S := ⟨ws, pg⟩) hl a
  unfold Sp.freeS
  rw [hf]
  split
  · split
    · dsimp only
      split <;> rfl
    · rfl
  · rfl
theorem alloc_ws {ws ws' : List Int} {pg : List Pg} (w : Int) : (Sp.alloc ⟨ws', pg⟩ w).1 = (Sp.alloc ⟨ws, pg⟩ w).1 ∧ (Sp.alloc ⟨ws', pg⟩ w).2.1 = (Sp.alloc ⟨ws, pg⟩ w).2.1 ∧ (Sp.alloc ⟨ws', pg⟩ w).2.2.pg = (Sp.alloc ⟨ws, pg⟩ w).2.2.pg := by
  unfold Sp.alloc
  split
  · exact ⟨rfl, rfl, rfl⟩
  · dsimp only
    split <;> exact ⟨rfl, rfl, rfl⟩
theorem make_ws {ws ws' : List Int} {pg : List Pg} (cs : List Cls) (h : Hd) : (Ob.make ⟨ws', pg⟩ cs h).1 = (Ob.make ⟨ws, pg⟩ cs h).1 ∧ (Ob.make ⟨ws', pg⟩ cs h).2.1 = (Ob.make ⟨ws, pg⟩ cs h).2.1 ∧ (Ob.make ⟨ws', pg⟩ cs h).2.2.pg = (Ob.make ⟨ws, pg⟩ cs h).2.2.pg := by
  obtain ⟨h1, h2, h3⟩ := alloc_ws (ws := ws) (ws' := ws') (pg := pg) (h.n + 1)
  unfold Ob.make
  split
  · exact ⟨rfl, rfl, rfl⟩
  · rw [h1, h2]
    split
    · exact ⟨rfl, rfl, rfl⟩
    · exact ⟨rfl, rfl, h3⟩
theorem put_pg (S : Spc) (a i x : Int) : ∃ ws', (Ob.put S a i x).2 = ⟨ws', S.pg⟩ ∧ ws'.length = S.ws.length := by
  unfold Ob.put
  split
  · exact ⟨S.ws, rfl, rfl⟩
  · exact ⟨_, rfl, by simp⟩
theorem each_ws {ws ws' : List Int} {pg : List Pg} : Sp.each ⟨ws', pg⟩ = Sp.each ⟨ws, pg⟩ := rfl
/-- a field that is there -/
theorem Ob.get_ok {S : Spc} {a i : Int} {h : Hd} (hh : Ob.head S a = some h) (h0 : 0 ≤ i) (h1 : i < h.n) : Ob.get S a i = (S.ws.getD (a + 1 + i).toNat 0, 0) := by
  have e : Ob.fieldAt S a i = (a + 1 + i, 0) := by unfold Ob.fieldAt; rw [hh]; dsimp only; rw [if_neg (by rintro (h | h) <;> omega)]
  unfold Ob.get; rw [e, if_neg (by simp)]
/-- an object that was made is there -/
theorem Ob.make_head {S : Spc} {cs : List Cls} (hw : HWf S cs) {h : Hd} (h0 : (Ob.make S cs h).2.1 = 0) : Ob.head (Ob.make S cs h).2.2 (Ob.make S cs h).1 = some h := by
  obtain ⟨a, n, e1, e2, e3, e4, e5, e6, e7, e8, e9⟩ := Ob.make_ok hw h0
  have hb := Sp.mayH_is (Ob.may_ok e2).1
  have hf : Sp.find (Ob.make S cs h).2.2 a = some (a, n) := by rw [e7 a, if_pos ⟨by omega, by omega⟩]
  unfold Ob.head
  rw [e1, hf]
  dsimp only
  rw [if_pos rfl, e6, getD_set_eq' (by rw [clr_len e5]; omega), Sp.getH_put (Ob.may_ok e2).1]
/-- its fields are 0 -/
theorem Ob.make_zero {S : Spc} {cs : List Cls} (hw : HWf S cs) {h : Hd} (h0 : (Ob.make S cs h).2.1 = 0) {i : Int} (i0 : 0 ≤ i) (i1 : i < h.n) : Ob.get (Ob.make S cs h).2.2 (Ob.make S cs h).1 i = (0, 0) := by
  rw [Ob.get_ok (Ob.make_head hw h0) i0 i1]
  obtain ⟨a, n, e1, e2, e3, e4, e5, e6, e7, e8, e9⟩ := Ob.make_ok hw h0
  rw [e1, e6, getD_set_ne' (by omega), clr_getD e5, if_pos ⟨by omega, by omega⟩]

end Go.Proofs.Ytncpnmpfghppeaa
