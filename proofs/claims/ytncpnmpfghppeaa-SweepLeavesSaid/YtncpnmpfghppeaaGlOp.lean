/- Slices: owned ones, ones that stay; making, appending, clearing. -/
import Derived.Test.YtncpnmpfghppeaaGlSL
set_option linter.unusedSimpArgs false
set_option linter.unusedVariables false
namespace Go.Gl
open Go

/-- an owned slice: its cells, of elements of m cells -/
def SLc (s : Slc) (m : Nat) (xs : List Value) : Asn := fun h =>
  (s.a = none ∧ s.n = 0 ∧ s.c = 0 ∧ xs = [] ∧ emp h) ∨
  ∃ b off pre rest, s.a = some ⟨b, off, none⟩ ∧ List.length pre = off ∧ xs.length = s.n * m ∧ rest.length = (s.c - s.n) * m ∧ s.n ≤ s.c ∧ blk b (pre ++ (xs ++ rest)) h
/-- a slice that stays -/
def RoS (ρ : FR) (s : Slc) (m : Nat) (xs : List Value) : Prop :=
  xs.length = s.n * m ∧ ((s.n = 0) ∨ ∃ b off cs ty fr, s.a = some ⟨b, off, none⟩ ∧ ρ b = some (.cells cs ty fr) ∧ ∀ i, i < xs.length → cs[off + i]? = xs[i]?)

theorem RoS.le {ρ ρ' : FR} (h : Le ρ ρ') {s : Slc} {m : Nat} {xs : List Value} (H : RoS ρ s m xs) : RoS ρ' s m xs := by
  obtain ⟨h1, h2⟩ := H
  refine ⟨h1, h2.imp id ?_⟩
  rintro ⟨b, off, cs, ty, fr, g1, g2, g3⟩
  exact ⟨b, off, cs, ty, fr, g1, h _ _ g2, g3⟩

variable {ρ0 ρ : FR} {L L' : List Asn} {Post : Value → List Asn → Prop}

theorem Sat.sl {s : Slc} {m : Nat} {xs : List Value} {w : World} (H : Sat ρ (SLc s m xs :: L) w) :
    (s.a = none ∧ s.n = 0 ∧ s.c = 0 ∧ xs = [] ∧ Sat ρ L w) ∨
    ∃ b off pre rest, s.a = some ⟨b, off, none⟩ ∧ List.length pre = off ∧ xs.length = s.n * m ∧ rest.length = (s.c - s.n) * m ∧ s.n ≤ s.c ∧ Sat ρ (blk b (pre ++ (xs ++ rest)) :: L) w := by
  obtain ⟨⟨h, ⟨h1, h2, hd, rfl, ha, hl⟩, hh⟩, h3⟩ := H
  rcases ha with ⟨g1, g2, g3, g4, g5⟩ | ⟨b, off, pre, rest, g1, g2, g3, g4, g5, g6⟩
  · refine .inl ⟨g1, g2, g3, g4, ⟨h2, hl, fun b o hb => hh b o (by simp [g5 b, hb])⟩, h3⟩
  · exact .inr ⟨b, off, pre, rest, g1, g2, g3, g4, g5, ⟨_, ⟨h1, h2, hd, rfl, g6, hl⟩, hh⟩, h3⟩

theorem Tr.sl_len {s : Slc} {m : Nat} {xs : List Value} {T : Tree} (t : Take L (SLc s m xs) L') (h : xs.length = s.n * m → s.n ≤ s.c → Tr ρ0 ρ L T Post) : Tr ρ0 ρ L T Post := fun hle w hw => by
  rcases (hw.perm t.perm).sl with ⟨g1, g2, g3, g4, _⟩ | ⟨b, off, pre, rest, g1, g2, g3, g4, g5, _⟩
  · exact h (by rw [g4, g2]; simp) (by omega) hle w hw
  · exact h g3 g5 hle w hw

theorem mid_get {α : Type} {pre xs rest : List α} {i : Nat} (h : i < xs.length) : (pre ++ (xs ++ rest))[pre.length + i]? = xs[i]? := by
  rw [List.getElem?_append_right (by omega), Nat.add_sub_cancel_left, List.getElem?_append_left h]

theorem en_ixSL {s : Slc} {m : Nat} {xs : List Value} {i : Int} {k : Addr → Tree} (t : Take L (SLc s m xs) L') (h0 : 0 ≤ i) (h1 : i < s.n) (h : ∀ a0, s.a = some a0 → Tr ρ0 ρ L (k (fa a0 (i.toNat * m))) Post) :
    Tr ρ0 ρ L (ix s.a s.n i m k) Post := fun hle w hw => by
  rcases (hw.perm t.perm).sl with ⟨g1, g2, _⟩ | ⟨b, off, pre, rest, g1, _⟩
  · omega
  · exact ⟨_, g1, h0, h1, h _ g1 hle w hw⟩
theorem en_ldSL {s : Slc} {m : Nat} {xs : List Value} {k : LK} {a a0 : Addr} {f : LT k → Tree} {j : Nat} {x : LT k} (hs : s.a = some a0) (t : Take L (SLc s m xs) L') (ha : ∀ b o, a0 = ⟨b, o, none⟩ → a = ⟨b, o + j, none⟩)
    (hx : xs[j]? = some (k.val x)) (h : Tr ρ0 ρ L (f x) Post) : Tr ρ0 ρ L (ldL k a f) Post := fun hle w hw => by
  have hj : j < xs.length := by
    rcases Nat.lt_or_ge j xs.length with h | h
    · exact h
    · rw [List.getElem?_eq_none h] at hx; cases hx
  rcases (hw.perm t.perm).sl with ⟨g1, g2, g3, g4, _⟩ | ⟨b, off, pre, rest, g1, g2, g3, g4, g5, g6⟩
  · rw [g4] at hj; simp at hj
  · rw [hs] at g1
    injection g1 with g1
    obtain ⟨ty, hb⟩ := g6.cl
    refine ⟨x, ?_, h hle w hw⟩
    rw [ha b off g1]
    refine cell_of hb ?_
    rw [List.getElem?_toArray, ← g2, mid_get hj, hx]
theorem setL_mid {pre xs rest vs : List Value} {j : Nat} (h : j + vs.length ≤ xs.length) : setL (pre ++ (xs ++ rest)) (pre.length + j) vs = pre ++ (setL xs j vs ++ rest) := by
  induction vs generalizing xs j with
  | nil => rfl
  | cons v vs ih =>
    simp only [List.length_cons] at h
    simp only [setL]
    rw [List.set_append_right _ _ (by omega), Nat.add_sub_cancel_left, List.set_append_left _ _ (by omega)]
    have := ih (xs := xs.set j v) (j := j + 1) (by simp; omega)
    rw [Nat.add_assoc]; exact this
theorem setL_length {xs vs : List Value} {j : Nat} : (setL xs j vs).length = xs.length := by
  induction vs generalizing xs j with
  | nil => rfl
  | cons v vs ih => simp only [setL]; rw [ih]; simp
theorem en_stSL {s : Slc} {m : Nat} {xs : List Value} {a a0 : Addr} {vs : List Value} {k : Tree} {j : Nat} (hs : s.a = some a0) (t : Take L (SLc s m xs) L') (ha : ∀ b o, a0 = ⟨b, o, none⟩ → a = ⟨b, o + j, none⟩)
    (hl : j + vs.length ≤ xs.length) (h1 : vs.all one1 = true) (h : Tr ρ0 ρ (SLc s m (setL xs j vs) :: L') k Post) : Tr ρ0 ρ L (st a vs k) Post := fun hle w hw => by
  rcases (hw.perm t.perm).sl with ⟨g1, g2, g3, g4, _⟩ | ⟨b, off, pre, rest, g1, g2, g3, g4, g5, g6⟩
  · rw [hs] at g1; cases g1
  · have g1' := g1
    rw [hs] at g1
    injection g1 with g1
    have hT : Tr ρ0 ρ (blk b (pre ++ (xs ++ rest)) :: L') (st a vs k) Post := by
      refine en_st (off := off + j) (ha b off g1) .here (by simp; omega) h1 ?_
      rw [← g2, setL_mid hl]
      refine Tr.imp .here (fun h hh => .inr ⟨b, off, pre, rest, g1', g2, by rw [setL_length]; exact g3, g4, g5, hh⟩) h
    exact hT hle w g6

theorem en_ixRo {s : Slc} {m : Nat} {xs : List Value} {i : Int} {k : Addr → Tree} (hr : RoS ρ s m xs) (h0 : 0 ≤ i) (h1 : i < s.n) (h : ∀ a0, s.a = some a0 → Tr ρ0 ρ L (k (fa a0 (i.toNat * m))) Post) :
    Tr ρ0 ρ L (ix s.a s.n i m k) Post := fun hle w hw => by
  obtain ⟨_, hr | ⟨b, off, cs, ty, fr, g1, _⟩⟩ := hr
  · omega
  · exact ⟨_, g1, h0, h1, h _ g1 hle w hw⟩
theorem en_ldRo {s : Slc} {m : Nat} {xs : List Value} {k : LK} {a a0 : Addr} {f : LT k → Tree} {j : Nat} {x : LT k} (hs : s.a = some a0) (hr : RoS ρ s m xs) (ha : ∀ b o, a0 = ⟨b, o, none⟩ → a = ⟨b, o + j, none⟩)
    (hx : xs[j]? = some (k.val x)) (h : Tr ρ0 ρ L (f x) Post) : Tr ρ0 ρ L (ldL k a f) Post := by
  have hj : j < xs.length := by
    rcases Nat.lt_or_ge j xs.length with h | h
    · exact h
    · rw [List.getElem?_eq_none h] at hx; cases hx
  obtain ⟨h1, hr | ⟨b, off, cs, ty, fr, g1, g2, g3⟩⟩ := hr
  · rw [hr] at h1; simp at h1; rw [h1] at hj; simp at hj
  · rw [hs] at g1
    injection g1 with g1
    exact en_ldR (ha b off g1) g2 (by rw [g3 j hj, hx]) h

/-- an owned slice stays from here on -/
theorem Tr.keepSL {s : Slc} {m : Nat} {xs : List Value} {T : Tree} (t : Take L (SLc s m xs) L') (h : ∀ ρ', Le ρ ρ' → RoS ρ' s m xs → Tr ρ0 ρ' L' T Post) : Tr ρ0 ρ L T Post := fun hle w hw => by
  rcases (hw.perm t.perm).sl with ⟨g1, g2, g3, g4, g5⟩ | ⟨b, off, pre, rest, g1, g2, g3, g4, g5, g6⟩
  · exact h ρ (Le.refl _) ⟨by rw [g4, g2]; simp, .inl g2⟩ hle w g5
  · have hT : Tr ρ0 ρ (blk b (pre ++ (xs ++ rest)) :: L') T Post := by
      refine Tr.keep .here fun ρ' ⟨ty, hρ⟩ hle' => h ρ' hle' ⟨g3, .inr ⟨b, off, _, ty, _, g1, hρ, fun i hi => ?_⟩⟩
      rw [List.getElem?_toArray, ← g2, mid_get hi]
    exact hT hle w g6

/-- a new block is a slice -/
theorem SLc.of_cl {b : Nat} {cs : List Value} {n m : Nat} (hl : cs.length = n * m) (h : HP) (H : blk b cs h) : SLc ⟨some ⟨b, 0, none⟩, n, n⟩ m cs h :=
  .inr ⟨b, 0, [], [], rfl, rfl, hl, by simp, Nat.le_refl _, by simpa using H⟩
theorem SLc.nil (m : Nat) (h : HP) (H : emp h) : SLc ⟨none, 0, 0⟩ m [] h := .inl ⟨rfl, rfl, rfl, rfl, H⟩
theorem Tr.nilSL {T : Tree} (m : Nat) (h : Tr ρ0 ρ (SLc ⟨none, 0, 0⟩ m [] :: L) T Post) : Tr ρ0 ρ L T Post := fun hle w hw => by
  refine h hle w ?_
  obtain ⟨⟨h0, hl, hh⟩, h3⟩ := hw
  exact ⟨⟨h0, ⟨fun _ => none, h0, fun _ => .inl rfl, by funext b; simp, SLc.nil m _ (fun _ => rfl), hl⟩, hh⟩, h3⟩

/-! ### append -/
theorem growBy_le (n : Nat) : ∀ (r c : Nat), 256 ≤ c → c ≤ 2 * n → Builtin.growBy n r c ≤ 2 * n
  | 0, c, _, h => by simpa [Builtin.growBy] using h
  | r + 1, c, h0, h => by
    unfold Builtin.growBy
    split
    · exact h
    · exact growBy_le n r _ (by omega) (by omega)
theorem nextslicecap_le {n c : Nat} (h : c < n) : Builtin.nextslicecap n c ≤ 2 * n := by
  unfold Builtin.nextslicecap
  split
  · omega
  · split
    · omega
    · exact growBy_le n 4 c (by omega) (by omega)

/-- what can be read of a slice, in every world that holds the pieces -/
def Rd (ρ : FR) (L : List Asn) (s : Slc) (m : Nat) (ys : List Value) : Prop :=
  ys.length = s.n * m ∧ ∀ w, Sat ρ L w → s.n = 0 ∨ ∃ b off, s.a = some ⟨b, off, none⟩ ∧ ∀ i, i < ys.length → w.cell? ⟨b, off + i, none⟩ = ys[i]?
theorem Rd.ro {s : Slc} {m : Nat} {ys : List Value} (h : RoS ρ s m ys) : Rd ρ L s m ys := by
  refine ⟨h.1, fun w hw => h.2.imp id ?_⟩
  rintro ⟨b, off, cs, ty, fr, g1, g2, g3⟩
  refine ⟨b, off, g1, fun i hi => ?_⟩
  obtain ⟨y, hy⟩ : ∃ y, ys[i]? = some y := ⟨ys[i], by simp [hi]⟩
  rw [hy]; exact cell_of (hw.2 _ _ g2) (by rw [g3 i hi, hy])
theorem Rd.cl {s : Slc} {m : Nat} {ys : List Value} {b : Nat} (t : Take L (blk b ys) L') (hs : s.a = some ⟨b, 0, none⟩) (hl : ys.length = s.n * m) : Rd ρ L s m ys := by
  refine ⟨hl, fun w hw => .inr ⟨b, 0, hs, fun i hi => ?_⟩⟩
  obtain ⟨ty, hb⟩ := (hw.perm t.perm).cl
  obtain ⟨y, hy⟩ : ∃ y, ys[i]? = some y := ⟨ys[i], by simp [hi]⟩
  rw [hy]; exact cell_of hb (by simp [hy])
theorem Rd.sl {s : Slc} {m : Nat} {ys : List Value} (t : Take L (SLc s m ys) L') (hl : ys.length = s.n * m) : Rd ρ L s m ys := by
  refine ⟨hl, fun w hw => ?_⟩
  rcases (hw.perm t.perm).sl with ⟨g1, g2, _⟩ | ⟨b, off, pre, rest, g1, g2, g3, g4, g5, g6⟩
  · exact .inl g2
  · refine .inr ⟨b, off, g1, fun i hi => ?_⟩
    obtain ⟨ty, hb⟩ := g6.cl
    obtain ⟨y, hy⟩ : ∃ y, ys[i]? = some y := ⟨ys[i], by simp [hi]⟩
    rw [hy]; exact cell_of hb (by rw [List.getElem?_toArray, ← g2, mid_get hi, hy])
theorem Rd.nil {m : Nat} : Rd ρ L ⟨none, 0, 0⟩ m [] := ⟨by simp, fun _ _ => .inl rfl⟩

theorem run_firstCells {P : Program} {w : World} {s : Slc} {m : Nat} {ys : List Value} (hl : ys.length = s.n * m) (h : s.n = 0 ∨ ∃ b off, s.a = some ⟨b, off, none⟩ ∧ ∀ i, i < ys.length → w.cell? ⟨b, off + i, none⟩ = ys[i]?) :
    (Builtin.firstCells m s.n (.slice s.a s.n s.c)).run P w = .ok ys.toArray w := by
  rcases h with h | ⟨b, off, hs, hc⟩
  · rw [h] at hl; simp at hl
    subst hl
    cases hs : s.a with
    | none => simp [Builtin.firstCells]
    | some a => simp [Builtin.firstCells, h, loadCells, loadCellsFrom]
  · rw [hs]
    have := run_loadCells (P := P) (w := w) (ad := ⟨b, off, none⟩) ys 0 #[] (by intro j hj; rw [fa_mk, Nat.zero_add]; exact hc j hj)
    simp [Builtin.firstCells, loadCells, ← hl, this]

/-- may these types be appended so: elements of m cells, of so many bytes? -/
def appB (P : Program) (ts : Array TypeId) (m bytes : Nat) : Bool :=
  match ts.toList with
  | [t, x] => (match P.underlying t with
    | some (.slice e) => (match P.info? e with | some i => i.size == m && i.bytes == bytes && (match i.zero with | some z => z.cells.size == m | none => false) | none => false)
    | _ => false) && (match P.underlying x with | some (.slice _) => true | _ => false)
  | _ => false

theorem one1_store {vs : List Value} {w : World} {P : Program} {b : Nat} {off : Nat} {cs : List Value} {R : List Asn} (H : Sat ρ (blk b cs :: R) w) (hv : vs.all one1 = true) (hl : off + vs.length ≤ cs.length) :
    (storeCells ⟨b, off, none⟩ vs).run P w = .ok () (stF ⟨b, off, none⟩ 0 vs w) := by
  obtain ⟨ty, hb⟩ := H.cl
  refine run_storeCells vs 0 w hv fun j hj => ?_
  rw [fa_mk]
  have : off + (0 + j) < cs.length := by omega
  exact ⟨by rw [cell_of hb (v := cs[off + (0 + j)]) (by simp [this])]; rfl, by simp [World.frozen?, hb]⟩

theorem setL_over {xs rest ys : List Value} (h : ys.length ≤ rest.length) : setL (xs ++ rest) xs.length ys = xs ++ ys ++ rest.drop ys.length := by
  induction ys generalizing xs rest with
  | nil => simp [setL]
  | cons y ys ih =>
    cases rest with
    | nil => simp at h
    | cons r rest =>
      simp only [setL]
      have h1 : (xs ++ r :: rest).set xs.length y = (xs ++ [y]) ++ rest := by
        rw [List.set_append_right _ _ (Nat.le_refl _)]; simp
      have h2 : xs.length + 1 = (xs ++ [y]).length := by simp
      rw [h1, h2, ih (by simpa using h)]
      simp

theorem zeroCells_len {z : Array Value} {n : Nat} : (Builtin.zeroCells z n).size = n * z.size := by simp [Builtin.zeroCells]

theorem en_app {P : Program} {ts : Array TypeId} {ty : TypeId} {s x : Slc} {m bytes : Nat} {xs ys : List Value} {k : RT (.one (.l .slice)) → Tree} (hok : appB P ts m bytes = true) (t : Take L (SLc s m xs) L')
    (hy : Rd ρ L' x m ys) (h1 : ys.all one1 = true) (hb : 2 * (s.n + x.n) * bytes ≤ 2 ^ 48) (hb2 : s.n + x.n < 2 ^ 62)
    (h : ∀ r : Slc, r.n = s.n + x.n → Tr ρ0 ρ (SLc r m (xs ++ ys) :: L') (k r) Post) :
    Tr ρ0 ρ L (opr P (Builtin.append_ ts ty #[.slice s.a s.n s.c, .slice x.a x.n x.c]) (.one (.l .slice)) k) Post := by
  refine Tr.take t (en_opr (fun r M => ∃ r' : Slc, r = r' ∧ r'.n = s.n + x.n ∧ M = SLc r' m (xs ++ ys) :: L') (fun w hw => ?_) ?_)
  rotate_left
  · rintro r M ⟨r', rfl, hr, rfl⟩; exact h r hr
  · unfold appB at hok
    split at hok
    · rename_i t1 t2 hts
      rw [Bool.and_eq_true] at hok
      obtain ⟨hok1, hok2⟩ := hok
      split at hok1
      · rename_i e he
        split at hok1
        · rename_i inf hinf
          simp only [Bool.and_eq_true, beq_iff_eq] at hok1
          obtain ⟨⟨hsz, hby⟩, hz⟩ := hok1
          split at hz
          · rename_i z hzz
            simp only [beq_iff_eq] at hz
            split at hok2
            · rename_i e2 he2
              have hsize : sizeOfT P e = some m := by simp [sizeOfT, hinf, hsz]
              have hzero : (P.info? e).bind (·.zero) = some z := by simp [hinf, hzz]
              have ht0 : ts[0]? = some t1 := by have := congrArg (fun l => l[0]?) hts; simpa using this
              have ht1 : ts[1]? = some t2 := by have := congrArg (fun l => l[1]?) hts; simpa using this
              have hyr : ∀ w', Sat ρ L' w' → (Builtin.firstCells m x.n (.slice x.a x.n x.c)).run P w' = .ok ys.toArray w' := fun w' hw' => run_firstCells hy.1 (hy.2 w' hw')
              have hby' : (typeInfo e).run P w = .ok inf w := by simp [typeInfo, hinf]
              have a0 : (#[.slice s.a s.n s.c, .slice x.a x.n x.c] : Array Value)[0]? = some (.slice s.a s.n s.c) := rfl
              have a1 : (#[.slice s.a s.n s.c, .slice x.a x.n x.c] : Array Value)[1]? = some (.slice x.a x.n x.c) := rfl
              unfold Builtin.append_
              simp only [ht0, ht1, a0, a1, Sem.run_bind, run_underlying he, run_sizeOf hsize, run_underlying he2, Result.andThen_ok, Sem.run_pure, Bool.false_eq_true, if_false, Bool.not_false, if_true, Builtin.lenOf]
              by_cases hfit : s.n + x.n ≤ s.c
              · simp only [if_pos hfit]
                rcases hw.sl with ⟨g1, g2, g3, g4, g5⟩ | ⟨b, off, pre, rest, g1, g2, g3, g4, g5, g6⟩
                · have hx0 : x.n = 0 := by omega
                  have hys : ys = [] := by have := hy.1; rw [hx0] at this; simpa using this
                  have hyr' := hyr w g5
                  refine ⟨s, w, _, ?_, ⟨s, rfl, by omega, rfl⟩, ?_⟩
                  · simp only [Sem.run_bind, hyr', Result.andThen_ok, g1, Sem.run_pure]
                    simp [RK.val, KD.val, LK.val, g1, g2, g3, hx0]
                  · rw [hys, List.append_nil]; exact hw
                · have hyr' := hyr w g6.drop
                  have hle : s.n * m + ys.length ≤ (xs ++ rest).length := by
                    have h2 : x.n ≤ s.c - s.n := by omega
                    have h3 := Nat.mul_le_mul_right m h2
                    simp only [List.length_append]; have := hy.1; omega
                  have hst := one1_store (P := P) (off := off + s.n * m) g6 h1 (by simp only [List.length_append] at *; omega)
                  refine ⟨⟨s.a, s.n + x.n, s.c⟩, stF ⟨b, off + s.n * m, none⟩ 0 ys w, SLc ⟨s.a, s.n + x.n, s.c⟩ m (xs ++ ys) :: L', ?_, ⟨_, rfl, rfl, rfl⟩, ?_⟩
                  · simp only [Sem.run_bind, hyr', Result.andThen_ok, g1, fa_add, fa_mk]
                    erw [hst]
                    rfl
                  · have hs := sat_stF ys (off + s.n * m) 0 _ w g6
                    have e2 : setL (pre ++ (xs ++ rest)) (off + s.n * m + 0) ys = pre ++ ((xs ++ ys) ++ rest.drop ys.length) := by
                      have e3 : setL (pre ++ (xs ++ rest)) (pre.length + s.n * m) ys = setL ((pre ++ xs) ++ rest) (pre ++ xs).length ys := by
                        rw [List.append_assoc, List.length_append, g3]
                      rw [Nat.add_zero, ← g2, e3, setL_over (by simp only [List.length_append] at hle; omega)]
                      simp
                    rw [e2] at hs
                    refine Sat.imp (fun h hh => .inr ⟨b, off, pre, rest.drop ys.length, g1, g2, ?_, ?_, hfit, hh⟩) hs
                    · simp only [List.length_append, g3, hy.1, Nat.add_mul]
                    · simp only [List.length_drop, g4, hy.1]
                      rw [← Nat.sub_mul]; congr 1; omega
              · simp only [if_neg hfit]
                have c1 : ¬ ((↑(s.n + x.n) : Int) > IntKind.i64.max ∧ (False ∨ inf.bytes = 0)) := by
                  rintro ⟨hgt, _⟩
                  have : IntKind.i64.max = 9223372036854775807 := by decide
                  omega
                have c2 : ¬ (Builtin.nextslicecap (s.n + x.n) s.c * inf.bytes > 2 ^ 48) := by
                  rw [hby]
                  have h3 := nextslicecap_le (n := s.n + x.n) (c := s.c) (by omega)
                  have h4 := Nat.mul_le_mul_right bytes h3
                  omega
                let N := (Question.appendCap (s.n + x.n) s.c e).cut (w.tape w.drawn (Question.appendCap (s.n + x.n) s.c e))
                have hN : s.n + x.n ≤ N := by simp only [N, Question.cut]; omega
                have hch : (choose (Question.appendCap (s.n + x.n) s.c e)).run P w = .ok N { w with drawn := w.drawn + 1 } := rfl
                have hw2 : Sat ρ (SLc s m xs :: L') { w with drawn := w.drawn + 1 } := hw.drawn
                have hold := run_firstCells (P := P) ((Rd.sl (ρ := ρ) (L := SLc s m xs :: L') .here (m := m) (ys := xs) (by
                  rcases hw.sl with ⟨g1, g2, g3, g4, g5⟩ | ⟨b, off, pre, rest, g1, g2, g3, g4, g5, g6⟩
                  · rw [g4, g2]; simp
                  · exact g3)).1) ((Rd.sl (ρ := ρ) (L := SLc s m xs :: L') .here (m := m) (ys := xs) (by
                  rcases hw.sl with ⟨g1, g2, g3, g4, g5⟩ | ⟨b, off, pre, rest, g1, g2, g3, g4, g5, g6⟩
                  · rw [g4, g2]; simp
                  · exact g3)).2 _ hw2)
                have hlen : xs.length = s.n * m := by
                  rcases hw.sl with ⟨g1, g2, g3, g4, g5⟩ | ⟨b, off, pre, rest, g1, g2, g3, g4, g5, g6⟩
                  · rw [g4, g2]; simp
                  · exact g3
                have hyr' := hyr _ hw2.drop
                have hti : ∀ w', (typeInfo e).run P w' = .ok inf w' := fun w' => by simp [typeInfo, hinf]
                let W : World := { w with drawn := w.drawn + 1 }
                let cs : Array Value := xs.toArray ++ ys.toArray ++ Builtin.zeroCells z.cells (N - (s.n + x.n))
                refine ⟨⟨some ⟨W.heap.size, 0, none⟩, s.n + x.n, N⟩, W.alloc (.cells cs e), _, ?_, ⟨_, rfl, rfl, rfl⟩, ?_⟩
                · simp only [Sem.run_bind, hti, Result.andThen_ok, Sem.run_ite, if_neg c1, if_neg c2, hch, run_askRoom, hold, hyr', run_zero hzero]
                  simp only [newRow, Sem.run_bind, run_newObj, Result.andThen_ok, Sem.run_pure]
                  rfl
                · have hnew := Sat.newCl (t := e) (cs := cs.toList) hw2.drop
                  rw [Array.toArray_toList] at hnew
                  refine Sat.imp (fun h hh => .inr ⟨_, 0, [], (Builtin.zeroCells z.cells (N - (s.n + x.n))).toList, rfl, rfl, ?_, ?_, hN, ?_⟩) hnew
                  · simp only [List.length_append, hlen, hy.1, Nat.add_mul]
                  · simp [zeroCells_len, hz]
                  · simpa [cs] using hh
            · cases hok2
          · cases hz
        · cases hok1
      · cases hok1
    · cases hok


/-! ### make, clear -/
theorem wrap64 {n : Int} (h0 : -9223372036854775808 ≤ n) (h1 : n < 9223372036854775808) : IntKind.wrap .i64 n = n := by
  unfold IntKind.wrap IntKind.bits IntKind.signed
  simp only [Bool.true_and, decide_eq_true_eq]
  split <;> omega
theorem wrap64_u8 {n : Int} (h0 : 0 ≤ n) (h1 : n < 256) : IntKind.wrap .i64 n = n := wrap64 (by omega) (by omega)

theorem rep_flat {z : Array Value} {n m : Nat} (hz : z.size = m) : ((Array.range (n * m)).map (z[· % z.size]!)) = (List.replicate n z.toList).flatten.toArray := (flatten_rep hz).symm

theorem en_mks {P : Program} {t e : TypeId} {m bytes : Nat} {z : Value} {n : Int} {k : RT (.one (.l .slice)) → Tree} (hu : P.underlying t = some (.slice e))
    (hi : (P.info? e).map (fun i => (i.size, i.bytes, i.zero)) = some (m, bytes, some z)) (hz : z.cells.size = m) (h0 : 0 ≤ n) (h1 : bytes * n ≤ 2 ^ 48) (h2 : n < 2 ^ 62)
    (h : ∀ b, Tr ρ0 ρ (SLc ⟨some ⟨b, 0, none⟩, n.toNat, n.toNat⟩ m (List.replicate n.toNat z.cells.toList).flatten :: L) (k ⟨some ⟨b, 0, none⟩, n.toNat, n.toNat⟩) Post) :
    Tr ρ0 ρ L (opr P (Instr.makeSlice t (.int .i64 n) (.int .i64 n)) (.one (.l .slice)) k) Post := by
  cases hinf : P.info? e with
  | none => rw [hinf] at hi; simp at hi
  | some inf =>
  rw [hinf] at hi
  simp only [Option.map_some, Option.some.injEq, Prod.mk.injEq] at hi
  obtain ⟨hs, hby, hzz⟩ := hi
  have hsize : sizeOfT P e = some m := by simp [sizeOfT, hinf, hs]
  have hzero : (P.info? e).bind (·.zero) = some z := by simp [hinf, hzz]
  refine en_opr (fun r M => ∃ b, r = ⟨some ⟨b, 0, none⟩, n.toNat, n.toNat⟩ ∧ M = SLc ⟨some ⟨b, 0, none⟩, n.toNat, n.toNat⟩ m (List.replicate n.toNat z.cells.toList).flatten :: L) (fun w hw => ?_) ?_
  rotate_left
  · rintro r M ⟨b, rfl, rfl⟩; exact h b
  · have hti : (typeInfo e).run P w = .ok inf w := by simp [typeInfo, hinf]
    have hwr : IntKind.i64.wrap n = n := wrap64 (by omega) (by omega)
    have hn : ¬ (n < 0) := by omega
    have hc : ¬ ((decide (n < 0) || decide ((inf.bytes : Int) * n > 2 ^ 48) || decide (n < 0) || decide (n > n)) = true) := by
      rw [hby]; simp; omega
    refine ⟨_, w.alloc (.cells (List.replicate n.toNat z.cells.toList).flatten.toArray e), _, ?_, ⟨w.heap.size, rfl, rfl⟩, ?_⟩
    · unfold Instr.makeSlice
      simp only [Sem.run_bind, run_underlying hu, Result.andThen_ok, asInt, asIntOf, Sem.run_pure, hti, hwr]
      rw [if_neg hc]
      simp only [Sem.run_bind, run_askRoom, Result.andThen_ok, run_sizeOf hsize]
      by_cases h0 : n.toNat * m = 0
      · have e1 : (List.replicate n.toNat z.cells.toList).flatten = [] := by
          apply List.eq_nil_of_length_eq_zero
          simp [List.length_flatten, hz, h0]
        have e0 : ∀ z0 : Array Value, ((Array.range (n.toNat * m)).map fun x => z0[x % z0.size]!) = #[] := by intro z0; rw [h0]; simp
        rw [if_pos h0, e1]
        simp only [Sem.run_bind, Sem.run_pure, Result.andThen_ok, e0, newRow, run_newObj]
        rfl
      · rw [if_neg h0]
        simp only [Sem.run_bind, Sem.run_pure, Result.andThen_ok, run_zero hzero, rep_flat hz, newRow, run_newObj]
        rfl
    · refine Sat.imp (fun h hh => SLc.of_cl ?_ h hh) hw.newCl
      simp [List.length_flatten, hz]

end Go.Gl
