/- An operation's tree is sound (continued). -/
import Derived.Test.YtncpnmpfghppeaaGlSnd1
set_option linter.unusedSimpArgs false
set_option linter.unusedVariables false
namespace Go.Gl
open Go

variable {P : Program} {o : Oper} {env : Env} {a : Act}

theorem LK_eLK {k : LK} {v : Value} : (eLK k v).v = some v := by unfold eLK; split <;> rfl
theorem eT_v {t : TypeId} {v : Value} {e : E1} (h : eT P t v = some e) : e.v = some v := by
  unfold eT at h; split at h <;> cases h
  · exact LK_eLK
  · rfl

theorem valsOf_ok {xs : List Operand} (h : Agree env a.tmps) : ∀ {vs : List Value}, valsOf env xs = some vs → xs.map a.eval = vs := by
  induction xs with
  | nil => intro vs hv; cases hv; rfl
  | cons x xs ih =>
    intro vs hv
    unfold valsOf at hv
    split at hv
    · rename_i v vs' h1 h2
      cases hv
      simp only [List.map_cons, e1_ok h h1, ih h2]
    · cases hv
theorem partsOf_ok {xs : List (Nat × Operand)} (h : Agree env a.tmps) : ∀ {vs : List (Nat × Value)}, partsOf env xs = some vs → (xs.map fun x => (x.1, a.eval x.2)) = vs := by
  induction xs with
  | nil => intro vs hv; cases hv; rfl
  | cons x xs ih =>
    intro vs hv
    obtain ⟨i, x⟩ := x
    unfold partsOf at hv
    split at hv
    · rename_i v vs' h1 h2
      cases hv
      simp only [List.map_cons, e1_ok h h1, ih h2]
    · cases hv

theorem E1vs_get {es : List E1} : ∀ {vs : List Value} {i : Nat} {e : E1}, E1.vs es = some vs → es[i]? = some e → ∃ v, vs[i]? = some v ∧ e.v = some v := by
  induction es with
  | nil => intro vs i e _ h; simp at h
  | cons x xs ih =>
    intro vs i e hv he
    unfold E1.vs at hv
    split at hv
    · rename_i v vs' h1 h2
      cases hv
      cases i with
      | zero => simp only [List.getElem?_cons_zero, Option.some.injEq] at he; subst he; exact ⟨v, rfl, h1⟩
      | succ i => simpa using ih h2 (by simpa using he)
    · cases hv

theorem run_part {t : TypeId} {cs : Array Value} {off : Nat} {w : World} {v : Value}
    (h : (isAggT P t = some true ∧ ∃ n, sizeOfT P t = some n ∧ v = .agg ((cs.toList.drop off).take n).toArray) ∨ (isAggT P t = some false ∧ cs.toList[off]? = some v)) :
    (part t cs off).run P w = .ok v w := by
  rcases h with ⟨ha, n, hn, rfl⟩ | ⟨ha, hv⟩
  · have he : cs.extract off (off + n) = ((cs.toList.drop off).take n).toArray := by
      apply Array.ext'
      simp [Array.toList_extract]
    simp [part, run_isAgg ha, run_sizeOf hn, he]
  · have hv' : cs[off]? = some v := by simpa using hv
    simp [part, run_isAgg ha, hv']

theorem fillL_ok {place : Nat → Option (Nat × Nat)} : ∀ {parts : List (Nat × Value)} {cells r : List Value}, fillL place cells parts = some r → Instr.fill place cells.toArray parts = some r.toArray := by
  intro parts
  induction parts with
  | nil => intro cells r h; cases h; rfl
  | cons p parts ih =>
    intro cells r h
    obtain ⟨i, v⟩ := p
    unfold fillL at h
    unfold Instr.fill
    split at h
    · cases h
    · rename_i off size hp
      simp only [hp]
      split at h
      · cases h
      · rename_i hc
        have key : ∀ (l : List (Value × Nat)) (cs : List Value), (l.toArray.foldl (fun cs (x : Value × Nat) => cs.setIfInBounds (off + x.2) x.1) cs.toArray) = (l.foldl (fun cs (x : Value × Nat) => cs.set (off + x.2) x.1) cs).toArray := by
          intro l
          induction l with
          | nil => intro cs; simp
          | cons x l ih2 => intro cs; simp only [List.foldl_cons, List.foldl_toArray] at *; rw [List.setIfInBounds_toArray]; exact ih2 _
        rw [if_neg (by simpa using hc)]
        have hz : v.cells.zipIdx = v.cells.toList.zipIdx.toArray := by apply Array.ext'; simp
        rw [hz]
        exact (congrArg (fun z => Instr.fill place z parts) (key v.cells.toList.zipIdx cells)).trans (ih h)

theorem mapM_places {fs : List Field} {w : World} : ∀ {pl : List (Nat × Nat)}, placesOf P fs = some pl → (fs.mapM (m := Sem) fun f => do pure (f.offset, ← sizeOf f.type)).run P w = .ok pl w := by
  induction fs with
  | nil => intro pl h; cases h; simp
  | cons f fs ih =>
    intro pl h
    unfold placesOf at h
    split at h
    · rename_i n ps h1 h2
      cases h
      simp only [List.mapM_cons, Sem.run_bind, run_sizeOf h1, Result.andThen_ok, Sem.run_pure, ih h2]
    · cases h

theorem minL_ok {op : Bool} {w : World} : ∀ {vs : List Value} {v r : Value}, minL op v vs = some r →
    (vs.foldlM (m := Sem) (if op then Builtin.max2 else Builtin.min2) v).run P w = .ok r w := by
  intro vs
  induction vs with
  | nil => intro v r h; unfold minL at h; cases h; simp
  | cons x vs ih =>
    intro v r h
    unfold minL at h
    split at h
    · rename_i heq; cases heq
    · rename_i k n k' m rest heq
      cases heq
      cases op with
      | true => simp only [if_true, List.foldlM_cons, Builtin.max2, Sem.run_bind, Sem.run_pure, Result.andThen_ok]; exact ih h
      | false => simp only [Bool.false_eq_true, if_false, List.foldlM_cons, Builtin.min2, Sem.run_bind, Sem.run_pure, Result.andThen_ok]; exact ih h
    · cases h


theorem run_build {t : TypeId} {ps : List (Nat × Value)} {v : Value} {w : World} {z : Value} (hz : (P.info? t).bind (·.zero) = some z)
    (h : (∃ fs pl cs, P.underlying t = some (.struct fs) ∧ placesOf P fs.toList = some pl ∧ fillL (pl[·]?) z.cells.toList ps = some cs ∧ v = .agg cs.toArray) ∨
      (∃ n e m cs, P.underlying t = some (.array n e) ∧ sizeOfT P e = some m ∧ fillL (fun i => some (i * m, m)) z.cells.toList ps = some cs ∧ v = .agg cs.toArray)) :
    (Instr.build t ps.toArray).run P w = .ok v w := by
  rcases h with ⟨fs, pl, cs, hu, hp, hf, rfl⟩ | ⟨n, e, m, cs, hu, hm, hf, rfl⟩
  · have hf' := fillL_ok hf
    have hm := mapM_places (P := P) (w := w) hp
    unfold Instr.build
    simp only [Sem.run_bind, run_zero hz, run_underlying hu, Result.andThen_ok]
    rw [← Array.toArray_toList (xs := fs), List.mapM_toArray]
    simp only [Sem.run_map, hm, Result.andThen_ok]
    have hg : (fun x : Nat => pl.toArray[x]?) = fun x => pl[x]? := by funext x; simp
    simp only [hg]
    simp only [Array.toArray_toList] at hf'
    rw [hf']
    rfl
  · have hf' := fillL_ok hf
    unfold Instr.build
    simp only [Sem.run_bind, run_zero hz, run_underlying hu, run_sizeOf hm, Result.andThen_ok]
    simp only [Array.toArray_toList] at hf'
    rw [hf']
    rfl

theorem run_ix {t : TypeId} {x : Value} {k : IntKind} {i : Int} {b : Addr} {n m : Nat} {w : World} (hi : 0 ≤ i) (hn : i < n)
    (h : (∃ e c, P.underlying t = some (.slice e) ∧ sizeOfT P e = some m ∧ x = .slice (some b) n c) ∨ (∃ e, P.underlying t = some (.array n e) ∧ sizeOfT P e = some m ∧ x = .pointer (some b))) :
    (Instr.indexAt t x (.int k i)).run P w = .ok (.pointer (some (fa b (i.toNat * m)))) w := by
  rcases h with ⟨e, c, hu, hm, rfl⟩ | ⟨e, hu, hm, rfl⟩
  · simp [Instr.indexAt, asIntOf, run_underlying hu, hi, hn, run_sizeOf hm, fa_add]
  · simp [Instr.indexAt, asIntOf, run_underlying hu, hi, hn, run_sizeOf hm, fa_add, Instr.sureAddr]

theorem run_slc {t e : TypeId} {p : Option Addr} {n c m : Nat} {l h : Int} {lo hi : Option Value} {w : World} (hu : P.underlying t = some (.slice e)) (hm : sizeOfT P e = some m)
    (hlo : (lo = none ∧ l = 0) ∨ ∃ k, lo = some (.int k l)) (hhi : (hi = none ∧ h = n) ∨ ∃ k, hi = some (.int k h)) (h0 : 0 ≤ l) (h1 : l ≤ h) (h2 : h ≤ c) :
    (Instr.sliceAt t (.slice p n c) lo hi none).run P w = .ok (.slice (if c = l.toNat then p else p.map fun b => fa b (l.toNat * m)) (h.toNat - l.toNat) (c - l.toNat)) w := by
  have hh0 : 0 ≤ h := by omega
  have hb : (Instr.sliceBounds true n c lo hi none).run P w = .ok (l.toNat, h.toNat, c) w := by
    unfold Instr.sliceBounds
    rcases hlo with ⟨rfl, rfl⟩ | ⟨k, rfl⟩ <;> rcases hhi with ⟨rfl, rfl⟩ | ⟨k', rfl⟩
    · simp
    · simp [Instr.sliceBound, asIntOf, hh0, h2]
    · simp [Instr.sliceBound, asIntOf, h0, h1]
    · simp [Instr.sliceBound, asIntOf, h0, hh0, h2]
      intro hlt; exfalso; omega
  have hfun : (fun b : Addr => b.add (l.toNat * m)) = fun b => fa b (l.toNat * m) := by funext b; exact fa_add _ _
  simp [Instr.sliceAt, Instr.slice, run_underlying hu, hb, run_sizeOf hm, hfun]


theorem good_pure {pt : PT} (hag : Agree env a.tmps) (h : denPure P o env = some pt) : Good P o a pt := by
  obtain ⟨dst, op, type, pos, after, guard⟩ := o
  have H1 : ∀ x v, (e1 env x).v = some v → a.eval x = v := fun x v hv => e1_ok hag hv
  cases op with
  | move x =>
    cases h
    rcases ev_or (x := x) hag with hv | hv
    · exact good_e (v := a.eval x) (.inl hv) fun w' => rfl
    · exact good_e (.inr hv) fun w' => rfl
  | assign x =>
    cases h
    rcases ev_or (x := x) hag with hv | hv
    · exact good_e (v := a.eval x) (.inl hv) fun w' => rfl
    · exact good_e (.inr hv) fun w' => rfl
  | pick c x y =>
    unfold denPure at h
    have hr : ∀ b, a.eval c = .bool b → ∀ w', (execOp a.eval ⟨dst, .pick c x y, type, pos, after, guard⟩).run P w' = .ok (.value (if b then a.eval x else a.eval y)) w' := by
      intro b hb w'
      simp only [execOp, hb, asBool]
      cases b <;> simp
    dsimp only at h
    split at h <;> cases h
    · rename_i hc
      have := hr true (H1 c _ (by rw [hc]; rfl))
      exact good_e (v := a.eval x) (ev_or hag) this
    · rename_i hc
      have := hr false (H1 c _ (by rw [hc]; rfl))
      exact good_e (v := a.eval y) (ev_or hag) this
    · rename_i b hc
      have hb := hr b (H1 c _ (by rw [hc]; rfl))
      intro κ Q w hk
      cases b with
      | true => exact ⟨ev env x, a.eval x, ev_or hag, hb, hk.1 rfl⟩
      | false => exact ⟨ev env y, a.eval y, ev_or hag, hb, hk.2 rfl⟩
  | nilCheck x =>
    unfold denPure at h
    dsimp only at h
    split at h <;> cases h
    · rename_i ad hx
      exact good_e (.inr rfl) fun w' => by simp [execOp, H1 x _ (by rw [hx]; rfl)]
    · rename_i p hx
      rintro κ Q w ⟨ad, rfl, hk⟩
      exact ⟨_, _, .inr rfl, fun w' => by simp [execOp, H1 x _ (by rw [hx]; rfl)], hk⟩
    · rename_i f i c hx
      exact good_e (.inr rfl) fun w' => by simp [execOp, H1 x _ (by rw [hx]; rfl)]
    · rename_i v hx
      rintro κ Q w ⟨f, c, rfl, hk⟩
      exact ⟨.e (.op (.func (.func f) #[] c)), .func (.func f) #[] c, .inr rfl, fun w' => by simp [execOp, H1 x _ (by rw [hx]; rfl)], hk⟩
  | binOp op t x y yt => exact good_bin hag h
  | unOp op t x =>
    unfold denPure at h
    dsimp only at h
    split at h <;> cases h
    · rename_i hx
      exact good_e (.inr rfl) fun w' => by simp [execOp, H1 x _ (by rw [hx]; rfl), Op.unary]
    · rename_i hx
      exact good_e (.inr rfl) fun w' => by simp [execOp, H1 x _ (by rw [hx]; rfl), Op.unary]
    · rename_i b hx
      exact good_va fun w' => by simp [execOp, H1 x _ (by rw [hx]; rfl), Op.unary]
    · rename_i k n hx
      exact good_va fun w' => by simp [execOp, H1 x _ (by rw [hx]; rfl), Op.unary, Op.intArith]
  | convert s d x =>
    unfold denPure at h
    dsimp only at h
    split at h <;> cases h
    rename_i k0 k k1 n hs hd hx
    exact good_va fun w' => by simp [execOp, H1 x _ (by rw [hx]; rfl), convert, run_underlying hs, run_underlying hd, Conv.intToInt]
  | fieldAddr s x f =>
    unfold denPure at h
    dsimp only at h
    split at h
    · rename_i fs ad hs hx
      split at h
      · rename_i fd hfd
        split at h <;> cases h
        rename_i m hm
        have hfd' : fs[f]? = some fd := by simpa using hfd
        exact good_e (.inr rfl) fun w' => by simp [execOp, H1 x _ (by rw [hx]; rfl), Instr.fieldAt, run_underlying hs, hfd', Instr.sureAddr, fieldPlace, run_sizeOf hm, fa_add]
      · cases h
    · cases h
  | field t x f =>
    unfold denPure at h
    dsimp only at h
    split at h
    · rename_i fs cs ht hx
      split at h
      · rename_i fd hfd
        have hfd' : fs[f]? = some fd := by simpa using hfd
        split at h
        · rename_i n ha hn
          cases h
          refine good_va fun w' => ?_
          simp only [execOp, H1 x _ (by rw [hx]; rfl), Instr.field]
          exact run_v (by simp only [Sem.run_bind, run_underlying ht, Result.andThen_ok, hfd', asAgg, Sem.run_pure]; exact run_part (.inl ⟨ha, n, hn, rfl⟩))
        · rename_i ha
          split at h
          · rename_i v hv
            split at h <;> cases h
            rename_i e he
            refine good_e (.inr (eT_v he)) fun w' => ?_
            simp only [execOp, H1 x _ (by rw [hx]; rfl), Instr.field]
            exact run_v (by simp only [Sem.run_bind, run_underlying ht, Result.andThen_ok, hfd', asAgg, Sem.run_pure]; exact run_part (.inr ⟨ha, hv⟩))
          · cases h
        · cases h
      · cases h
    · cases h
  | indexAddr t x i =>
    unfold denPure at h
    dsimp only at h
    split at h
    · rename_i e p n c k j ht hx hi
      split at h <;> cases h
      rename_i m hm
      rintro κ Q w ⟨b, rfl, h0, h1, hk⟩
      refine ⟨_, _, .inr rfl, fun w' => ?_, hk⟩
      simp only [execOp, H1 x _ (by rw [hx]; rfl), H1 i _ (by rw [hi]; rfl)]
      exact run_v (run_ix h0 h1 (.inl ⟨e, c, ht, hm, rfl⟩))
    · rename_i n e ad k j ht hx hi
      split at h <;> cases h
      rename_i m hm
      rintro κ Q w ⟨b, hb, h0, h1, hk⟩
      cases hb
      refine ⟨_, _, .inr rfl, fun w' => ?_, hk⟩
      simp only [execOp, H1 x _ (by rw [hx]; rfl), H1 i _ (by rw [hi]; rfl)]
      exact run_v (run_ix h0 h1 (.inr ⟨e, ht, hm, rfl⟩))
    · cases h
  | extract x i =>
    unfold denPure at h
    dsimp only at h
    split at h
    · rename_i es hx
      split at h <;> cases h
      rename_i vs e hvs he
      obtain ⟨v, hv, hev⟩ := E1vs_get hvs he
      have hx' : a.eval x = .tuple vs.toArray := ev_ok hag (by rw [hx]; simp [En.v, hvs])
      exact good_e (.inr hev) fun w' => by simp [execOp, hx', Instr.extract, hv]
    · cases h
  | makeFunc fn first cap =>
    unfold denPure at h
    dsimp only at h
    split at h <;> cases h
    rename_i f vs h1 h2
    have hf := valsOf_ok hag h1
    have hc := valsOf_ok hag h2
    have e1 : first.map a.eval = #[] := by apply Array.ext'; simpa using hf
    have e2 : cap.map a.eval = vs.toArray := by apply Array.ext'; simpa using hc
    exact good_va fun w' => by simp [execOp, e1, e2, Instr.makeFunc]
  | build t ps =>
    unfold denPure at h
    dsimp only at h
    split at h
    · rename_i fs vs z ht hps hz
      split at h
      · rename_i pl hpl
        split at h <;> cases h
        rename_i cs hcs
        refine good_va fun w' => ?_
        simp only [execOp]
        have hp := partsOf_ok hag hps
        have : (ps.map fun (x : Nat × Operand) => (x.1, a.eval x.2)) = vs.toArray := by
          apply Array.ext'; simp [← hp]
        exact run_v (by rw [show (ps.map fun (i, x) => (i, a.eval x)) = vs.toArray from this]; exact run_build hz (.inl ⟨fs, pl, cs, ht, hpl, hcs, rfl⟩))
      · cases h
    · rename_i n e vs z ht hps hz
      split at h
      · rename_i m hm
        split at h <;> cases h
        rename_i cs hcs
        refine good_va fun w' => ?_
        simp only [execOp]
        have hp := partsOf_ok hag hps
        have : (ps.map fun (x : Nat × Operand) => (x.1, a.eval x.2)) = vs.toArray := by
          apply Array.ext'; simp [← hp]
        exact run_v (by rw [show (ps.map fun (i, x) => (i, a.eval x)) = vs.toArray from this]; exact run_build hz (.inr ⟨n, e, m, cs, ht, hm, hcs, rfl⟩))
      · cases h
    · cases h
  | slice t x lo hi mx =>
    unfold denPure at h
    dsimp only at h
    split at h
    · rename_i e p n c ht hx
      split at h <;> cases h
      rename_i m l hh hm hl hhh
      rintro κ Q w ⟨h0, h1, h2, hk⟩
      refine ⟨_, _, .inr rfl, fun w' => ?_, hk⟩
      simp only [execOp, H1 x _ (by rw [hx]; rfl)]
      refine run_v (run_slc (n := n) ht hm ?_ ?_ h0 h1 h2)
      · unfold loE intE at hl
        split at hl
        · cases hl; exact .inl ⟨rfl, rfl⟩
        · rename_i y
          split at hl <;> cases hl
          rename_i k hy
          exact .inr ⟨k, by simp [H1 y _ (by rw [hy]; rfl)]⟩
      · unfold hiE intE at hhh
        split at hhh
        · cases hhh; exact .inl ⟨rfl, rfl⟩
        · rename_i y
          split at hhh <;> cases hhh
          rename_i k hy
          exact .inr ⟨k, by simp [H1 y _ (by rw [hy]; rfl)]⟩
    · cases h
  | call c =>
    obtain ⟨callee, args, ts⟩ := c
    unfold denPure at h
    dsimp only at h
    split at h
    · split at h <;> cases h
      · rename_i e p n c' ht hargs
        have ha : args.toList.map a.eval = [.slice p n c'] := by
          cases hl : args.toList with
          | nil => simp [hl] at hargs
          | cons x xs =>
            cases xs with
            | nil => simp [hl] at hargs; simp [H1 x _ (by rw [hargs]; rfl)]
            | cons y ys => simp [hl] at hargs
        have ha' : args.map a.eval = #[.slice p n c'] := by apply Array.ext'; simpa using ha
        refine good_va fun w' => ?_
        have ht0 : ∃ t0, ts[0]? = some t0 ∧ P.underlying t0 = some (.slice e) := by
          cases h0 : ts.toList[0]? with
          | none => rw [h0] at ht; simp at ht
          | some t0 => exact ⟨t0, by simpa using h0, by rw [h0] at ht; simpa using ht⟩
        obtain ⟨t0, ht1, ht2⟩ := ht0
        simp [execOp, resolve, ha', invoke, builtin, Builtin.len_, ht1, run_underlying ht2, goInt]
      · rename_i s ht hargs
        have ha : args.toList.map a.eval = [.string s] := by
          cases hl : args.toList with
          | nil => simp [hl] at hargs
          | cons x xs =>
            cases xs with
            | nil => simp [hl] at hargs; simp [H1 x _ (by rw [hargs]; rfl)]
            | cons y ys => simp [hl] at hargs
        have ha' : args.map a.eval = #[.string s] := by apply Array.ext'; simpa using ha
        refine good_va fun w' => ?_
        have ht0 : ∃ t0, ts[0]? = some t0 ∧ P.underlying t0 = some .string := by
          cases h0 : ts.toList[0]? with
          | none => rw [h0] at ht; simp at ht
          | some t0 => exact ⟨t0, by simpa using h0, by rw [h0] at ht; simpa using ht⟩
        obtain ⟨t0, ht1, ht2⟩ := ht0
        simp [execOp, resolve, ha', invoke, builtin, Builtin.len_, ht1, run_underlying ht2, goInt]
    · split at h
      · rename_i v vs hv
        split at h <;> cases h
        rename_i r hr
        have ha : args.toList.map a.eval = v :: vs := valsOf_ok hag hv
        have ha' : args.map a.eval = (v :: vs).toArray := by apply Array.ext'; simpa using ha
        refine good_va fun w' => ?_
        have := minL_ok (P := P) (op := true) (w := w') hr
        simp only [if_true] at this
        simp [execOp, resolve, ha', invoke, builtin, Builtin.max_, this]
      · cases h
    · split at h
      · rename_i v vs hv
        split at h <;> cases h
        rename_i r hr
        have ha : args.toList.map a.eval = v :: vs := valsOf_ok hag hv
        have ha' : args.map a.eval = (v :: vs).toArray := by apply Array.ext'; simpa using ha
        refine good_va fun w' => ?_
        have := minL_ok (P := P) (op := false) (w := w') hr
        simp only [Bool.false_eq_true, if_false] at this
        simp [execOp, resolve, ha', invoke, builtin, Builtin.min_, this]
      · cases h
    · cases h
  | _ => unfold denPure at h; cases h

end Go.Gl
