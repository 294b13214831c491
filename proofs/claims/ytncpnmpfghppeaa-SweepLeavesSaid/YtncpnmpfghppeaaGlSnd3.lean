/- An operation's tree is sound: those that read, write, or run code. -/
import Derived.Test.YtncpnmpfghppeaaGlSnd2
set_option linter.unusedSimpArgs false
set_option linter.unusedVariables false
namespace Go.Gl
open Go

variable {P : Program} {o : Oper} {env : Env} {a : Act}

/-- what is to be shown of an operation, for one that goes on with its tree's continuation -/
def Goes (P : Program) (o : Oper) (a : Act) (κ : En → Tree) (Q : Value → World → Prop) (w : World) : Prop :=
  ∀ (next : Act → World → Prop) (R : Exit → Act → World → Prop), (∀ e v w', (e.v = none ∨ e.v = some v) → κ e Q w' → next (a.put o.dst v) w') → o.wp P a w next R

theorem Goes.value {κ : En → Tree} {Q : Value → World → Prop} {w w' : World} {v : Value} {e : En} (h : (execOp a.eval o).run P w = .ok (.value v) w') (he : e.v = none ∨ e.v = some v) (hk : κ e Q w') :
    Goes P o a κ Q w := by
  intro next R hn
  unfold Oper.wp
  rw [h]
  exact hn e v w' he hk
theorem Goes.skip {κ : En → Tree} {Q : Value → World → Prop} {w w' : World} (h : (execOp a.eval o).run P w = .ok .skip w') (hk : κ nE Q w') :
    Goes P o a κ Q w := by
  intro next R hn
  unfold Oper.wp
  rw [h]
  exact hn nE undef w' (.inl rfl) hk

def At (Q : Value → World → Prop) (w : World) (T : Tree) : Prop := T Q w

theorem fa_zero (a : Addr) : fa a 0 = a := rfl

/-! ### loading -/
theorem ldL_spec {k : LK} {ad : Addr} {f : LT k → Tree} {Q : Value → World → Prop} {w : World} (h : ldL k ad f Q w) : ∃ x, w.cell? ad = some (k.val x) ∧ f x Q w := h

theorem run_loadCells {ad : Addr} {w : World} : ∀ (vs : List Value) (i : Nat) (acc : Array Value), (∀ j, j < vs.length → w.cell? (fa ad (i + j)) = vs[j]?) →
    (loadCellsFrom ad i vs.length acc).run P w = .ok (acc ++ vs.toArray) w := by
  intro vs
  induction vs with
  | nil => intro i acc _; simp [loadCellsFrom]
  | cons v vs ih =>
    intro i acc h
    have h0 := h 0 (by simp)
    simp only [Nat.add_zero, List.getElem?_cons_zero] at h0
    simp only [List.length_cons, loadCellsFrom, Sem.run_bind, fa_add, run_load, h0, Result.andThen_ok]
    rw [ih (i + 1) (acc.push v) fun j hj => by
      have := h (j + 1) (by simp; omega)
      simpa [Nat.add_assoc, Nat.add_comm 1 j] using this]
    simp

theorem ldG_spec {ad : Addr} {Q : Value → World → Prop} {w : World} : ∀ (ks : List LK) (i : Nat) (f : LTs ks → Tree), ldG ad i ks f Q w →
    ∃ x : LTs ks, (∀ j, j < (vals ks x).length → w.cell? (fa ad (i + j)) = (vals ks x)[j]?) ∧ (vals ks x).length = ks.length ∧ f x Q w := by
  intro ks
  induction ks with
  | nil => intro i f h; exact ⟨(), by simp [vals], rfl, h⟩
  | cons k ks ih =>
    intro i f h
    obtain ⟨x, hx, h⟩ := h
    obtain ⟨y, hy, hl, h⟩ := ih _ _ h
    refine ⟨(x, y), fun j hj => ?_, by simp [vals, hl], h⟩
    cases j with
    | zero => simp [vals, hx]
    | succ j =>
      have := hy j (by simpa [vals] using hj)
      simpa [vals, Nat.add_assoc, Nat.add_comm 1 j] using this

theorem kdOf_l {t : TypeId} {k : LK} (h : kdOf P t = some (.l k)) : isAggT P t = some false := by
  unfold kdOf at h
  unfold isAggT
  split at h
  · split at h <;> cases h
  · split at h <;> cases h
  all_goals first | (rename_i hu; simp [hu]; done) | cases h
theorem kdOf_g {t : TypeId} {ks : List LK} (h : kdOf P t = some (.g ks)) : isAggT P t = some true := by
  unfold kdOf at h
  unfold isAggT
  split at h
  · rename_i hu; simp [hu]
  · rename_i hu; simp [hu]
  all_goals cases h

theorem run_loadVar {t : TypeId} {ad : Addr} {kd : KD} {f : KT kd → Tree} {Q : Value → World → Prop} {w : World} (hk : kdOf P t = some kd) (hf : kdFits P t = true) (h : ld kd ad f Q w) :
    ∃ x, (loadVar t ad).run P w = .ok (kd.val x) w ∧ f x Q w := by
  cases kd with
  | l k =>
    obtain ⟨x, hx, h⟩ := h
    refine ⟨x, ?_, h⟩
    simp [loadVar, run_isAgg (kdOf_l hk), hx, KD.val]
  | g ks =>
    obtain ⟨x, hx, hl, h⟩ := ldG_spec ks 0 f h
    refine ⟨x, ?_, h⟩
    have hn : sizeOfT P t = some ks.length := by
      unfold kdFits at hf
      rw [hk] at hf
      cases hs : sizeOfT P t with
      | none => rw [hs] at hf; cases hf
      | some n => rw [hs] at hf; simp at hf; rw [hf]
    have hc := run_loadCells (P := P) (vals ks x) 0 #[] hx
    simp [loadVar, run_isAgg (kdOf_g hk), run_sizeOf hn, loadCells, ← hl, hc, KD.val]

/-! ### storing -/
theorem run_storeCells {ad : Addr} : ∀ (vs : List Value) (i : Nat) (w : World), vs.all one1 = true → (∀ j, j < vs.length → (w.cell? (fa ad (i + j))).isSome = true ∧ w.frozen? (fa ad (i + j)) = false) →
    (storeCells ad vs i).run P w = .ok () (stF ad i vs w) := by
  intro vs
  induction vs with
  | nil => intro i w _ _; simp [storeCells, stF]
  | cons v vs ih =>
    intro i w hv h
    simp only [List.all_cons, Bool.and_eq_true] at hv
    obtain ⟨h0, h0'⟩ := h 0 (by simp)
    simp only [Nat.add_zero] at h0 h0'
    have hs : (store (fa ad i) v).run P w = .ok () (w.setCell (fa ad i) v) := by
      have h1 := hv.1
      obtain ⟨u, hu⟩ := Option.isSome_iff_exists.1 h0
      cases v <;> simp [one1] at h1 <;> simp [store, Sem.run, hu, h0']
    simp only [storeCells, Sem.run_bind, fa_add, hs, Result.andThen_ok, stF]
    refine ih (i + 1) _ hv.2 fun j hj => ?_
    have := h (j + 1) (by simp; omega)
    rw [show i + (j + 1) = i + 1 + j from by omega] at this
    refine ⟨?_, by rw [World.frozen?_setCell]; exact this.2⟩
    by_cases he : fa ad i = fa ad (i + 1 + j)
    · obtain ⟨u, hu⟩ := Option.isSome_iff_exists.1 h0
      rw [← he, World.cell?_setCell_same (h := hu)]; rfl
    · rw [World.cell?_setCell_other (h := he)]; exact this.1

theorem run_storeVar {t : TypeId} {ad : Addr} {v : Value} {n : Nat} {w : World} (hn : sizeOfT P t = some n) (hl : v.cells.toList.length = n) (hv : v.cells.toList.all one1 = true)
    (h : ∀ j, j < v.cells.toList.length → (w.cell? (fa ad j)).isSome = true ∧ w.frozen? (fa ad j) = false) : (storeVar t ad v).run P w = .ok () (stF ad 0 v.cells.toList w) := by
  have hs := run_storeCells (P := P) v.cells.toList 0 w hv (by simpa using h)
  have hl' : v.cells.size = n := by simpa using hl
  simp [storeVar, run_sizeOf hn, hl', hs]


theorem run_callFunc (hp : plainNames P = true) {f : FuncId} {fn : Func} (hf : P.funcs[f]? = some fn) (hb : fn.body.isSome = true) (args : Array Value) (w : World) :
    (callFunc f args).run P w = .ok (.enter f args) w := by
  have hn : (fn.name == "runtime.NumGoroutine") = false := by
    unfold plainNames at hp
    rw [List.all_eq_true] at hp
    have := hp fn (by simpa using Array.mem_of_getElem? hf)
    simpa using this
  have hb' : fn.body.isNone = false := by cases h : fn.body <;> simp_all
  unfold callFunc
  simp only [Sem.run_bind, run_program, Result.andThen_ok, hf, hn, hb', Bool.false_eq_true, if_false, Sem.run_pure]

theorem goes_load {t : TypeId} {ad : Addr} {x : Operand} {κ : En → Tree} {Q : Value → World → Prop} {w : World} (ho : o.op = .load t x) (hx : a.eval x = .pointer (some ad)) (h : loadD P t ad κ Q w) : Goes P o a κ Q w := by
  replace h : At Q w (loadD P t ad κ) := h
  unfold loadD at h
  split at h
  · rename_i hf
    split at h
    · rename_i kd hk
      obtain ⟨v, hv, h⟩ := run_loadVar hk hf h
      refine Goes.value (e := .e (kd.en v)) (v := kd.val v) ?_ (.inr (KD.en_v kd v)) h
      simp only [execOp, ho, hx, Instr.loadAt]
      exact run_v (by simpa [Instr.sureAddr] using hv)
    · exact h.elim
  · exact h.elim

theorem goes_store {t : TypeId} {ad : Addr} {x y : Operand} {κ : En → Tree} {Q : Value → World → Prop} {w : World} (hag : Agree env a.tmps) (ho : o.op = .store t x y) (hx : a.eval x = .pointer (some ad))
    (h : storeD P t ad (e1 env y) κ Q w) : Goes P o a κ Q w := by
  replace h : At Q w (storeD P t ad (e1 env y) κ) := h
  unfold storeD cellsE at h
  split at h
  · rename_i vs n hvs hn
    split at h
    · rename_i hl
      obtain ⟨v, hv, rfl⟩ := Option.map_eq_some_iff.1 hvs
      obtain ⟨h1, h2, h3⟩ := h
      refine Goes.skip ?_ h3
      simp only [execOp, ho, hx, e1_ok hag hv, Instr.storeAt]
      exact run_u (by simpa [Instr.sureAddr] using run_storeVar hn hl h2 h1)
    · exact h.elim
  · exact h.elim

theorem goes_call (hp : plainNames P = true) {f : FuncId} {args : Array Value} {κ : En → Tree} {Q : Value → World → Prop} {w : World} (hr : (execOp a.eval o).run P w = (callFunc f args).run P w)
    (h : callD P f args.toList κ Q w) : Goes P o a κ Q w := by
  replace h : At Q w (callD P f args.toList κ) := h
  unfold callD at h
  split at h
  · rename_i fn hf
    split at h
    · rename_i hb
      split at h
      · rename_i rk hrk
        intro next R hn
        unfold Oper.wp
        rw [hr, run_callFunc hp hf hb]
        simp only [Oper.upon]
        rw [← Array.toArray_toList (xs := args)]
        refine Calls.mono (show Calls P f args.toList.toArray w (fun e w' => ∃ x, e = .returned (rk.val x) ∧ κ (rk.en x) Q w') from h) ?_
        rintro e w' ⟨x, rfl, hk⟩
        exact hn _ _ _ (.inr (RK.en_v rk x)) hk
      · exact h.elim
    · exact h.elim
  · exact h.elim

theorem flatten_get {α : Type} (l : List α) (n i : Nat) : (List.replicate n l).flatten[i]? = if i < n * l.length then l[i % l.length]? else none := by
  induction n generalizing i with
  | zero => simp
  | succ n ih =>
    rw [List.replicate_succ, List.flatten_cons, List.getElem?_append]
    by_cases h : i < l.length
    · have h2 : i < (n + 1) * l.length := Nat.lt_of_lt_of_le h (Nat.le_mul_of_pos_left _ (Nat.succ_pos n))
      simp [h, h2, Nat.mod_eq_of_lt h]
    · have hle := Nat.le_of_not_lt h
      rw [if_neg h, ih]
      have h3 : (i - l.length < n * l.length) ↔ i < (n + 1) * l.length := by
        rw [Nat.succ_mul]; omega
      simp only [h3]
      rw [Nat.mod_eq_sub_mod hle]

theorem flatten_rep {z : Array Value} {n m : Nat} (hz : z.size = m) : (List.replicate n z.toList).flatten.toArray = (Array.range (n * m)).map (z[· % z.size]!) := by
  apply Array.ext'
  apply List.ext_getElem?
  intro i
  subst hz
  rw [flatten_get]
  simp only [Array.length_toList, Array.toList_map, Array.toList_range, List.getElem?_map]
  by_cases h : i < n * z.size
  · have hp : 0 < z.size := by
      rcases Nat.eq_zero_or_pos z.size with h0 | h0
      · rw [h0] at h; simp at h
      · exact h0
    have hm := Nat.mod_lt i hp
    simp [h, hm]
  · simp [h]

theorem good_eff (hp : plainNames P = true) {κ : En → Tree} {Q : Value → World → Prop} {w : World} (hag : Agree env a.tmps) (h : denEff P o env κ Q w) : Goes P o a κ Q w := by
  have H1 : ∀ x v, (e1 env x).v = some v → a.eval x = v := fun x v hv => e1_ok hag hv
  replace h : At Q w (denEff P o env κ) := h
  unfold denEff at h
  split at h
  · rename_i t x ho
    split at h
    · rename_i ad hx
      exact goes_load ho (H1 x _ (by rw [hx]; rfl)) h
    · rename_i p hx
      obtain ⟨ad, rfl, h⟩ := h
      exact goes_load ho (H1 x _ (by rw [hx]; rfl)) h
    · exact h.elim
  · rename_i t x y ho
    split at h
    · rename_i ad hx
      exact goes_store hag ho (H1 x _ (by rw [hx]; rfl)) h
    · rename_i p hx
      obtain ⟨ad, rfl, h⟩ := h
      exact goes_store hag ho (H1 x _ (by rw [hx]; rfl)) h
    · exact h.elim
  · rename_i t ho
    split at h
    · rename_i z hz
      refine Goes.value (v := .pointer (some ⟨w.heap.size, 0, none⟩)) ?_ (.inr rfl) h
      simp only [execOp, ho, Instr.alloc]
      refine run_v ?_
      simp [run_zero hz, newVar, newRow, zc, hz]
    · exact h.elim
  · rename_i t x ho
    unfold cellsE at h
    split at h
    · rename_i vs hvs
      obtain ⟨v, hv, rfl⟩ := Option.map_eq_some_iff.1 hvs
      refine Goes.value (v := .pointer (some ⟨w.heap.size, 0, none⟩)) ?_ (.inr rfl) h
      simp only [execOp, ho, Instr.box, H1 x v hv]
      refine run_v ?_
      simp [newVar, newRow]
    · exact h.elim
  · rename_i t n ps ho
    split at h
    · rename_i e he
      split at h
      · rename_i m z vs hm hz hps
        split at h
        · exact h.elim
        · rename_i hlim
          split at h
          · rename_i cs hcs
            split at h
            · rename_i hzm
              refine Goes.value (v := .slice (some ⟨w.heap.size, 0, none⟩) n n) ?_ (.inr rfl) h
              have hp := partsOf_ok hag hps
              have hpm : (ps.map fun (x : Nat × Operand) => (x.1, a.eval x.2)) = vs.toArray := by
                apply Array.ext'; simp [← hp]
              have hf := fillL_ok hcs
              rw [flatten_rep hzm] at hf
              simp only [execOp, ho]
              refine run_v ?_
              rw [show (ps.map fun (i, x) => (i, a.eval x)) = vs.toArray from hpm]
              by_cases h0 : n * m = 0
              · have he0 : ∀ z0 : Array Value, ((Array.range (n * m)).map fun x => z0[x % z0.size]!) = #[] := by intro z0; rw [h0]; simp
                rw [he0] at hf
                unfold Instr.buildSlice
                simp only [Sem.run_bind, run_underlying he, run_sizeOf hm, Result.andThen_ok, if_neg hlim, if_pos h0, Sem.run_pure, he0, hf]
                simp [newRow]
              · unfold Instr.buildSlice
                simp only [Sem.run_bind, run_underlying he, run_sizeOf hm, Result.andThen_ok, if_neg hlim, if_neg h0, Sem.run_pure, run_zero hz]
                simp only [hf]
                simp [newRow]
            · exact h.elim
          · exact h.elim
      · exact h.elim
    · exact h.elim
  · rename_i t r ho
    split at h
    · rename_i k e ht
      refine Goes.value (v := .map (some w.heap.size)) ?_ (.inr rfl) h
      simp only [execOp, ho, Instr.makeMap]
      refine run_v ?_
      simp
    · exact h.elim
  · rename_i t l c ho
    split at h
    · rename_i lv cv hl hc
      obtain ⟨x, w', hr, h⟩ := h
      refine Goes.value (v := .slice x.a x.n x.c) ?_ (.inr rfl) h
      simp only [execOp, ho, H1 l _ hl, H1 c _ hc]
      exact run_v hr
    · exact h.elim
  · rename_i t x i ok ho
    split at h
    · rename_i xv iv kt et hx hi ht
      split at h
      · rename_i kd hkd
        cases ok with
        | true =>
          obtain ⟨r, w', hr, h⟩ := h
          refine Goes.value (v := .tuple #[kd.val r.1, .bool r.2.1]) ?_ (.inr ?_) h
          · simp only [execOp, ho, H1 x _ hx, H1 i _ hi]
            exact run_v hr
          · exact RK.en_v (.many [kd, .l .bool]) r
        | false =>
          obtain ⟨r, w', hr, h⟩ := h
          refine Goes.value (e := .e (kd.en r)) (v := kd.val r) ?_ (.inr (KD.en_v kd r)) h
          simp only [execOp, ho, H1 x _ hx, H1 i _ hi]
          exact run_v hr
      · exact h.elim
    · exact h.elim
  · rename_i t m k x ho
    split at h
    · rename_i mv kv xv hm hk hx
      obtain ⟨w', hr, h⟩ := h
      refine Goes.skip ?_ h
      simp only [execOp, ho, H1 m _ hm, H1 k _ hk, H1 x _ hx]
      exact run_u hr
    · exact h.elim
  · rename_i t m k x ho
    split at h
    · rename_i mv kv xv hm hk hx
      obtain ⟨w', hr, h⟩ := h
      refine Goes.skip ?_ h
      simp only [execOp, ho, H1 m _ hm, H1 k _ hk, H1 x _ hx]
      exact run_u hr
    · exact h.elim
  · rename_i t x ho
    split at h
    · rename_i xv k e hx ht
      split at h
      · rename_i kk kv hkk hkv
        obtain ⟨r, w', hr, h⟩ := h
        refine Goes.value (v := .pointer r) ?_ (.inr rfl) h
        simp only [execOp, ho, H1 x _ hx]
        exact run_v hr
      · exact h.elim
    · exact h.elim
  · rename_i x str ho
    split at h
    · rename_i v kk kv hx
      rcases h with ⟨w', hr, h⟩ | ⟨k, u, w', hr, h⟩
      · refine Goes.value (v := .tuple #[.bool false]) ?_ (.inr rfl) h
        simp only [execOp, ho, H1 x v (by rw [hx]; rfl)]
        exact run_v hr
      · refine Goes.value (e := .tup [.tt, kk.en k, kv.en u]) (v := .tuple #[.bool true, kk.val k, kv.val u]) ?_ (.inr ?_) h
        · simp only [execOp, ho, H1 x v (by rw [hx]; rfl)]
          exact run_v hr
        · have := kens_vs [kk, kv] (k, u, ())
          simp only [kens, kvals] at this
          have h2 : E1.vs (.tt :: [kk.en k, kv.en u]) = some (.bool true :: [kk.val k, kv.val u]) := by
            rw [E1.vs, this]; rfl
          simp only [En.v, h2, Option.map_some]
    · exact h.elim
  · rename_i x ho
    split at h
    · rename_i v kk kv hx
      obtain ⟨r, w', hr, h⟩ := h
      refine Goes.value (e := .tup [kk.en r.1, kv.en r.2.1]) (v := .tuple #[kk.val r.1, kv.val r.2.1]) ?_ (.inr (RK.en_v (.many [kk, kv]) r)) h
      simp only [execOp, ho, H1 x v (by rw [hx]; rfl)]
      exact run_v hr
    · exact h.elim
  · rename_i c ho
    obtain ⟨callee, args, ts⟩ := c
    dsimp only at h
    split at h
    · exact h.elim
    · rename_i vs hvs
      have ha : args.map a.eval = vs.toArray := by apply Array.ext'; simpa using valsOf_ok hag hvs
      split at h
      · rename_i f
        split at h
        rotate_left
        · rename_i v hf
          split at h
          · rename_i kd hkd
            obtain ⟨g, c, fn, rfl, hfn, hb, h⟩ := h
            intro next R hn
            unfold Oper.wp
            have hr : (execOp a.eval o).run P w = (callFunc g (vs.toArray ++ c)).run P w := by
              simp [execOp, ho, resolve, H1 f _ (by rw [hf]; rfl), Deferred.ofValue, invoke, ha]
            rw [hr, run_callFunc hp hfn hb]
            simp only [Oper.upon]
            refine Calls.mono h ?_
            rintro e w' ⟨x, rfl, hk⟩
            exact hn (.e (kd.en x)) _ _ (.inr (KD.en_v kd x)) hk
          · exact h.elim
        · exact h.elim
        · rename_i g i c hf
          replace h : callD P g (i.toList ++ vs ++ c.toList) κ Q w := h
          refine goes_call hp (f := g) (args := i ++ vs.toArray ++ c) ?_ (by simpa using h)
          simp [execOp, ho, resolve, H1 f _ (by rw [hf]; rfl), Deferred.ofValue, invoke, ha]
      · obtain ⟨r, w', hr, h⟩ := h
        refine Goes.value (v := .slice r.a r.n r.c) ?_ (.inr rfl) h
        simp only [execOp, ho, resolve, ha, Sem.run_bind, Sem.run_pure, Result.andThen_ok, invoke, builtin, hr]
        rfl
      · obtain ⟨r, w', hr, h⟩ := h
        refine Goes.value (v := .tuple #[]) ?_ (.inl rfl) h
        simp only [execOp, ho, resolve, ha, Sem.run_bind, Sem.run_pure, Result.andThen_ok, invoke, builtin, hr]
        rfl
      · obtain ⟨r, w', hr, h⟩ := h
        refine Goes.value (v := .tuple #[]) ?_ (.inl rfl) h
        simp only [execOp, ho, resolve, ha, Sem.run_bind, Sem.run_pure, Result.andThen_ok, invoke, builtin, hr]
        rfl
      · obtain ⟨r, w', hr, h⟩ := h
        refine Goes.value (v := .int .i64 r) ?_ (.inr rfl) h
        simp only [execOp, ho, resolve, ha, Sem.run_bind, Sem.run_pure, Result.andThen_ok, invoke, builtin, hr]
        rfl
      · exact h.elim
  · exact h.elim

theorem good_op (hp : plainNames P = true) {κ : En → Tree} {Q : Value → World → Prop} {w : World} (hag : Agree env a.tmps) (h : denOp P o env κ Q w) : Goes P o a κ Q w := by
  replace h : At Q w (denOp P o env κ) := h
  unfold denOp at h
  split at h
  · rename_i pt hpt
    obtain ⟨e, v, he, hr, h⟩ := good_pure hag hpt κ Q w h
    exact Goes.value (hr w) he h
  · exact good_eff hp hag h

end Go.Gl
