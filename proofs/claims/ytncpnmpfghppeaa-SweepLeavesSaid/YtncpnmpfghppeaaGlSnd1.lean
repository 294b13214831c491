/- An operation's tree is sound: what it says is what the model's run of it does. -/
import Derived.Test.YtncpnmpfghppeaaGlDen
set_option linter.unusedSimpArgs false
set_option linter.unusedVariables false
namespace Go.Gl
open Go

variable {P : Program} {o : Oper} {env : Env} {a : Act}

theorem run_v {s : Sem Value} {v : Value} {w w' : World} (h : s.run P w = .ok v w') : (do pure (Next.value (← s)) : Sem Next).run P w = .ok (.value v) w' := by
  simp [h]
theorem run_u {s : Sem Unit} {w w' : World} (h : s.run P w = .ok () w') : (do s; pure Next.skip : Sem Next).run P w = .ok .skip w' := by
  simp [h]

theorem run_underlying {t : TypeId} {d : TypeDesc} {w : World} (h : P.underlying t = some d) : (underlying t).run P w = .ok d w := by
  simp [underlying, h]
theorem run_sizeOf {t : TypeId} {n : Nat} {w : World} (h : sizeOfT P t = some n) : (sizeOf t).run P w = .ok n w := by
  unfold sizeOfT at h
  cases hi : P.info? t with
  | none => simp [hi] at h
  | some i => simp [hi] at h; simp [sizeOf, typeInfo, hi, h]
theorem run_isAgg {t : TypeId} {b : Bool} {w : World} (h : isAggT P t = some b) : (isAgg t).run P w = .ok b w := by
  unfold isAggT at h
  cases hi : P.underlying t with
  | none => simp [hi] at h
  | some d =>
    simp only [hi, Option.map_some, Option.some.injEq] at h
    subst h
    cases d <;> simp [isAgg, underlying, hi]
theorem run_zero {t : TypeId} {z : Value} {w : World} (h : (P.info? t).bind (·.zero) = some z) : (zeroValue t).run P w = .ok z w := by
  cases hi : P.info? t with
  | none => simp [hi] at h
  | some i => simp [hi] at h; simp [zeroValue, typeInfo, hi, h]

/-- what a pure operation's tree is worth -/
def Good (P : Program) (o : Oper) (a : Act) (pt : PT) : Prop := ∀ κ Q w, pt κ Q w → ∃ e v, (e.v = none ∨ e.v = some v) ∧ (∀ w', (execOp a.eval o).run P w' = .ok (.value v) w') ∧ κ e Q w

theorem good_va {v : Value} (h : ∀ w', (execOp a.eval o).run P w' = .ok (.value v) w') : Good P o a (kva v) := fun _ _ _ hk => ⟨_, v, .inr rfl, h, hk⟩
theorem good_e {e : En} {v : Value} (he : e.v = none ∨ e.v = some v) (h : ∀ w', (execOp a.eval o).run P w' = .ok (.value v) w') : Good P o a (fun κ => κ e) := fun _ _ _ hk => ⟨_, v, he, h, hk⟩
theorem good_need {c : Prop} {pt : PT} (h : c → Good P o a pt) : Good P o a (fun κ => need c (pt κ)) := fun _ _ _ hk => h hk.1 _ _ _ hk.2

theorem ev_or {x : Operand} (h : Agree env a.tmps) : (ev env x).v = none ∨ (ev env x).v = some (a.eval x) := by
  cases hv : (ev env x).v with
  | none => exact .inl rfl
  | some v => exact .inr (by rw [ev_ok h hv])

theorem good_intop {op : BinOp} {t y t' : TypeId} {dst : Option Tmp} {pos : String} {after : Array Edge} {g : Option (Nat × Bool)} {x z : Operand} {k k' : IntKind} {n m : Int} {pt : PT}
    (hx : a.eval x = .int k n) (hz : a.eval z = .int k' m) (h : binInt op k k' n m = some pt) : Good P ⟨dst, .binOp op t x z y, t', pos, after, g⟩ a pt := by
  have key : ∀ v, (∀ w', (binOp op t (.int k n) (.int k' m)).run P w' = .ok v w') → ∀ w', (execOp a.eval ⟨dst, .binOp op t x z y, t', pos, after, g⟩).run P w' = .ok (.value v) w' := by
    intro v hv w'
    have he : ∀ w, (eqGuard op t x z (.int k n) (.int k' m)).run P w = .ok () w := by
      intro w; unfold eqGuard; cases op <;> simp
    simp only [execOp, hx, hz]
    exact run_v (by simp [he, hv])
  unfold binInt at h
  split at h
  · cases h; exact good_need fun hc => good_va (key _ fun w' => by simp [binOp, Op.shift, Int.not_lt.2 hc])
  · cases h; exact good_need fun hc => good_va (key _ fun w' => by simp [binOp, Op.shift, Int.not_lt.2 hc])
  · split at h
    · rename_i hk
      subst hk
      split at h
      case _ => cases h; exact good_va (key _ fun w' => by simp [binOp, Op.intArith])
      case _ => cases h; exact good_va (key _ fun w' => by simp [binOp, Op.intArith])
      case _ => cases h; exact good_va (key _ fun w' => by simp [binOp, Op.intArith])
      case _ => cases h; exact good_need fun hc => good_va (key _ fun w' => by simp [binOp, Op.intDiv, hc])
      case _ => cases h; exact good_need fun hc => good_va (key _ fun w' => by simp [binOp, Op.intDiv, hc])
      case _ => cases h; exact good_va (key _ fun w' => by simp [binOp, Op.intBits, ibits])
      case _ => cases h; exact good_va (key _ fun w' => by simp [binOp, Op.intBits, ibits])
      case _ => cases h; exact good_va (key _ fun w' => by simp [binOp, Op.intBits, ibits])
      case _ => cases h; exact good_va (key _ fun w' => by simp [binOp, Op.intBits, ibits])
      case _ => cases h; exact good_va (key _ fun w' => by simp [binOp, Op.intCmp])
      case _ => cases h; exact good_va (key _ fun w' => by simp [binOp, Op.intCmp])
      case _ => cases h; exact good_va (key _ fun w' => by simp [binOp, Op.intCmp])
      case _ => cases h; exact good_va (key _ fun w' => by simp [binOp, Op.intCmp])
      case _ => cases h; exact good_va (key _ fun w' => by simp [binOp, Op.intCmp])
      case _ => cases h; exact good_va (key _ fun w' => by simp [binOp, Op.intCmp])
      case _ => cases h
    · cases h

theorem boolOf_v {x : E1} {b : Bool} (h : boolOf x = some b) : x.v = some (.bool b) := by
  unfold boolOf at h; split at h <;> cases h <;> rfl

theorem eqFields_run {P : Program} (d : Nat) : ∀ (fs : List Field) (xs ys : Array Value) (r : Bool) (w : World), eqFields P fs xs.toList ys.toList = some r →
    (forIn (m := Sem) fs ((none, ()) : Option Bool × Unit) fun f _ => (do
        if f.name ≠ "_" then
          if !(← Op.equalIn (d + 1) f.type (← part f.type xs f.offset) (← part f.type ys f.offset)) then
            pure (ForInStep.done (some false, ()))
          else pure (ForInStep.yield (none, ()))
        else pure (ForInStep.yield (none, ())))).run P w = .ok (if r then none else some false, ()) w := by
  intro fs
  induction fs with
  | nil => intro xs ys r w h; simp only [eqFields, Option.some.injEq] at h; subst h; simp
  | cons f fs ih =>
    intro xs ys r w h
    unfold eqFields at h
    split at h
    · cases h
    · rename_i hn
      have hpart : ∀ (cs : Array Value) v, cs.toList[f.offset]? = some v → isAggT P f.type = some false → (part f.type cs f.offset).run P w = .ok v w := by
        intro cs v hv ha
        have hv' : cs[f.offset]? = some v := by simpa using hv
        simp [part, run_isAgg ha, hv']
      have fin : ∀ (u v : Value) (b r' : Bool), xs.toList[f.offset]? = some u → ys.toList[f.offset]? = some v → isAggT P f.type = some false →
          (Op.equalIn (d + 1) f.type u v).run P w = .ok b w → eqFields P fs xs.toList ys.toList = some r' → r = (b && r') →
          (forIn (m := Sem) (f :: fs) ((none, ()) : Option Bool × Unit) fun f _ => (do
            if f.name ≠ "_" then
              if !(← Op.equalIn (d + 1) f.type (← part f.type xs f.offset) (← part f.type ys f.offset)) then
                pure (ForInStep.done (some false, ()))
              else pure (ForInStep.yield (none, ()))
            else pure (ForInStep.yield (none, ())))).run P w = .ok (if r then none else some false, ()) w := by
        intro u v b r' hx hy ha heq hr hrb
        have IH := ih xs ys r' w hr
        simp only [List.forIn_cons, if_pos hn, Sem.run_bind, hpart _ _ hx ha, hpart _ _ hy ha, heq, Result.andThen_ok]
        cases b with
        | false => simp [hrb]
        | true => simp only [Bool.not_true, Bool.false_eq_true, if_false, Sem.run_pure, Result.andThen_ok, hrb, Bool.true_and]; exact IH
      split at h
      · rename_i k k1 x k2 y r' hu hx hy hr
        split at h
        · rename_i hk
          subst hk
          cases h
          exact fin _ _ _ r' hx hy (by simp [isAggT, hu]) (by unfold Op.equalIn; simp [run_underlying hu]) hr rfl
        · cases h
      · rename_i x y r' hu hx hy hr
        cases h
        exact fin _ _ _ r' hx hy (by simp [isAggT, hu]) (by unfold Op.equalIn; simp [run_underlying hu]) hr rfl
      · cases h

theorem equal_struct {P : Program} {t : TypeId} {fs : Array Field} {xs ys : Array Value} {r : Bool} (w : World) (hu : P.underlying t = some (.struct fs)) (hs : P.stoodInHeld t = false)
    (h : eqFields P fs.toList xs.toList ys.toList = some r) : (Op.equal t (.agg xs) (.agg ys)).run P w = .ok r w := by
  have hf := eqFields_run 9998 fs.toList xs ys r w h
  unfold Op.equal Op.maxDepth Op.equalIn
  simp only [Sem.run_bind, run_underlying hu, Result.andThen_ok, run_program, hs, Bool.false_eq_true, if_false]
  rw [← Array.forIn_toList]
  rw [hf]
  cases r <;> simp



theorem good_aggop {op : BinOp} {t y t' : TypeId} {dst : Option Tmp} {pos : String} {after : Array Edge} {g : Option (Nat × Bool)} {x z : Operand} {fs : Array Field} {xs ys : Array Value} {r : Bool}
    (hx : a.eval x = .agg xs) (hz : a.eval z = .agg ys) (hu : P.underlying t = some (.struct fs)) (hg : (P.eqGuardType P.depth t || P.stoodInHeld t) = false)
    (h : eqFields P fs.toList xs.toList ys.toList = some r) : 
    (op = .eql → Good P ⟨dst, .binOp op t x z y, t', pos, after, g⟩ a (kva (.bool r))) ∧ (op = .neq → Good P ⟨dst, .binOp op t x z y, t', pos, after, g⟩ a (kva (.bool (!r)))) := by
  rw [Bool.or_eq_false_iff] at hg
  have he : ∀ w, (eqGuard op t x z (.agg xs) (.agg ys)).run P w = .ok () w := by
    intro w; unfold eqGuard; cases op <;> simp [hg.1]
  constructor
  · rintro rfl
    refine good_va fun w' => ?_
    simp only [execOp, hx, hz]
    exact run_v (by simp only [Sem.run_bind, he, Result.andThen_ok, binOp, equal_struct _ hu hg.2 h, Sem.run_pure])
  · rintro rfl
    refine good_va fun w' => ?_
    simp only [execOp, hx, hz]
    exact run_v (by simp only [Sem.run_bind, he, Result.andThen_ok, binOp, equal_struct _ hu hg.2 h, Sem.run_pure])

/-- any other '==' by the model's own run -/
theorem good_eqop {op : BinOp} {t y t' : TypeId} {dst : Option Tmp} {pos : String} {after : Array Edge} {g : Option (Nat × Bool)} {x z : Operand} {u v : Value} {r : Bool}
    (hx : a.eval x = u) (hz : a.eval z = v) (he : ∀ w, (eqGuard op t x z u v).run P w = .ok () w) (hb : ∀ w, (binOp op t u v).run P w = .ok (.bool r) w) :
    ∀ w', (execOp a.eval ⟨dst, .binOp op t x z y, t', pos, after, g⟩).run P w' = .ok (.value (.bool r)) w' := by
  intro w'
  simp only [execOp, hx, hz]
  exact run_v (by simp only [Sem.run_bind, he, Result.andThen_ok, hb])

theorem isPtrT_spec {t : TypeId} (h : isPtrT P t = true) : ∃ e, P.underlying t = some (.pointer e) := by
  unfold isPtrT at h; split at h
  · rename_i e he; exact ⟨e, he⟩
  · cases h
theorem isSlcT_spec {t : TypeId} (h : isSlcT P t = true) : ∃ e, P.underlying t = some (.slice e) := by
  unfold isSlcT at h; split at h
  · rename_i e he; exact ⟨e, he⟩
  · cases h
theorem isBoolT_spec {t : TypeId} (h : isBoolT P t = true) : P.underlying t = some .bool := by
  unfold isBoolT at h; split at h
  · assumption
  · cases h

theorem eqGuard_no {op : BinOp} {t : TypeId} {x z : Operand} {u v : Value} (h : match u with | .nilIface => False | .agg _ => False | _ => True) (w : World) : (eqGuard op t x z u v).run P w = .ok () w := by
  unfold eqGuard
  cases u <;> cases op <;> first | exact h.elim | simp

def PlainEq : Value → Prop
  | .nilIface => False | .agg _ => False | .int _ _ => False | .float _ _ => False | .complex _ _ _ => False | .string _ => False | _ => True

theorem eq_pa {t e : TypeId} {ad : Addr} (he : P.underlying t = some (.pointer e)) (w : World) : (Op.equal t (.pointer (some ad)) (.pointer none)).run P w = .ok false w := by
  unfold Op.equal Op.maxDepth Op.equalIn
  simp only [Sem.run_bind, run_underlying he, Result.andThen_ok, Sem.run_pure]
theorem eq_p {t e : TypeId} {p : Option Addr} (he : P.underlying t = some (.pointer e)) (w : World) : (Op.equal t (.pointer p) (.pointer none)).run P w = .ok p.isNone w := by
  unfold Op.equal Op.maxDepth Op.equalIn
  cases p <;> simp only [Sem.run_bind, run_underlying he, Result.andThen_ok, Sem.run_pure, Option.isNone]
theorem eq_s {t e : TypeId} {p : Option Addr} {n c n' c' : Nat} (he : P.underlying t = some (.slice e)) (w : World) : (Op.equal t (.slice p n c) (.slice none n' c')).run P w = .ok p.isNone w := by
  unfold Op.equal Op.maxDepth Op.equalIn
  cases p <;> simp only [Sem.run_bind, run_underlying he, Result.andThen_ok, Sem.run_pure, Option.isNone]
theorem eq_b {t : TypeId} {p q : Bool} (he : P.underlying t = some .bool) (w : World) : (Op.equal t (.bool p) (.bool q)).run P w = .ok (p == q) w := by
  unfold Op.equal Op.maxDepth Op.equalIn
  simp only [Sem.run_bind, run_underlying he, Result.andThen_ok, Sem.run_pure]
theorem bin_eql {t : TypeId} {u v : Value} {r : Bool} (hu : PlainEq u)
    (hq : ∀ w, (Op.equal t u v).run P w = .ok r w) (w : World) : (binOp .eql t u v).run P w = .ok (.bool r) w := by
  have : binOp .eql t u v = (do pure (.bool (← Op.equal t u v))) := by cases u <;> first | exact hu.elim | (cases v <;> rfl)
  rw [this]; simp only [Sem.run_bind, hq, Result.andThen_ok, Sem.run_pure]
theorem bin_neq {t : TypeId} {u v : Value} {r : Bool} (hu : PlainEq u)
    (hq : ∀ w, (Op.equal t u v).run P w = .ok r w) (w : World) : (binOp .neq t u v).run P w = .ok (.bool (!r)) w := by
  have : binOp .neq t u v = (do pure (.bool (!(← Op.equal t u v)))) := by cases u <;> first | exact hu.elim | (cases v <;> rfl)
  rw [this]; simp only [Sem.run_bind, hq, Result.andThen_ok, Sem.run_pure]

theorem good_eqp {op : BinOp} {t y t' : TypeId} {dst : Option Tmp} {pos : String} {after : Array Edge} {g : Option (Nat × Bool)} {x z : Operand} {u v : Value} {r : Bool} {eT eF : En}
    (hx : a.eval x = u) (hz : a.eval z = v) (hu : PlainEq u)
    (hq : ∀ w, (Op.equal t u v).run P w = .ok r w)
    (eT' : eT.v = some (.bool r)) (eF' : eF.v = some (.bool (!r))) :
    (op = .eql → Good P ⟨dst, .binOp op t x z y, t', pos, after, g⟩ a (fun κ => κ eT)) ∧ (op = .neq → Good P ⟨dst, .binOp op t x z y, t', pos, after, g⟩ a (fun κ => κ eF)) := by
  have hg : ∀ w, (eqGuard op t x z u v).run P w = .ok () w := eqGuard_no (by cases u <;> first | exact hu.elim | trivial)
  constructor
  · rintro rfl
    exact good_e (.inr eT') (good_eqop hx hz hg (bin_eql hu hq))
  · rintro rfl
    exact good_e (.inr eF') (good_eqop hx hz hg (bin_neq hu hq))

theorem good_bin {op : BinOp} {t y t' : TypeId} {dst : Option Tmp} {pos : String} {after : Array Edge} {g : Option (Nat × Bool)} {x z : Operand} {pt : PT} (hag : Agree env a.tmps)
    (h : binE P op t (e1 env x) (e1 env z) = some pt) : Good P ⟨dst, .binOp op t x z y, t', pos, after, g⟩ a pt := by
  unfold binE at h
  have HX : ∀ v, (e1 env x).v = some v → a.eval x = v := fun v hv => e1_ok hag hv
  have HZ : ∀ v, (e1 env z).v = some v → a.eval z = v := fun v hv => e1_ok hag hv
  generalize e1 env x = ex at h HX
  generalize e1 env z = ez at h HZ
  split at h
  · exact good_intop (HX _ rfl) (HZ _ rfl) h
  · split at h
    · rename_i ad ht
      obtain ⟨e, he⟩ := isPtrT_spec ht
      have hq := eq_pa (P := P) (ad := ad) he
      have G := good_eqp (P := P) (op := op) (y := y) (t' := t') (dst := dst) (pos := pos) (after := after) (g := g) (eT := .e .ff) (eF := .e .tt) (HX _ rfl) (HZ _ rfl) trivial hq
        rfl rfl
      split at h <;> cases h
      · exact G.1 rfl
      · exact G.2 rfl
    · cases h
  · split at h
    · rename_i p ht
      obtain ⟨e, he⟩ := isPtrT_spec ht
      have hq := eq_p (P := P) (p := p) he
      have G := good_eqp (P := P) (op := op) (y := y) (t' := t') (dst := dst) (pos := pos) (after := after) (g := g) (eT := .e (.va (.bool p.isNone))) (eF := .e (.va (.bool (!p.isNone)))) (HX _ rfl) (HZ _ rfl) trivial hq
        rfl rfl
      split at h <;> cases h
      · exact G.1 rfl
      · exact G.2 rfl
    · cases h
  · split at h
    · rename_i p n c n' c' ht
      obtain ⟨e, he⟩ := isSlcT_spec ht
      have hq := eq_s (P := P) (p := p) (n := n) (c := c) (n' := n') (c' := c') he
      have G := good_eqp (P := P) (op := op) (y := y) (t' := t') (dst := dst) (pos := pos) (after := after) (g := g) (eT := .e (.va (.bool p.isNone))) (eF := .e (.va (.bool (!p.isNone)))) (HX _ rfl) (HZ _ rfl) trivial hq
        rfl rfl
      split at h <;> cases h
      · exact G.1 rfl
      · exact G.2 rfl
    · cases h
  · have hg : ∀ w, _ := eqGuard_no (P := P) (op := op) (t := t) (x := x) (z := z) (u := a.eval x) (v := a.eval z) (by rw [HX _ rfl]; trivial)
    rw [HX _ rfl, HZ _ rfl] at hg
    split at h <;> cases h
    · exact good_va (good_eqop (HX _ rfl) (HZ _ rfl) hg fun w => by simp [binOp, Op.stringOp])
    · exact good_va (good_eqop (HX _ rfl) (HZ _ rfl) hg fun w => by simp [binOp, Op.stringOp])
  · split at h
    · cases h
    · rename_i hgd
      split at h
      · rename_i fs hfs
        split at h
        · rename_i r0 r hr
          cases h
          exact (good_aggop (HX _ rfl) (HZ _ rfl) hfs (by simpa using hgd) hr).1 rfl
        · rename_i r0 r hr
          cases h
          exact (good_aggop (HX _ rfl) (HZ _ rfl) hfs (by simpa using hgd) hr).2 rfl
        · cases h
      · cases h
  · split at h
    · rename_i ht
      have hu := isBoolT_spec ht
      split at h
      · rename_i p q hp hq'
        cases h
        have hq := eq_b (P := P) (p := p) (q := q) hu
        exact (good_eqp (eT := .e (.va (.bool (p == q)))) (eF := .e (.va (.bool (!(p == q))))) (HX _ (boolOf_v hp)) (HZ _ (boolOf_v hq')) trivial hq rfl rfl).1 rfl
      · rename_i p q hp hq'
        cases h
        have hq := eq_b (P := P) (p := p) (q := q) hu
        exact (good_eqp (eT := .e (.va (.bool (p == q)))) (eF := .e (.va (.bool (!(p == q))))) (HX _ (boolOf_v hp)) (HZ _ (boolOf_v hq')) trivial hq rfl rfl).2 rfl
      · cases h
    · cases h

end Go.Gl
