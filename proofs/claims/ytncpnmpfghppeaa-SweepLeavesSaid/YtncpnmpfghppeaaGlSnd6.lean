/- A function's tree is sound for its calls. -/
import Derived.Test.YtncpnmpfghppeaaGlSnd5
set_option linter.unusedSimpArgs false
set_option linter.unusedVariables false
namespace Go.Gl
open Go

variable {P : Program}

theorem RunW.step {f : FuncId} {Q : Value → World → Prop} {k k' : List Item} {a : Act} {w : World} (hs : ∀ (b : Frame) (cs : List Frame), step P (lone (b.at a k) cs w) = .next (lone (b.at a k') cs w))
    (h : RunW P f Q k' a w) : RunW P f Q k a w := by
  intro hd b cs hk hf
  obtain ⟨v, w', fr, h1, h2, h3⟩ := h hd b cs hk hf
  exact ⟨v, w', fr, h1, .head (hs b cs) h2, h3⟩

theorem RunW.code {f : FuncId} {Q : Value → World → Prop} {c : Code} {k : List Item} {a : Act} {w : World} {N : Act → World → Prop} (hc : c.wp P (QN N) a w)
    (h : ∀ a' w', a'.defers = a.defers → N a' w' → RunW P f Q k a' w') (hdef : ∀ a' w', N a' w' → a'.defers = a.defers) : RunW P f Q (.code c :: k) a w := by
  intro hd b cs hk hf
  obtain ⟨e, a', w', hq, harr⟩ := hc b k cs
  cases e with
  | normal =>
    have hda := hdef a' w' hq
    obtain ⟨v, w'', fr, h1, h2, h3⟩ := h a' w' hda hq (hda.trans hd) b cs hk hf
    exact ⟨v, w'', fr, h1, Steps.trans harr h2, h3⟩
  | _ => exact hq.elim

/-- may the code's regions be gone through as the table says? -/
def regionB (ops : Array Oper) (d : Bool) (m : Mode) : Bool :=
  if d then match m with
    | .quiet => Region.lexB .any ops && ops.toList.all isQuiet
    | .tail n => Region.lexTailB .any ops n && (ops.toList.take n).all isQuiet
    | .held bar l => Region.noSelect ops && decide (l.size ≤ ops.size) && heldB ops bar l (Array.replicate ops.size false) true false
  else true
def codeB (T : Tabs) : Code → Bool
  | .region id ops d => regionB ops d (T.mode id)
  | .seq a b | .cond _ a b => codeB T a && codeB T b
  | .block _ c | .loop c | .scope c => codeB T c
  | _ => true

theorem lits (ops : Array Oper) : ops.toList.toArray = ops := by simp

theorem region_ok (hp : plainNames P = true) (hm : P.follows .mixedOrders = true) {T : Tabs} {id : Nat} {ops : Array Oper} {d : Bool} (hB : regionB ops d (T.mode id) = true) {env : Env} {a : Act} {w : World} {K : Kont}
    {Q : Value → World → Prop} (hag : Agree env a.tmps) (h : den P T (.region id ops d) env K Q w) {N : Act → World → Prop}
    (hN : ∀ env' a' w', Agree env' a'.tmps → Off (writes (.region id ops d)) a a' → K.norm env' Q w' → N a' w') : (Code.region id ops d).wp P (QN N) a w := by
  have hws : ∀ o ∈ ops.toList, ∀ d', o.dst = some d' → d' ∈ writes (.region id ops d) := by
    intro o ho d' hd'
    simp only [writes, List.mem_filterMap]
    exact ⟨o, ho, hd'⟩
  cases d with
  | false => exact wp_region_list (denL_ok hp _ _ _ _ hws hag h hN)
  | true =>
    unfold regionB at hB
    rw [if_pos rfl] at hB
    replace h : At Q w (den P T (.region id ops true) env K) := h
    unfold den at h
    cases hmd : T.mode id with
    | quiet =>
      rw [hmd] at hB h
      dsimp only at hB h
      replace h : denL P ops (ops.toList ++ []) env K.norm Q { w with drawn := w.drawn + 1 } := by rw [List.append_nil]; exact h
      rw [Bool.and_eq_true] at hB
      have hst := denL_still (l2 := []) ops.toList env a hws hB.2 hag h
      refine wp_region_still hm hB.1 ?_
      have mono : ∀ (l : List Oper) (a : Act) (A B : Act → Prop), (∀ a, A a → B a) → wpStill P ops { w with drawn := w.drawn + 1 } A l a → wpStill P ops { w with drawn := w.drawn + 1 } B l a := by
        intro l
        induction l with
        | nil => intro a A B h hA; exact h a hA
        | cons o l ih =>
          intro a A B h hA
          unfold wpStill at hA ⊢
          split
          · rename_i hw
            rw [if_pos hw] at hA
            unfold Oper.still at hA ⊢
            generalize (execOp a.eval o).run P { w with drawn := w.drawn + 1 } = r at hA
            unfold Oper.stillUpon at hA ⊢
            split
            · exact ⟨hA.1, ih _ _ _ h hA.2⟩
            · exact ⟨hA.1, ih _ _ _ h hA.2⟩
            · obtain ⟨h1, v, h2, h3⟩ := hA; exact ⟨h1, v, h2, ih _ _ _ h h3⟩
            · rename_i r h1 h2 h3
              split at hA
              · exact (h1 _ _ rfl).elim
              · exact (h2 _ rfl).elim
              · exact (h3 _ _ _ rfl).elim
              · exact hA.elim
          · rename_i hw
            rw [if_neg hw] at hA
            exact ih _ _ _ h hA
      exact mono _ _ _ _ (fun a' ⟨env', h1, h2, h3⟩ => hN env' a' _ h1 h2 h3) hst
    | tail n =>
      rw [hmd] at hB h
      dsimp only at hB h
      replace h : denL P ops (ops.toList.take n ++ ops.toList.drop n) env K.norm Q { w with drawn := w.drawn + 1 } := by rw [List.take_append_drop]; exact h
      rw [Bool.and_eq_true] at hB
      have hst := denL_still (l2 := ops.toList.drop n) (ops.toList.take n) env a (fun o ho => hws o (List.mem_of_mem_take ho)) hB.2 hag h
      have hB1 := hB.1
      have hw := wp_region_still_tail (P := P) (id := id) (Q := QN N) (a := a) (w := w) (l := ops.toList) n hm (by rw [lits]; exact hB1) ?_
      · rw [lits] at hw; exact hw
      · rw [lits]
        have mono : ∀ (l : List Oper) (a : Act) (A B : Act → Prop), (∀ a, A a → B a) → wpStill P ops { w with drawn := w.drawn + 1 } A l a → wpStill P ops { w with drawn := w.drawn + 1 } B l a := by
          intro l
          induction l with
          | nil => intro a A B h hA; exact h a hA
          | cons o l ih =>
            intro a A B h hA
            unfold wpStill at hA ⊢
            split
            · rename_i hw
              rw [if_pos hw] at hA
              unfold Oper.still at hA ⊢
              generalize (execOp a.eval o).run P { w with drawn := w.drawn + 1 } = r at hA
              unfold Oper.stillUpon at hA ⊢
              split
              · exact ⟨hA.1, ih _ _ _ h hA.2⟩
              · exact ⟨hA.1, ih _ _ _ h hA.2⟩
              · obtain ⟨h1, v, h2, h3⟩ := hA; exact ⟨h1, v, h2, ih _ _ _ h h3⟩
              · rename_i r h1 h2 h3
                split at hA
                · exact (h1 _ _ rfl).elim
                · exact (h2 _ rfl).elim
                · exact (h3 _ _ _ rfl).elim
                · exact hA.elim
            · rename_i hw
              rw [if_neg hw] at hA
              exact ih _ _ _ h hA
        refine mono _ _ _ _ (fun a' ⟨env', h1, h2, h3⟩ => ?_) hst
        exact denL_ok hp _ _ _ _ (fun o ho => hws o (List.mem_of_mem_drop ho)) h1 h3 fun env'' a'' w'' g1 g2 g3 => hN env'' a'' w'' g1 (h2.trans g2) g3
    | held bar l =>
      rw [hmd] at hB h
      dsimp only at hB h
      simp only [Bool.and_eq_true, decide_eq_true_eq] at hB
      obtain ⟨⟨hs, hl⟩, hB⟩ := hB
      obtain ⟨S, hS, h⟩ := h
      exact wp_region_G (S := S) (bar := bar) hm (denH_ok hp hs hws l env a _ _ _ true false hl hB (Down.start ops) (Bar.start bar ops) nofun hag (fun _ => hS) h hN)

theorem getD_wipe {ts : List Nat} {env : Env} {i : Nat} : (wipe env ts).length = env.length ∧ ((i ∈ ts → ((wipe env ts).getD i nE).v = none) ∧ (i ∉ ts → (wipe env ts).getD i nE = env.getD i nE)) := by
  induction ts generalizing env with
  | nil => simp [wipe]
  | cons t ts ih =>
    simp only [wipe]
    obtain ⟨h1, h2, h3⟩ := ih (env := env.set t nE)
    refine ⟨by simpa using h1, fun hi => ?_, fun hi => ?_⟩
    · by_cases hm : i ∈ ts
      · exact h2 hm
      · rw [h3 hm, getD_set]
        have : i = t := by simpa [hm] using hi
        subst this
        split
        · rfl
        · rename_i hlt
          have : ¬ i < env.length := by simpa using hlt
          simp [List.getD_eq_getElem?_getD, List.getElem?_eq_none (Nat.le_of_not_lt this)]; rfl
    · simp only [List.mem_cons, not_or] at hi
      rw [h3 hi.2, getD_set, if_neg (by rintro ⟨rfl, _⟩; exact hi.1 rfl)]

theorem setVals_ok {a : Act} : ∀ (tab : List (Nat × LK)) (env env' : Env) (s : LTs (tab.map (·.2))), Agree env' a.tmps → unvals env' tab = some s → Agree env a.tmps → Agree (setVals tab s env) a.tmps := by
  intro tab
  induction tab with
  | nil => intro env env' s _ _ hag; exact hag
  | cons p tab ih =>
    obtain ⟨t, k⟩ := p
    intro env env' s hag' hu hag
    unfold unvals at hu
    split at hu
    · rename_i x hx
      split at hu
      · rename_i v vs hv hvs
        cases hu
        simp only [setVals]
        refine ih _ env' vs hag' hvs ?_
        have hval : x.v = some (k.val v) := by
          unfold E1.unval at hv
          split at hv
          · split at hv
            · rename_i hk; subst hk; cases hv; rfl
            · cases hv
          all_goals first | (cases hv; rfl) | cases hv
        have hat := hag'.at' t (k.val v) (by rw [hx]; exact hval)
        refine ⟨by simp [hag.size], fun i u hu => ?_⟩
        rw [getD_set] at hu
        split at hu
        · rename_i hi
          obtain ⟨rfl, _⟩ := hi
          have : (En.e (k.en v)).v = some (k.val v) := LK.en_v k v
          rw [this] at hu; cases hu; exact hat
        · exact hag.at' i u hu
      · cases hu
    · cases hu

theorem den_ok (hp : plainNames P = true) (hm : P.follows .mixedOrders = true) {T : Tabs} {f : FuncId} {Q : Value → World → Prop} : ∀ (c : Code) (env : Env) (K : Kont) (k : List Item) (a : Act) (w : World),
    codeB T c = true → Agree env a.tmps → den P T c env K Q w →
    (∀ env' a' w', Agree env' a'.tmps → Off (writes c) a a' → K.norm env' Q w' → RunW P f Q k a' w') →
    (∀ id env' a' w', Agree env' a'.tmps → Off (writes c) a a' → K.exit id env' Q w' → ∃ k', exitTo id k = some k' ∧ RunW P f Q k' a' w') →
    (∀ env' a' w' k', Agree env' a'.tmps → Off (writes c) a a' → K.ret env' Q w' → RunW P f Q (.code .ret :: k') a' w') →
    RunW P f Q (.code c :: k) a w := by
  intro c
  induction c with
  | skip =>
    intro env K k a w _ hag h hn _ _
    exact RunW.step (fun b cs => step_skip) (hn env a w hag (Off.refl _ _) h)
  | region id ops d =>
    intro env K k a w hB hag h hn _ _
    refine RunW.code (N := fun a' w' => a'.defers = a.defers ∧ RunW P f Q k a' w') (region_ok hp hm hB hag h fun env' a' w' h1 h2 h3 => ⟨h2.2.1, hn env' a' w' h1 h2 h3⟩) (fun a' w' _ h => h.2) (fun a' w' h => h.1)
  | seq x y ihx ihy =>
    intro env K k a w hB hag h hn he hr
    simp only [codeB, Bool.and_eq_true] at hB
    have hx : ∀ i, i ∈ writes x → i ∈ writes (.seq x y) := fun i hi => by simp [writes, hi]
    have hy : ∀ i, i ∈ writes y → i ∈ writes (.seq x y) := fun i hi => by simp [writes, hi]
    have rest : ∀ env' a' w', Agree env' a'.tmps → Off (writes x) a a' → den P T y env' K Q w' → RunW P f Q (.code y :: k) a' w' := by
      intro env' a' w' h1 h2 h3
      exact ihy env' K k a' w' hB.2 h1 h3 (fun env'' a'' w'' g1 g2 g3 => hn env'' a'' w'' g1 ((h2.mono hx).trans (g2.mono hy)) g3)
        (fun id env'' a'' w'' g1 g2 g3 => he id env'' a'' w'' g1 ((h2.mono hx).trans (g2.mono hy)) g3)
        (fun env'' a'' w'' k' g1 g2 g3 => hr env'' a'' w'' k' g1 ((h2.mono hx).trans (g2.mono hy)) g3)
    have hex : ∀ id env' a' w', Agree env' a'.tmps → Off (writes x) a a' → K.exit id env' Q w' → ∃ k', exitTo id (.code y :: k) = some k' ∧ RunW P f Q k' a' w' := by
      intro id env' a' w' h1 h2 h3
      obtain ⟨k', hk', hrun⟩ := he id env' a' w' h1 (h2.mono hx) h3
      exact ⟨k', by simpa [exitTo] using hk', hrun⟩
    have hrt : ∀ env' a' w' k', Agree env' a'.tmps → Off (writes x) a a' → K.ret env' Q w' → RunW P f Q (.code .ret :: k') a' w' :=
      fun env' a' w' k' h1 h2 h3 => hr env' a' w' k' h1 (h2.mono hx) h3
    replace h : At Q w (den P T (.seq x y) env K) := h
    unfold den at h
    split at h
    · exact RunW.step (fun b cs => step_seq) (ihx env _ (.code y :: k) a w hB.1 hag h rest hex hrt)
    · rename_i tab _
      refine RunW.step (fun b cs => step_seq) (ihx env _ (.code y :: k) a w hB.1 hag h ?_ hex hrt)
      intro env' a' w' h1 h2 h3
      replace h3 : At Q w' (match unvals env' tab with | some s' => den P T y (setVals tab s' (wipe env (writes x))) K | none => bad) := h3
      split at h3
      · rename_i s' hs'
        refine rest _ a' w' (setVals_ok tab _ env' s' h1 hs' ⟨by rw [(getD_wipe (i := 0)).1, hag.size, h2.1], fun i u hu => ?_⟩) h2 h3
        by_cases hi : i ∈ writes x
        · rw [((getD_wipe (ts := writes x) (env := env) (i := i)).2.1 hi)] at hu; cases hu
        · rw [(getD_wipe (ts := writes x) (env := env) (i := i)).2.2 hi] at hu
          rw [h2.2.2 i hi]
          exact hag.at' i u hu
      · exact h3.elim
  | cond c x y ihx ihy =>
    intro env K k a w hB hag h hn he hr
    simp only [codeB, Bool.and_eq_true] at hB
    have hx : ∀ i, i ∈ writes x → i ∈ writes (.cond c x y) := fun i hi => by simp [writes, hi]
    have hy : ∀ i, i ∈ writes y → i ∈ writes (.cond c x y) := fun i hi => by simp [writes, hi]
    have gx : a.eval c = .bool true → den P T x env K Q w → RunW P f Q (.code (.cond c x y) :: k) a w := fun hc h =>
      RunW.step (fun b cs => step_cond hc) (ihx env K k a w hB.1 hag h (fun env' a' w' h1 h2 h3 => hn env' a' w' h1 (h2.mono hx) h3)
        (fun id env' a' w' h1 h2 h3 => he id env' a' w' h1 (h2.mono hx) h3) (fun env' a' w' k' h1 h2 h3 => hr env' a' w' k' h1 (h2.mono hx) h3))
    have gy : a.eval c = .bool false → den P T y env K Q w → RunW P f Q (.code (.cond c x y) :: k) a w := fun hc h =>
      RunW.step (fun b cs => step_cond hc) (ihy env K k a w hB.2 hag h (fun env' a' w' h1 h2 h3 => hn env' a' w' h1 (h2.mono hy) h3)
        (fun id env' a' w' h1 h2 h3 => he id env' a' w' h1 (h2.mono hy) h3) (fun env' a' w' k' h1 h2 h3 => hr env' a' w' k' h1 (h2.mono hy) h3))
    replace h : At Q w (den P T (.cond c x y) env K) := h
    unfold den at h
    split at h
    · rename_i hc; exact gx (e1_ok hag (by rw [hc]; rfl)) h
    · rename_i hc; exact gy (e1_ok hag (by rw [hc]; rfl)) h
    · rename_i b hc
      have hv : a.eval c = .bool b := e1_ok hag (by rw [hc]; rfl)
      cases b with
      | true => exact gx hv (h.1 rfl)
      | false => exact gy hv (h.2 rfl)
    · exact h.elim
  | block id c ih =>
    intro env K k a w hB hag h hn he hr
    refine RunW.step (fun b cs => step_block) (ih env _ (.inBlock id :: k) a w hB hag h ?_ ?_ ?_)
    · intro env' a' w' h1 h2 h3
      exact RunW.step (fun b cs => step_inBlock) (hn env' a' w' h1 h2 h3)
    · intro i env' a' w' h1 h2 h3
      replace h3 : At Q w' (if i = id then K.norm env' else K.exit i env') := h3
      split at h3
      · rename_i hi
        subst hi
        exact ⟨k, by simp [exitTo], hn env' a' w' h1 h2 h3⟩
      · rename_i hi
        obtain ⟨k', hk', hrun⟩ := he i env' a' w' h1 h2 h3
        refine ⟨k', ?_, hrun⟩
        have : (id == i) = false := by simp; exact fun h => hi h.symm
        simp [exitTo, this, hk']
    · intro env' a' w' k' h1 h2 h3
      exact hr env' a' w' k' h1 h2 h3
  | loop c ih =>
    intro env K k a w hB hag h hn he hr
    replace h : At Q w (den P T (.loop c) env K) := h
    unfold den at h
    split at h
    · exact h.elim
    · rename_i s hs
      let X : LTs ((tabOf T c).map (·.2)) → World → Prop := fun s w => ∀ a', Agree (setVals (tabOf T c) s (wipe env (writes c))) a'.tmps → Off (writes (.loop c)) a a' → RunW P f Q (.inLoop c :: k) a' w
      have hX : X s w := by
        refine h X fun s w hbody a' hag' hoff => ?_
        refine RunW.step (fun b cs => step_inLoop) (ih _ _ (.inLoop c :: k) a' w hB hag' hbody ?_ ?_ ?_)
        · intro env' a'' w' h1 h2 h3
          replace h3 : At Q w' (match unvals env' (tabOf T c) with | some s' => fun _ w' => X s' w' | none => bad) := h3
          split at h3
          · rename_i s' hs'
            refine h3 a'' (setVals_ok (tabOf T c) _ env' s' h1 hs' ?_) (hoff.trans h2)
            refine ⟨by rw [(getD_wipe (i := 0)).1, hag.size, hoff.1.symm, h2.1], fun i u hu => ?_⟩
            by_cases hi : i ∈ writes c
            · have := ((getD_wipe (ts := writes c) (env := env) (i := i)).2.1 hi)
              rw [this] at hu; cases hu
            · rw [(getD_wipe (ts := writes c) (env := env) (i := i)).2.2 hi] at hu
              rw [(hoff.trans h2).2.2 i (by simpa [writes] using hi)]
              exact hag.at' i u hu
          · exact h3.elim
        · intro id env' a'' w' h1 h2 h3
          obtain ⟨k', hk', hrun⟩ := he id env' a'' w' h1 (hoff.trans h2) h3
          exact ⟨k', by simpa [exitTo] using hk', hrun⟩
        · intro env' a'' w' k' h1 h2 h3
          exact hr env' a'' w' k' h1 (hoff.trans h2) h3
      have h0 : Agree (setVals (tabOf T c) s (wipe env (writes c))) a.tmps := by
        refine setVals_ok (tabOf T c) _ env s hag hs ⟨by rw [(getD_wipe (i := 0)).1, hag.size], fun i u hu => ?_⟩
        by_cases hi : i ∈ writes c
        · rw [((getD_wipe (ts := writes c) (env := env) (i := i)).2.1 hi)] at hu; cases hu
        · rw [(getD_wipe (ts := writes c) (env := env) (i := i)).2.2 hi] at hu
          exact hag.at' i u hu
      have hrun := hX a h0 (Off.refl _ _)
      intro hd b cs hk hf
      obtain ⟨v, w', fr, h1, h2, h3⟩ := hrun hd b cs hk hf
      obtain ⟨n, hn2⟩ := h2
      cases n with
      | zero =>
        -- the loop's item is no end
        simp only [runN, Stepped.next.injEq] at hn2
        obtain ⟨h4, h5⟩ := h3
        have : fr = b.at a (.inLoop c :: k) ∧ w' = w := by
          simp only [lone, Machine.mk.injEq] at hn2
          obtain ⟨g1, g2, _⟩ := hn2
          simp at g2
          exact ⟨g2.symm, g1.symm⟩
        rw [this.1] at h5
        have hmode := h5.1
        simp [Frame.at] at hmode
      | succ n =>
        refine ⟨v, w', fr, h1, ?_, h3⟩
        refine .head step_loop ⟨n, ?_⟩
        simp only [runN, step_inLoop] at hn2
        exact hn2
  | exit i =>
    intro env K k a w _ hag h _ he _
    obtain ⟨k', hk', hrun⟩ := he i env a w hag (Off.refl _ _) h
    exact RunW.step (fun b cs => step_exit hk') hrun
  | ret =>
    intro env K k a w _ hag h _ _ hr
    exact hr env a w k hag (Off.refl _ _) h
  | scope c _ => intro env K k a w _ _ h; exact h.elim
  | rangeFunc _ _ _ _ _ _ => intro env K k a w _ _ h; exact h.elim
  | label _ => intro env K k a w _ _ h; exact h.elim
  | goto _ => intro env K k a w _ _ h; exact h.elim
  | refuse _ => intro env K k a w _ _ h; exact h.elim

theorem resT_ok {env : Env} {a : Act} {Q : Value → World → Prop} {w : World} (hag : Agree env a.tmps) : ∀ (rs : List ResultVar) (vs : List Value), resT P env rs vs Q w →
    ∃ us, (rs.mapM (m := Sem) fun | .tmp t => pure (a.tmps.getD t undef) | .cell x t => do loadVar t (← asAddr (a.tmps.getD x undef))).run P w = .ok us w ∧ Q (packR (vs ++ us)) w := by
  intro rs
  induction rs with
  | nil => intro vs h; exact ⟨[], by simp, by simpa [resT, ret] using h⟩
  | cons r rs ih =>
    intro vs h
    cases r with
    | tmp t =>
      replace h : At Q w (resT P env (.tmp t :: rs) vs) := h
      unfold resT at h
      split at h
      · rename_i v hv
        obtain ⟨us, h1, h2⟩ := ih _ h
        refine ⟨v :: us, ?_, by simpa using h2⟩
        simp only [List.mapM_cons, hag.at' t v hv, Sem.run_bind, Sem.run_pure, Result.andThen_ok, h1]
      · exact h.elim
    | cell x t =>
      replace h : At Q w (resT P env (.cell x t :: rs) vs) := h
      unfold resT at h
      split at h
      · rename_i hfit
        split at h
        · rename_i ad kd hx hkd
          obtain ⟨v, hv, h⟩ := run_loadVar hkd hfit h
          obtain ⟨us, h1, h2⟩ := ih _ h
          refine ⟨kd.val v :: us, ?_, by simpa using h2⟩
          have hxa : a.tmps.getD x undef = .pointer (some ad) := hag.at' x _ (by rw [hx]; rfl)
          have had : (asAddr (a.tmps.getD x undef)).run P w = .ok ad w := by rw [hxa]; rfl
          simp only [List.mapM_cons, had, Sem.run_bind, Sem.run_pure, Result.andThen_ok, hv, h1]
        · exact h.elim
      · exact h.elim

theorem results_ok {fn : Func} {env : Env} {a : Act} {Q : Value → World → Prop} {w : World} (hag : Agree env a.tmps) (h : resT P env fn.results.toList [] Q w) :
    ∃ v, (results fn a.tmps).run P w = .ok v w ∧ Q v w := by
  obtain ⟨us, h1, h2⟩ := resT_ok hag _ _ h
  refine ⟨packR us, ?_, by simpa using h2⟩
  unfold results
  rw [← Array.toArray_toList (xs := fn.results), List.mapM_toArray]
  simp only [Sem.run_bind, Sem.run_map]
  erw [h1]
  simp only [Result.andThen_ok]
  match us with
  | [] => rfl
  | [u] => rfl
  | u :: v :: us => simp [packR]

theorem calls_of_den (hp : plainNames P = true) (hm : P.follows .mixedOrders = true) (T : Tabs) {f : FuncId} {fn : Func} (hf : P.funcs[f]? = some fn) (hB : (fn.body.map (codeB T)).getD false = true)
    {es : List E1} {args : List Value} (hes : E1.vs es = some args) {Q : Value → World → Prop} {w : World} (h : denF P T fn es Q w) :
    Calls P f args.toArray w fun e w' => ∃ v, e = .returned v ∧ Q v w' := by
  cases hb : fn.body with
  | none => rw [hb] at hB; simp at hB
  | some c =>
    rw [hb] at hB
    simp only [Option.map_some, Option.getD_some] at hB
    replace h : At Q w (denF P T fn es) := h
    unfold denF at h
    rw [hb] at h
    dsimp only at h
    have hl : args.length = es.length := by
      clear hB h
      induction es generalizing args with
      | nil => cases hes; rfl
      | cons e es ih =>
        unfold E1.vs at hes
        split at hes
        · rename_i v vs h1 h2; cases hes; simp [ih h2]
        · cases hes
    let a : Act := { tmps := args.toArray ++ Array.replicate (fn.ntmps - args.toArray.size) undef, defers := [] }
    have hag : Agree (env0 es fn.ntmps) a.tmps := by
      refine ⟨by simp [env0, a, hl], fun i v hv => ?_⟩
      simp only [env0, List.getD_eq_getElem?_getD] at hv
      by_cases hi : i < es.length
      · rw [List.getElem?_append_left (by simpa using hi)] at hv
        obtain ⟨e, he⟩ : ∃ e, es[i]? = some e := ⟨es[i], by simp [hi]⟩
        obtain ⟨u, hu, hue⟩ := E1vs_get hes he
        simp only [List.getElem?_map, he, Option.map_some, Option.getD_some] at hv
        have : e.v = some v := hv
        rw [hue] at this; cases this
        have hi' : i < args.length := by omega
        simp only [a, Array.getD_eq_getD_getElem?]
        rw [Array.getElem?_append_left (by simpa using hi')]
        simp [hu]
      · rw [List.getElem?_append_right (by simpa using hi)] at hv
        simp only [List.length_map, List.getElem?_replicate] at hv
        split at hv <;> cases hv
    have hret : ∀ env' a' w' k' (h1 : Agree env' a'.tmps), Off (writes c) a a' → ∀ h3 : resT P env' fn.results.toList [] Q w', ∀ (b : Frame) (cs : List Frame), b.kind = .normal → b.fn = f →
        Frame.leaving P { b.at a' k' with mode := .returning } w' (.returned (Classical.choose (results_ok (fn := fn) h1 h3))) := by
      intro env' a' w' k' h1 h2 h3 b cs hk hbf
      refine ⟨rfl, h2.2.1, hk, fn, ?_, (Classical.choose_spec (results_ok (fn := fn) h1 h3)).1⟩
      show P.funcs[b.fn]? = some fn
      rw [hbf]; exact hf
    have hrun : RunW P f Q [.code c] a w := by
      refine den_ok hp hm c _ _ [] a w hB hag h ?_ ?_ ?_
      · intro env' a' w' h1 h2 h3 hd b cs hk hbf
        refine ⟨_, w', _, (Classical.choose_spec (results_ok (fn := fn) h1 h3)).2, .one step_end, hbf, hret env' a' w' [] h1 h2 h3 b cs hk hbf⟩
      · intro id env' a' w' _ _ h3; exact h3.elim
      · intro env' a' w' k' h1 h2 h3 hd b cs hk hbf
        refine ⟨_, w', _, (Classical.choose_spec (results_ok (fn := fn) h1 h3)).2, .one step_ret, hbf, hret env' a' w' _ h1 h2 h3 b cs hk hbf⟩
    intro cs
    let b : Frame := { (default : Frame) with fn := f, kind := .normal }
    have henter : Frame.enter P f args.toArray .normal = b.at a [.code c] := by
      simp [Frame.enter, Frame.at, hf, hb, b, a]
    obtain ⟨v, w', fr, h1, h2, h3, h4⟩ := hrun rfl b cs rfl rfl
    exact ⟨.returned v, w', fr, ⟨v, rfl, h1⟩, by rw [henter]; exact h2, h3, h4⟩

end Go.Gl
