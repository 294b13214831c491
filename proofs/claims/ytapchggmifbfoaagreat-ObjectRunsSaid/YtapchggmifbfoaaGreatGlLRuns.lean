/- ObjectRuns. -/
import Derived.Test.YtapchggmifbfoaaGreatGlRuns
import Derived.Test.YtapchggmifbfoaaGreatGlRow
import Derived.Test.YtapchggmifbfoaaGreatGlTxObjectRuns
import Derived.ChangeArms
set_option linter.unusedSimpArgs false
set_option linter.unusedVariables false
namespace Go.Gl
open Go
section
variable {H : Type} {enc : TypeId × Value → H} {P : Program} {W : World} {base : Nat} {sp : Nat → Bool} {held : Bool}
theorem open_fld {fs : Array Field} {xs : List (DataW H × List MemPlace)} {n : Nat} {cs : List Value} (hlen : xs.length = fs.size) (hf : ∀ (i : Nat) (f : Field), fs[i]? = some f → DataW.trod enc P W base sp held n f.type ((cs.drop f.offset).take (P.cellsOf f.type)) = xs[i]?)
    {i o : Nat} {t : TypeId} (h : (fs[i]?).map (fun f => (f.type, f.offset)) = some (t, o)) : ∃ y, DataW.trod enc P W base sp held n t ((cs.drop o).take (P.cellsOf t)) = some y := by
  cases hfi : fs[i]? with
  | none => rw [hfi] at h; cases h
  | some f =>
    rw [hfi] at h
    injection h with h
    injection h with h1 h2
    have hi : i < fs.size := (Array.getElem?_eq_some_iff.1 hfi).1
    have := hf i f hfi
    rw [List.getElem?_eq_getElem (by omega)] at this
    exact ⟨_, by rw [← h1, ← h2]; exact this⟩
theorem cell_at {cs : List Value} {o : Nat} {v : Value} (h : (cs.drop o).take 1 = [v]) : cs[o]? = some v := by
  have : ((cs.drop o).take 1)[0]? = some v := by rw [h]; rfl
  rw [List.getElem?_take, if_pos (by omega), List.getElem?_drop] at this
  simpa using this
theorem cell_sub {cs hc : List Value} {o n j : Nat} (h : (cs.drop o).take n = hc) (hj : j < n) : cs[o + j]? = hc[j]? := by
  rw [← h, List.getElem?_take, if_pos hj, List.getElem?_drop]
theorem open_ifld {fs : Array Field} {xs : List (DataW H × List MemPlace)} {n : Nat} {cs : List Value} (hlen : xs.length = fs.size) (hf : ∀ (i : Nat) (f : Field), fs[i]? = some f → DataW.trod enc P W base sp held n f.type ((cs.drop f.offset).take (P.cellsOf f.type)) = xs[i]?)
    {i o : Nat} {t : TypeId} {k : IntKind} (ht : P.underlying t = some (.int k)) (hc : P.cellsOf t = 1) (h : (fs[i]?).map (fun f => (f.type, f.offset)) = some (t, o)) : ∃ m : Int, cs[o]? = some (.int k m) := by
  obtain ⟨y, hy⟩ := open_fld hlen hf h
  rw [hc] at hy
  obtain ⟨m, hm, _⟩ := DataW.trod_int ht hy
  exact ⟨m, cell_at hm⟩
theorem ros_ints {k : IntKind} {t e : TypeId} {fuel : Nat} {cs : List Value} {x : DataW H × List MemPlace} (ht : P.underlying t = some (.slice e)) (he : P.underlying e = some (.int k)) (hc : P.cellsOf e = 1)
    (hf : DataW.trod enc P W base sp held fuel t cs = some x) : ∃ (s : Slc) (l : List Int), cs = [.slice s.a s.n s.c] ∧ RoS (FR.all W) s 1 (l.map fun x => .int k x) := by
  rcases Go.ChangeShapes.open_ints ht he hc hf with ⟨hcs, hx⟩ | ⟨a, len, cap, zs, rfl, _, hl, hm, hz, hx, hcell, hwz⟩
  · exact ⟨⟨none, 0, 0⟩, [], hcs, ⟨rfl, .inl rfl⟩⟩
  · have hz2 : len ≤ zs.length := by split at hz <;> omega
    have hlen : (zs.take len).length = len := by simp; omega
    refine ⟨⟨some a, len, cap⟩, zs.take len, rfl, ⟨by rw [List.length_map, hlen]; simp, ?_⟩⟩
    rcases Nat.eq_zero_or_pos len with h0 | h0
    · exact .inl h0
    · right
      obtain ⟨ab, ao, spot⟩ := a
      have hspot : spot = none := by simpa [Addr.add] using World.cell?_spot (hcell 0 (by omega))
      subst hspot
      have hc0 := hcell 0 (by omega)
      rw [fa_add, fa_mk] at hc0
      unfold World.cell? at hc0
      dsimp only at hc0
      split at hc0
      · rename_i cs ty fr hb
        refine ⟨ab, ao, cs, ty, fr, rfl, hb, fun i hi => ?_⟩
        rw [List.length_map, hlen] at hi
        have hci := hcell i (by omega)
        rw [fa_add, fa_mk] at hci
        unfold World.cell? at hci
        dsimp only at hci
        rw [hb] at hci
        dsimp only at hci
        rw [List.getElem?_map, List.getElem?_take, if_pos hi]
        have : zs[i]? = some (zs.getD i 0) := by
          have : i < zs.length := by omega
          simp [List.getD_eq_getElem?_getD, this]
        rw [this, Option.map_some]
        exact hci
      · cases hc0
theorem list_of {α : Type} {Q : Nat → α → Prop} : ∀ n : Nat, (∀ i, i < n → ∃ a, Q i a) → ∃ l : List α, l.length = n ∧ ∀ i a, l[i]? = some a → Q i a
  | 0, _ => ⟨[], rfl, by simp⟩
  | n + 1, h => by
    obtain ⟨l, hl, hq⟩ := list_of n fun i hi => h i (by omega)
    obtain ⟨a, ha⟩ := h n (by omega)
    refine ⟨l ++ [a], by simp [hl], fun i b hb => ?_⟩
    rcases Nat.lt_or_ge i n with c | c
    · rw [List.getElem?_append_left (by omega)] at hb; exact hq i b hb
    · have hlt := (List.getElem?_eq_some_iff.1 hb).1
      simp at hlt
      have : i = l.length := by omega
      subst this
      rw [List.getElem?_append_right (Nat.le_refl _), Nat.sub_self] at hb
      injection hb with hb
      subst hb
      rw [hl]; exact ha
end
end Go.Gl
namespace Go.Proofs.YtapchggmifbfoaaGreat
open Go Go.Gl
variable {ρ0 ρ : FR} {L L' : List Asn} {Post : Value → List Asn → Prop} {T : Tree}

section
variable {H : Type} {enc : TypeId × Value → H} {W : World} {base : Nat} {sp : Nat → Bool} {held : Bool}
theorem open_ask {fuel : Nat} {cs : List Value} {x : DataW H × List MemPlace} (h : DataW.trod enc Tryz.prog W base sp held fuel 56 cs = some x) :
    ∃ a : Ask1, cs = a.cs ∧ ∃ xs : List Int, RoS (FR.all W) a.cr 1 (xs.map i64) := by
  have c1 : Tryz.prog.cellsOf 3 = 1 := by kernel_rfl
  have c4 : Tryz.prog.cellsOf 54 = 4 := by kernel_rfl
  have c2 : Tryz.prog.cellsOf 52 = 2 := by kernel_rfl
  have cb : Tryz.prog.cellsOf 4 = 1 := by kernel_rfl
  have cl : Tryz.prog.cellsOf 24 = 1 := by kernel_rfl
  have c10 : Tryz.prog.cellsOf 56 = 10 := by kernel_rfl
  obtain ⟨ys, n, _, _, hlen, hsz, hf⟩ := DataW.trod_struct Tryz.underlying56 h
  rw [c10] at hlen
  obtain ⟨d, hd⟩ := open_ifld (i := 0) (o := 0) hsz hf Tryz.underlying3 c1 (by rfl)
  obtain ⟨a', ha'⟩ := open_ifld (i := 3) (o := 7) hsz hf Tryz.underlying3 c1 (by rfl)
  obtain ⟨i', hi'⟩ := open_ifld (i := 4) (o := 8) hsz hf Tryz.underlying3 c1 (by rfl)
  obtain ⟨x', hx'⟩ := open_ifld (i := 5) (o := 9) hsz hf Tryz.underlying3 c1 (by rfl)
  obtain ⟨yh, hh⟩ := open_fld (i := 1) (o := 1) (t := 54) hsz hf (by rfl)
  obtain ⟨yc, hc⟩ := open_fld (i := 2) (o := 5) (t := 52) hsz hf (by rfl)
  rw [c4] at hh
  rw [c2] at hc
  obtain ⟨zs, n2, _, _, hlen2, hsz2, hf2⟩ := DataW.trod_struct Tryz.underlying54 hh
  obtain ⟨k, hk⟩ := open_ifld (i := 0) (o := 0) hsz2 hf2 Tryz.underlying3 c1 (by rfl)
  obtain ⟨c, hcc⟩ := open_ifld (i := 1) (o := 1) hsz2 hf2 Tryz.underlying3 c1 (by rfl)
  obtain ⟨n', hn'⟩ := open_ifld (i := 2) (o := 2) hsz2 hf2 Tryz.underlying3 c1 (by rfl)
  obtain ⟨yb, hyb⟩ := open_fld (i := 3) (o := 3) (t := 4) hsz2 hf2 (by rfl)
  rw [cb] at hyb
  obtain ⟨f, hfb, _⟩ := DataW.trod_bool Tryz.underlying4 hyb
  have hfb := cell_at hfb
  obtain ⟨us, n3, _, _, hlen3, hsz3, hf3⟩ := DataW.trod_struct Tryz.underlying52 hc
  obtain ⟨cn, hcn⟩ := open_ifld (i := 0) (o := 0) hsz3 hf3 Tryz.underlying3 c1 (by rfl)
  obtain ⟨yl, hyl⟩ := open_fld (i := 1) (o := 1) (t := 24) hsz3 hf3 (by rfl)
  rw [cl] at hyl
  obtain ⟨cr, xs, hcr, hro⟩ := ros_ints Tryz.underlying24 Tryz.underlying3 c1 hyl
  have hcr := cell_at hcr
  refine ⟨⟨d, k, c, n', f, cn, cr, a', i', x'⟩, ?_, xs, hro⟩
  have e1 := cell_sub (cs := cs) (o := 1) (n := 4) (j := 0) rfl (by omega)
  have e2 := cell_sub (cs := cs) (o := 1) (n := 4) (j := 1) rfl (by omega)
  have e3 := cell_sub (cs := cs) (o := 1) (n := 4) (j := 2) rfl (by omega)
  have e4 := cell_sub (cs := cs) (o := 1) (n := 4) (j := 3) rfl (by omega)
  have e5 := cell_sub (cs := cs) (o := 5) (n := 2) (j := 0) rfl (by omega)
  have e6 := cell_sub (cs := cs) (o := 5) (n := 2) (j := 1) rfl (by omega)
  rw [hk] at e1
  rw [hcc] at e2
  rw [hn'] at e3
  rw [hfb] at e4
  rw [hcn] at e5
  rw [hcr] at e6
  refine List.ext_getElem? fun j => ?_
  match j with
  | 0 => exact hd
  | 1 => exact e1
  | 2 => exact e2
  | 3 => exact e3
  | 4 => exact e4
  | 5 => exact e5
  | 6 => exact e6
  | 7 => exact ha'
  | 8 => exact hi'
  | 9 => exact hx'
  | j + 10 => rw [List.getElem?_eq_none (by omega), List.getElem?_eq_none (by rw [ask_len]; omega)]

set_option maxRecDepth 100000 in
theorem open_asks {b0 : Nat} {v : Value} {d : DataW H} {p : List MemPlace} (hval : Value.okWide Tryz.prog W .any b0 50 v) (h : DataW.Trod enc Tryz.prog W base sp held 50 v d p) :
    ∃ (s : Slc) (l : List Ask1), v = .slice s.a s.n s.c ∧ RoS (FR.all W) s 10 (l.flatMap Ask1.cs) ∧ (∀ a ∈ l, ∃ xs : List Int, RoS (FR.all W) a.cr 1 (xs.map i64)) ∧ l.length < 2 ^ 63 := by
  obtain ⟨a1, len, cap, rfl⟩ := Go.WideShapes.okWide_slice Tryz.underlying50 hval
  obtain ⟨fuel, hf⟩ := h
  have c10 : Tryz.prog.cellsOf 56 = 10 := by kernel_rfl
  rcases DataW.trod_slice Tryz.underlying50 hf with ⟨hcs, hx⟩ | ⟨a, len', cap', elems, rest, n, _, hcs, _, hbase, hl, hm, hlen, hel, _, _⟩
  · simp [Value.cells] at hcs
    obtain ⟨rfl, rfl, rfl⟩ := hcs
    exact ⟨⟨none, 0, 0⟩, [], rfl, ⟨rfl, .inl rfl⟩, by simp, by simp⟩
  · simp [Value.cells] at hcs
    obtain ⟨rfl, rfl, rfl⟩ := hcs
    have hmx : maxLen = 2 ^ 63 - 1 := rfl
    obtain ⟨l, hll, hq⟩ := list_of (Q := fun i (x : Ask1) => (∀ j, j < 10 → W.cell? ((a.add (i * 10)).add j) = x.cs[j]?) ∧ ∃ xs : List Int, RoS (FR.all W) x.cr 1 (xs.map i64)) len fun i hi => by
      have he := hel i hi
      rw [List.getElem?_eq_getElem (by omega), c10, Option.bind_eq_some_iff] at he
      obtain ⟨cs, hcs, htr⟩ := he
      obtain ⟨_, h2, h3⟩ := World.cells?_some hcs
      obtain ⟨x, rfl, hx⟩ := open_ask htr
      exact ⟨x, h3, hx⟩
    refine ⟨⟨some a, len, cap⟩, l, rfl, ⟨by rw [flat_len (g := Ask1.cs) (m := 10) ask_len, hll], ?_⟩, fun x hx => ?_, by omega⟩
    · rcases Nat.eq_zero_or_pos len with h0 | h0
      · exact .inl h0
      · right
        obtain ⟨x0, hx0⟩ : ∃ x, l[0]? = some x := ⟨l[0], List.getElem?_eq_getElem (by omega)⟩
        have hc0 := (hq 0 x0 hx0).1 0 (by omega)
        obtain ⟨ab, ao, spot⟩ := a
        have hv0 : x0.cs[0]? = some (.int .i64 x0.d) := rfl
        rw [hv0] at hc0
        have hspot : spot = none := by simpa [Addr.add] using World.cell?_spot hc0
        subst hspot
        rw [fa_add, fa_add, fa_mk, fa_mk] at hc0
        unfold World.cell? at hc0
        dsimp only at hc0
        split at hc0
        · rename_i cs ty fr hb
          refine ⟨ab, ao, cs, ty, fr, rfl, hb, fun e he => ?_⟩
          rw [flat_len (g := Ask1.cs) (m := 10) ask_len] at he
          have hi : e / 10 < l.length := by omega
          have hlx : l[e / 10]? = some l[e / 10] := List.getElem?_eq_getElem hi
          have hci := (hq (e / 10) _ hlx).1 (e % 10) (by omega)
          rw [← flat_get (g := Ask1.cs) (m := 10) ask_len hlx (by omega), show e / 10 * 10 + e % 10 = e by omega] at hci
          rw [fa_add, fa_add, fa_mk, fa_mk, Nat.add_assoc, show e / 10 * 10 + e % 10 = e by omega] at hci
          unfold World.cell? at hci
          dsimp only at hci
          rw [hb] at hci
          dsimp only at hci
          exact hci
        · cases hc0
    · obtain ⟨i, hi⟩ := List.mem_iff_getElem?.mp hx
      exact (hq i x hi).2
end

theorem law_runs (pages : Int) (s : Slc) (l : List Ask1) (hp : 0 ≤ pages ∧ pages < 256) (ro : RoS ρ s 10 (l.flatMap Ask1.cs)) (hall : ∀ a ∈ l, ∃ xs : List Int, RoS ρ a.cr 1 (xs.map i64)) (hl : l.length < 2 ^ 63) :
    Gl.Spec ρ Tryz.prog 4 [.int .u8 pages, .slice s.a s.n s.c] [] RB fun r M => r = true ∧ M = [] := by
  refine Spec.of (fun Q w h => F.gloaminglaw9.ObjectRuns.calls pages s h) fun R => ?_
  unfold F.gloaminglaw9.ObjectRuns
  try simp only [List.cons_append, List.nil_append]
  have hsn : s.n = l.length := by
    have := ro.1
    rw [flat_len (g := Ask1.cs) (m := 10) ask_len] at this
    omega
  rw [wrap64 (n := pages) (by omega) (by omega), Int.tmod_eq_emod_of_nonneg hp.1, wrap64 (n := 1 + pages % 20) (by omega) (by omega)]
  refine en_lp (fun m u M => (fun i : Int => M = R ∧ 0 ≤ i ∧ i ≤ l.length ∧ i ≤ 60 ∧ m = 60 - i.toNat ∧ ∀ j a, j < i.toNat → l[j]? = some a → a.cr.n ≤ 40) u.1) 60 ?_ ?_
  · exact ⟨rfl, by simp, by dsimp only; omega, by simp, by simp, fun j a hj => by simp at hj⟩
  · rintro m ⟨(i : Int), ⟨⟩⟩ M ⟨rfl, i0, i1, i2, rfl, hsm⟩ X hX
    dsimp only at i0 i1 i2 hsm hX ⊢
    have fin : (i = l.length ∨ i = 60) → Tr ρ ρ M (need ((20 : Int) ≠ 0) <|
        call Tryz.prog 36 [.int .i64 (1 + pages % 20), .slice s.a s.n s.c] (.one (.l .bool)) fun (r3 : Bool) =>
        br r3
         (call Tryz.prog 35 [] (.one (.l .bool)) fun (r4 : Bool) =>
         ret (.bool r4))
         (ret (.bool false))) (SP RB (fun r M => r = true ∧ M = []) M) := fun he => by
      have hasks : RoAsks ρ s l := ⟨ro, fun j a hj ha => by
        obtain ⟨xs, hxs⟩ := hall a (List.mem_of_getElem? ha)
        have hlt := getElem?_lt ha
        have h40 := hsm j a (by omega) ha
        have hn := hxs.len
        exact ⟨xs, hxs, by omega⟩⟩
      refine en_need (by decide) ?_
      refine en_call (g_runs (1 + pages % 20) (by omega) (by omega) s l hasks hl) .nil ?_
      rintro x' M ⟨rfl, rfl⟩
      try simp only [List.cons_append, List.nil_append]
      refine en_brt rfl ?_
      refine en_call (law_awake) tks ?_
      rintro x' M ⟨rfl, rfl⟩
      try simp only [List.cons_append, List.nil_append]
      exact en_rets (x := true) rfl ⟨rfl, rfl⟩ tks ens
    refine en_br (fun h => ?_) (fun h => fin (.inl (by have : ¬ i < (s.n : Int) := of_decide_eq_false h; omega)))
    replace h : i < (s.n : Int) := of_decide_eq_true h
    refine en_br (fun h2 => ?_) (fun h2 => fin (.inr (by have : ¬ i < 60 := of_decide_eq_false h2; omega)))
    replace h2 : i < 60 := of_decide_eq_true h2
    clear fin
    have hi : i.toNat < l.length := by omega
    have ha : l[i.toNat]? = some l[i.toNat] := List.getElem?_eq_getElem hi
    refine en_ixRo ro i0 h fun a0 ha0 => ?_
    have hc : (l.flatMap Ask1.cs)[i.toNat * 10 + 6]? = some (LK.val .slice l[i.toNat].cr) := by
      rw [flat_get (g := Ask1.cs) (m := 10) ask_len ha (by omega)]; rfl
    refine en_ldRo (k := .slice) (j := i.toNat * 10 + 6) (x := l[i.toNat].cr) ha0 ro (by rintro b o rfl; rw [fa_mk, fa_mk, fa_mk, Nat.add_assoc, Nat.add_assoc]) hc ?_
    refine en_br (fun h3 => ?_) (fun h3 => ?_)
    · refine en_call (law_awake) tks ?_
      rintro x' M ⟨rfl, rfl⟩
      try simp only [List.cons_append, List.nil_append]
      exact en_rets (x := true) rfl ⟨rfl, rfl⟩ tks ens
    · have h3 : ¬ ((l[i.toNat].cr.n : Nat) : Int) > 40 := of_decide_eq_false h3
      rw [wrap64 (n := i + 1) (by omega) (by omega)]
      refine hX (60 - (i + 1).toNat) _ _ (by omega) ⟨rfl, by dsimp only; omega, by dsimp only; omega, by dsimp only; omega, rfl, fun j a hj haj => ?_⟩
      dsimp only at hj
      rcases Nat.lt_or_ge j i.toNat with c | c
      · exact hsm j a c haj
      · have : j = i.toNat := by omega
        subst this
        rw [ha] at haj
        injection haj with haj
        subst haj
        omega

end Go.Proofs.YtapchggmifbfoaaGreat
