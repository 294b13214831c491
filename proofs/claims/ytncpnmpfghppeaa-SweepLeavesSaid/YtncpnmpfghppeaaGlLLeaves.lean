/- SweepLeaves. -/
import Derived.Test.YtncpnmpfghppeaaGlLSweep
set_option linter.unusedSimpArgs false
set_option linter.unusedVariables false
namespace Go.Proofs.Ytncpnmpfghppeaa
open Go Go.Gl
variable {ρ0 ρ : FR} {L L' : List Asn} {Post : Value → List Asn → Prop} {T : Tree}

/-! ### no small page is empty -/
def NE (pg : List Pg) : Prop := ∀ (i c : Nat) (l : List Bool), pg[i]? = some (.small c l) → true ∈ l
theorem NE.new (n : Nat) : NE (Sp.newSpc n).pg := fun i c l h => by
  unfold Sp.newSpc at h
  cases i with
  | zero => simp at h
  | succ i => simp [List.getElem?_replicate] at h
theorem NE.alloc {S : Spc} (hw : Wf S) (h : NE S.pg) (w : Int) : NE (Sp.alloc S w).2.2.pg := by
  by_cases hb : Sp.blk w = 0
  · unfold Sp.alloc; rw [if_pos hb]; exact h
  · unfold Sp.alloc
    rw [if_neg hb]
    rcases Sp.place_cases hw hb with e | ⟨i, k, h1, h2, h3, h4, h5, h6, h7, e⟩ | ⟨c, i, k, l, h1, h2, h3, h4, h5, h6, h7, h8, e⟩
    · rw [e, if_neg (by simp)]; exact h
    · rw [e, if_pos rfl]
      intro j c l hj
      dsimp only at hj
      rw [putL_get] at hj
      split at hj
      · rename_i hjl
        split at hj
        · cases hj
        · split at hj
          · cases hj
          · refine h j c l ?_
            rw [← hj, List.getD_eq_getElem?_getD, List.getElem?_eq_getElem hjl]; rfl
      · cases hj
    · rw [e, if_pos rfl]
      intro j c' l' hj
      dsimp only at hj
      rw [set_get h4] at hj
      split at hj
      · injection hj with hj; injection hj with _ hj
        subst hj
        exact List.mem_iff_getElem?.mpr ⟨k, by rw [List.getElem?_set, if_pos rfl, if_pos h7]⟩
      · exact h j c' l' hj
theorem NE.make {S : Spc} {cs : List Cls} (hw : HWf S cs) (h : NE S.pg) (x : Hd) : NE (Ob.make S cs x).2.2.pg := by
  unfold Ob.make
  split
  · exact h
  · split
    · exact h
    · exact h.alloc hw.wf _
theorem NE.free {S : Spc} (hw : Wf S) (h : NE S.pg) (a : Int) : NE (Sp.freeS S a).2.pg := by
  unfold Sp.freeS
  split
  · rename_i s w hf
    split
    · split
      · rename_i c l hp
        intro j c' l' hj
        dsimp only at hj
        rw [set_get (getElem?_lt hp)] at hj
        split at hj
        · split at hj
          · cases hj
          · rename_i hc
            injection hj with hj; injection hj with _ hj
            subst hj
            exact List.count_pos_iff.mp (by omega)
        · exact h j c' l' hj
      · rename_i k hp
        intro j c' l' hj
        dsimp only at hj
        rw [freeL_get] at hj
        split at hj
        · rename_i hjl
          split at hj
          · cases hj
          · refine h j c' l' ?_
            rw [← hj, List.getD_eq_getElem?_getD, List.getElem?_eq_getElem hjl]; rfl
        · cases hj
      · exact h
    · exact h
  · exact h
theorem NE.frees {cs : List Cls} : ∀ (l : List Int) {S : Spc}, HWf S cs → NE S.pg → NE (Sw.frees S l).pg
  | [], S, _, h => h
  | a :: l, S, hw, h => NE.frees (S := (Sp.freeS S a).2) l (hw.free a) (h.free hw.wf a)
theorem NE.made {hs : List Hd} (hg : ∀ h ∈ hs, Gr.Good h) (hn : hs.length ≤ 24) : ∀ i, i ≤ hs.length → NE (Gr.made (hs.take i)).1.pg
  | 0, _ => NE.new 60
  | i + 1, hi => by
    have hh : hs[i]? = some hs[i] := List.getElem?_eq_getElem (by omega)
    rw [Gr.made_step hh]
    exact (NE.made hg hn i (by omega)).make (Gr.made_ok hg hn i (by omega)).hw _
theorem putN_pg (S : Spc) (a : Int) (ws : List Int) : ∀ n, (Gr.putN S a ws n).pg = S.pg
  | 0 => rfl
  | n + 1 => by
    rw [Gr.putN_succ]
    obtain ⟨ws', e, _⟩ := put_pg (Gr.putN S a ws n) a n (ws.getD n 0)
    rw [e]; exact putN_pg S a ws n
theorem puts_pg (S : Spc) (hs : List Hd) (l ns : List Int) : ∀ n, (Gr.puts S hs l ns n).pg = S.pg
  | 0 => rfl
  | n + 1 => by rw [Gr.puts_succ]; unfold Gr.putW; rw [putN_pg]; exact puts_pg S hs l ns n
theorem NE.graph {ns : List Int} (hb : ∀ x ∈ ns, 0 ≤ x ∧ x < 256) : NE (Gr.graph ns).1.pg := by
  have h := NE.made (Gr.heads_good hb) Gr.heads_len (Gr.heads ns).length (Nat.le_refl _)
  rw [List.take_length] at h
  show NE (Gr.puts _ _ _ _ _).pg
  rw [puts_pg]; exact h
/-- where there are no blocks all pages are free -/
theorem empty_pg {S : Spc} (hw : Wf S) (hn : NE S.pg) (h : Sp.each S = []) : S.pg = (Sp.newSpc S.pg.length).pg := by
  have hno : ∀ (j : Nat) (x : Pg) (a : Int), S.pg[j]? = some x → a ∉ Sp.at1 j x := fun j x a hj ha => by
    have : a ∈ Sp.each S := Sp.mem_each.mpr ⟨j, getElem?_lt hj, by unfold Sp.gE; rw [getD_of hj]; exact ha⟩
    rw [h] at this; cases this
  have hnh : ∀ j k : Nat, S.pg[j]? ≠ some (.head k) := fun j k hj => hno j _ _ hj (by unfold Sp.at1; exact List.mem_singleton_self _)
  apply List.ext_getElem?
  intro j
  have hp := hw.pos
  by_cases hj : j < S.pg.length
  · cases j with
    | zero => rw [(hw.res 0).mpr rfl]; rfl
    | succ j =>
      have hr : (Sp.newSpc S.pg.length).pg[j + 1]? = some .free := by
        unfold Sp.newSpc
        rw [List.getElem?_cons_succ, List.getElem?_replicate, if_pos (by omega)]
      rw [hr]
      have hx : S.pg[j + 1]? = some S.pg[j + 1] := List.getElem?_eq_getElem hj
      rw [hx]
      revert hx
      generalize S.pg[j + 1] = x
      intro hx
      cases x with
      | free => rfl
      | res => have := (hw.res (j + 1)).mp hx; omega
      | head k => exact absurd hx (hnh _ _)
      | tail =>
        obtain ⟨i, k, h1, _⟩ := hw.tail _ hx
        exact absurd h1 (hnh _ _)
      | small c l =>
        obtain ⟨i, hi, he⟩ := List.mem_iff_getElem.mp (hn _ _ _ hx)
        exfalso
        refine hno (j + 1) _ (((j + 1) * 64 + i * Sp.sz c : Nat) : Int) hx ?_
        simp only [Sp.at1, List.mem_filterMap, List.mem_range]
        exact ⟨i, hi, by rw [List.getD_eq_getElem?_getD, List.getElem?_eq_getElem hi, Option.getD_some, he]; rfl⟩
  · rw [List.getElem?_eq_none (by omega), List.getElem?_eq_none]
    show (Pg.res :: List.replicate (S.pg.length - 1) Pg.free).length ≤ j
    simp; omega

/-- what the first large block of an empty space is -/
theorem first_large {S : Spc} (hw : Wf S) (hn : NE S.pg) (h : Sp.each S = []) (hp : S.pg.length = 60) :
    (Sp.alloc S 1000).1 = 64 ∧ (Sp.alloc S 1000).2.1 = 0 ∧ ((Sp.each (Sp.alloc S 1000).2.2).map (Sp.wordsAt (Sp.alloc S 1000).2.2)).sum = 1024 := by
  have e := empty_pg hw hn h
  rw [hp] at e
  have hl := hw.len
  obtain ⟨ws, pg⟩ := S
  dsimp only at e hp hl
  subst e
  obtain ⟨h1, h2, h3⟩ := alloc_ws (ws := (Sp.newSpc 60).ws) (ws' := ws) (pg := (Sp.newSpc 60).pg) 1000
  have k1 : (Sp.alloc (Sp.newSpc 60) 1000).1 = 64 := by kernel_rfl
  have k2 : (Sp.alloc (Sp.newSpc 60) 1000).2.1 = 0 := by kernel_rfl
  have k3 : ((Sp.each (Sp.alloc (Sp.newSpc 60) 1000).2.2).map (Sp.wordsAt (Sp.alloc (Sp.newSpc 60) 1000).2.2)).sum = 1024 := by kernel_rfl
  have k4 : (Sp.alloc (Sp.newSpc 60) 1000).2.2.ws.length = 3840 := by kernel_rfl
  refine ⟨h1.trans k1, h2.trans k2, ?_⟩
  have h2' : (Sp.alloc ⟨ws, (Sp.newSpc 60).pg⟩ 1000).2.1 = 0 := h2.trans k2
  obtain ⟨_, _, _, _, _, _, _, _, hlen⟩ := Sp.alloc_ok hw h2'
  dsimp only at hlen
  rw [← k3]
  generalize (Sp.alloc ⟨ws, (Sp.newSpc 60).pg⟩ 1000).2.2 = A at *
  have h3 : A.pg = (Sp.alloc (Sp.newSpc 60) 1000).2.2.pg := h3
  generalize (Sp.alloc (Sp.newSpc 60) 1000).2.2 = B at *
  obtain ⟨wa, pa⟩ := A
  obtain ⟨wb, pb⟩ := B
  dsimp only at *
  subst h3
  have hle : wa.length = wb.length := by omega
  rw [each_ws (ws := wb)]
  congr 1
  refine List.map_congr_left fun a _ => ?_
  unfold Sp.wordsAt
  rw [find_ws (S := ⟨wb, pa⟩) hle]

theorem at1_len {S : Spc} {cs : List Cls} (hw : HWf S cs) (a : Int) : (Ob.at1 S a).ws.length ≤ 1023 := by
  unfold Ob.at1
  split
  · rename_i h hh
    obtain ⟨_, _, _, _, _, g, _⟩ := Ob.head_is hw hh
    have := Sp.mayH_is g
    simp; omega
  · simp
theorem filter_split (p : Int → Bool) : ∀ l : List Int, (l.filter p).length + (l.filter fun a => !p a).length = l.length
  | [] => rfl
  | x :: l => by
    have := filter_split p l
    cases h : p x <;> simp [h] <;> omega
/-- the place of a filtered list's element -/
theorem filter_at {p : Int → Bool} {l : List Int} {i : Nat} (hi : i < l.length) (hp : p (l.getD i 0) = true) : (l.filter p)[((l.take i).filter p).length]? = some (l.getD i 0) := by
  have e : l = l.take i ++ (l.getD i 0 :: l.drop (i + 1)) := by rw [← drop_getD 0 hi, List.take_append_drop]
  generalize hx : l.getD i 0 = x at *
  have : l.filter p = (l.take i).filter p ++ (x :: (l.drop (i + 1)).filter p) := by
    conv => lhs; rw [e]
    rw [List.filter_append, List.filter_cons_of_pos hp]
  rw [this, List.getElem?_append_right (Nat.le_refl _), Nat.sub_self]; rfl

theorem law_leaves (s : Slc) (ns : List Int) (z : Slc) (vs : List Int) (ro : RoS ρ s 1 (ns.map fun x => .int .u8 x)) (hb : ∀ x ∈ ns, (Lit.int .u8 x).wf = true) (hl : ns.length < 2 ^ 63) (ro2 : RoS ρ z 1 (vs.map fun x => .int .u8 x)) (hb2 : ∀ x ∈ vs, (Lit.int .u8 x).wf = true) (hl2 : vs.length < 2 ^ 63) :
    Gl.Spec ρ Try.prog 10 [.slice s.a s.n s.c, .slice z.a z.n z.c] [] RB fun r M => r = true ∧ M = [] := by
  refine Spec.of (fun Q w h => F.gloaminglaw19.SweepLeaves.calls s z h) fun R => ?_
  unfold F.gloaminglaw19.SweepLeaves
  try simp only [List.cons_append, List.nil_append]
  have hb := u8_all hb
  have hb2 := u8_all hb2
  refine en_call (g_graph s ns ro hb hl) tks ?_
  rintro x' M ⟨p, q1, rfl, rfl⟩
  try simp only [List.cons_append, List.nil_append]
  refine en_brf rfl ?_
  have hok := Gr.graph_ok hb
  have hhl := Gr.heads_len (ns := ns)
  have hne := NE.graph hb
  generalize Gr.heads ns = hs at hok hhl
  generalize (Gr.graph ns).2 = l at *
  generalize (Gr.graph ns).1 = G at *
  have hll := hok.len
  refine Tr.keepSL (s := q1) tk fun ρ1 hle1 hr1 => ?_
  refine en_call (g_some q1 l hr1 z vs (ro2.le hle1) hb2 30 (by decide)) tks ?_
  rintro s3 M rfl
  try simp only [List.cons_append, List.nil_append]
  have hsl : (Gr.some l vs 30).length ≤ 30 := by unfold Gr.some; simp; omega
  generalize Gr.some l vs 30 = som at hsl ⊢
  refine Tr.keepSL (s := s3) tk fun ρ2 hle2 hr3 => ?_
  refine en_call (object_objects p G Gr.cs hok.hw) tks ?_
  rintro s4 M ⟨rfl, hn4⟩
  try simp only [List.cons_append, List.nil_append]
  refine Tr.keepObs (s := s4) (os := Ob.objs G) tk fun ρ3 hle3 hobs => ?_
  refine en_call (sweep_sweep p G Gr.cs hok.hw (A := []) s3 som (Rd.ro (hr3.le hle3)) (by omega)) tks ?_
  rintro x' M ⟨rfl, rfl⟩
  try simp only [List.cons_append, List.nil_append]
  have hL := Sw.sweep_ok hok.hw som
  have hE := hL.each hok.hw
  have hde : ∀ a, a ∈ Sw.dead G som ↔ (a ∈ Sp.each G ∧ a ∉ som) := fun a => by
    unfold Sw.dead; rw [List.mem_filter, decide_eq_true_iff]
  have hcount : (Sw.dead G som).length = (Sp.each G).length - ((Sp.each G).filter fun a => decide (a ∈ som)).length := by
    have := filter_split (fun a => decide (a ∈ som)) (Sp.each G)
    have e2 : Sw.dead G som = (Sp.each G).filter fun a => !decide (a ∈ som) := by unfold Sw.dead; congr 1; funext a; simp
    rw [e2]; omega
  have hE' : Sp.each (Sw.sweep G som) = (Sp.each G).filter fun a => decide (a ∈ som) := by
    rw [hE]
    refine List.filter_congr fun a ha => ?_
    have := hde a
    by_cases h : a ∈ som <;> simp [this, ha, h]
  have hNE : NE (Sw.sweep G som).pg := NE.frees (cs := Gr.cs) _ hok.hw hne
  have hfl := List.length_filter_le (fun a => decide (a ∈ som)) (Sp.each G)
  have hel : (Sp.each G).length ≤ 24 := by have := hok.each.length_eq; omega
  have hdead0 : Sw.dead (Sw.sweep G som) som = [] := by
    unfold Sw.dead
    rw [List.filter_eq_nil_iff]
    intro a ha
    rw [hE', List.mem_filter] at ha
    simpa using ha.2
  have hpg : (Sw.sweep G som).pg.length = 60 := hL.pgs.trans hok.pgs
  rw [hcount]
  clear hcount
  generalize Sw.dead G som = dd at *
  generalize hS1 : Sw.sweep G som = S1 at *
  have hw1 := hL.hw
  refine en_call (object_objects p S1 Gr.cs hw1) tks ?_
  rintro s5 M ⟨rfl, hn5⟩
  try simp only [List.cons_append, List.nil_append]
  refine Tr.keepObs (s := s5) (os := Ob.objs S1) tk fun ρ4 hle4 hobs5 => ?_
  obtain ⟨_, lo, hlo, hro, hqs⟩ := hobs
  obtain ⟨_, lo5, hlo5, hro5, hqs5⟩ := hobs5
  have hro := hro.le hle4
  have hr3' := (hr3.le hle3).le hle4
  have n3 := hr3'.len
  rw [objs_len] at hn4 hn5
  have el : ∀ j : Nat, j < (Sp.each G).length → ∃ q : Slc, lo[j]? = some (Ob.at1 G ((Sp.each G).getD j 0), q) := fun j hj => by
    have h1 := congrArg (fun l => l[j]?) hlo
    have hlj : j < lo.length := by have := congrArg List.length hlo; rw [List.length_map, objs_len] at this; omega
    simp only [List.getElem?_map, List.getElem?_eq_getElem hlj, Option.map_some] at h1
    unfold Ob.objs at h1
    rw [List.getElem?_map, List.getElem?_eq_getElem hj, Option.map_some] at h1
    injection h1 with h1
    refine ⟨lo[j].2, ?_⟩
    rw [List.getElem?_eq_getElem hlj, List.getD_eq_getElem?_getD, List.getElem?_eq_getElem hj]
    congr 1
    exact Prod.ext h1 rfl
  have el5 : ∀ (j : Nat) (x : Int), (Sp.each S1)[j]? = some x → ∃ q : Slc, lo5[j]? = some (Ob.at1 S1 x, q) := fun j x hj => by
    have h1 := congrArg (fun l => l[j]?) hlo5
    have hj' := getElem?_lt hj
    have hlj : j < lo5.length := by have := congrArg List.length hlo5; rw [List.length_map, objs_len] at this; omega
    simp only [List.getElem?_map, List.getElem?_eq_getElem hlj, Option.map_some] at h1
    unfold Ob.objs at h1
    rw [List.getElem?_map, hj, Option.map_some] at h1
    injection h1 with h1
    refine ⟨lo5[j].2, ?_⟩
    rw [List.getElem?_eq_getElem hlj]
    congr 1
    exact Prod.ext h1 rfl
  have hsame : ∀ a, a ∈ Sp.each G → a ∈ som → Ob.at1 S1 a = Ob.at1 G a := fun a ha hs => by
    have hnd : a ∉ dd := fun h => ((hde a).mp h).2 hs
    have hh := hL.head a
    rw [if_neg hnd] at hh
    unfold Ob.at1
    rw [hh]
    cases hg : Ob.head G a with
    | none => rfl
    | some h =>
      dsimp only
      congr 1
      refine List.map_congr_left fun i hi => ?_
      have hi : i < h.n.toNat := by simpa using hi
      rw [hg] at hh
      rw [Ob.get_ok hh (by omega) (by omega), Ob.get_ok hg (by omega) (by omega), hL.ws]
  have hgone : ∀ a, a ∈ Sp.each G → a ∉ som → Ob.head S1 a = none := fun a ha hs => by
    rw [hL.head a, if_pos ((hde a).mpr ⟨ha, hs⟩)]
  refine en_lp (fun m u M => (fun left i : Int => M = HeapA p S1 Gr.cs :: R ∧ 0 ≤ i ∧ i ≤ (Sp.each G).length ∧ m = (Sp.each G).length - i.toNat ∧ left = ((((Sp.each G).take i.toNat).filter fun a => decide (a ∈ som)).length : Nat)) u.1 u.2.1) (Sp.each G).length ?_ ?_
  · exact ⟨rfl, by simp, by dsimp only; omega, by simp, by simp⟩
  · rintro m ⟨(left : Int), (i : Int), ⟨⟩⟩ M ⟨rfl, i0, i1, rfl, hleft⟩ X hX
    dsimp only at *
    subst hleft
    refine en_br (fun h => ?_) (fun h => ?_)
    · replace h : i < (s4.n : Int) := of_decide_eq_true h
      have hi : i.toNat < (Sp.each G).length := by omega
      obtain ⟨q, hq⟩ := el i.toNat hi
      have hmem : (Sp.each G).getD i.toNat 0 ∈ Sp.each G := by rw [List.getD_eq_getElem?_getD, List.getElem?_eq_getElem hi]; exact List.getElem_mem hi
      have ht : (Sp.each G).take (i + 1).toNat = (Sp.each G).take i.toNat ++ [(Sp.each G).getD i.toNat 0] := by rw [show (i + 1).toNat = i.toNat + 1 by omega, take_succ_getD 0 hi]
      have hfa := filter_at (p := fun a => decide (a ∈ som)) hi
      rw [← hE'] at hfa
      have hcell := fun e (he : e < 6) => flat_get (g := obCs) (m := 6) (fun _ => rfl) hq he
      have hqr := hqs _ (List.mem_of_getElem? hq)
      have hha : (Ob.at1 G ((Sp.each G).getD i.toNat 0)).a = (Sp.each G).getD i.toNat 0 := by unfold Ob.at1; split <;> rfl
      generalize (Sp.each G).getD i.toNat 0 = a at *
      refine en_ixRo hro i0 (by omega) fun a0 ha => ?_
      refine en_ldRo (k := .int .i64) (j := i.toNat * 6 + 0) (x := a) ha hro (by rintro b o rfl; simp [fa_mk]) (by rw [hcell 0 (by decide)]; show some (i64 (Ob.at1 G a).a) = _; rw [hha]; rfl) ?_
      refine en_call (ref_in s3 som hr3' (by omega) a) .nil ?_
      rintro x' M ⟨rfl, rfl⟩
      try simp only [List.cons_append, List.nil_append]
      rw [wrap64 (n := i + 1) (by omega) (by omega)]
      have hlt2 : (((Sp.each G).take i.toNat).filter fun a => decide (a ∈ som)).length ≤ 24 := by
        have h1 := List.length_filter_le (fun a => decide (a ∈ som)) ((Sp.each G).take i.toNat)
        have h2 := List.length_take_le i.toNat (Sp.each G)
        omega
      by_cases hs : a ∈ som
      · refine en_brf (by simp [hs]) (en_drw ?_)
        have hfa := hfa (by simp [hs])
        have hlt5 := getElem?_lt hfa
        obtain ⟨q5, hq5⟩ := el5 _ _ hfa
        rw [hsame a hmem hs] at hq5
        have hcell5 := fun e (he : e < 6) => flat_get (g := obCs) (m := 6) (fun _ => rfl) hq5 he
        have hqr5 := hqs5 _ (List.mem_of_getElem? hq5)
        have hol := at1_len hok.hw a
        have hgo := hX ((Sp.each G).length - (i + 1).toNat) (((((Sp.each G).take i.toNat).filter fun a => decide (a ∈ som)).length : Nat) + 1, i + 1, ()) _ (by omega) ⟨rfl, by dsimp only; omega, by dsimp only; omega, rfl, by
          dsimp only
          rw [ht, List.filter_append, List.filter_cons_of_pos (by simp [hs]), List.filter_nil, List.length_append]; rfl⟩
        generalize (((Sp.each G).take i.toNat).filter fun a => decide (a ∈ som)).length = k at *
        rw [wrap64 (n := (k : Int) + 1) (by omega) (by omega)]
        generalize Ob.at1 G a = o at *
        subst hha
        refine en_brf (decide_eq_false (show ¬ ((k : Nat) : Int) ≥ ((s5.n : Nat) : Int) by omega)) ?_
        refine en_ixRo hro5 (by omega) (by omega) fun a1 ha1 => ?_
        refine en_ldRo (k := .int .i64) (j := k * 6 + 0) (x := o.a) ha1 hro5 (by rintro b o rfl; simp [fa_mk]) (by rw [hcell5 0 (by decide)]; rfl) ?_
        refine en_ixRo hro i0 (by omega) fun a0 ha => ?_
        refine en_ldRo (k := .int .i64) (j := i.toNat * 6 + 0) (x := o.a) ha hro (by rintro b o rfl; simp [fa_mk]) (by rw [hcell 0 (by decide)]; rfl) ?_
        refine en_brf (by simp) ?_
        have hg : ∀ e v, (vals HL o.h.t)[e]? = some v → (lo.flatMap obCs)[i.toNat * 6 + 1 + 0 + e]? = some v := fun e v he => by
          have hlt : e < 4 := getElem?_lt he
          rw [show i.toNat * 6 + 1 + 0 + e = i.toNat * 6 + (1 + e) by omega, hcell (1 + e) (by omega)]
          have : e = 0 ∨ e = 1 ∨ e = 2 ∨ e = 3 := by omega
          rcases this with e' | e' | e' | e' <;> subst e' <;> exact he
        have hg5 : ∀ e v, (vals HL o.h.t)[e]? = some v → (lo5.flatMap obCs)[k * 6 + 1 + 0 + e]? = some v := fun e v he => by
          have hlt : e < 4 := getElem?_lt he
          rw [show k * 6 + 1 + 0 + e = k * 6 + (1 + e) by omega, hcell5 (1 + e) (by omega)]
          have : e = 0 ∨ e = 1 ∨ e = 2 ∨ e = 3 := by omega
          rcases this with e' | e' | e' | e' <;> subst e' <;> exact he
        refine en_ixRo hro5 (by omega) (by omega) fun a1 ha1 => ?_
        refine en_ldRg (x := o.h.t) ha1 hro5 (j := k * 6 + 1) (by rintro b o rfl; simp [fa_mk, Nat.add_assoc]) hg5 ?_
        refine en_ixRo hro i0 (by omega) fun a0 ha => ?_
        refine en_ldRg (x := o.h.t) ha hro (j := i.toNat * 6 + 1) (by rintro b o rfl; simp [fa_mk, Nat.add_assoc]) hg ?_
        refine en_brf (by simp) ?_
        refine en_ixRo hro5 (by omega) (by omega) fun a1 ha1 => ?_
        refine en_ldRo (k := .slice) (j := k * 6 + 5) (x := q5) ha1 hro5 (by rintro b o rfl; simp [fa_mk, Nat.add_assoc]) (by rw [hcell5 5 (by decide)]; rfl) ?_
        refine en_ixRo hro i0 (by omega) fun a0 ha => ?_
        refine en_ldRo (k := .slice) (j := i.toNat * 6 + 5) (x := q) ha hro (by rintro b o rfl; simp [fa_mk, Nat.add_assoc]) (by rw [hcell 5 (by decide)]; rfl) ?_
        refine en_call (same_ints q5 q o.ws o.ws hqr5.1 (hqr.1.le hle4) (by omega)) .nil ?_
        rintro x' M ⟨rfl, rfl⟩
        try simp only [List.cons_append, List.nil_append]
        exact en_brf (by simp) hgo
      · refine en_brt (by simp [hs]) ?_
        refine en_ixRo hro i0 (by omega) fun a0 ha => ?_
        refine en_ldRo (k := .int .i64) (j := i.toNat * 6 + 0) (x := a) ha hro (by rintro b o rfl; simp [fa_mk]) (by rw [hcell 0 (by decide)]; show some (i64 (Ob.at1 G a).a) = _; rw [hha]; rfl) ?_
        refine en_call (object_head p S1 Gr.cs hw1 a) tks ?_
        rintro x' M ⟨rfl, rfl⟩
        try simp only [List.cons_append, List.nil_append]
        rw [hgone a hmem hs]
        refine en_nw fun b14 => ?_
        rw [zcH]
        refine en_st (b := b14) (off := 0) rfl tk (by simp) rfl ?_
        iterate 1
          refine en_call (law_err _) .nil ?_
          rintro x' M ⟨rfl, rfl⟩
          try simp only [List.cons_append, List.nil_append]
        refine en_brf rfl ?_
        refine Tr.drop (A := blk b14 _) .here ?_
        refine hX ((Sp.each G).length - (i + 1).toNat) _ _ (by omega) ⟨rfl, by dsimp only; omega, by dsimp only; omega, rfl, ?_⟩
        dsimp only
        rw [ht, List.filter_append, List.filter_cons_of_neg (by simp [hs]), List.filter_nil, List.append_nil]
    · replace h : ¬ i < (s4.n : Int) := of_decide_eq_false h
      rw [List.take_of_length_le (by omega), ← hE']
      rw [← hE'] at hfl
      clear hX
      refine en_brf (by rw [hn5]; simp) ?_
      rw [hn4, wrap64 (n := (((Sp.each G).length : Nat) : Int) - ((Sp.each S1).length : Nat)) (by omega) (by omega)]
      have hsub : (((Sp.each G).length - (Sp.each S1).length : Nat) : Int) = (((Sp.each G).length : Nat) : Int) - ((Sp.each S1).length : Nat) := by omega
      refine en_brf (by rw [hsub]; simp) ?_
      refine en_call (sweep_sweep p S1 Gr.cs hw1 (A := []) s3 som (Rd.ro hr3') (by omega)) tks ?_
      rintro x' M ⟨rfl, rfl⟩
      try simp only [List.cons_append, List.nil_append]
      rw [hdead0]
      unfold Sw.sweep
      rw [hdead0, Sw.frees_nil]
      refine en_brf rfl ?_
      refine en_call (sweep_sweep p S1 Gr.cs hw1 (A := []) ⟨none, 0, 0⟩ [] Rd.nil (by decide)) tks ?_
      rintro x' M ⟨rfl, rfl⟩
      try simp only [List.cons_append, List.nil_append]
      have hd1 : Sw.dead S1 [] = Sp.each S1 := by unfold Sw.dead; rw [List.filter_eq_self]; simp
      have hL2 := Sw.sweep_ok hw1 []
      have hE2 := hL2.each hw1
      rw [hd1] at hE2 hL2 ⊢
      have hE3 : Sp.each (Sw.sweep S1 []) = [] := by rw [hE2, List.filter_eq_nil_iff]; intro a ha; simp [ha]
      have hNE2 : NE (Sw.sweep S1 []).pg := NE.frees (cs := Gr.cs) _ hw1 hNE
      obtain ⟨k1, k2, k3⟩ := first_large hL2.hw.wf hNE2 hE3 (hL2.pgs.trans hpg)
      have hwa := Sp.alloc_wf hL2.hw.wf 1000
      have hw2 := hL2.hw
      generalize Sw.sweep S1 [] = S2 at *
      refine en_nn (HeapA.op tk fun ps pt => ?_)
      refine en_ld (k := .ptr) (b := p) (off := 0) (x := some ⟨ps, 0, none⟩) (by rw [fa_mk]) tk rfl ?_
      refine en_call (space_alloc ps S2 hw2.wf 1000) tks ?_
      rintro x' M ⟨rfl, rfl⟩
      try simp only [List.cons_append, List.nil_append]
      rw [k1, k2]
      refine en_brt (by simp) (en_brt rfl ?_)
      iterate 1
        refine en_call (law_err _) .nil ?_
        rintro x' M ⟨rfl, rfl⟩
        try simp only [List.cons_append, List.nil_append]
      refine en_brt rfl (en_nn ?_)
      refine en_ld (k := .ptr) (b := p) (off := 0) (x := some ⟨ps, 0, none⟩) (by rw [fa_mk]) tk rfl ?_
      refine en_call (space_used ps (Sp.alloc S2 1000).2.2 hwa) tks ?_
      rintro x' M ⟨rfl, rfl⟩
      try simp only [List.cons_append, List.nil_append]
      rw [k3]
      refine en_brt rfl ?_
      refine en_call (law_awake19) tks ?_
      rintro x' M ⟨rfl, rfl⟩
      try simp only [List.cons_append, List.nil_append]
      exact en_rets (x := true) rfl ⟨rfl, rfl⟩ tks ens

end Go.Proofs.Ytncpnmpfghppeaa
