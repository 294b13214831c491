/- The document's answer for heaps: Add, Refs, Final, Objects, SameObjs, Dead, Sweep. -/
import Derived.Test.YtapchggmifbfoaaGreatGlRefD
import Derived.Test.YtapchggmifbfoaaGreatGlSweep
set_option linter.unusedSimpArgs false
set_option linter.unusedVariables false
namespace Go.Proofs.YtapchggmifbfoaaGreat
open Go Go.Gl
variable {ρ0 ρ : FR} {L L' : List Asn} {Post : Value → List Asn → Prop} {T : Tree}

theorem mayR_pos {n : Int} : ∀ {xs : List Int} {last : Int}, Sp.mayR n last xs = true → -1 ≤ last → ∀ i, i < xs.length → last < xs.getD i 0
  | x :: l, last, h, h0, i, hi => by
    unfold Sp.mayR at h
    split at h
    · cases h
    · split at h
      · cases h
      · cases i with
        | zero => simp; omega
        | succ i =>
          have := mayR_pos h (by omega) i (by simpa using hi)
          simp only [List.getD_cons_succ]; omega

theorem rf_mayclass (n : Int) (s : Slc) (xs : List Int) (hs : RoS ρ s 1 (xs.map i64)) (hl : xs.length ≤ 2 ^ 30) : Gl.Spec ρ Tryz.prog 115 [.agg #[.int .i64 n, .slice s.a s.n s.c]] [] RB
    fun r M => r = Sp.mayC n xs ∧ M = [] := by
  refine Spec.of (fun Q w' h => F.gloamingref1.MayClass.calls (n, s, ()) h) fun R => ?_
  unfold F.gloamingref1.MayClass
  try simp only [List.cons_append, List.nil_append]
  have hn := hs.len
  refine en_nw fun b => ?_
  refine en_ld (k := .int .i64) (b := b) (off := 0) (x := n) (by rw [fa_mk]) tk rfl ?_
  refine en_br (fun h => ?_) (fun h => ?_)
  · refine en_rets (x := Sp.mayC n xs) ?_ ⟨rfl, rfl⟩ tks ens
    rw [Sp.mayC, if_pos (of_decide_eq_true h)]; rfl
  · replace h := of_decide_eq_false h
    refine en_ld (k := .int .i64) (b := b) (off := 0) (x := n) (by rw [fa_mk]) tk rfl ?_
    refine en_br (fun h2 => ?_) (fun h2 => ?_)
    · refine en_rets (x := Sp.mayC n xs) ?_ ⟨rfl, rfl⟩ tks ens
      rw [Sp.mayC, if_neg h, if_pos (of_decide_eq_true h2)]; rfl
    · replace h2 := of_decide_eq_false h2
      refine en_lp (fun m u M => (fun i : Int => ∃ last : Int, M = blk b [.int .i64 n, .slice s.a s.n s.c] :: R ∧ 0 ≤ i ∧ i ≤ xs.length ∧ m = xs.length - i.toNat ∧ Sp.mayC n xs = Sp.mayR n last (xs.drop i.toNat) ∧ -1 ≤ last ∧ ((i = 0 ∧ last = -1) ∨ (0 < i ∧ 0 ≤ last ∧ last = xs.getD (i - 1).toNat 0))) u.1) xs.length ?_ ?_
      · refine ⟨-1, rfl, by simp, by dsimp only; omega, by simp, ?_, by omega, .inl ⟨rfl, rfl⟩⟩
        rw [Sp.mayC, if_neg h, if_neg h2]; rfl
      · rintro m ⟨(i : Int), ⟨⟩⟩ M ⟨last, rfl, h0, h1, rfl, hc, hl0, hlast⟩ X hX
        dsimp only at *
        refine en_ld (k := .slice) (b := b) (off := 1) (x := s) (by rw [fa_mk]) tk rfl ?_
        refine en_br (fun h3 => ?_) (fun h3 => ?_)
        · replace h3 : i < (s.n : Int) := of_decide_eq_true h3
          have hi : i.toNat < xs.length := by omega
          rw [drop_getD 0 hi] at hc
          unfold Sp.mayR at hc
          refine en_drw ?_
          refine en_ld (k := .slice) (b := b) (off := 1) (x := s) (by rw [fa_mk]) tk rfl ?_
          refine en_getRo hs h0 (by omega) ?_
          have hgo : ¬ xs.getD i.toNat 0 ≤ last → ¬ xs.getD i.toNat 0 ≥ n → Tr ρ ρ (blk b [.int .i64 n, .slice s.a s.n s.c] :: R) (X (i + 1, ())) (SP RB (fun r M => r = Sp.mayC n xs ∧ M = []) R) := fun g1 g2 => by
            rw [if_neg g1, if_neg g2] at hc
            refine hX (xs.length - (i + 1).toNat) _ _ (by omega) ⟨xs.getD i.toNat 0, rfl, by dsimp only; omega, by dsimp only; omega, rfl, ?_, by omega, .inr ⟨by dsimp only; omega, by omega, by dsimp only; congr 1; omega⟩⟩
            dsimp only; rw [hc, show (i + 1).toNat = i.toNat + 1 by omega]
          have hbad : (xs.getD i.toNat 0 ≤ last ∨ xs.getD i.toNat 0 ≥ n) → Tr ρ ρ (blk b [.int .i64 n, .slice s.a s.n s.c] :: R) (ret (.bool false)) (SP RB (fun r M => r = Sp.mayC n xs ∧ M = []) R) := fun g => by
            have : Sp.mayC n xs = false := by
              rw [hc]
              by_cases g1 : xs.getD i.toNat 0 ≤ last
              · rw [if_pos g1]
              · rw [if_neg g1, if_pos (g.resolve_left g1)]
            rw [this]
            exact en_rets (x := false) rfl ⟨rfl, rfl⟩ tks ens
          refine en_br (fun h4 => ?_) (fun h4 => ?_)
          · replace h4 := of_decide_eq_true h4
            exact hbad (.inl (by omega))
          · replace h4 := of_decide_eq_false h4
            refine en_ld (k := .slice) (b := b) (off := 1) (x := s) (by rw [fa_mk]) tk rfl ?_
            refine en_getRo hs h0 (by omega) ?_
            refine en_ld (k := .int .i64) (b := b) (off := 0) (x := n) (by rw [fa_mk]) tk rfl ?_
            refine en_br (fun h5 => hbad (.inr (of_decide_eq_true h5))) (fun h5 => ?_)
            replace h5 := of_decide_eq_false h5
            rw [wrap64 (n := i + 1) (by omega) (by omega)]
            refine en_br (fun h6 => ?_) (fun h6 => ?_)
            · replace h6 : i > 0 := of_decide_eq_true h6
              refine en_ld (k := .slice) (b := b) (off := 1) (x := s) (by rw [fa_mk]) tk rfl ?_
              refine en_getRo hs h0 (by omega) ?_
              refine en_ld (k := .slice) (b := b) (off := 1) (x := s) (by rw [fa_mk]) tk rfl ?_
              rw [wrap64 (n := i - 1) (by omega) (by omega)]
              refine en_getRo hs (by omega) (by omega) ?_
              have hle : last = xs.getD (i - 1).toNat 0 := by
                rcases hlast with ⟨g, _⟩ | ⟨_, _, g⟩
                · omega
                · exact g
              rw [← hle]
              refine en_br (fun h7 => hbad (.inl (of_decide_eq_true h7))) (fun h7 => ?_)
              exact hgo (of_decide_eq_false h7) h5
            · replace h6 : ¬ i > 0 := of_decide_eq_false h6
              exact hgo (by rcases hlast with ⟨_, g⟩ | ⟨g, _⟩ <;> omega) h5
        · replace h3 : ¬ i < (s.n : Int) := of_decide_eq_false h3
          rw [List.drop_eq_nil_of_le (by omega)] at hc
          refine en_rets (x := Sp.mayC n xs) ?_ ⟨rfl, rfl⟩ tks ens
          rw [hc]; rfl

theorem rh_add (p : Nat) (S : Spc) (l : List (Cls × Slc)) (hw : HWf S (csO l)) (n : Int) (s : Slc) (xs : List Int) (hs : RoS ρ s 1 (xs.map i64)) (hl : xs.length ≤ 2 ^ 30) :
    Gl.Spec ρ Tryz.prog 69 [.pointer (some ⟨p, 0, none⟩), .agg #[.int .i64 n, .slice s.a s.n s.c]] [RHp p S l] G2
    fun r M => ∃ l' : List (Cls × Slc), csO l' = (Sp.addC (csO l) (n, xs)).2.2 ∧ ((∀ x ∈ l, x.2.n = x.1.2.length) → ∀ x ∈ l', x.2.n = x.1.2.length) ∧ r = ((Sp.addC (csO l) (n, xs)).1, (Sp.addC (csO l) (n, xs)).2.1, ()) ∧ M = [RHp p S l'] := by
  have hcs := hw.cls
  have hll : (csO l).length = l.length := by simp
  refine Spec.of (fun Q w' h => F.gloamingref9.Heap.Add.calls (some ⟨p, 0, none⟩) (n, s, ()) h) fun R => ?_
  unfold F.gloamingref9.Heap.Add
  try simp only [List.cons_append, List.nil_append]
  refine en_nw fun b1 => en_nw fun b2 => ?_
  rw [zcGot]
  refine en_ldg (b := b1) (x := (n, s, ())) [] rfl tk rfl ?_
  refine en_call (rf_mayclass n s xs hs hl) .nil ?_
  rintro x' M ⟨rfl, rfl⟩
  try simp only [List.cons_append, List.nil_append]
  refine en_br (fun h => ?_) (fun h => ?_)
  · have h : ¬ Sp.mayC n xs = true := by simpa using h
    have e : Sp.addC (csO l) (n, xs) = (0, 1, csO l) := by unfold Sp.addC; rw [if_pos h]
    rw [e]
    refine en_st (b := b2) (off := 0) rfl tk (by simp) rfl ?_
    refine en_ldg (b := b2) (x := ((0 : Int), (1 : Int), ())) [] rfl tk rfl ?_
    exact en_rets (x := ((0 : Int), (1 : Int), ())) rfl ⟨l, rfl, id, rfl, rfl⟩ tks ens
  · have h : Sp.mayC n xs = true := by simpa using h
    refine en_nn (RHp.op tk fun ps q hq => ?_)
    refine en_ld (k := .slice) (b := p) (off := 1) (x := q) (by rw [fa_mk]) tk rfl ?_
    refine en_br (fun h2 => ?_) (fun h2 => ?_)
    · have h2 := of_decide_eq_true h2
      have e : Sp.addC (csO l) (n, xs) = (0, 3, csO l) := by unfold Sp.addC; rw [if_neg (fun g => g h), if_pos (by omega)]
      rw [e]
      refine Tr.close tks (RHp.cl (p := p) (ps := ps) (S := S) (l := l) (s := q) hq) ?_
      refine en_st (b := b2) (off := 0) rfl tk (by simp) rfl ?_
      refine en_ldg (b := b2) (x := ((0 : Int), (3 : Int), ())) [] rfl tk rfl ?_
      exact en_rets (x := ((0 : Int), (3 : Int), ())) rfl ⟨l, rfl, id, rfl, rfl⟩ tks ens
    · have h2 := of_decide_eq_false h2
      have e : Sp.addC (csO l) (n, xs) = (((csO l).length : Int) + 1, 0, csO l ++ [(n, xs)]) := by unfold Sp.addC; rw [if_neg (fun g => g h), if_neg (by omega)]
      rw [e]
      refine en_drw (en_held [blk p [.pointer (some ⟨ps, 0, none⟩), slv q], blk b1 [.int .i64 n, .slice s.a s.n s.c]] tks (en_nn ?_))
      refine en_ldS (k := .slice) (b := p) (off := 1) (x := q) (by rw [fa_mk]) tk rfl ?_
      refine en_ldS (k := .int .i64) (b := b1) (off := 0) (x := n) (by rw [fa_mk]) tk rfl ?_
      refine en_ldS (k := .slice) (b := b1) (off := 1) (x := s) (by rw [fa_mk]) tk rfl ?_
      refine en_nw fun b3 => ?_
      refine en_chk tks ?_
      refine Tr.imp (A' := SLc ⟨some ⟨b3, 0, none⟩, 0, 0⟩ 1 (([] : List Int).map i64)) .here (SLc.of_cl rfl) ?_
      refine en_appS (s := ⟨some ⟨b3, 0, none⟩, 0, 0⟩) (x := s) (xs := []) (ys := xs) appInt tk (Rd.ro hs) (by simp; omega) fun r hr => ?_
      rw [List.nil_append]
      refine en_chk tks (en_nw fun b4 => en_chk tks ?_)
      refine en_app (s := q) (x := ⟨some ⟨b4, 0, none⟩, 1, 1⟩) (ys := [.int .i64 n, .slice r.a r.n r.c]) appCls tk (Rd.cl tk rfl rfl) rfl (by rw [hq]; dsimp only; omega) (by rw [hq]; dsimp only; omega) fun r2 hr2 => ?_
      refine en_nn ?_
      refine en_st (b := p) (off := 1) (by rw [fa_mk]) tk (by simp) rfl (en_nn ?_)
      refine en_ld (k := .slice) (b := p) (off := 1) (x := r2) (by rw [fa_mk]) tk rfl ?_
      refine Tr.imp (A := star (l.map ClsA)) (A' := star ((l ++ ([] : List (Cls × Slc))).map ClsA)) tk (by simp) ?_
      refine Tr.close (A := star ((l ++ [((n, xs), r)]).map ClsA)) (M := [ClsA ((n, xs), r), star ((l ++ ([] : List (Cls × Slc))).map ClsA)]) tks (fun h H => star_mid' h H) ?_
      have e2 : l.flatMap clsCs ++ [.int .i64 n, .slice r.a r.n r.c] = (l ++ [((n, xs), r)]).flatMap clsCs := by rw [List.flatMap_append]; rfl
      rw [e2]
      refine Tr.close (M := [blk p [.pointer (some ⟨ps, 0, none⟩), slv r2], RSpaceA ps S, SLc r2 2 ((l ++ [((n, xs), r)]).flatMap clsCs), star ((l ++ [((n, xs), r)]).map ClsA)]) tks (RHp.cl (p := p) (ps := ps) (S := S) (l := l ++ [((n, xs), r)]) (s := r2) (by rw [hr2, hq]; simp)) ?_
      have hr2n : ((r2.n : Nat) : Int) = (csO l).length + 1 := by rw [hr2, hq, hll]; dsimp only; omega
      rw [hr2n]
      refine en_st (b := b2) (off := 0) rfl tk (by simp) rfl ?_
      refine en_ldg (b := b2) (x := (((csO l).length : Int) + 1, (0 : Int), ())) [] rfl tk rfl ?_
      exact en_rets (x := (((csO l).length : Int) + 1, (0 : Int), ())) rfl ⟨l ++ [((n, xs), r)], by simp, fun hx x hm => by
        rcases List.mem_append.mp hm with hm | hm
        · exact hx x hm
        · simp at hm; subst hm; simpa using hr, rfl, rfl⟩ tks ens

theorem Ob.head_cls {S : Spc} {cs : List Cls} (hw : HWf S cs) {a : Int} {h : Hd} (hh : Ob.head S a = some h) : Sp.mayH h = true := by
  obtain ⟨_, _, _, _, _, g, _⟩ := Ob.head_is hw hh; exact g

/-- objects of a class have one that there is -/
def Kn (S : Spc) (cs : List Cls) : Prop := ∀ a h, Ob.head S a = some h → h.k = 1 → ∃ c, Sp.clsAt cs h.c = some c

/-- what the slice of addresses can be read by -/
def RdRefs (p : Nat) (l : List (Cls × Slc)) (A : List Asn) (r : Slc) (xs : List Int) : Prop := ∀ (ρ : FR) (S : Spc), Rd ρ (RHp p S l :: A) r 1 (xs.map i64)
theorem rdRefs_own (p : Nat) (l : List (Cls × Slc)) (r : Slc) (xs : List Int) (hl : r.n = xs.length) : RdRefs p l [SLc r 1 (xs.map i64)] r xs := fun ρ S => Rd.sl (.skip .here) (by simp [hl])
theorem rdRefs_cls (p : Nat) (l : List (Cls × Slc)) (i : Nat) (x : Cls × Slc) (hx : l[i]? = some x) (hl : x.2.n = x.1.2.length) : RdRefs p l [] x.2 x.1.2 := fun ρ S => by
  refine ⟨by simp [hl], fun w hw => ?_⟩
  obtain ⟨⟨h, ⟨h1, h2, hd, rfl, ⟨⟨ps, s⟩, _, hr⟩, he⟩, hh⟩, h3⟩ := hw
  have hw' : Sat ρ [blk p [.pointer (some ⟨ps, 0, none⟩), slv s], RSpaceA ps S, SLc s 2 (l.flatMap clsCs), star (l.map ClsA)] w := ⟨⟨h1, hr, fun b o hb => hh b o (by simp [hb])⟩, h3⟩
  have hw2 : Sat ρ [star (l.map ClsA)] w := hw'.drop.drop.drop
  have hw3 : Sat ρ (l.map ClsA) w := by have := hw2.unstar; simpa using this
  obtain ⟨l1, l2, e⟩ : ∃ l1 l2, l = l1 ++ x :: l2 := by
    have hi := getElem?_lt hx
    refine ⟨l.take i, l.drop (i + 1), ?_⟩
    have : l[i] = x := by rw [List.getElem?_eq_getElem hi] at hx; injection hx
    rw [← this, ← List.drop_eq_getElem_cons hi, List.take_append_drop]
  have hw4 : Sat ρ (SLc x.2 1 (x.1.2.map i64) :: (l1.map ClsA ++ l2.map ClsA)) w := by
    refine hw3.perm ?_
    rw [e, List.map_append, List.map_cons]
    exact List.perm_middle
  exact (Rd.sl (ρ := ρ) .here (by simp [hl])).2 w hw4

theorem rh_refs (p : Nat) (S : Spc) (l : List (Cls × Slc)) (hw : HWf S (csO l)) (hk : Kn S (csO l)) (hln : ∀ x ∈ l, x.2.n = x.1.2.length) (a : Int) : Gl.Spec ρ Tryz.prog 84 [.pointer (some ⟨p, 0, none⟩), i64 a] [RHp p S l] RS
    fun r M => ∃ A, M = RHp p S l :: A ∧ RdRefs p l A r (Ob.refs S (csO l) a) := by
  refine Spec.of (fun Q w hh => F.gloamingref9.Heap.Refs.calls (some ⟨p, 0, none⟩) a hh) fun R => ?_
  unfold F.gloamingref9.Heap.Refs
  try simp only [List.cons_append, List.nil_append]
  refine en_call (rh_head p S l hw a) tks ?_
  rintro x' M ⟨rfl, rfl⟩
  try simp only [List.cons_append, List.nil_append]
  refine en_nw fun b2 => ?_
  rw [zcHX]
  cases hh : Ob.head S a with
  | none =>
    have e : Ob.refs S (csO l) a = [] := by unfold Ob.refs; rw [hh]
    rw [e]
    simp only [Rf.hd]
    refine en_st (b := b2) (off := 0) rfl tk (by simp) rfl ?_
    refine en_ld (k := .bool) (b := b2) (off := 4) (x := false) (by rw [fa_mk]) tk rfl ?_
    refine en_brt rfl ?_
    refine Tr.nilSL 1 ?_
    exact en_rets (M := [RHp p S l, SLc nilS 1 (([] : List Int).map i64)]) (x := nilS) rfl ⟨_, rfl, rdRefs_own p l nilS [] rfl⟩ tks ens
  | some hd =>
    have g3 := Ob.head_cls hw hh
    have hkn := hk a hd hh
    have hb := Sp.mayH_is g3
    obtain ⟨k, c, ln, f⟩ := hd
    dsimp only at *
    have e0 : Ob.refs S (csO l) a = if k = 1 then (match Sp.clsAt (csO l) c with | some c => c.2 | none => []) else if k = 2 then Sp.upto ln.toNat else if k = 4 then [2] else [] := by unfold Ob.refs; rw [hh]; rfl
    simp only [Rf.hd]
    refine en_st (b := b2) (off := 0) rfl tk (by simp) rfl ?_
    refine en_ld (k := .bool) (b := b2) (off := 4) (x := true) (by rw [fa_mk]) tk rfl ?_
    refine en_brf rfl ?_
    refine en_ld (k := .int .i64) (b := b2) (off := 0) (x := k) (by rw [fa_mk, fa_mk]) tk rfl ?_
    refine en_br (fun h1 => ?_) (fun h1 => ?_)
    · have h1 : k = 1 := eq_of_beq h1
      obtain ⟨cl, hc⟩ := hkn h1
      rw [if_pos h1, hc] at e0
      dsimp only at e0
      rw [e0]
      obtain ⟨c1, c2, c3⟩ := clsAt_get hc
      have hlt : (c - 1).toNat < l.length := by have := getElem?_lt c3; simpa using this
      have hx : l[(c - 1).toNat]? = some l[(c - 1).toNat] := List.getElem?_eq_getElem hlt
      have hmem := List.getElem_mem hlt
      generalize l[(c - 1).toNat] = x at hx hmem
      have hxc : x.1 = cl := by rw [List.getElem?_map, hx] at c3; injection c3
      refine en_drw (en_nn (RHp.op tk fun ps s hs => ?_))
      refine en_ld (k := .slice) (b := p) (off := 1) (x := s) (by rw [fa_mk]) tk rfl ?_
      refine en_ld (k := .int .i64) (b := b2) (off := 1) (x := c) (by rw [fa_mk, fa_mk]) tk rfl ?_
      rw [wrap64 (n := c - 1) (by omega) (by omega)]
      refine en_getCls (s := s) tk (by omega) hx fun a0 ha hcell => ?_
      refine en_ldSL (k := .slice) (s := s) (j := (c - 1).toNat * 2 + 1) (x := x.2) ha tk (by rintro b o rfl; simp [fa_mk, Nat.add_assoc]) (hcell 1 _ (by decide) rfl) ?_
      refine Tr.close tks (RHp.cl (p := p) (ps := ps) (S := S) (l := l) (s := s) hs) ?_
      exact en_rets (M := [RHp p S l]) (x := x.2) rfl ⟨[], rfl, by rw [← hxc]; exact rdRefs_cls p l _ x hx (hln x hmem)⟩ tks ens
    · have h1 : k ≠ 1 := by simpa using h1
      rw [if_neg h1] at e0
      refine en_br (fun h2 => ?_) (fun h2 => ?_)
      · rw [if_pos (eq_of_beq h2)] at e0
        rw [e0]
        refine Tr.nilSL 1 ?_
        refine en_lp (fun m u M => (fun (t : Slc) (j : Int) => M = SLc t 1 ((Sp.upto j.toNat).map i64) :: blk b2 [i64 k, i64 c, i64 ln, .bool f, .bool true] :: RHp p S l :: R ∧ 0 ≤ j ∧ j ≤ ln ∧ m = ln.toNat - j.toNat) u.1 u.2.1) ln.toNat ?_ ?_
        · exact ⟨rfl, by simp, by dsimp only; omega, by simp⟩
        · rintro m ⟨(t : Slc), (j : Int), ⟨⟩⟩ M ⟨rfl, j0, j1, rfl⟩ X hX
          dsimp only at *
          refine en_ld (k := .int .i64) (b := b2) (off := 2) (x := ln) (by rw [fa_mk, fa_mk]) tk rfl ?_
          refine en_br (fun h3 => ?_) (fun h3 => ?_)
          · replace h3 : j < ln := of_decide_eq_true h3
            refine en_appI (s := t) (xs := Sp.upto j.toNat) appInt tk (by simp [Sp.upto]; omega) fun r hr => ?_
            rw [wrap64 (n := j + 1) (by omega) (by omega)]
            refine hX (ln.toNat - (j + 1).toNat) _ _ (by omega) ⟨?_, by dsimp only; omega, by dsimp only; omega, rfl⟩
            dsimp only
            have e : Sp.upto j.toNat ++ [j] = Sp.upto (j + 1).toNat := by
              rw [show (j + 1).toNat = j.toNat + 1 by omega, Sp.upto, Sp.upto, List.range_succ, List.map_append]
              simp; omega
            rw [e]
          · replace h3 : ¬ j < ln := of_decide_eq_false h3
            rw [show j.toNat = ln.toNat by omega]
            refine Tr.nlen (s := t) (xs := Sp.upto ln.toNat) tk fun htn => ?_
            exact en_rets (M := [RHp p S l, SLc t 1 ((Sp.upto ln.toNat).map i64)]) (x := t) rfl ⟨_, rfl, rdRefs_own p l t _ htn⟩ tks ens
      · rw [if_neg (by simpa using h2)] at e0
        refine en_br (fun h3 => ?_) (fun h3 => ?_)
        · rw [if_pos (eq_of_beq h3)] at e0
          rw [e0]
          refine en_nw fun b4 => ?_
          refine Tr.imp (A' := SLc ⟨some ⟨b4, 0, none⟩, 1, 1⟩ 1 (([2] : List Int).map i64)) .here (SLc.of_cl rfl) ?_
          exact en_rets (M := [RHp p S l, SLc ⟨some ⟨b4, 0, none⟩, 1, 1⟩ 1 (([2] : List Int).map i64)]) (x := (⟨some ⟨b4, 0, none⟩, 1, 1⟩ : Slc)) rfl ⟨_, rfl, rdRefs_own p l _ [2] rfl⟩ tks ens
        · rw [if_neg (by simpa using h3)] at e0
          rw [e0]
          refine Tr.nilSL 1 ?_
          exact en_rets (M := [RHp p S l, SLc nilS 1 (([] : List Int).map i64)]) (x := nilS) rfl ⟨_, rfl, rdRefs_own p l nilS [] rfl⟩ tks ens

theorem rh_final (p : Nat) (S : Spc) (l : List (Cls × Slc)) (hw : HWf S (csO l)) (a : Int) : Gl.Spec ρ Tryz.prog 82 [.pointer (some ⟨p, 0, none⟩), i64 a] [RHp p S l] R1
    fun r M => r = (Ob.final S a).1 ∧ M = [RHp p (Ob.final S a).2 l] := by
  refine Spec.of (fun Q w hh => F.gloamingref9.Heap.Final.calls (some ⟨p, 0, none⟩) a hh) fun R => ?_
  unfold F.gloamingref9.Heap.Final
  try simp only [List.cons_append, List.nil_append]
  refine en_call (rh_head p S l hw a) tks ?_
  rintro x' M ⟨rfl, rfl⟩
  try simp only [List.cons_append, List.nil_append]
  refine en_nw fun b2 => ?_
  rw [zcHX]
  cases hh : Ob.head S a with
  | none =>
    have e : Ob.final S a = (2, S) := by unfold Ob.final; rw [hh]
    rw [e]
    simp only [Rf.hd]
    refine en_st (b := b2) (off := 0) rfl tk (by simp) rfl ?_
    refine en_ld (k := .bool) (b := b2) (off := 4) (x := false) (by rw [fa_mk]) tk rfl ?_
    refine en_brt rfl ?_
    exact en_rets (x := (2 : Int)) rfl ⟨rfl, rfl⟩ tks ens
  | some hd =>
    obtain ⟨n, w, rfl, _, _, g3, g4, g5⟩ := Ob.head_is hw hh
    have hb := Sp.mayH_is g3
    obtain ⟨k, c, ln, f⟩ := hd
    dsimp only at *
    have e0 : Ob.final S n = if k = 4 then (5, S) else if f = true then (4, S) else (0, ⟨S.ws.set n (Sp.putH ⟨k, c, ln, true⟩), S.pg⟩) := by unfold Ob.final; rw [hh, Int.toNat_natCast]
    simp only [Rf.hd]
    refine en_st (b := b2) (off := 0) rfl tk (by simp) rfl ?_
    refine en_ld (k := .bool) (b := b2) (off := 4) (x := true) (by rw [fa_mk]) tk rfl ?_
    refine en_brf rfl ?_
    refine en_ld (k := .int .i64) (b := b2) (off := 0) (x := k) (by rw [fa_mk, fa_mk]) tk rfl ?_
    refine en_br (fun h1 => ?_) (fun h1 => ?_)
    · rw [e0, if_pos (eq_of_beq h1)]
      exact en_rets (x := (5 : Int)) rfl ⟨rfl, rfl⟩ tks ens
    · have h1 : ¬ k = 4 := by simpa using h1
      rw [if_neg h1] at e0
      refine en_ld (k := .bool) (b := b2) (off := 3) (x := f) (by rw [fa_mk, fa_mk]) tk rfl ?_
      refine en_br (fun h2 => ?_) (fun h2 => ?_)
      · rw [e0, if_pos h2]
        exact en_rets (x := (4 : Int)) rfl ⟨rfl, rfl⟩ tks ens
      · rw [if_neg (by simp [h2])] at e0
        rw [e0]
        refine en_st (b := b2) (off := 3) (by rw [fa_mk, fa_mk]) tk (by simp [setL]) rfl ?_
        refine RHp.op tk fun ps s hs => RSpaceA.op tk fun sa sk sm sq ql hql => ?_
        refine Tr.take (A := blk b2 _) (.skip (.skip (.skip (.skip (.skip (.skip (.skip (.skip (.skip .here))))))))) ?_
        refine en_drw (en_held [blk p [.pointer (some ⟨ps, 0, none⟩), slv s], blk ps [slv sa, slv sk, slv sm, slv sq], blk b2 [i64 k, i64 c, i64 ln, .bool true, .bool true]] tks (en_nn ?_))
        refine en_ldS (k := .ptr) (b := p) (off := 0) (x := some ⟨ps, 0, none⟩) (by rw [fa_mk]) tk rfl (en_nn ?_)
        refine en_ldS (k := .slice) (b := ps) (off := 0) (x := sa) (by rw [fa_mk]) tk rfl ?_
        refine en_ldgS (b := b2) (x := (k, c, ln, true, ())) [.bool true] (by rw [fa_mk]) tk rfl ?_
        refine en_call (rf_puthead ⟨k, c, ln, true⟩ (Sp.mayH_f (h := ⟨k, c, ln, f⟩) g3 h1)) tks ?_
        rintro x' M ⟨rfl, rfl⟩
        try simp only [List.cons_append, List.nil_append]
        refine en_chk tks ?_
        refine en_setSL (s := sa) (xs := S.ws) tk (by omega) (by omega) ?_
        rw [Int.toNat_natCast]
        refine Tr.close tks (RSpaceA.cl (p := ps) (S := ⟨S.ws.set n (Sp.putH ⟨k, c, ln, true⟩), S.pg⟩) (a := sa) (k := sk) (m := sm) (q := sq) hql) ?_
        refine Tr.close tks (RHp.cl (p := p) (ps := ps) (S := ⟨S.ws.set n (Sp.putH ⟨k, c, ln, true⟩), S.pg⟩) (l := l) (s := s) hs) ?_
        exact en_rets (x := (0 : Int)) rfl ⟨rfl, rfl⟩ tks ens

/-- a part of an owned slice -/
theorem Rd.part {s : Slc} {xs : List Int} (t : Take L (SLc s 1 (xs.map i64)) L') {lo hi : Nat} (h1 : lo ≤ hi) (h2 : hi ≤ xs.length) : Rd ρ L ⟨if s.c = lo then s.a else s.a.map fun b => fa b (lo * 1), hi - lo, s.c - lo⟩ 1 (((xs.drop lo).take (hi - lo)).map i64) := by
  refine ⟨by simp; omega, fun w hw => ?_⟩
  by_cases he : hi = lo
  · left; dsimp only; omega
  rcases (hw.perm t.perm).sl with ⟨g1, g2, g3, g4, _⟩ | ⟨b, off, pre, rest, g1, g2, g3, g4, g5, g6⟩
  · have : xs.length = 0 := by have := congrArg List.length g4; simpa using this
    omega
  · right
    rw [List.length_map] at g3
    refine ⟨b, off + lo, by dsimp only; rw [if_neg (by omega), g1, Option.map_some, fa_mk, Nat.mul_one], fun i hi' => ?_⟩
    rw [List.length_map, List.length_take, List.length_drop] at hi'
    obtain ⟨ty, hb⟩ := g6.cl
    have hix : lo + i < xs.length := by omega
    have e1 : (((xs.drop lo).take (hi - lo)).map i64)[i]? = some (i64 (xs.getD (lo + i) 0)) := by
      rw [List.getElem?_map, List.getElem?_take, if_pos (by omega), List.getElem?_drop, List.getElem?_eq_getElem hix, List.getD_eq_getElem?_getD, List.getElem?_eq_getElem hix]; rfl
    rw [e1]
    refine cell_of hb ?_
    rw [List.getElem?_toArray, show off + lo + i = pre.length + (lo + i) by omega, mid_get (by simpa using hix)]
    exact getD_map hix

theorem words_eq {S : Spc} {cs : List Cls} (hw : HWf S cs) {n : Nat} {hd : Hd} (hh : Ob.head S n = some hd) : (List.range hd.n.toNat).map (fun i : Nat => (Ob.get S n i).1) = (S.ws.drop (n + 1)).take hd.n.toNat := by
  obtain ⟨m, w, e, _, _, g3, g4, g5⟩ := Ob.head_is hw hh
  have e : m = n := by omega
  subst e
  have hb := Sp.mayH_is g3
  refine ext_getD 0 (by simp; omega) fun i hi => ?_
  rw [List.length_map, List.length_range] at hi
  rw [List.getD_eq_getElem?_getD, List.getElem?_map, List.getElem?_range hi, Option.map_some, Option.getD_some, Ob.get_ok hh (by omega) (by omega)]
  dsimp only
  rw [show ((m : Int) + 1 + i).toNat = m + 1 + i by omega, List.getD_eq_getElem?_getD, List.getD_eq_getElem?_getD, List.getElem?_take, if_pos hi, List.getElem?_drop]

theorem rh_objects (p : Nat) (S : Spc) (l : List (Cls × Slc)) (hw : HWf S (csO l)) : Gl.Spec ρ Tryz.prog 31 [.pointer (some ⟨p, 0, none⟩)] [RHp p S l] RS
    fun r M => M = [ObsA r (Ob.objs S), RHp p S l] ∧ r.n = (Ob.objs S).length := by
  have hel := Sp.each_len hw.wf
  have hmost := hw.wf.most
  have hlen := hw.wf.len
  refine Spec.of (fun Q w' h => F.gloamingref9.Heap.Objects.calls (some ⟨p, 0, none⟩) h) fun R => ?_
  unfold F.gloamingref9.Heap.Objects
  try simp only [List.cons_append, List.nil_append]
  refine en_nn (RHp.op tk fun ps q hq => ?_)
  refine en_ld (k := .ptr) (b := p) (off := 0) (x := some ⟨ps, 0, none⟩) (by rw [fa_mk]) tk rfl ?_
  refine en_call (rf_each ps S hw.wf) tks ?_
  rintro s M rfl
  try simp only [List.cons_append, List.nil_append]
  refine Tr.close tks (RHp.cl (p := p) (ps := ps) (S := S) (l := l) (s := q) hq) ?_
  refine Tr.keepSL (s := s) tk fun ρ' hle hro => ?_
  have hsn := hro.len
  refine Tr.none ?_
  refine Tr.nilSL 6 ?_
  refine en_lp (fun m u M => (fun (t : Slc) (i : Int) => ∃ lo : List (Ob1 × Slc), M = SLc t 6 (lo.flatMap obCs) :: star (lo.map ObA) :: RHp p S l :: R ∧ 0 ≤ i ∧ i ≤ (Sp.each S).length ∧ m = (Sp.each S).length - i.toNat ∧ t.n = i.toNat ∧
      lo.map (·.1) = ((Sp.each S).take i.toNat).map (Ob.at1 S) ∧ ∀ x ∈ lo, x.2.n = x.1.ws.length) u.1 u.2.1) (Sp.each S).length ?_ ?_
  · exact ⟨[], rfl, by simp, by simp, by simp, rfl, by simp, by simp⟩
  · rintro m ⟨(t : Slc), (i : Int), ⟨⟩⟩ M ⟨lo, rfl, h0, h1, rfl, htn, hl, hln⟩ X hX
    dsimp only at *
    refine en_br (fun h => ?_) (fun h => ?_)
    · replace h : i < (s.n : Int) := of_decide_eq_true h
      have hi : i.toNat < (Sp.each S).length := by omega
      have hmem : (Sp.each S).getD i.toNat 0 ∈ Sp.each S := by rw [List.getD_eq_getElem?_getD, List.getElem?_eq_getElem hi]; exact List.getElem_mem hi
      have htk := take_succ_getD 0 hi
      have hgx : ∀ {ρ1 : FR} {L : List Asn} {Post : Value → List Asn → Prop} {f : Int → Tree} (M : List Asn), Tr ρ1 ρ' L (f ((Sp.each S).getD i.toNat 0)) Post → Tr ρ1 ρ' L (ix s.a s.n i 1 fun a => ldS (Sat ρ' M) (.l (.int .i64)) a f) Post := fun M h => en_getRoS hro h0 (by omega) h
      refine en_getRo hro h0 (by omega) ?_
      generalize (Sp.each S).getD i.toNat 0 = a at hmem htk hgx ⊢
      obtain ⟨n, rfl, hn, w, hf, w1, w2, w3⟩ := Sp.each_find hw.wf hmem
      obtain ⟨hd, hm, hwd, hfit⟩ := hw.obj n w hf
      have hb := Sp.mayH_is hm
      have hhd : Ob.head S n = some hd := by unfold Ob.head; rw [hf]; dsimp only; rw [if_pos rfl, hwd, Sp.getH_put hm]
      have hat : Ob.at1 S n = ⟨n, hd, (S.ws.drop (n + 1)).take hd.n.toNat⟩ := by unfold Ob.at1; rw [hhd]; dsimp only; rw [words_eq hw hhd]
      refine en_call (rh_head p S l hw (n : Int)) tks ?_
      rintro x' M ⟨rfl, rfl⟩
      try simp only [List.cons_append, List.nil_append]
      refine en_nw fun b9 => ?_
      rw [zcHX, hhd]
      simp only [Rf.hd]
      refine en_st (b := b9) (off := 0) rfl tk (by simp) rfl ?_
      refine RHp.op tk fun ps q hq => RSpaceA.op tk fun sa sk sm sq ql hql => ?_
      refine Tr.take (A := blk b9 _) (.skip (.skip (.skip (.skip (.skip (.skip (.skip (.skip (.skip .here))))))))) ?_
      refine en_drw (en_held [blk p [.pointer (some ⟨ps, 0, none⟩), slv q], blk ps [slv sa, slv sk, slv sm, slv sq], blk b9 [i64 hd.k, i64 hd.c, i64 hd.n, .bool hd.f, .bool true]] tks (hgx _ ?_))
      refine en_ldgS (b := b9) (x := (hd.k, hd.c, hd.n, hd.f, ())) [.bool true] (by rw [fa_mk]) tk rfl (en_nn ?_)
      refine en_ldS (k := .ptr) (b := p) (off := 0) (x := some ⟨ps, 0, none⟩) (by rw [fa_mk]) tk rfl (en_nn ?_)
      refine en_ldS (k := .slice) (b := ps) (off := 0) (x := sa) (by rw [fa_mk]) tk rfl (hgx _ (hgx _ ?_))
      refine en_ldS (k := .int .i64) (b := b9) (off := 2) (x := hd.n) (by rw [fa_mk, fa_mk]) tk rfl ?_
      obtain ⟨ln, hln2⟩ : ∃ ln : Nat, hd.n = ln := ⟨hd.n.toNat, by omega⟩
      rw [hln2] at hat hfit hb ⊢
      rw [Int.toNat_natCast] at hat
      rw [wrap64 (n := (n : Int) + 1) (by omega) (by omega), wrap64 (n := (n : Int) + 1 + (ln : Int)) (by omega) (by omega)]
      refine Tr.sl_len (s := sa) (m := 1) (xs := S.ws.map i64) tk fun hsa hsc => ?_
      rw [List.length_map, Nat.mul_one] at hsa
      refine en_slc (by omega) (by omega) (by omega) ?_
      rw [show ((n : Int) + 1).toNat = n + 1 by omega, show ((n : Int) + 1 + (ln : Int)).toNat = n + 1 + ln by omega]
      refine en_nw fun b24 => en_chk tks ?_
      refine Tr.imp (A' := SLc ⟨some ⟨b24, 0, none⟩, 0, 0⟩ 1 (([] : List Int).map i64)) .here (SLc.of_cl rfl) ?_
      have hrd := fun (L L' : List Asn) (t : Take L (SLc sa 1 (S.ws.map i64)) L') => Rd.part (ρ := ρ') t (lo := n + 1) (hi := n + 1 + ln) (by omega) (by omega)
      rw [show n + 1 + ln - (n + 1) = ln by omega] at hrd ⊢
      refine en_appS (s := ⟨some ⟨b24, 0, none⟩, 0, 0⟩) (x := ⟨if sa.c = n + 1 then sa.a else sa.a.map fun b => fa b ((n + 1) * 1), ln, sa.c - (n + 1)⟩) (xs := []) (ys := (S.ws.drop (n + 1)).take ln) appInt tk (hrd _ _ tk) (by simp; omega) fun r hr => ?_
      rw [List.nil_append]
      refine en_chk tks (en_nw fun b26 => ?_)
      refine en_app (s := t) (x := ⟨some ⟨b26, 0, none⟩, 1, 1⟩) (ys := [i64 n, i64 hd.k, i64 hd.c, i64 ln, .bool hd.f, .slice r.a r.n r.c]) appObj tk (Rd.cl tk rfl rfl) rfl (by rw [htn]; dsimp only; omega) (by rw [htn]; dsimp only; omega) fun r2 hr2 => ?_
      refine Tr.close tks (RSpaceA.cl (p := ps) (S := S) (a := sa) (k := sk) (m := sm) (q := sq) hql) ?_
      refine Tr.close tks (RHp.cl (p := p) (ps := ps) (S := S) (l := l) (s := q) hq) ?_
      refine Tr.imp (A := star (lo.map ObA)) (A' := star ((lo ++ ([] : List (Ob1 × Slc))).map ObA)) tk (by simp) ?_
      refine Tr.close (A := star ((lo ++ [(Ob.at1 S n, r)]).map ObA)) (M := [ObA (Ob.at1 S n, r), star ((lo ++ ([] : List (Ob1 × Slc))).map ObA)]) (by rw [hat]; exact tks) (fun h H => star_mid' h H) ?_
      have e2 : lo.flatMap obCs ++ [i64 n, i64 hd.k, i64 hd.c, i64 ln, .bool hd.f, .slice r.a r.n r.c] = (lo ++ [(Ob.at1 S n, r)]).flatMap obCs := by rw [List.flatMap_append, hat]; simp [obCs, hln2]
      rw [e2, wrap64 (n := i + 1) (by omega) (by omega)]
      refine Tr.drop (A := blk b26 _) tk (Tr.drop (A := blk b9 _) tk ?_)
      refine Tr.take (A := star ((lo ++ [(Ob.at1 S n, r)]).map ObA)) tk (Tr.take (A := SLc r2 6 ((lo ++ [(Ob.at1 S n, r)]).flatMap obCs)) tk ?_)
      refine hX ((Sp.each S).length - (i + 1).toNat) _ _ (by omega) ⟨lo ++ [(Ob.at1 S n, r)], rfl, by dsimp only; omega, by dsimp only; omega, rfl, by dsimp only; rw [hr2, htn]; show _ + 1 = _; omega, ?_, fun x hx => ?_⟩
      · dsimp only
        rw [show (i + 1).toNat = i.toNat + 1 by omega, htk, List.map_append, List.map_append, hl]; rfl
      · rcases List.mem_append.mp hx with hx | hx
        · exact hln x hx
        · simp at hx; subst hx
          rw [hat]; dsimp only
          rw [hr]; simp
    · replace h : ¬ i < (s.n : Int) := of_decide_eq_false h
      rw [List.take_of_length_le (by omega)] at hl
      have htl : t.n = (Ob.objs S).length := by rw [objs_len]; omega
      refine Tr.close (A := ObsA t (Ob.objs S)) (M := [SLc t 6 (lo.flatMap obCs), star (lo.map ObA)]) tks (ObsA.cl htl hl hln) ?_
      exact en_rets (x := t) rfl ⟨rfl, htl⟩ tks ens

theorem same_objs (s1 s2 : Slc) (os : List Ob1) (r1 : RoObs ρ s1 os) (r2 : RoObs ρ s2 os) (hb : ∀ o ∈ os, o.ws.length < 2 ^ 40) (hl : os.length < 2 ^ 40) : Gl.Spec ρ Tryz.prog 29 [slv s1, slv s2] [] RB
    fun r M => r = true ∧ M = [] := by
  refine Spec.of (fun Q w' h => F.gloamingref9.SameObjs.calls s1 s2 h) fun R => ?_
  unfold F.gloamingref9.SameObjs
  try simp only [List.cons_append, List.nil_append]
  obtain ⟨n1, l1, e1, g1, q1⟩ := r1
  obtain ⟨n2, l2, e2, g2, q2⟩ := r2
  refine en_brf (by rw [n1, n2]; simp) ?_
  refine en_lp (fun m u M => (fun (i : Int) => M = R ∧ 0 ≤ i ∧ i ≤ os.length ∧ m = os.length - i.toNat) u.1) os.length ?_ ?_
  · exact ⟨rfl, by simp, by dsimp only; omega, by simp⟩
  · rintro m ⟨(i : Int), ⟨⟩⟩ M ⟨rfl, i0, i1, rfl⟩ X hX
    dsimp only at *
    refine en_br (fun h => ?_) (fun h => ?_)
    · replace h : i < (s1.n : Int) := of_decide_eq_true h
      have hi : i.toNat < os.length := by omega
      have hl1 : l1.length = os.length := by rw [← e1]; simp
      have hl2 : l2.length = os.length := by rw [← e2]; simp
      have x1 : l1[i.toNat]? = some (os[i.toNat], l1[i.toNat].2) := by
        rw [List.getElem?_eq_getElem (by omega)]; congr 1
        refine Prod.ext ?_ rfl
        have := List.getElem_map (·.1) (l := l1) (i := i.toNat) (h := by simp; omega)
        rw [← this]; simp only [e1]
      have x2 : l2[i.toNat]? = some (os[i.toNat], l2[i.toNat].2) := by
        rw [List.getElem?_eq_getElem (by omega)]; congr 1
        refine Prod.ext ?_ rfl
        have := List.getElem_map (·.1) (l := l2) (i := i.toNat) (h := by simp; omega)
        rw [← this]; simp only [e2]
      have hbo := hb _ (List.getElem_mem hi)
      generalize os[i.toNat] = o at *
      generalize l1[i.toNat].2 = c1 at *
      generalize l2[i.toNat].2 = c2 at *
      have k1 := fun e (he : e < 6) => flat_get (g := obCs) (m := 6) (fun _ => rfl) x1 he
      have k2 := fun e (he : e < 6) => flat_get (g := obCs) (m := 6) (fun _ => rfl) x2 he
      have p1 := q1 _ (List.mem_of_getElem? x1)
      have p2 := q2 _ (List.mem_of_getElem? x2)
      have hg : ∀ (lo : List (Ob1 × Slc)) (c : Slc), (∀ e, e < 6 → (lo.flatMap obCs)[i.toNat * 6 + e]? = (obCs (o, c))[e]?) → ∀ e v, (vals HL o.h.t)[e]? = some v → (lo.flatMap obCs)[i.toNat * 6 + 1 + 0 + e]? = some v := fun lo c hc e v he => by
        have hlt : e < 4 := getElem?_lt he
        rw [show i.toNat * 6 + 1 + 0 + e = i.toNat * 6 + (1 + e) by omega, hc (1 + e) (by omega)]
        have : e = 0 ∨ e = 1 ∨ e = 2 ∨ e = 3 := by omega
        rcases this with e' | e' | e' | e' <;> subst e' <;> exact he
      refine en_drw (en_ixRo g1 i0 (by omega) fun a0 ha => ?_)
      refine en_ldRo (k := .int .i64) (j := i.toNat * 6 + 0) (x := o.a) ha g1 (by rintro b o rfl; simp [fa_mk]) (by rw [k1 0 (by decide)]; rfl) ?_
      refine en_ixRo g2 i0 (by omega) fun a1 ha1 => ?_
      refine en_ldRo (k := .int .i64) (j := i.toNat * 6 + 0) (x := o.a) ha1 g2 (by rintro b o rfl; simp [fa_mk]) (by rw [k2 0 (by decide)]; rfl) ?_
      refine en_brf (by simp) ?_
      refine en_ixRo g1 i0 (by omega) fun a0 ha => ?_
      refine en_ldRg (x := o.h.t) ha g1 (j := i.toNat * 6 + 1) (by rintro b o rfl; simp [fa_mk, Nat.add_assoc]) (hg _ _ k1) ?_
      refine en_ixRo g2 i0 (by omega) fun a0 ha => ?_
      refine en_ldRg (x := o.h.t) ha g2 (j := i.toNat * 6 + 1) (by rintro b o rfl; simp [fa_mk, Nat.add_assoc]) (hg _ _ k2) ?_
      refine en_brf (by simp) ?_
      refine en_ixRo g1 i0 (by omega) fun a0 ha => ?_
      refine en_ldRo (k := .slice) (j := i.toNat * 6 + 5) (x := c1) ha g1 (by rintro b o rfl; simp [fa_mk, Nat.add_assoc]) (by rw [k1 5 (by decide)]; rfl) ?_
      refine en_ixRo g2 i0 (by omega) fun a0 ha => ?_
      refine en_ldRo (k := .slice) (j := i.toNat * 6 + 5) (x := c2) ha g2 (by rintro b o rfl; simp [fa_mk, Nat.add_assoc]) (by rw [k2 5 (by decide)]; rfl) ?_
      refine en_call (same_ints c1 c2 o.ws o.ws p1.1 p2.1 (by omega)) .nil ?_
      rintro x' M ⟨rfl, rfl⟩
      try simp only [List.cons_append, List.nil_append]
      refine en_brf (by simp) ?_
      rw [wrap64 (n := i + 1) (by omega) (by omega)]
      exact hX (os.length - (i + 1).toNat) _ _ (by omega) ⟨rfl, by dsimp only; omega, by dsimp only; omega, rfl⟩
    · exact en_rets (x := true) rfl ⟨rfl, rfl⟩ tks ens

theorem rh_dead (p : Nat) (S : Spc) (l : List (Cls × Slc)) (hw : HWf S (csO l)) (s : Slc) (live : List Int) (ro : RoS ρ s 1 (live.map i64)) (hl : live.length < 2 ^ 40) : Gl.Spec ρ Tryz.prog 25 [.pointer (some ⟨p, 0, none⟩), slv s] [RHp p S l] RS
    fun r M => M = [SLc r 1 ((Sw.dead S live).map i64), RHp p S l] := by
  have hel := Sp.each_len hw.wf
  refine Spec.of (fun Q w' h => F.gloamingref9.Dead.calls (some ⟨p, 0, none⟩) s h) fun R => ?_
  unfold F.gloamingref9.Dead
  try simp only [List.cons_append, List.nil_append]
  refine en_nn (RHp.op tk fun ps q hq => ?_)
  refine en_ld (k := .ptr) (b := p) (off := 0) (x := some ⟨ps, 0, none⟩) (by rw [fa_mk]) tk rfl ?_
  refine en_call (rf_each ps S hw.wf) tks ?_
  rintro e M rfl
  try simp only [List.cons_append, List.nil_append]
  refine Tr.close tks (RHp.cl (p := p) (ps := ps) (S := S) (l := l) (s := q) hq) ?_
  refine Tr.keepSL (s := e) tk fun ρ' hle hro => ?_
  have hen := hro.len
  refine Tr.nilSL 1 ?_
  refine en_lp (fun m u M => (fun (t : Slc) (i : Int) => M = SLc t 1 ((((Sp.each S).take i.toNat).filter fun a => decide (a ∉ live)).map i64) :: RHp p S l :: R ∧ 0 ≤ i ∧ i ≤ (Sp.each S).length ∧ m = (Sp.each S).length - i.toNat) u.1 u.2.1) (Sp.each S).length ?_ ?_
  · exact ⟨rfl, by simp, by dsimp only; omega, by simp⟩
  · rintro m ⟨(t : Slc), (i : Int), ⟨⟩⟩ M ⟨rfl, i0, i1, rfl⟩ X hX
    dsimp only at *
    refine en_br (fun h => ?_) (fun h => ?_)
    · replace h : i < (e.n : Int) := of_decide_eq_true h
      have hi : i.toNat < (Sp.each S).length := by omega
      have ht : (Sp.each S).take (i + 1).toNat = (Sp.each S).take i.toNat ++ [(Sp.each S).getD i.toNat 0] := by rw [show (i + 1).toNat = i.toNat + 1 by omega, take_succ_getD 0 hi]
      refine en_getRo hro i0 (by omega) ?_
      refine en_call (ref_in s live (ro.le hle) (by omega) ((Sp.each S).getD i.toNat 0)) .nil ?_
      rintro x' M ⟨rfl, rfl⟩
      try simp only [List.cons_append, List.nil_append]
      rw [wrap64 (n := i + 1) (by omega) (by omega)]
      have hfl := List.length_filter_le (fun a => decide (a ∉ live)) ((Sp.each S).take i.toNat)
      have htl := List.length_take_le i.toNat (Sp.each S)
      refine en_br (fun h2 => ?_) (fun h2 => ?_)
      · have h2 : (Sp.each S).getD i.toNat 0 ∉ live := by simpa using h2
        refine en_getRo hro i0 (by omega) ?_
        refine en_appI (s := t) (xs := ((Sp.each S).take i.toNat).filter fun a => decide (a ∉ live)) appInt tk (by omega) fun r hr => ?_
        refine hX ((Sp.each S).length - (i + 1).toNat) _ _ (by omega) ⟨?_, by dsimp only; omega, by dsimp only; omega, rfl⟩
        dsimp only
        rw [ht, List.filter_append, List.filter_cons_of_pos (p := fun a => decide (a ∉ live)) (decide_eq_true h2), List.filter_nil]
      · have h2 : (Sp.each S).getD i.toNat 0 ∈ live := by simpa using h2
        refine hX ((Sp.each S).length - (i + 1).toNat) _ _ (by omega) ⟨?_, by dsimp only; omega, by dsimp only; omega, rfl⟩
        dsimp only
        rw [ht, List.filter_append, List.filter_cons_of_neg (p := fun a => decide (a ∉ live)) (by rw [decide_eq_true_iff]; exact fun g => g h2), List.filter_nil, List.append_nil]
    · replace h : ¬ i < (e.n : Int) := of_decide_eq_false h
      rw [List.take_of_length_le (by omega)]
      exact en_rets (x := t) rfl rfl tks ens

theorem rh_sweep (p : Nat) (S : Spc) (l : List (Cls × Slc)) (hw : HWf S (csO l)) (s : Slc) (live : List Int) (ro : RoS ρ s 1 (live.map i64)) (hl : live.length < 2 ^ 40) : Gl.Spec ρ Tryz.prog 27 [.pointer (some ⟨p, 0, none⟩), slv s] [RHp p S l] R1
    fun r M => r = ((Sw.dead S live).length : Nat) ∧ M = [RHp p (Sw.sweep S live) l] := by
  have hel := Sp.each_len hw.wf
  refine Spec.of (fun Q w' h => F.gloamingref9.Sweep.calls (some ⟨p, 0, none⟩) s h) fun R => ?_
  unfold F.gloamingref9.Sweep
  try simp only [List.cons_append, List.nil_append]
  refine en_call (rh_dead p S l hw s live ro hl) tks ?_
  rintro e M rfl
  try simp only [List.cons_append, List.nil_append]
  refine Tr.keepSL (s := e) tk fun ρ' hle hro => ?_
  have hdl : (Sw.dead S live).length ≤ (Sp.each S).length := List.length_filter_le _ _
  obtain ⟨hd1, hd2⟩ := Sw.dead_ok hw.wf live
  unfold Sw.sweep
  generalize Sw.dead S live = d at *
  have hen := hro.len
  refine en_lp (fun m u M => (fun (i : Int) => M = RHp p (Sw.frees S (d.take i.toNat)) l :: R ∧ 0 ≤ i ∧ i ≤ d.length ∧ m = d.length - i.toNat) u.1) d.length ?_ ?_
  · exact ⟨rfl, by simp, by dsimp only; omega, by simp⟩
  · rintro m ⟨(n : Int), ⟨⟩⟩ M ⟨rfl, i0, i1, rfl⟩ X hX
    dsimp only at *
    refine en_br (fun h => ?_) (fun h => ?_)
    · replace h : n < (e.n : Int) := of_decide_eq_true h
      have hi : n.toNat < d.length := by omega
      have hF := Sw.frees_ok hw hd1 hd2 n.toNat (by omega)
      have ht : d.take (n + 1).toNat = d.take n.toNat ++ [d.getD n.toNat 0] := by rw [show (n + 1).toNat = n.toNat + 1 by omega, take_succ_getD 0 hi]
      refine en_drw (en_nn (RHp.op tk fun ps q hq => ?_))
      refine en_ld (k := .ptr) (b := p) (off := 0) (x := some ⟨ps, 0, none⟩) (by rw [fa_mk]) tk rfl ?_
      refine en_getRo hro i0 (by omega) ?_
      refine en_call (rf_free ps (Sw.frees S (d.take n.toNat)) hF.hw.wf (d.getD n.toNat 0)) tks ?_
      rintro x' M ⟨rfl, rfl⟩
      try simp only [List.cons_append, List.nil_append]
      refine Tr.close tks (RHp.cl (p := p) (ps := ps) (S := (Sp.freeS (Sw.frees S (d.take n.toNat)) (d.getD n.toNat 0)).2) (l := l) (s := q) hq) ?_
      rw [wrap64 (n := n + 1) (by omega) (by omega)]
      refine hX (d.length - (n + 1).toNat) _ _ (by omega) ⟨?_, by dsimp only; omega, by dsimp only; omega, rfl⟩
      dsimp only
      rw [ht, Sw.frees_snoc]
    · replace h : ¬ n < (e.n : Int) := of_decide_eq_false h
      rw [List.take_of_length_le (by omega)]
      refine en_rets (x := ((d.length : Nat) : Int)) ?_ ⟨rfl, rfl⟩ tks ens
      rw [hen]; rfl

end Go.Proofs.YtapchggmifbfoaaGreat
