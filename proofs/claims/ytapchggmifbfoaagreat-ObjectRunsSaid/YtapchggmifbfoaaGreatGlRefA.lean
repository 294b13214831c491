/- The document's answer for bits and spaces: what it holds, and contracts. -/
import Derived.Test.YtapchggmifbfoaaGreatGlRef1
import Derived.Test.YtapchggmifbfoaaGreatGlEz
set_option linter.unusedSimpArgs false
set_option linter.unusedVariables false
namespace Go.Proofs.YtapchggmifbfoaaGreat
open Go Go.Gl
variable {ρ0 ρ : FR} {L L' : List Asn} {Post : Value → List Asn → Prop} {T : Tree}

abbrev slv (q : Slc) : Value := .slice q.a q.n q.c
abbrev nilS : Slc := ⟨none, 0, 0⟩
theorem _root_.Go.Gl.Tr.vlen {s : Slc} {xs : List Value} (t : Take L (SLc s 1 xs) L') (h : s.n = xs.length → Tr ρ0 ρ L T Post) : Tr ρ0 ρ L T Post :=
  Tr.sl_len t fun h1 _ => h (by simpa using h1.symm)
theorem getD_mapv {α : Type} {f : α → Value} {xs : List α} {i : Nat} (d : α) (h : i < xs.length) : (xs.map f)[i]? = some (f (xs.getD i d)) := by
  rw [List.getElem?_map, List.getElem?_eq_getElem h, List.getD_eq_getElem?_getD, List.getElem?_eq_getElem h]; rfl
theorem en_getB {s : Slc} {xs : List Bool} {i : Int} {f : Bool → Tree} (t : Take L (SLc s 1 (xs.map bv)) L') (h0 : 0 ≤ i) (h1 : i < xs.length) (h : Tr ρ0 ρ L (f (xs.getD i.toNat false)) Post) :
    Tr ρ0 ρ L (ix s.a s.n i 1 fun a => ld (.l .bool) a f) Post := by
  refine Tr.vlen t fun hn => ?_
  rw [List.length_map] at hn
  refine en_ixSL t h0 (by omega) fun a0 ha => ?_
  exact en_ldSL (k := .bool) (j := i.toNat) (x := xs.getD i.toNat false) ha t (by rintro b o rfl; simp [fa_mk]) (getD_bv (by omega)) h
theorem en_setB {s : Slc} {xs : List Bool} {i : Int} {v : Bool} {k : Tree} (t : Take L (SLc s 1 (xs.map bv)) L') (h0 : 0 ≤ i) (h1 : i < xs.length) (h : Tr ρ0 ρ (SLc s 1 ((xs.set i.toNat v).map bv) :: L') k Post) :
    Tr ρ0 ρ L (ix s.a s.n i 1 fun a => st a [.bool v] k) Post := by
  refine Tr.vlen t fun hn => ?_
  rw [List.length_map] at hn
  refine en_ixSL t h0 (by omega) fun a0 ha => ?_
  refine en_stSL (j := i.toNat) ha t (by rintro b o rfl; simp [fa_mk]) (by simp; omega) rfl ?_
  rw [show setL (xs.map bv) i.toNat [.bool v] = (xs.set i.toNat v).map bv by simp [setL, List.map_set]]
  exact h
theorem en_getQ {s : Slc} {xs : List Slc} {i : Int} {f : Slc → Tree} (t : Take L (SLc s 1 (xs.map slv)) L') (h0 : 0 ≤ i) (h1 : i < xs.length) (h : Tr ρ0 ρ L (f (xs.getD i.toNat nilS)) Post) :
    Tr ρ0 ρ L (ix s.a s.n i 1 fun a => ld (.l .slice) a f) Post := by
  refine Tr.vlen t fun hn => ?_
  rw [List.length_map] at hn
  refine en_ixSL t h0 (by omega) fun a0 ha => ?_
  exact en_ldSL (k := .slice) (j := i.toNat) (x := xs.getD i.toNat nilS) ha t (by rintro b o rfl; simp [fa_mk]) (getD_mapv nilS (by omega)) h
theorem en_setQ {s v : Slc} {xs : List Slc} {i : Int} {k : Tree} (t : Take L (SLc s 1 (xs.map slv)) L') (h0 : 0 ≤ i) (h1 : i < xs.length) (h : Tr ρ0 ρ (SLc s 1 ((xs.set i.toNat v).map slv) :: L') k Post) :
    Tr ρ0 ρ L (ix s.a s.n i 1 fun a => st a [.slice v.a v.n v.c] k) Post := by
  refine Tr.vlen t fun hn => ?_
  rw [List.length_map] at hn
  refine en_ixSL t h0 (by omega) fun a0 ha => ?_
  refine en_stSL (j := i.toNat) ha t (by rintro b o rfl; simp [fa_mk]) (by simp; omega) rfl ?_
  rw [show setL (xs.map slv) i.toNat [.slice v.a v.n v.c] = (xs.set i.toNat v).map slv by simp [setL, List.map_set]]
  exact h

theorem ext_getD {α : Type} {l l' : List α} (d : α) (hl : l.length = l'.length) (h : ∀ j, j < l.length → l.getD j d = l'.getD j d) : l = l' := by
  refine List.ext_getElem hl fun j h1 h2 => ?_
  have := h j h1
  rw [List.getD_eq_getElem?_getD, List.getD_eq_getElem?_getD, List.getElem?_eq_getElem h1, List.getElem?_eq_getElem h2] at this
  exact this
theorem _root_.Go.Gl.Sat.sub {L M R : List Asn} {w : World} (t : Takes L M R) (h : Sat ρ L w) : Sat ρ M w := ((h.perm t.perm).perm List.perm_append_comm).dropL
theorem en_getSLS {M M' : List Asn} {s : Slc} {xs : List Int} {i : Int} {f : Int → Tree} (t0 : Take L (SLc s 1 (xs.map i64)) L') (t : Take M (SLc s 1 (xs.map i64)) M') (h0 : 0 ≤ i) (h1 : i < xs.length) (h : Tr ρ0 ρ L (f (xs.getD i.toNat 0)) Post) :
    Tr ρ0 ρ L (ix s.a s.n i 1 fun a => ldS (Sat ρ M) (.l (.int .i64)) a f) Post := by
  refine Tr.nlen t0 fun hn => ?_
  refine en_ixSL t0 h0 (by omega) fun a0 ha => ?_
  intro hle w hw
  refine ⟨xs.getD i.toNat 0, fun w' hw' => ?_, h hle w hw⟩
  rcases (hw'.perm t.perm).sl with ⟨g1, _⟩ | ⟨b, off, pre, rest, g1, g2, g3, g4, g5, g6⟩
  · rw [ha] at g1; cases g1
  · rw [ha] at g1
    injection g1 with g1
    obtain ⟨ty, hb⟩ := g6.cl
    rw [g1, fa_mk, Nat.mul_one]
    refine cell_of hb ?_
    rw [List.getElem?_toArray, ← g2, mid_get (by simp; omega)]
    exact getD_map (by omega)
/-! ### bits -/
theorem rf_next (s : Slc) (l : List Bool) (is : Bool) (hl : l.length ≤ 16384) : Gl.Spec ρ Tryz.prog 158 [slv s, i64 0, bv is] [SLc s 1 (l.map bv)] R1 fun r M => r = Sp.next l 0 is ∧ M = [SLc s 1 (l.map bv)] := by
  refine Spec.of (fun Q w h => F.gloamingref1.Bits.Next.calls s 0 is h) fun R => ?_
  unfold F.gloamingref1.Bits.Next
  try simp only [List.cons_append, List.nil_append]
  refine Tr.vlen (s := s) tk fun hn => ?_
  rw [List.length_map] at hn
  refine en_lp (fun n u M => (fun i : Int => M = SLc s 1 (l.map bv) :: R ∧ 0 ≤ i ∧ n = l.length - i.toNat ∧ Sp.nextN l is n i.toNat = Sp.next l 0 is) u.1) l.length ?_ ?_
  · exact ⟨rfl, by decide, rfl, rfl⟩
  · rintro n ⟨(i : Int), ⟨⟩⟩ M ⟨rfl, h0, rfl, hN⟩ X hX
    dsimp only at *
    refine en_br (fun h => ?_) (fun h => ?_)
    · replace h : i < (s.n : Int) := of_decide_eq_true h
      obtain ⟨k, hk⟩ : ∃ k, l.length - i.toNat = k + 1 := ⟨l.length - i.toNat - 1, by omega⟩
      rw [hk] at hN hX
      unfold Sp.nextN at hN
      refine en_getB tk h0 (by omega) ?_
      refine en_br (fun h2 => ?_) (fun h2 => ?_)
      · rw [if_pos ⟨by omega, eq_of_beq h2⟩] at hN
        refine en_rets (x := Sp.next l 0 is) ?_ ⟨rfl, rfl⟩ tks ens
        rw [← hN]; simp [RK.val, KD.val, LK.val]; omega
      · rw [if_neg (by rintro ⟨_, h3⟩; rw [h3] at h2; simp at h2)] at hN
        rw [wrap64 (n := i + 1) (by omega) (by omega)]
        refine hX k _ _ (by omega) ⟨rfl, by dsimp only; omega, by dsimp only; omega, ?_⟩
        rw [← hN]; dsimp only; congr 1; omega
    · replace h : ¬ i < (s.n : Int) := of_decide_eq_false h
      rw [show l.length - i.toNat = 0 by omega] at hN
      refine en_rets (x := Sp.next l 0 is) ?_ ⟨rfl, rfl⟩ tks ens
      rw [← hN]; rfl

theorem count_take1 {l : List Bool} {k : Nat} (hk : k < l.length) : (l.take (k + 1)).count true = (l.take k).count true + if l.getD k false then 1 else 0 := by
  rw [take_succ_getD false hk, List.count_append]
  cases l.getD k false <;> simp
theorem rf_count (s : Slc) (l : List Bool) (hl : l.length ≤ 16384) : Gl.Spec ρ Tryz.prog 125 [slv s] [SLc s 1 (l.map bv)] R1 fun r M => r = (l.count true : Nat) ∧ M = [SLc s 1 (l.map bv)] := by
  refine Spec.of (fun Q w h => F.gloamingref1.Bits.Count.calls s h) fun R => ?_
  unfold F.gloamingref1.Bits.Count
  try simp only [List.cons_append, List.nil_append]
  refine Tr.vlen (s := s) tk fun hn => ?_
  rw [List.length_map] at hn
  refine en_lp (fun n u M => (fun c i : Int => M = SLc s 1 (l.map bv) :: R ∧ 0 ≤ i ∧ i ≤ l.length ∧ n = l.length - i.toNat ∧ c = ((l.take i.toNat).count true : Nat)) u.1 u.2.1) l.length ?_ ?_
  · exact ⟨rfl, by decide, by dsimp only; omega, rfl, rfl⟩
  · rintro n ⟨(c : Int), (i : Int), ⟨⟩⟩ M ⟨rfl, h0, h1, rfl, hc⟩ X hX
    dsimp only at *
    subst hc
    refine en_br (fun h => ?_) (fun h => ?_)
    · replace h : i < (s.n : Int) := of_decide_eq_true h
      refine en_getB tk h0 (by omega) ?_
      have hct := count_take1 (l := l) (k := i.toNat) (by omega)
      have hle := List.count_le_length (a := true) (l := l.take i.toNat)
      have hlt := List.length_take_le i.toNat l
      rw [wrap64 (n := i + 1) (by omega) (by omega), wrap64 (n := (((l.take i.toNat).count true : Nat) : Int) + 1) (by omega) (by omega)]
      refine en_br (fun h2 => ?_) (fun h2 => ?_)
      · rw [h2] at hct
        exact hX (l.length - (i + 1).toNat) _ _ (by omega) ⟨rfl, by dsimp only; omega, by dsimp only; omega, rfl, by dsimp only; rw [show (i + 1).toNat = i.toNat + 1 by omega, hct]; rfl⟩
      · rw [h2] at hct
        exact hX (l.length - (i + 1).toNat) _ _ (by omega) ⟨rfl, by dsimp only; omega, by dsimp only; omega, rfl, by dsimp only; rw [show (i + 1).toNat = i.toNat + 1 by omega, hct]; rfl⟩
    · replace h : ¬ i < (s.n : Int) := of_decide_eq_false h
      rw [List.take_of_length_le (by omega)]
      exact en_rets (x := ((l.count true : Nat) : Int)) rfl ⟨rfl, rfl⟩ tks ens

theorem rf_clear (s : Slc) (l : List Bool) (i k : Nat) (hik : i + k ≤ l.length) (hl : l.length ≤ 16384) : Gl.Spec ρ Tryz.prog 178 [slv s, i64 i, i64 k] [SLc s 1 (l.map bv)] RB
    fun r M => r = Sp.clearAt l i k ∧ M = [SLc s 1 (l.map bv)] := by
  refine Spec.of (fun Q w h => F.gloamingref1.Bits.clear.calls s i k h) fun R => ?_
  unfold F.gloamingref1.Bits.clear
  try simp only [List.cons_append, List.nil_append]
  rw [wrap64 (n := (i : Int) + k) (by omega) (by omega)]
  refine en_lp (fun n u M => (fun j : Int => M = SLc s 1 (l.map bv) :: R ∧ i ≤ j ∧ j ≤ i + k ∧ n = i + k - j.toNat ∧ ∀ x : Nat, i ≤ x → x < j.toNat → l.getD x false = false) u.1) k ?_ ?_
  · exact ⟨rfl, by dsimp only; omega, by dsimp only; omega, by dsimp only; omega, fun x h1 h2 => by dsimp only at h2; omega⟩
  · rintro n ⟨(j : Int), ⟨⟩⟩ M ⟨rfl, h0, h1, rfl, hx⟩ X hX
    dsimp only at *
    refine en_br (fun h => ?_) (fun h => ?_)
    · replace h : j < (i : Int) + k := of_decide_eq_true h
      refine en_getB (xs := l) tk (by omega) (by omega) ?_
      refine en_br (fun h2 => ?_) (fun h2 => ?_)
      · have : Sp.clearAt l i k = false := by
          cases hc : Sp.clearAt l i k with
          | false => rfl
          | true => rw [Sp.clearAt_iff.mp hc j.toNat (by omega) (by omega)] at h2; cases h2
        rw [this]
        exact en_rets (x := false) rfl ⟨rfl, rfl⟩ tks ens
      · rw [wrap64 (n := j + 1) (by omega) (by omega)]
        refine hX (i + k - (j + 1).toNat) _ _ (by omega) ⟨rfl, by dsimp only; omega, by dsimp only; omega, rfl, fun x g1 g2 => ?_⟩
        dsimp only at g2
        rcases Nat.lt_or_ge x j.toNat with c | c
        · exact hx x g1 c
        · have : x = j.toNat := by omega
          rw [this]; exact h2
    · replace h : ¬ j < (i : Int) + k := of_decide_eq_false h
      have : Sp.clearAt l i k = true := Sp.clearAt_iff.mpr fun x g1 g2 => hx x g1 (by omega)
      rw [this]
      exact en_rets (x := true) rfl ⟨rfl, rfl⟩ tks ens

theorem rf_run (s : Slc) (l : List Bool) (k : Nat) (hk : 1 ≤ k) (hk2 : k < 10000) (hl : l.length ≤ 16384) : Gl.Spec ρ Tryz.prog 156 [slv s, i64 0, i64 k] [SLc s 1 (l.map bv)] R1
    fun r M => r = Sp.oI (Sp.run l k) ∧ M = [SLc s 1 (l.map bv)] := by
  refine Spec.of (fun Q w h => F.gloamingref1.Bits.Run.calls s 0 k h) fun R => ?_
  unfold F.gloamingref1.Bits.Run
  try simp only [List.cons_append, List.nil_append]
  refine Tr.vlen (s := s) tk fun hn => ?_
  rw [List.length_map] at hn
  refine en_brf (decide_eq_false (by omega)) (en_br (fun h => ?_) (fun h => ?_))
  · replace h : (k : Int) > (s.n : Nat) := of_decide_eq_true h
    rw [Sp.run_none fun j hj => by omega]
    exact en_rets (x := (-1 : Int)) rfl ⟨rfl, rfl⟩ tks ens
  · replace h : ¬ (k : Int) > (s.n : Nat) := of_decide_eq_false h
    rw [wrap64 (n := ((s.n : Nat) : Int) - k) (by omega) (by omega)]
    refine en_lp (fun n u M => (fun i : Int => M = SLc s 1 (l.map bv) :: R ∧ 0 ≤ i ∧ i ≤ l.length - k + 1 ∧ n = l.length + 1 - i.toNat ∧ ∀ j : Nat, j < i.toNat → Sp.clearAt l j k = false) u.1) (l.length + 1) ?_ ?_
    · exact ⟨rfl, by decide, by simp; omega, rfl, fun j hj => by simp at hj⟩
    · rintro n ⟨(i : Int), ⟨⟩⟩ M ⟨rfl, h0, h1, rfl, hx⟩ X hX
      dsimp only at *
      refine en_br (fun h2 => ?_) (fun h2 => ?_)
      · replace h2 : i ≤ ((s.n : Nat) : Int) - k := of_decide_eq_true h2
        obtain ⟨m, rfl⟩ := Int.eq_ofNat_of_zero_le h0
        refine en_call (rf_clear s l m k (by omega) hl) tks ?_
        rintro x' M ⟨rfl, rfl⟩
        try simp only [List.cons_append, List.nil_append]
        refine en_br (fun h3 => ?_) (fun h3 => ?_)
        · rw [Sp.run_some (by omega) h3 (fun j hj => hx j (by omega))]
          exact en_rets (x := (m : Int)) rfl ⟨rfl, rfl⟩ tks ens
        · rw [wrap64 (n := (m : Int) + 1) (by omega) (by omega)]
          refine hX (l.length + 1 - ((m : Int) + 1).toNat) _ _ (by omega) ⟨rfl, by dsimp only; omega, by dsimp only; omega, rfl, fun j hj => ?_⟩
          dsimp only at hj
          rcases Nat.lt_or_ge j m with c | c
          · exact hx j (by omega)
          · have : j = m := by omega
            rw [this]; exact h3
      · replace h2 : ¬ i ≤ ((s.n : Nat) : Int) - k := of_decide_eq_false h2
        rw [Sp.run_none fun j hj => hx j (by omega)]
        exact en_rets (x := (-1 : Int)) rfl ⟨rfl, rfl⟩ tks ens

/-! ### what a space holds -/
def Pg.bits : Pg → List Bool | .small _ l => l | _ => []
def Pg.kind : Pg → Int | .res => -1 | .free => 0 | .small c _ => c + 1 | .head _ => 6 | .tail => 7
def Pg.many : Pg → Int | .head k => k | _ => 0
def BkA (x : List Bool × Slc) : Asn := SLc x.2 1 (x.1.map bv)
theorem zip_at {bl : List (List Bool)} {ql : List Slc} {i : Nat} (hl : ql.length = bl.length) (hi : i < bl.length) : bl.zip ql = (bl.zip ql).take i ++ (bl.getD i [], ql.getD i nilS) :: (bl.zip ql).drop (i + 1) := by
  have hz : i < (bl.zip ql).length := by simp; omega
  conv => lhs; rw [← List.take_append_drop i (bl.zip ql), List.drop_eq_getElem_cons hz]
  congr 2
  rw [List.getElem_zip, List.getD_eq_getElem?_getD, List.getD_eq_getElem?_getD, List.getElem?_eq_getElem hi, List.getElem?_eq_getElem (by omega)]; rfl
theorem zip_set {bl : List (List Bool)} {ql : List Slc} {i : Nat} (hl : ql.length = bl.length) (hi : i < bl.length) (b : List Bool) (q : Slc) : (bl.set i b).zip (ql.set i q) = (bl.zip ql).take i ++ (b, q) :: (bl.zip ql).drop (i + 1) := by
  have hz : i < (bl.zip ql).length := by simp; omega
  have e : (bl.set i b).zip (ql.set i q) = (bl.zip ql).set i (b, q) := by
    refine List.ext_getElem (by simp) fun j h1 h2 => ?_
    rw [List.getElem_zip, List.getElem_set, List.getElem_set, List.getElem_set]
    by_cases hj : i = j
    · simp [hj]
    · simp [hj]
  rw [e, List.set_eq_take_append_cons_drop, if_pos hz]
theorem bk_at {bl : List (List Bool)} {ql : List Slc} {i : Nat} (hl : ql.length = bl.length) (hi : i < bl.length) (t : Take L (star ((bl.zip ql).map BkA)) L')
    (h : Tr ρ0 ρ (SLc (ql.getD i nilS) 1 ((bl.getD i []).map bv) :: star (((bl.zip ql).take i ++ (bl.zip ql).drop (i + 1)).map BkA) :: L') T Post) : Tr ρ0 ρ L T Post := by
  have t' : Take L (star (((bl.zip ql).take i ++ (bl.getD i [], ql.getD i nilS) :: (bl.zip ql).drop (i + 1)).map BkA)) L' := by rw [← zip_at hl hi]; exact t
  exact Tr.mid t' h
theorem bk_cl {bl : List (List Bool)} {ql : List Slc} {i : Nat} {R : List Asn} {b : List Bool} {q : Slc} (hl : ql.length = bl.length) (hi : i < bl.length)
    (t : Takes L [SLc q 1 (b.map bv), star (((bl.zip ql).take i ++ (bl.zip ql).drop (i + 1)).map BkA)] R) (h : Tr ρ0 ρ (star (((bl.set i b).zip (ql.set i q)).map BkA) :: R) T Post) : Tr ρ0 ρ L T Post :=
  Tr.close t (fun hp H => by rw [zip_set hl hi]; exact star_mid' (P := BkA) (x := (b, q)) hp H) h
theorem bk_cl0 {bl : List (List Bool)} {ql : List Slc} {i : Nat} {R : List Asn} (hl : ql.length = bl.length) (hi : i < bl.length)
    (t : Takes L [SLc (ql.getD i nilS) 1 ((bl.getD i []).map bv), star (((bl.zip ql).take i ++ (bl.zip ql).drop (i + 1)).map BkA)] R) (h : Tr ρ0 ρ (star ((bl.zip ql).map BkA) :: R) T Post) : Tr ρ0 ρ L T Post :=
  Tr.close t (fun hp H => by rw [zip_at hl hi]; exact star_mid' (P := BkA) (x := (bl.getD i [], ql.getD i nilS)) hp H) h

def RSpaceA (p : Nat) (S : Spc) : Asn := fun h => ∃ i : (Slc × Slc × Slc × Slc) × List Slc, i.2.length = S.pg.length ∧
  star [blk p [slv i.1.1, slv i.1.2.1, slv i.1.2.2.1, slv i.1.2.2.2], SLc i.1.1 1 (S.ws.map i64), SLc i.1.2.1 1 ((S.pg.map Pg.kind).map i64), SLc i.1.2.2.1 1 ((S.pg.map Pg.many).map i64), SLc i.1.2.2.2 1 (i.2.map slv), star (((S.pg.map Pg.bits).zip i.2).map BkA)] h
theorem RSpaceA.op {p : Nat} {S : Spc} (t : Take L (RSpaceA p S) L') (h : ∀ (a k m q : Slc) (ql : List Slc), ql.length = S.pg.length →
    Tr ρ0 ρ (blk p [slv a, slv k, slv m, slv q] :: SLc a 1 (S.ws.map i64) :: SLc k 1 ((S.pg.map Pg.kind).map i64) :: SLc m 1 ((S.pg.map Pg.many).map i64) :: SLc q 1 (ql.map slv) :: star (((S.pg.map Pg.bits).zip ql).map BkA) :: L') T Post) : Tr ρ0 ρ L T Post :=
  Tr.openL (M := fun i : (Slc × Slc × Slc × Slc) × List Slc => [blk p [slv i.1.1, slv i.1.2.1, slv i.1.2.2.1, slv i.1.2.2.2], SLc i.1.1 1 (S.ws.map i64), SLc i.1.2.1 1 ((S.pg.map Pg.kind).map i64), SLc i.1.2.2.1 1 ((S.pg.map Pg.many).map i64), SLc i.1.2.2.2 1 (i.2.map slv), star (((S.pg.map Pg.bits).zip i.2).map BkA)]) t (fun _ h => h) fun i hi => h i.1.1 i.1.2.1 i.1.2.2.1 i.1.2.2.2 i.2 hi
theorem RSpaceA.cl {p : Nat} {S : Spc} {a k m q : Slc} {ql : List Slc} (hl : ql.length = S.pg.length) (h : HP)
    (H : star [blk p [slv a, slv k, slv m, slv q], SLc a 1 (S.ws.map i64), SLc k 1 ((S.pg.map Pg.kind).map i64), SLc m 1 ((S.pg.map Pg.many).map i64), SLc q 1 (ql.map slv), star (((S.pg.map Pg.bits).zip ql).map BkA)] h) : RSpaceA p S h := ⟨((a, k, m, q), ql), hl, H⟩

theorem kindD {pg : List Pg} {i : Nat} {x : Pg} (h : pg[i]? = some x) : (pg.map Pg.kind).getD i 0 = x.kind := by rw [List.getD_eq_getElem?_getD, List.getElem?_map, h]; rfl
theorem manyD {pg : List Pg} {i : Nat} {x : Pg} (h : pg[i]? = some x) : (pg.map Pg.many).getD i 0 = x.many := by rw [List.getD_eq_getElem?_getD, List.getElem?_map, h]; rfl
theorem bitsD {pg : List Pg} {i : Nat} {x : Pg} (h : pg[i]? = some x) : (pg.map Pg.bits).getD i [] = x.bits := by rw [List.getD_eq_getElem?_getD, List.getElem?_map, h]; rfl

theorem rf_pages (p : Nat) (S : Spc) (hw : Wf S) : Gl.Spec ρ Tryz.prog 155 [.pointer (some ⟨p, 0, none⟩)] [RSpaceA p S] RS fun r M => M = [SLc r 1 ((S.pg.map Pg.taken).map bv), RSpaceA p S] := by
  have hmost := hw.most
  refine Spec.of (fun Q w h => F.gloamingref1.Space.pages.calls (some ⟨p, 0, none⟩) h) fun R => ?_
  unfold F.gloamingref1.Space.pages
  try simp only [List.cons_append, List.nil_append]
  refine en_nn (RSpaceA.op tk fun a k m q ql hql => ?_)
  refine en_ld (k := .slice) (b := p) (off := 1) (x := k) (by rw [fa_mk]) tk rfl ?_
  refine Tr.nlen (s := k) tk fun hk => ?_
  rw [List.length_map] at hk
  refine en_mks (e := 4) (m := 1) (bytes := 1) (z := .bool false) (by kernel_rfl) (by kernel_rfl) rfl (by omega) (by omega) (by omega) fun b => ?_
  have e : (List.replicate ((k.n : Nat) : Int).toNat (Value.cells (.bool false)).toList).flatten = (List.replicate S.pg.length false).map bv := by
    rw [show (Value.cells (.bool false)).toList = [bv false] from rfl, rep1, Int.toNat_natCast, hk]; simp
  rw [e, Int.toNat_natCast]
  refine Tr.close tks (RSpaceA.cl (p := p) (S := S) (a := a) (k := k) (m := m) (q := q) hql) ?_
  refine Tr.take (A := SLc ⟨some ⟨b, 0, none⟩, k.n, k.n⟩ 1 ((List.replicate S.pg.length false).map bv)) tk ?_
  refine en_lp (fun n u M => (fun i : Int => ∃ bs : List Bool, M = SLc ⟨some ⟨b, 0, none⟩, k.n, k.n⟩ 1 (bs.map bv) :: RSpaceA p S :: R ∧ 0 ≤ i ∧ i ≤ S.pg.length ∧ n = S.pg.length - i.toNat ∧ bs.length = S.pg.length ∧ ∀ j : Nat, j < i.toNat → bs.getD j false = (S.pg.map Pg.taken).getD j false) u.1) S.pg.length ?_ ?_
  · exact ⟨List.replicate S.pg.length false, rfl, by simp, by dsimp only; omega, by simp, by simp, fun j hj => by simp at hj⟩
  · rintro n ⟨(i : Int), ⟨⟩⟩ M ⟨bs, rfl, h0, h1, rfl, hbl, hbs⟩ X hX
    dsimp only at *
    refine en_br (fun h => ?_) (fun h => ?_)
    · replace h : i < (k.n : Int) := of_decide_eq_true h
      have hi : i.toNat < S.pg.length := by omega
      have hx : S.pg[i.toNat]? = some S.pg[i.toNat] := List.getElem?_eq_getElem hi
      have htk : (S.pg.map Pg.taken).getD i.toNat false = (S.pg[i.toNat]).taken := by rw [List.getD_eq_getElem?_getD, List.getElem?_map, hx]; rfl
      generalize S.pg[i.toNat] = x at hx htk
      refine en_nn (RSpaceA.op tk fun a' k' m' q' ql' hql' => ?_)
      refine en_ld (k := .slice) (b := p) (off := 1) (x := k') (by rw [fa_mk]) tk rfl ?_
      refine en_getSL (s := k') (xs := S.pg.map Pg.kind) tk h0 (by rw [List.length_map]; omega) ?_
      rw [kindD hx]
      have hkt : (x.kind != 0) = x.taken := by
        cases x with
        | small c l => simp [Pg.kind, Pg.taken]; omega
        | _ => rfl
      rw [hkt]
      refine en_setB (s := ⟨some ⟨b, 0, none⟩, k.n, k.n⟩) (xs := bs) tk h0 (by omega) ?_
      refine Tr.close (A := RSpaceA p S) tks (RSpaceA.cl (p := p) (S := S) (a := a') (k := k') (m := m') (q := q') hql') ?_
      rw [wrap64 (n := i + 1) (by omega) (by omega)]
      refine Tr.take (A := SLc ⟨some ⟨b, 0, none⟩, k.n, k.n⟩ 1 ((bs.set i.toNat x.taken).map bv)) tk ?_
      refine hX (S.pg.length - (i + 1).toNat) _ _ (by omega) ⟨_, rfl, by dsimp only; omega, by dsimp only; omega, rfl, by simp [hbl], fun j hj => ?_⟩
      dsimp only at hj
      rw [List.getD_eq_getElem?_getD, List.getElem?_set]
      by_cases hij : i.toNat = j
      · rw [if_pos hij, if_pos (by omega), ← hij, htk]; rfl
      · rw [if_neg hij, ← List.getD_eq_getElem?_getD]; exact hbs j (by omega)
    · replace h : ¬ i < (k.n : Int) := of_decide_eq_false h
      have e2 : bs = S.pg.map Pg.taken := ext_getD false (by simp [hbl]) fun j hj => hbs j (by omega)
      rw [e2]
      exact en_rets (x := (⟨some ⟨b, 0, none⟩, k.n, k.n⟩ : Slc)) rfl rfl tks ens

theorem clr_step {ws : List Int} {i m : Nat} (h : i + m < ws.length) : (Sp.clr ws i m).set (i + m) 0 = Sp.clr ws i (m + 1) := by
  refine ext_getD 0 (by rw [List.length_set, clr_len (by omega), clr_len (by omega)]) fun j hj => ?_
  rw [List.length_set, clr_len (by omega)] at hj
  rw [clr_getD (by omega)]
  by_cases hij : i + m = j
  · subst hij
    rw [getD_set_eq' (by rw [clr_len (by omega)]; omega), if_pos ⟨by omega, by omega⟩]
  · rw [getD_set_ne' hij, clr_getD (by omega)]
    by_cases hc : i ≤ j ∧ j < i + m
    · rw [if_pos hc, if_pos ⟨hc.1, by omega⟩]
    · rw [if_neg hc, if_neg (by omega)]
theorem clr_zero {ws : List Int} {i : Nat} (h : i ≤ ws.length) : Sp.clr ws i 0 = ws := by
  unfold Sp.clr; simp

theorem rf_fill (p : Nat) (S : Spc) (i n : Nat) (hl : i + n ≤ S.ws.length) (hm : S.ws.length ≤ 2 ^ 40) : Gl.Spec ρ Tryz.prog 157 [.pointer (some ⟨p, 0, none⟩), i64 i, i64 n] [RSpaceA p S] (.many [])
    fun r M => M = [RSpaceA p ⟨Sp.clr S.ws i n, S.pg⟩] := by
  refine Spec.of (fun Q w h => F.gloamingref1.Space.fill.calls (some ⟨p, 0, none⟩) i n h) fun R => ?_
  unfold F.gloamingref1.Space.fill
  try simp only [List.cons_append, List.nil_append]
  rw [wrap64 (n := (i : Int) + n) (by omega) (by omega)]
  refine en_lp (fun m u M => (fun j : Int => M = RSpaceA p ⟨Sp.clr S.ws i (j.toNat - i), S.pg⟩ :: R ∧ i ≤ j ∧ j ≤ i + n ∧ m = i + n - j.toNat) u.1) n ?_ ?_
  · refine ⟨?_, by dsimp only; omega, by dsimp only; omega, by dsimp only; omega⟩
    dsimp only
    rw [show (i : Int).toNat - i = 0 by omega, clr_zero (by omega)]
  · rintro m ⟨(j : Int), ⟨⟩⟩ M ⟨rfl, h0, h1, rfl⟩ X hX
    dsimp only at *
    refine en_br (fun h => ?_) (fun h => ?_)
    · replace h : j < (i : Int) + n := of_decide_eq_true h
      refine en_nn (RSpaceA.op tk fun a k m q ql hql => ?_)
      refine en_ld (k := .slice) (b := p) (off := 0) (x := a) (by rw [fa_mk]) tk rfl ?_
      have hcl : (Sp.clr S.ws i (j.toNat - i)).length = S.ws.length := clr_len (by omega)
      refine en_setSL (s := a) (xs := Sp.clr S.ws i (j.toNat - i)) tk (by omega) (by omega) ?_
      have e : (Sp.clr S.ws i (j.toNat - i)).set j.toNat 0 = Sp.clr S.ws i ((j + 1).toNat - i) := by
        have := clr_step (ws := S.ws) (i := i) (m := j.toNat - i) (by omega)
        rw [show i + (j.toNat - i) = j.toNat by omega] at this
        rw [this]; congr 1; omega
      rw [e]
      refine Tr.close tks (RSpaceA.cl (p := p) (S := ⟨Sp.clr S.ws i ((j + 1).toNat - i), S.pg⟩) (a := a) (k := k) (m := m) (q := q) hql) ?_
      rw [wrap64 (n := j + 1) (by omega) (by omega)]
      exact hX (i + n - (j + 1).toNat) _ _ (by omega) ⟨rfl, by dsimp only; omega, by dsimp only; omega, rfl⟩
    · replace h : ¬ j < (i : Int) + n := of_decide_eq_false h
      rw [show j.toNat - i = n by omega]
      exact en_rets (x := ()) rfl rfl tks ens

/-! ### what is found -/
abbrev FD : RK := .one (.g [.int .i64, .int .i64, .bool])
abbrev G2 : RK := .one (.g [.int .i64, .int .i64])
def Rf.fnd : Option (Nat × Nat) → RT FD
  | some (s, w) => ((s : Int), (w : Int), true, ()) | none => ((0 : Int), (0 : Int), false, ())
theorem zcF : zc Tryz.prog 138 = [.int .i64 0, .int .i64 0, .bool false] := by kernel_rfl
theorem zcGot : zc Tryz.prog 120 = [.int .i64 0, .int .i64 0] := by kernel_rfl

theorem rf_back {S : Spc} (hw : Wf S) {P q : Nat} (hq : q ≤ P) (ht : ∀ j : Nat, q < j → j ≤ P → S.pg[j]? = some .tail) {x : Pg} (hx : S.pg[q]? = some x) (hxt : x ≠ .tail) :
    Sp.own S.pg P = (match x with | .head k => some (q, k) | _ => none) := by
  have key : ∀ i k : Nat, S.pg[i]? = some (.head k) → i ≤ P → P < i + k → i = q := fun i k hi h1 h2 => by
    rcases Nat.lt_trichotomy i q with c | c | c
    · have := (hw.head i k hi).2.2.2 q c (by omega)
      rw [hx] at this; injection this with this; exact absurd this hxt
    · exact c
    · rw [ht i c h1] at hi; cases hi
  cases x with
  | head k =>
    dsimp only
    have hk := hw.head q k hx
    rcases Nat.lt_or_ge q P with c | c
    · obtain ⟨i, k', h1, h2, h3⟩ := hw.tail P (ht P c (Nat.le_refl _))
      have := key i k' h1 (by omega) h3
      subst this
      exact Sp.own_of hw h1 ⟨by omega, h3⟩ |>.trans (by rw [hx] at h1; injection h1 with h1; injection h1 with h1; rw [h1])
    · exact Sp.own_of hw hx ⟨hq, by omega⟩
  | _ =>
    dsimp only
    refine Sp.own_no fun i k hi hc => ?_
    have := key i k hi hc.1 hc.2
    subst this
    rw [hx] at hi; cases hi

theorem rf_find (p : Nat) (S : Spc) (hw : Wf S) (a : Int) : Gl.Spec ρ Tryz.prog 78 [.pointer (some ⟨p, 0, none⟩), i64 a] [RSpaceA p S] FD
    fun r M => r = Rf.fnd (Sp.find S a) ∧ M = [RSpaceA p S] := by
  have hmost := hw.most
  have hlen := hw.len
  refine Spec.of (fun Q w h => F.gloamingref1.Space.Find.calls (some ⟨p, 0, none⟩) a h) fun R => ?_
  unfold F.gloamingref1.Space.Find
  try simp only [List.cons_append, List.nil_append]
  refine en_nw fun b1 => ?_
  rw [zcF]
  have fin : ∀ (x y : Int) (z : Bool), Rf.fnd (Sp.find S a) = (x, y, z, ()) → Tr ρ ρ (blk b1 [.int .i64 0, .int .i64 0, .bool false] :: RSpaceA p S :: R)
      (st ⟨b1, 0, none⟩ [.int .i64 x, .int .i64 y, .bool z] <| ld (.g [.int .i64, .int .i64, .bool]) ⟨b1, 0, none⟩ fun (x : LTs [.int .i64, .int .i64, .bool]) => ret (.agg #[.int .i64 x.1, .int .i64 x.2.1, .bool x.2.2.1]))
      (SP FD (fun r M => r = Rf.fnd (Sp.find S a) ∧ M = [RSpaceA p S]) R) := fun x y z hf => by
    refine en_st (b := b1) (off := 0) rfl tk (by simp) rfl ?_
    refine en_ldg (b := b1) (x := (x, y, z, ())) [] rfl tk rfl ?_
    rw [hf]
    exact en_rets (x := (x, y, z, ())) rfl ⟨rfl, rfl⟩ tks ens
  refine en_br (fun h => ?_) (fun h => ?_)
  · replace h : a < 0 := of_decide_eq_true h
    exact fin 0 0 false (by rw [Sp.find_out (by omega)]; rfl)
  · replace h : ¬ a < 0 := of_decide_eq_false h
    refine en_nn (RSpaceA.op tk fun sa sk sm sq ql hql => ?_)
    refine en_ld (k := .slice) (b := p) (off := 0) (x := sa) (by rw [fa_mk]) tk rfl ?_
    refine Tr.nlen (s := sa) (xs := S.ws) tk fun hsa => ?_
    refine en_br (fun h2 => ?_) (fun h2 => ?_)
    · replace h2 : a ≥ (sa.n : Int) := of_decide_eq_true h2
      refine Tr.close tks (RSpaceA.cl (p := p) (S := S) (a := sa) (k := sk) (m := sm) (q := sq) hql) ?_
      refine Tr.take (A := blk b1 [.int .i64 0, .int .i64 0, .bool false]) tk ?_
      exact fin 0 0 false (by rw [Sp.find_out (by omega)]; rfl)
    · replace h2 : ¬ a ≥ (sa.n : Int) := of_decide_eq_false h2
      obtain ⟨n, rfl⟩ := Int.eq_ofNat_of_zero_le (show 0 ≤ a by omega)
      have hn : n < S.ws.length := by omega
      have hP : n / 64 < S.pg.length := by omega
      have hw1 : IntKind.wrap .i64 (Int.tdiv (n : Int) 64) = ((n / 64 : Nat) : Int) := by rw [Int.tdiv_eq_ediv_of_nonneg (by omega), wrap64 (by omega) (by omega)]; omega
      have hw2 : Int.tmod (n : Int) 64 = ((n % 64 : Nat) : Int) := by rw [Int.tmod_eq_emod_of_nonneg (by omega)]; omega
      rw [hw1, hw2]
      refine en_need (by decide) (en_nn ?_)
      refine en_ld (k := .slice) (b := p) (off := 1) (x := sk) (by rw [fa_mk]) tk rfl ?_
      refine en_getSL (s := sk) (xs := S.pg.map Pg.kind) tk (by omega) (by simp; omega) ?_
      have hx : S.pg[n / 64]? = some S.pg[n / 64] := List.getElem?_eq_getElem hP
      rw [Int.toNat_natCast, kindD hx]
      refine Tr.close tks (RSpaceA.cl (p := p) (S := S) (a := sa) (k := sk) (m := sm) (q := sq) hql) ?_
      refine Tr.take (A := blk b1 [.int .i64 0, .int .i64 0, .bool false]) tk ?_
      generalize S.pg[n / 64] = x at hx
      refine en_jn (fun (_ : LTs []) M => (∀ c l, x ≠ .small c l) ∧ M = blk b1 [.int .i64 0, .int .i64 0, .bool false] :: RSpaceA p S :: R) ?_ ?_
      · rintro ⟨⟩ M ⟨hns, rfl⟩
        have hfo := Sp.find_other hn (fun c l h => by rw [hx] at h; injection h with h; exact hns c l h)
        refine en_lp (fun m u M => (fun q : Int => M = blk b1 [.int .i64 0, .int .i64 0, .bool false] :: RSpaceA p S :: R ∧ 0 ≤ q ∧ q ≤ ((n / 64 : Nat) : Int) ∧ m = q.toNat ∧ ∀ j : Nat, q.toNat < j → j ≤ n / 64 → S.pg[j]? = some .tail) u.1) (n / 64) ?_ ?_
        · exact ⟨rfl, by dsimp only; omega, by dsimp only; omega, by dsimp only; omega, fun j h1 h2 => by dsimp only at h1; omega⟩
        · rintro m ⟨(q : Int), ⟨⟩⟩ M ⟨rfl, q0, q1, rfl, ht⟩ X hX
          dsimp only at *
          have hy : S.pg[q.toNat]? = some S.pg[q.toNat] := List.getElem?_eq_getElem (by omega)
          generalize S.pg[q.toNat] = y at hy
          refine en_br (fun h3 => ?g1) (fun h3 => ?g2)
          case' g1 =>
            replace h3 : q > 0 := of_decide_eq_true h3
            refine en_nn (RSpaceA.op tk fun sa sk sm sq ql hql => ?_)
            refine en_ld (k := .slice) (b := p) (off := 1) (x := sk) (by rw [fa_mk]) tk rfl ?_
            refine en_getSL (s := sk) (xs := S.pg.map Pg.kind) tk (by omega) (by simp; omega) ?_
            rw [kindD hy]
            refine Tr.close tks (RSpaceA.cl (p := p) (S := S) (a := sa) (k := sk) (m := sm) (q := sq) hql) ?_
            refine Tr.take (A := blk b1 [.int .i64 0, .int .i64 0, .bool false]) tk ?_
            refine en_br (fun h7 => ?g3) (fun h7 => ?_)
            case g3 =>
              have h7 : y.kind = 7 := eq_of_beq h7
              rw [wrap64 (n := q - 1) (by omega) (by omega)]
              refine hX (q - 1).toNat _ _ (by omega) ⟨rfl, by dsimp only; omega, by dsimp only; omega, rfl, fun j h1 h2 => ?_⟩
              dsimp only at h1
              by_cases hj : j = q.toNat
              · rw [hj, hy]
                cases y with
                | tail => rfl
                | small c l => have := (hw.small _ _ _ hy).1; simp [Pg.kind] at h7; omega
                | _ => simp [Pg.kind] at h7
              · exact ht j (by omega) h2
            have hyt : y ≠ .tail := by rintro rfl; simp [Pg.kind] at h7
          case' g2 =>
            replace h3 : ¬ q > 0 := of_decide_eq_false h3
            have hyt : y ≠ .tail := by
              rintro rfl
              have h0 := (hw.res 0).mpr rfl
              rw [show q.toNat = 0 by omega, h0] at hy; cases hy
          all_goals
            have hb := rf_back hw (P := n / 64) (q := q.toNat) (by omega) ht hy hyt
            rw [hb] at hfo
            refine en_nn (RSpaceA.op tk fun sa sk sm sq ql hql => ?_)
            refine en_ld (k := .slice) (b := p) (off := 1) (x := sk) (by rw [fa_mk]) tk rfl ?_
            refine en_getSL (s := sk) (xs := S.pg.map Pg.kind) tk (by omega) (by simp; omega) ?_
            rw [kindD hy]
            refine en_br (fun h6 => ?_) (fun h6 => ?_)
            · refine Tr.close tks (RSpaceA.cl (p := p) (S := S) (a := sa) (k := sk) (m := sm) (q := sq) hql) ?_
              refine Tr.take (A := blk b1 [.int .i64 0, .int .i64 0, .bool false]) tk ?_
              refine fin 0 0 false ?_
              rw [hfo]
              cases y with
              | head k => simp [Pg.kind] at h6
              | _ => rfl
            · have h6 : y.kind = 6 := by simpa using h6
              obtain ⟨k, rfl⟩ : ∃ k, y = .head k := by
                cases y with
                | head k => exact ⟨k, rfl⟩
                | small c l => have := (hw.small _ _ _ hy).1; simp [Pg.kind] at h6; omega
                | _ => simp [Pg.kind] at h6
              have hk := hw.head _ _ hy
              refine en_nn ?_
              refine en_ld (k := .slice) (b := p) (off := 2) (x := sm) (by rw [fa_mk]) tk rfl ?_
              refine en_getSL (s := sm) (xs := S.pg.map Pg.many) tk (by omega) (by simp; omega) ?_
              rw [manyD hy]
              refine Tr.close tks (RSpaceA.cl (p := p) (S := S) (a := sa) (k := sk) (m := sm) (q := sq) hql) ?_
              refine Tr.take (A := blk b1 [.int .i64 0, .int .i64 0, .bool false]) tk ?_
              rw [wrap64 (n := q * 64) (by omega) (by omega), show Pg.many (.head k) = (k : Int) from rfl, wrap64 (n := (k : Int) * 64) (by omega) (by omega)]
              refine fin _ _ true ?_
              have e1 : ((q.toNat * 64 : Nat) : Int) = q * 64 := by omega
              have e2 : ((k * 64 : Nat) : Int) = (k : Int) * 64 := by omega
              rw [hfo]
              simp only [Option.map_some, Rf.fnd, e1, e2]
      · intro J hJ
        refine en_br (fun h5 => ?_) (fun h5 => hJ () _ ⟨fun c l e => ?_, rfl⟩)
        · refine en_br (fun h6 => ?_) (fun h6 => hJ () _ ⟨fun c l e => ?_, rfl⟩)
          · have h5 := of_decide_eq_true h5
            have h6 := of_decide_eq_true h6
            obtain ⟨c, l, rfl⟩ : ∃ c l, x = .small c l := by
              cases x with
              | small c l => exact ⟨c, l, rfl⟩
              | _ => simp [Pg.kind] at h5 h6
            obtain ⟨hc5, hll⟩ := hw.small _ _ _ hx
            have hz := Sp.sz_cases hc5
            refine en_call (ref_sizes) tks ?_
            rintro s M ⟨hs, rfl⟩
            try simp only [List.cons_append, List.nil_append]
            rw [show IntKind.wrap .i64 (Pg.kind (.small c l) - 1) = (c : Int) by simp only [Pg.kind]; rw [wrap64 (by omega) (by omega)]; omega]
            refine en_getSL (s := s) (xs := Sp.sizes) tk (by omega) (by show (c : Int) < 5; omega) ?_
            rw [Int.toNat_natCast, Sp.sz_get hc5]
            refine Tr.drop (A := SLc s 1 (Sp.sizes.map i64)) tk ?_
            obtain ⟨k, hk⟩ : ∃ k, n % 64 / Sp.sz c = k := ⟨_, rfl⟩
            have hkle : k ≤ n % 64 := by rw [← hk]; exact Nat.div_le_self _ _
            have hd : IntKind.wrap .i64 (Int.tdiv ((n % 64 : Nat) : Int) (Sp.sz c : Nat)) = (k : Int) := by
              rw [Int.tdiv_eq_ediv_of_nonneg (by omega), show ((n % 64 : Nat) : Int) / (Sp.sz c : Nat) = ((n % 64 / Sp.sz c : Nat) : Int) from rfl, hk, wrap64 (by omega) (by omega)]
            rw [hd]
            have hlt : k < l.length := by
              rw [← hk, hll]
              rcases hz with ⟨_, e⟩ | ⟨_, e⟩ | ⟨_, e⟩ | ⟨_, e⟩ | ⟨_, e⟩ <;> rw [e] <;> omega
            refine en_need (by decide) (en_need (by omega) ?_)
            refine en_nn (RSpaceA.op tk fun sa sk sm sq ql hql => ?_)
            refine en_ld (k := .slice) (b := p) (off := 3) (x := sq) (by rw [fa_mk]) tk rfl ?_
            refine en_getQ (s := sq) (xs := ql) tk (by omega) (by omega) ?_
            rw [Int.toNat_natCast]
            refine bk_at (i := n / 64) (bl := S.pg.map Pg.bits) (ql := ql) (by simp [hql]) (by simp; omega) tk ?_
            rw [bitsD hx]
            refine en_getB (s := ql.getD (n / 64) nilS) (xs := l) tk (by omega) (by omega) ?_
            rw [Int.toNat_natCast]
            refine bk_cl0 (bl := S.pg.map Pg.bits) (ql := ql) (i := n / 64) (by simp [hql]) (by simp; omega) (by rw [bitsD hx]; exact tks) ?_
            refine Tr.close tks (RSpaceA.cl (p := p) (S := S) (a := sa) (k := sk) (m := sm) (q := sq) hql) ?_
            refine Tr.take (A := blk b1 [.int .i64 0, .int .i64 0, .bool false]) tk ?_
            have hfs := Sp.find_small hn hx
            rw [hk] at hfs
            refine en_br (fun h7 => ?_) (fun h7 => ?_)
            · have h7 : l.getD k false = false := by simpa using h7
              rw [h7] at hfs
              exact fin 0 0 false (by rw [hfs]; rfl)
            · have h7 : l.getD k false = true := by simpa using h7
              rw [h7] at hfs
              have hmul : k * Sp.sz c ≤ n % 64 := by rw [← hk]; exact Nat.div_mul_le_self _ _
              have e1 : (k : Int) * (Sp.sz c : Nat) = ((k * Sp.sz c : Nat) : Int) := by rw [Int.natCast_mul]
              rw [wrap64 (n := ((n / 64 : Nat) : Int) * 64) (by omega) (by omega), e1, wrap64 (n := ((k * Sp.sz c : Nat) : Int)) (by omega) (by omega), wrap64 (by omega) (by omega)]
              refine fin _ _ true ?_
              rw [hfs]
              simp only [if_true, Rf.fnd]
              congr 1
          · have h6 := of_decide_eq_false h6
            subst e
            have := (hw.small _ _ _ hx).1
            simp [Pg.kind] at h6; omega
        · have h5 := of_decide_eq_false h5
          subst e
          simp [Pg.kind] at h5; omega

end Go.Proofs.YtapchggmifbfoaaGreat
