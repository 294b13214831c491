/- arena: New, Fill; bits: New, Set. -/
import Derived.Test.YtncpnmpfghppeaaGlBits
set_option linter.unusedSimpArgs false
set_option linter.unusedVariables false
namespace Go.Gl
open Go
variable {ρ0 ρ : FR} {L L' : List Asn} {Post : Value → List Asn → Prop}

theorem en_chkW {ρ' : FR} (hle : Le ρ ρ') {M R : List Asn} {T : Tree} (t : Takes L M R) (h : Tr ρ0 ρ' L T Post) : Tr ρ0 ρ' L (chk (Sat ρ M) T) Post := fun h0 w hw =>
  ⟨(((hw.perm t.perm).perm List.perm_append_comm).dropL).weak hle, h h0 w hw⟩
theorem en_ldSW {ρ' : FR} {M : List Asn} {k : LK} {a : Addr} {f : LT k → Tree} {b off : Nat} {cs : List Value} {x : LT k} (ha : a = ⟨b, off, none⟩) (t : Take M (blk b cs) L') (hv : cs[off]? = some (k.val x)) (h : Tr ρ0 ρ' L (f x) Post) :
    Tr ρ0 ρ' L (ldLS (Sat ρ M) k a f) Post := fun hle w hw => by
  refine ⟨x, fun w' hw' => ?_, h hle w hw⟩
  obtain ⟨ty, hb⟩ := (hw'.perm t.perm).cl
  rw [ha]; exact cell_of hb (by simpa using hv)
theorem setL_eq {xs vs : List Value} {j : Nat} (h : j + vs.length ≤ xs.length) : setL xs j vs = xs.take j ++ (vs ++ xs.drop (j + vs.length)) := by
  have h1 : xs = xs.take j ++ xs.drop j := (List.take_append_drop j xs).symm
  have h2 : (xs.take j).length = j := by simp; omega
  have := setL_over (xs := xs.take j) (rest := xs.drop j) (ys := vs) (by simp; omega)
  rw [h2] at this
  conv => lhs; rw [h1]
  rw [this]; simp [List.append_assoc, List.drop_drop]
theorem zeroCells1 (z : Value) (n : Nat) : (Builtin.zeroCells #[z] n).toList = List.replicate n z := by
  unfold Builtin.zeroCells
  apply List.ext_getElem
  · simp
  · intro i h1 h2
    simp [Nat.mod_one]

theorem en_clr {P : Program} {tt e ty : TypeId} {z zz : Value} {s : Slc} {xs : List Value} {l n c : Nat} {a' : Option Addr} {k : RT (.many []) → Tree} (hu : P.underlying tt = some (.slice e))
    (hi : (P.info? e).bind (·.zero) = some zz) (hz : zz.cells = #[z]) (h1 : one1 z = true) (t : Take L (SLc s 1 xs) L') (hn : 0 < n) (hl : l + n ≤ s.n) (ha : a' = s.a.map fun b => fa b (l * 1))
    (h : Tr ρ0 ρ (SLc s 1 (setL xs l (List.replicate n z)) :: L') (k ()) Post) :
    Tr ρ0 ρ L (opr P (Builtin.clear_ #[tt] ty #[.slice a' n c]) (.many []) k) Post := by
  refine Tr.take t (en_opr (fun r M => M = SLc s 1 (setL xs l (List.replicate n z)) :: L') (fun w hw => ?_) (fun x M hM => by subst hM; exact h))
  obtain ⟨n, rfl⟩ : ∃ k, n = k + 1 := ⟨n - 1, by omega⟩
  rcases hw.sl with ⟨g1, g2, g3, g4, g5⟩ | ⟨b, off, pre, rest, g1, g2, g3, g4, g5, g6⟩
  · omega
  have hst := one1_store (P := P) (vs := List.replicate (n + 1) z) (off := off + l) g6 (by simp [h1]) (by simp; omega)
  refine ⟨(), stF ⟨b, off + l, none⟩ 0 (List.replicate (n + 1) z) w, _, ?_, rfl, ?_⟩
  rotate_left
  · have hs := sat_stF (List.replicate (n + 1) z) (off + l) 0 _ w g6
    have e2 : setL (pre ++ (xs ++ rest)) (off + l + 0) (List.replicate (n + 1) z) = pre ++ (setL xs l (List.replicate (n + 1) z) ++ rest) := by
      rw [Nat.add_zero, ← g2]; exact setL_mid (by simp; omega)
    rw [e2] at hs
    exact Sat.imp (fun h hh => .inr ⟨b, off, pre, rest, g1, g2, by rw [setL_length]; exact g3, g4, g5, hh⟩) hs
  · rw [ha, g1]
    simp only [Option.map_some, fa_mk, Nat.mul_one]
    unfold Builtin.clear_
    have a0 : (#[.slice (some ⟨b, off + l, none⟩) (n + 1) c] : Array Value)[0]? = some (.slice (some ⟨b, off + l, none⟩) (n + 1) c) := rfl
    have t0 : (#[tt] : Array TypeId)[0]? = some tt := rfl
    simp only [a0, t0, Sem.run_bind, run_underlying hu, Result.andThen_ok, run_zero hi, hz, zeroCells1, hst, Sem.run_pure]
    rfl
end Go.Gl
namespace Go.Proofs.Ytncpnmpfghppeaa
open Go Go.Gl
variable {ρ0 ρ : FR} {L L' : List Asn} {Post : Value → List Asn → Prop} {T : Tree}

abbrev PE : RK := .many [.l .ptr, .l (.int .i64)]

theorem rep1 (n : Nat) (v : Value) : (List.replicate n [v]).flatten = List.replicate n v := by
  induction n with
  | zero => rfl
  | succ n ih => simp [List.replicate_succ, ih]

theorem arena_new (n : Int) (h0 : 1 ≤ n) (h1 : n ≤ 256) : Spec ρ Try.prog 64 [i64 n] [] PE
    fun r M => ∃ b, r = (some ⟨b, 0, none⟩, 0, ()) ∧ M = [ArenaA b (List.replicate (n.toNat * 64) 0)] := by
  refine Spec.of (fun Q w h => F.arena.New.calls n h) fun R => ?_
  unfold F.arena.New
  try simp only [List.cons_append, List.nil_append]
  refine en_brf (by simp; omega) (en_brf (by simp; omega) ?_)
  rw [wrap64 (by omega) (by omega)]
  refine en_mks (e := 3) (m := 1) (bytes := 8) (z := .int .i64 0) (by kernel_rfl) (by kernel_rfl) rfl (by omega) (by omega) (by omega) fun b => ?_
  refine en_nw fun b2 => ?_
  have e : (List.replicate (n * 64).toNat (Value.cells (.int .i64 0)).toList).flatten = (List.replicate (n.toNat * 64) (0 : Int)).map i64 := by
    rw [show (Value.cells (.int .i64 0)).toList = [i64 0] from rfl, rep1]
    rw [List.map_replicate, show (n * 64).toNat = n.toNat * 64 by omega]
  rw [e]
  refine Tr.close (M := [blk b2 [.slice (some ⟨b, 0, none⟩) (n * 64).toNat (n * 64).toNat], SLc ⟨some ⟨b, 0, none⟩, (n * 64).toNat, (n * 64).toNat⟩ 1 ((List.replicate (n.toNat * 64) (0 : Int)).map i64)]) tks (ArenaA.cl (p := b2) (ws := List.replicate (n.toNat * 64) 0) (s := ⟨some ⟨b, 0, none⟩, (n * 64).toNat, (n * 64).toNat⟩) (by simp only [List.length_replicate]; omega)) ?_
  exact en_rets (x := (some ⟨b2, 0, none⟩, 0, ())) rfl ⟨b2, rfl, rfl⟩ tks ens

theorem arena_new0 (n : Int) (h : ¬ (1 ≤ n ∧ n ≤ 256)) : Spec ρ Try.prog 64 [i64 n] [] PE
    fun r M => r = (none, 1, ()) ∧ M = [] := by
  refine Spec.of (fun Q w h => F.arena.New.calls n h) fun R => ?_
  unfold F.arena.New
  try simp only [List.cons_append, List.nil_append]
  refine en_br (fun _ => ?_) (fun h1 => en_brt ?_ ?_)
  · exact en_rets (x := (none, 1, ())) rfl ⟨rfl, rfl⟩ tks ens
  · simp at h1 ⊢; omega
  · exact en_rets (x := (none, 1, ())) rfl ⟨rfl, rfl⟩ tks ens

/-- so many words from one on are 0 -/
def Sp.clr (ws : List Int) (i n : Nat) : List Int := ws.take i ++ (List.replicate n 0 ++ ws.drop (i + n))
def Sp.fillOk (ws : List Int) (i n : Int) : Prop := 0 ≤ n ∧ 0 ≤ i ∧ n ≤ max 0 (ws.length - i)
instance (ws : List Int) (i n : Int) : Decidable (Sp.fillOk ws i n) := by unfold Sp.fillOk; infer_instance

theorem arena_fill (p : Nat) (ws : List Int) (i n : Int) (hl : ws.length ≤ 16384) (hn : 0 < n) (hi : 0 ≤ i) (hw : i + n ≤ ws.length) : Spec ρ Try.prog 63 [.pointer (some ⟨p, 0, none⟩), i64 i, i64 n] [ArenaA p ws] R1
    fun r M => r = 0 ∧ M = [ArenaA p (Sp.clr ws i.toNat n.toNat)] := by
  refine Spec.of (fun Q w h => F.arena.Arena.Fill.calls (some ⟨p, 0, none⟩) i n h) fun R => ?_
  unfold F.arena.Arena.Fill
  try simp only [List.cons_append, List.nil_append]
  refine en_brf rfl (en_brf (by simp; omega) (en_brf (by simp; omega) (en_nn ?_)))
  refine ArenaA.op tk fun s hs => ?_
  refine en_ld (by rw [fa_mk, fa_mk]) tk rfl ?_
  rw [wrap64 (by omega) (by omega)]
  refine en_brf (by simp; omega) (en_brt (by simp; omega) (en_nn ?_))
  refine en_ld (by rw [fa_mk, fa_mk]) tk rfl ?_
  rw [wrap64 (by omega) (by omega)]
  refine Tr.sl_len (s := s) (m := 1) (xs := ws.map i64) tk fun hlen hc => ?_
  refine en_slc hi (by omega) (by omega) ?_
  dsimp only
  refine en_clr (e := 3) (zz := i64 0) (z := i64 0) (s := s) (xs := ws.map i64) (l := i.toNat) (by kernel_rfl) (by kernel_rfl) rfl rfl tk (by omega) (by omega) (by rw [if_neg (by omega)]) ?_
  have e : setL (ws.map i64) i.toNat (List.replicate ((i + n).toNat - i.toNat) (i64 0)) = (Sp.clr ws i.toNat n.toNat).map i64 := by
    rw [setL_eq (by simp; omega), Sp.clr, show (i + n).toNat - i.toNat = n.toNat by omega]
    simp
  rw [e]
  refine Tr.close tks (ArenaA.cl (p := p) (ws := Sp.clr ws i.toNat n.toNat) (s := s) (by simp [Sp.clr]; omega)) ?_
  exact en_rets (x := (0 : Int)) rfl ⟨rfl, rfl⟩ tks ens

theorem bits_new (n : Int) (h0 : 0 ≤ n) (h1 : n ≤ 16384) : Spec ρ Try.prog 84 [i64 n] [] PE
    fun r M => ∃ b, r = (some ⟨b, 0, none⟩, 0, ()) ∧ M = [BitsA b (List.replicate n.toNat false)] := by
  refine Spec.of (fun Q w h => F.bits.New.calls n h) fun R => ?_
  unfold F.bits.New
  try simp only [List.cons_append, List.nil_append]
  refine en_brf (by simp; omega) (en_brf (by simp; omega) ?_)
  refine en_mks (e := 4) (m := 1) (bytes := 1) (z := .bool false) (by kernel_rfl) (by kernel_rfl) rfl (by omega) (by omega) (by omega) fun b => ?_
  refine en_nw fun b2 => ?_
  have e : (List.replicate n.toNat (Value.cells (.bool false)).toList).flatten = (List.replicate n.toNat false).map bv := by
    rw [show (Value.cells (.bool false)).toList = [bv false] from rfl, rep1]
    simp
  rw [e]
  refine Tr.close (M := [blk b2 [.slice (some ⟨b, 0, none⟩) n.toNat n.toNat], SLc ⟨some ⟨b, 0, none⟩, n.toNat, n.toNat⟩ 1 ((List.replicate n.toNat false).map bv)]) tks (BitsA.cl (p := b2) (l := List.replicate n.toNat false) (s := ⟨some ⟨b, 0, none⟩, n.toNat, n.toNat⟩) (by simp)) ?_
  exact en_rets (x := (some ⟨b2, 0, none⟩, 0, ())) rfl ⟨b2, rfl, rfl⟩ tks ens

theorem idx_func (s : Slc) (xs : List Int) (hs : RoS ρ s 1 (xs.map i64)) (hl : xs.length < 2 ^ 62) {f : FuncId} {fn : Func} {c : Array Value} {A : List Asn} {g : Int → Bool} (hf : Try.prog.funcs[f]? = some fn) (hb : fn.body.isSome = true)
    (hg : ∀ x, Spec ρ Try.prog f ([i64 x] ++ c.toList) A RB fun r M => r = g x ∧ M = A) :
    Spec ρ Try.prog 102 [.slice s.a s.n s.c, .func (.func f) #[] c] A R1 fun r M => decide (0 ≤ r) = xs.any g ∧ M = A := by
  refine Spec.of (fun Q w h => F.slices.IndexFunc.calls s (.func (.func f) #[] c) h) fun R => ?_
  unfold F.slices.IndexFunc
  have hn : s.n = xs.length := by have := hs.1; simpa using this.symm
  refine en_lp (fun n u M => (fun i : Int => M = A ++ R ∧ 0 ≤ i ∧ i ≤ xs.length ∧ n = xs.length - i.toNat ∧ xs.any g = (xs.drop i.toNat).any g) u.1) xs.length ?_ ?_
  · exact ⟨rfl, by simp, by dsimp only; omega, by dsimp only; omega, by simp⟩
  · rintro n ⟨(i : Int), ⟨⟩⟩ M ⟨rfl, h0, h1, rfl, hn2⟩ X hX
    dsimp only at *
    refine en_br (fun h => ?_) (fun h => ?_)
    · replace h : i < (s.n : Int) := of_decide_eq_true h
      have hi : i.toNat < xs.length := by omega
      refine en_ixRo hs h0 h fun a0 ha => ?_
      refine en_ldRo (j := i.toNat) (x := xs.getD i.toNat 0) ha hs (by rintro b o rfl; simp [fa_mk]) (getD_map hi) ?_
      refine en_callV hf hb (hg _) (Takes.app _ _) ?_
      rintro r M ⟨rfl, rfl⟩
      have hd : xs.drop i.toNat = xs.getD i.toNat 0 :: xs.drop (i.toNat + 1) := by
        rw [List.drop_eq_getElem_cons hi]; simp [List.getD_eq_getElem?_getD, hi]
      rw [hd, List.any_cons] at hn2
      refine en_br (fun h2 => ?_) (fun h2 => ?_)
      · refine en_rets (x := i) rfl ⟨?_, rfl⟩ (Takes.app _ _) .refl
        rw [hn2, h2]; simp [h0]
      · rw [wrap64 (by omega) (by omega)]
        refine hX (xs.length - (i + 1).toNat) _ _ (by omega) ⟨rfl, by dsimp only; omega, by dsimp only; omega, rfl, ?_⟩
        rw [hn2, h2, Bool.false_or]
        dsimp only; rw [show (i + 1).toNat = i.toNat + 1 by omega]
    · replace h : ¬ i < (s.n : Int) := of_decide_eq_false h
      refine en_rets (x := (-1 : Int)) rfl ⟨?_, rfl⟩ (Takes.app _ _) .refl
      rw [hn2, List.drop_eq_nil_of_le (by omega)]; rfl

theorem contains_func (s : Slc) (xs : List Int) (hs : RoS ρ s 1 (xs.map i64)) (hl : xs.length < 2 ^ 62) {f : FuncId} {fn : Func} {c : Array Value} {A : List Asn} {g : Int → Bool} (hf : Try.prog.funcs[f]? = some fn) (hb : fn.body.isSome = true)
    (hg : ∀ x, Spec ρ Try.prog f ([i64 x] ++ c.toList) A RB fun r M => r = g x ∧ M = A) :
    Spec ρ Try.prog 86 [.slice s.a s.n s.c, .func (.func f) #[] c] A RB fun r M => r = xs.any g ∧ M = A := by
  refine Spec.of (fun Q w h => F.slices.ContainsFunc.calls s (.func (.func f) #[] c) h) fun R => ?_
  unfold F.slices.ContainsFunc
  refine en_call (idx_func s xs hs hl hf hb hg) (Takes.app _ _) ?_
  rintro r M ⟨hr, rfl⟩
  refine en_rets (x := xs.any g) ?_ ⟨rfl, rfl⟩ (Takes.app _ _) .refl
  rw [← hr]; rfl

theorem bits_set1 (p b : Nat) (l : List Bool) (x : Int) : Spec ρ Try.prog 87 ([i64 x] ++ [.pointer (some ⟨b, 0, none⟩)]) [blk b [.pointer (some ⟨p, 0, none⟩)], BitsA p l] RB
    fun r M => r = !decide (0 ≤ x ∧ x < l.length) ∧ M = [blk b [.pointer (some ⟨p, 0, none⟩)], BitsA p l] := by
  refine Spec.of (fun Q w h => F.bits.Bits.Set_1.calls x (some ⟨b, 0, none⟩) h) fun R => ?_
  unfold F.bits.Bits.Set_1
  try simp only [List.cons_append, List.nil_append]
  refine en_nn (en_ld (k := .ptr) (x := some ⟨p, 0, none⟩) rfl tk rfl ?_)
  refine en_call (bits_place p l x) tks ?_
  rintro r M ⟨rfl, rfl⟩
  try simp only [List.cons_append, List.nil_append]
  exact en_rets (x := !decide (0 ≤ x ∧ x < l.length)) rfl ⟨rfl, rfl⟩ tks ens

def Sp.setOk (l : List Bool) (xs : List Int) : Bool := xs.all fun i => decide (0 ≤ i ∧ i < l.length)
def Sp.setAll (l : List Bool) (is : Bool) (xs : List Int) : List Bool := xs.foldl (fun l i => l.set i.toNat is) l
theorem Sp.setAll_len {l : List Bool} {is : Bool} {xs : List Int} : (Sp.setAll l is xs).length = l.length := by
  unfold Sp.setAll
  induction xs generalizing l with
  | nil => rfl
  | cons x xs ih => simp only [List.foldl_cons]; rw [ih]; simp

theorem bits_set (p : Nat) (l : List Bool) (is : Bool) (s : Slc) (xs : List Int) (hs : RoS ρ s 1 (xs.map i64)) (hl : xs.length < 2 ^ 62) :
    Spec ρ Try.prog 70 [.pointer (some ⟨p, 0, none⟩), .bool is, .slice s.a s.n s.c] [BitsA p l] R1
    fun r M => r = (if Sp.setOk l xs then 0 else 2) ∧ M = [BitsA p (if Sp.setOk l xs then Sp.setAll l is xs else l)] := by
  refine Spec.of (fun Q w h => F.bits.Bits.Set.calls (some ⟨p, 0, none⟩) is s h) fun R => ?_
  unfold F.bits.Bits.Set
  try simp only [List.cons_append, List.nil_append]
  have hn : s.n = xs.length := by have := hs.1; simpa using this.symm
  refine en_nw fun b => ?_
  refine en_ld (k := .ptr) (x := some ⟨p, 0, none⟩) rfl tk rfl (en_brf rfl ?_)
  refine en_call (contains_func s xs hs hl (c := #[.pointer (some ⟨b, 0, none⟩)]) (f := 87) (fn := Try.f87) Try.func87 (by kernel_rfl) fun x => bits_set1 p b l x) tks ?_
  rintro r M ⟨rfl, rfl⟩
  try simp only [List.cons_append, List.nil_append]
  have hok : (xs.any fun x => !decide (0 ≤ x ∧ x < l.length)) = !Sp.setOk l xs := by
    unfold Sp.setOk; rw [List.not_all_eq_any_not]
  refine en_br (fun h => ?_) (fun h => ?_)
  · rw [hok] at h
    have h' : ¬ Sp.setOk l xs = true := by simpa using h
    rw [if_neg h', if_neg h']
    exact en_rets (x := (2 : Int)) rfl ⟨rfl, rfl⟩ tks ens
  · rw [hok] at h
    have h' : Sp.setOk l xs = true := by simpa using h
    rw [if_pos h', if_pos h']
    refine Tr.take (A := BitsA p l) tk ?_
    refine en_lp (fun n u M => (fun i : Int => M = BitsA p (Sp.setAll l is (xs.take i.toNat)) :: blk b [.pointer (some ⟨p, 0, none⟩)] :: R ∧ 0 ≤ i ∧ i ≤ xs.length ∧ n = xs.length - i.toNat) u.1) xs.length ?_ ?_
    · exact ⟨rfl, by simp, by dsimp only; omega, by dsimp only; omega⟩
    · rintro n ⟨(i : Int), ⟨⟩⟩ M ⟨rfl, h0, h1, rfl⟩ X hX
      dsimp only at *
      refine en_br (fun h => ?_) (fun h => ?_)
      · replace h : i < (s.n : Int) := of_decide_eq_true h
        have hi : i.toNat < xs.length := by omega
        refine en_ixRo hs h0 h fun a0 ha => ?_
        refine en_ldRo (j := i.toNat) (x := xs.getD i.toNat 0) ha hs (by rintro b o rfl; simp [fa_mk]) (getD_map hi) ?_
        refine en_ld (k := .ptr) (x := some ⟨p, 0, none⟩) rfl tk rfl (en_nn ?_)
        have hx : 0 ≤ xs.getD i.toNat 0 ∧ xs.getD i.toNat 0 < l.length := by
          have := (List.all_eq_true.mp h') (xs.getD i.toNat 0) (by simp [List.getD_eq_getElem?_getD, hi])
          simpa using this
        refine BitsA.op tk fun s2 hs2 => ?_
        rw [Sp.setAll_len] at hs2
        refine en_ld (by rw [fa_mk]) tk rfl ?_
        refine en_ixSL tk hx.1 (by rw [hs2]; exact hx.2) fun a1 ha1 => ?_
        refine en_stSL (j := (xs.getD i.toNat 0).toNat) ha1 tk (by rintro b o rfl; simp [fa_mk]) (by simp only [List.length_map, Sp.setAll_len, List.length_singleton]; omega) rfl ?_
        have hm : setL ((Sp.setAll l is (xs.take i.toNat)).map bv) (xs.getD i.toNat 0).toNat [bv is] = (Sp.setAll l is (xs.take (i.toNat + 1))).map bv := by
          have : xs.take (i.toNat + 1) = xs.take i.toNat ++ [xs.getD i.toNat 0] := by
            rw [List.take_add_one]; simp [List.getD_eq_getElem?_getD, hi]
          rw [this]; simp [setL, Sp.setAll, List.foldl_append]
        rw [hm]
        refine Tr.close tks (BitsA.cl (p := p) (l := Sp.setAll l is (xs.take (i.toNat + 1))) (by rw [Sp.setAll_len]; exact hs2)) ?_
        rw [wrap64 (by omega) (by omega)]
        have e : (i + 1).toNat = i.toNat + 1 := by omega
        exact hX (xs.length - (i + 1).toNat) _ _ (by omega) ⟨by dsimp only; rw [e], by dsimp only; omega, by dsimp only; omega, rfl⟩
      · replace h : ¬ i < (s.n : Int) := of_decide_eq_false h
        rw [List.take_of_length_le (by omega)]
        exact en_rets (x := (0 : Int)) rfl ⟨rfl, rfl⟩ tks ens
end Go.Proofs.Ytncpnmpfghppeaa
