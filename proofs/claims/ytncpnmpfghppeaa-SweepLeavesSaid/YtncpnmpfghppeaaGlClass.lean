/- class: tables of classes. -/
import Derived.Test.YtncpnmpfghppeaaGlHead
set_option linter.unusedSimpArgs false
set_option linter.unusedVariables false
namespace Go.Gl
open Go
variable {ρ0 ρ : FR} {L L' : List Asn} {Post : Value → List Asn → Prop}

/-- elements of m cells, one behind the other -/
theorem flat_get {α : Type} {g : α → List Value} {m : Nat} (hg : ∀ x, (g x).length = m) : ∀ {l : List α} {j e : Nat} {x : α}, l[j]? = some x → e < m → (l.flatMap g)[j * m + e]? = (g x)[e]?
  | [], _, _, _, h, _ => by simp at h
  | y :: l, 0, e, x, h, he => by
    simp at h; subst h
    rw [List.flatMap_cons, Nat.zero_mul, Nat.zero_add, List.getElem?_append_left (by rw [hg]; exact he)]
  | y :: l, j + 1, e, x, h, he => by
    simp at h
    rw [List.flatMap_cons, List.getElem?_append_right (by rw [hg, Nat.add_mul]; omega), hg, show (j + 1) * m + e - m = j * m + e by rw [Nat.add_mul]; omega]
    exact flat_get hg h he
theorem flat_len {α : Type} {g : α → List Value} {m : Nat} (hg : ∀ x, (g x).length = m) (l : List α) : (l.flatMap g).length = l.length * m := by
  induction l with
  | nil => simp
  | cons x l ih => rw [List.flatMap_cons, List.length_append, hg, ih, List.length_cons, Nat.add_mul]; omega

theorem en_ldSLo {s : Slc} {m : Nat} {xs : List Value} {a0 : Addr} {a : Addr} {j : Nat} (hs : s.a = some a0) (t : Take L (SLc s m xs) L') (ha : ∀ b o, a0 = ⟨b, o, none⟩ → a = ⟨b, o + j, none⟩) :
    ∀ (ks : List LK) (i : Nat) {f : LTs ks → Tree} {x : LTs ks} (_ : ∀ e, e < ks.length → xs[j + i + e]? = (vals ks x)[e]?) (_ : Tr ρ0 ρ L (f x) Post), Tr ρ0 ρ L (ldG a i ks f) Post
  | [], _, _, _, _, h => h
  | k :: ks, i, f, x, hv, h => by
    unfold ldG
    have h0 : xs[j + i]? = some (k.val x.1) := by
      have := hv 0 (by simp)
      simpa [vals] using this
    refine en_ldSL (k := k) (x := x.1) (j := j + i) hs t (fun b o hb => by rw [ha b o hb, fa_mk, Nat.add_assoc]) h0 ?_
    refine en_ldSLo hs t ha ks (i + 1) (x := x.2) (fun e he => ?_) h
    have := hv (e + 1) (by simpa using he)
    simp only [vals, List.getElem?_cons_succ] at this
    rw [← this]; congr 1; omega
theorem en_ldSLg {s : Slc} {m : Nat} {xs : List Value} {ks : List LK} {a a0 : Addr} {f : LTs ks → Tree} {j : Nat} {x : LTs ks} (hs : s.a = some a0) (t : Take L (SLc s m xs) L') (ha : ∀ b o, a0 = ⟨b, o, none⟩ → a = ⟨b, o + j, none⟩)
    (hx : ∀ e, e < ks.length → xs[j + e]? = (vals ks x)[e]?) (h : Tr ρ0 ρ L (f x) Post) : Tr ρ0 ρ L (ld (.g ks) a f) Post :=
  en_ldSLo hs t ha ks 0 (by simpa using hx) h

theorem sep_emp {A : Asn} {h : HP} (H : A h) : sep A emp h := ⟨h, fun _ => none, fun _ => .inr rfl, by funext b; cases h b <;> rfl, H, fun _ => rfl⟩
theorem sep_emp' {A : Asn} {h : HP} (H : sep A emp h) : A h := by
  obtain ⟨h1, h2, hd, rfl, ha, he⟩ := H
  have : (fun b => (h1 b).or (h2 b)) = h1 := by funext b; rw [he b]; cases h1 b <;> rfl
  rw [this]; exact ha
/-- one piece of many -/
theorem star_mid {α : Type} {P : α → Asn} {l1 l2 : List α} {x : α} (h : HP) (H : star ((l1 ++ x :: l2).map P) h) : star [P x, star ((l1 ++ l2).map P)] h := by
  have p : ((l1 ++ x :: l2).map P).Perm (P x :: (l1 ++ l2).map P) := (List.perm_middle (l₁ := l1) (l₂ := l2) (a := x)).map P
  exact sep_mono (fun _ h => h) (fun _ => sep_emp) (star_perm p H)
theorem star_mid' {α : Type} {P : α → Asn} {l1 l2 : List α} {x : α} (h : HP) (H : star [P x, star ((l1 ++ l2).map P)] h) : star ((l1 ++ x :: l2).map P) h := by
  have p : (P x :: (l1 ++ l2).map P).Perm ((l1 ++ x :: l2).map P) := ((List.perm_middle (l₁ := l1) (l₂ := l2) (a := x)).map P).symm
  exact star_perm p (sep_mono (fun _ h => h) (fun _ => sep_emp') H)
theorem Tr.mid {α : Type} {P : α → Asn} {l1 l2 : List α} {x : α} {T : Tree} (t : Take L (star ((l1 ++ x :: l2).map P)) L') (h : Tr ρ0 ρ (P x :: star ((l1 ++ l2).map P) :: L') T Post) : Tr ρ0 ρ L T Post :=
  Tr.openL (ι := Unit) (M := fun _ => [P x, star ((l1 ++ l2).map P)]) (c := fun _ => True) t (fun h H => ⟨(), trivial, star_mid h H⟩) fun _ _ => h
/-- no pieces -/
theorem Tr.none {T : Tree} (h : Tr ρ0 ρ (star [] :: L) T Post) : Tr ρ0 ρ L T Post := fun hle w hw => by
  refine h hle w ?_
  obtain ⟨⟨h0, hl, hh⟩, h3⟩ := hw
  exact ⟨⟨h0, ⟨fun _ => .none, h0, fun _ => .inl rfl, by funext b; simp, fun _ => rfl, hl⟩, hh⟩, h3⟩

theorem Sat.left {ρ : FR} {A R : List Asn} {w : World} (H : Sat ρ (A ++ R) w) : Sat ρ A w := (H.perm List.perm_append_comm).dropL
theorem Rd.app {A R : List Asn} {s : Slc} {m : Nat} {ys : List Value} (h : Rd ρ A s m ys) : Rd ρ (A ++ R) s m ys := ⟨h.1, fun w hw => h.2 w hw.left⟩
theorem Rd.nilc {s : Slc} {m : Nat} {ys : List Value} {T : Tree} (hr : Rd ρ L s m ys) (h : (s.a = .none → ys = []) → Tr ρ0 ρ L T Post) : Tr ρ0 ρ L T Post := fun hle w hw => by
  refine h (fun hn => ?_) hle w hw
  rcases hr.2 w hw with h0 | ⟨b, off, hb, _⟩
  · have := hr.1; rw [h0] at this; simpa using this
  · rw [hn] at hb; cases hb
end Go.Gl
namespace Go.Proofs.Ytncpnmpfghppeaa
open Go Go.Gl
variable {ρ0 ρ : FR} {L L' : List Asn} {Post : Value → List Asn → Prop} {T : Tree}

abbrev CL : List LK := [.int .i64, .slice]
abbrev RS : RK := .one (.l .slice)

theorem all_one1 (xs : List Int) : (xs.map i64).all one1 = true := by simp [one1]

theorem clone {A : List Asn} (s : Slc) (xs : List Int) (hr : Rd ρ A s 1 (xs.map i64)) (hl : xs.length ≤ 2 ^ 30) : Spec ρ Try.prog 74 [.slice s.a s.n s.c] A RS
    fun r M => r.n = xs.length ∧ M = SLc r 1 (xs.map i64) :: A := by
  refine Spec.of (fun Q w' h => F.slices.Clone.calls s h) fun R => ?_
  unfold F.slices.Clone
  have hn : s.n = xs.length := by have := hr.1; simpa using this.symm
  refine Rd.nilc (hr.app (R := R)) fun hnil => ?_
  refine en_br (fun h => ?_) (fun h => ?_)
  · have : xs = [] := by have := hnil (by simpa using h); simpa using this
    subst this
    refine Tr.nilSL 1 ?_
    exact en_rets (x := (⟨none, 0, 0⟩ : Slc)) rfl ⟨rfl, rfl⟩ (Takes.app (SLc ⟨none, 0, 0⟩ 1 [] :: A) R) .refl
  · refine en_nw fun b => ?_
    refine Tr.imp (A' := SLc ⟨some ⟨b, 0, none⟩, 0, 0⟩ 1 []) .here (SLc.of_cl rfl) ?_
    refine en_app (s := ⟨some ⟨b, 0, none⟩, 0, 0⟩) (x := s) appInt .here hr.app (all_one1 xs) (by dsimp only; omega) (by dsimp only; omega) fun r hrn => ?_
    exact en_rets (x := r) rfl ⟨by rw [hrn, hn]; simp, rfl⟩ (Takes.app (SLc r 1 (xs.map i64) :: A) R) .refl

theorem class_own {A : List Asn} (n : Int) (s : Slc) (xs : List Int) (hr : Rd ρ A s 1 (xs.map i64)) (hl : xs.length ≤ 2 ^ 30) : Spec ρ Try.prog 56 [.agg #[.int .i64 n, .slice s.a s.n s.c]] A (.one (.g CL))
    fun r M => ∃ q : Slc, r = (n, q, ()) ∧ q.n = xs.length ∧ M = SLc q 1 (xs.map i64) :: A := by
  refine Spec.of (fun Q w' h => F.class.own.calls (n, s, ()) h) fun R => ?_
  unfold F.class.own
  refine en_nw fun b1 => ?_
  refine en_nw fun b2 => ?_
  have hz : zc Try.prog 58 = [.int .i64 0, .slice none 0 0] := by kernel_rfl
  rw [hz]
  refine en_drw (en_held [blk b1 [.int .i64 n, .slice s.a s.n s.c]] tks ?_)
  refine en_ldS (k := .int .i64) (x := n) (by rw [fa_mk]) tk rfl ?_
  refine en_ldS (k := .slice) (x := s) (by rw [fa_mk]) tk rfl ?_
  refine Tr.perm (L' := A ++ (blk b2 [.int .i64 0, .slice none 0 0] :: blk b1 [.int .i64 n, .slice s.a s.n s.c] :: R)) ?_ ?_
  · exact (List.perm_append_comm (l₁ := [blk b2 [.int .i64 0, .slice none 0 0], blk b1 [.int .i64 n, .slice s.a s.n s.c]]) (l₂ := A)).append_right R |>.trans (by simp)
  refine en_call (clone s xs hr hl) (Takes.app _ _) ?_
  rintro q M ⟨hq, rfl⟩
  refine Tr.perm (L' := blk b2 [.int .i64 0, .slice none 0 0] :: blk b1 [.int .i64 n, .slice s.a s.n s.c] :: (SLc q 1 (xs.map i64) :: A ++ R)) ?_ ?_
  · exact ((List.perm_append_comm (l₁ := [blk b2 [.int .i64 0, .slice none 0 0], blk b1 [.int .i64 n, .slice s.a s.n s.c]]) (l₂ := SLc q 1 (xs.map i64) :: A)).append_right R |>.trans (by simp)).symm
  refine en_chk (M := [blk b1 [.int .i64 n, .slice s.a s.n s.c]]) (.cons (.skip .here) .nil) ?_
  refine en_st (b := b2) (off := 0) rfl .here (by simp) rfl ?_
  refine en_ldg (b := b2) (x := (n, q, ())) [] rfl .here rfl ?_
  refine Tr.drop .here (Tr.drop .here ?_)
  exact en_rets (x := (n, q, ())) rfl ⟨q, rfl, hq, rfl⟩ (Takes.app (SLc q 1 (xs.map i64) :: A) R) .refl

def Sp.mayR (n : Int) : Int → List Int → Bool
  | _, [] => true | last, x :: l => if x ≤ last then false else if x ≥ n then false else Sp.mayR n x l
def Sp.mayC (n : Int) (xs : List Int) : Bool := if n < 0 then false else if n > 1023 then false else Sp.mayR n (-1) xs

theorem class_may (n : Int) (s : Slc) (xs : List Int) (hs : RoS ρ s 1 (xs.map i64)) (hl : xs.length ≤ 2 ^ 30) : Spec ρ Try.prog 73 [.agg #[.int .i64 n, .slice s.a s.n s.c]] [] RB
    fun r M => r = Sp.mayC n xs ∧ M = [] := by
  refine Spec.of (fun Q w' h => F.class.may.calls (n, s, ()) h) fun R => ?_
  unfold F.class.may
  try simp only [List.cons_append, List.nil_append]
  have hn : s.n = xs.length := by have := hs.1; simpa using this.symm
  refine en_nw fun b => ?_
  refine en_ld (k := .int .i64) (x := n) (by rw [fa_mk]) tk rfl ?_
  refine en_br (fun h => ?_) (fun h => ?_)
  · refine en_rets (x := Sp.mayC n xs) ?_ ⟨rfl, rfl⟩ tks ens
    rw [Sp.mayC, if_pos (of_decide_eq_true h)]; rfl
  · replace h := of_decide_eq_false h
    refine en_ld (k := .int .i64) (x := n) (by rw [fa_mk]) tk rfl ?_
    refine en_br (fun h2 => ?_) (fun h2 => ?_)
    · refine en_rets (x := Sp.mayC n xs) ?_ ⟨rfl, rfl⟩ tks ens
      rw [Sp.mayC, if_neg h, if_pos (of_decide_eq_true h2)]; rfl
    · replace h2 := of_decide_eq_false h2
      refine en_ld (k := .slice) (x := s) (by rw [fa_mk]) tk rfl ?_
      refine en_lp (fun m u M => (fun last i : Int => M = blk b [.int .i64 n, .slice s.a s.n s.c] :: R ∧ 0 ≤ i ∧ i ≤ xs.length ∧ m = xs.length - i.toNat ∧ Sp.mayC n xs = Sp.mayR n last (xs.drop i.toNat)) u.1 u.2.1) xs.length ?_ ?_
      · refine ⟨rfl, by simp, by dsimp only; omega, by simp, ?_⟩
        rw [Sp.mayC, if_neg h, if_neg h2]; rfl
      · rintro m ⟨(last : Int), (i : Int), ⟨⟩⟩ M ⟨rfl, h0, h1, rfl, hc⟩ X hX
        dsimp only at *
        refine en_br (fun h3 => ?_) (fun h3 => ?_)
        · replace h3 : i < (s.n : Int) := of_decide_eq_true h3
          have hi : i.toNat < xs.length := by omega
          refine en_ixRo hs h0 h3 fun a0 ha => ?_
          refine en_ldRo (j := i.toNat) (x := xs.getD i.toNat 0) ha hs (by rintro b o rfl; simp [fa_mk]) (getD_map hi) ?_
          rw [drop_getD 0 hi] at hc
          unfold Sp.mayR at hc
          refine en_br (fun h4 => ?_) (fun h4 => ?_)
          · refine en_rets (x := Sp.mayC n xs) ?_ ⟨rfl, rfl⟩ tks ens
            rw [hc, if_pos (of_decide_eq_true h4)]; rfl
          · rw [if_neg (of_decide_eq_false h4)] at hc
            refine en_ld (k := .int .i64) (x := n) (by rw [fa_mk]) tk rfl ?_
            refine en_br (fun h5 => ?_) (fun h5 => ?_)
            · refine en_rets (x := Sp.mayC n xs) ?_ ⟨rfl, rfl⟩ tks ens
              rw [hc, if_pos (of_decide_eq_true h5)]; rfl
            · rw [if_neg (of_decide_eq_false h5)] at hc
              rw [wrap64 (by omega) (by omega)]
              refine hX (xs.length - (i + 1).toNat) _ _ (by omega) ⟨rfl, by dsimp only; omega, by dsimp only; omega, rfl, ?_⟩
              dsimp only; rw [hc, show (i + 1).toNat = i.toNat + 1 by omega]
        · replace h3 : ¬ i < (s.n : Int) := of_decide_eq_false h3
          rw [List.drop_eq_nil_of_le (by omega)] at hc
          refine en_rets (x := Sp.mayC n xs) ?_ ⟨rfl, rfl⟩ tks ens
          rw [hc]; rfl

/-! ### the table -/
/-- a class: its fields, and which are addresses -/
abbrev Cls := Int × List Int
def ClsA (x : Cls × Slc) : Asn := SLc x.2 1 (x.1.2.map i64)
def clsCs (x : Cls × Slc) : List Value := [i64 x.1.1, .slice x.2.a x.2.n x.2.c]
def TableA (p : Nat) (cs : List Cls) : Asn := fun h => ∃ (i : Slc × List (Cls × Slc)), (i.1.n = cs.length ∧ i.2.map (·.1) = cs) ∧ star [blk p [.slice i.1.a i.1.n i.1.c], SLc i.1 2 (i.2.flatMap clsCs), star (i.2.map ClsA)] h
theorem TableA.op {p : Nat} {cs : List Cls} (t : Take L (TableA p cs) L') (h : ∀ (s : Slc) (l : List (Cls × Slc)), s.n = cs.length → l.map (·.1) = cs → Tr ρ0 ρ (blk p [.slice s.a s.n s.c] :: SLc s 2 (l.flatMap clsCs) :: star (l.map ClsA) :: L') T Post) : Tr ρ0 ρ L T Post :=
  Tr.openL (M := fun i : Slc × List (Cls × Slc) => [blk p [.slice i.1.a i.1.n i.1.c], SLc i.1 2 (i.2.flatMap clsCs), star (i.2.map ClsA)]) t (fun _ h => h) fun i hi => h i.1 i.2 hi.1 hi.2
theorem TableA.cl {p : Nat} {cs : List Cls} {s : Slc} {l : List (Cls × Slc)} (hs : s.n = cs.length) (hl : l.map (·.1) = cs) (h : HP) (H : star [blk p [.slice s.a s.n s.c], SLc s 2 (l.flatMap clsCs), star (l.map ClsA)] h) : TableA p cs h := ⟨(s, l), ⟨hs, hl⟩, H⟩

theorem class_new : Spec ρ Try.prog 39 [] [] (.one (.l .ptr)) fun r M => ∃ b, r = some ⟨b, 0, none⟩ ∧ M = [TableA b []] := by
  refine Spec.of (fun Q w' h => F.class.New.calls h) fun R => ?_
  unfold F.class.New
  try simp only [List.cons_append, List.nil_append]
  refine en_nw fun b => ?_
  refine Tr.nilSL 2 (Tr.none ?_)
  refine Tr.close (M := [blk b [.slice none 0 0], SLc ⟨none, 0, 0⟩ 2 (([] : List (Cls × Slc)).flatMap clsCs), star (([] : List (Cls × Slc)).map ClsA)]) tks (TableA.cl (p := b) (cs := []) (s := ⟨none, 0, 0⟩) (l := []) rfl rfl) ?_
  exact en_rets (x := some ⟨b, 0, none⟩) rfl ⟨b, rfl, rfl⟩ tks ens

theorem class_classes (p : Nat) (cs : List Cls) : Spec ρ Try.prog 29 [.pointer (some ⟨p, 0, none⟩)] [TableA p cs] R1 fun r M => r = (cs.length : Nat) ∧ M = [TableA p cs] := by
  refine Spec.of (fun Q w' h => F.class.Table.Classes.calls (some ⟨p, 0, none⟩) h) fun R => ?_
  unfold F.class.Table.Classes
  try simp only [List.cons_append, List.nil_append]
  refine en_brf rfl (en_nn (TableA.op tk fun s l hs hl => ?_))
  refine en_ld (k := .slice) (x := s) (by rw [fa_mk]) tk rfl ?_
  refine Tr.close tks (TableA.cl (p := p) hs hl) ?_
  rw [hs]
  exact en_rets (x := ((cs.length : Nat) : Int)) rfl ⟨rfl, rfl⟩ tks ens

theorem appCls : appB Try.prog #[95, 95] 2 32 = true := by kernel_rfl

def Sp.addC (cs : List Cls) (c : Cls) : Int × Int × List Cls := if ¬ Sp.mayC c.1 c.2 then (0, 1, cs) else if cs.length ≥ 256 then (0, 3, cs) else (cs.length + 1, 0, cs ++ [c])

theorem class_add (p : Nat) (cs : List Cls) (n : Int) (s : Slc) (xs : List Int) (hs : RoS ρ s 1 (xs.map i64)) (hl : xs.length ≤ 2 ^ 30) :
    Spec ρ Try.prog 55 [.pointer (some ⟨p, 0, none⟩), .agg #[.int .i64 n, .slice s.a s.n s.c]] [TableA p cs] P2
    fun r M => r = ((Sp.addC cs (n, xs)).1, (Sp.addC cs (n, xs)).2.1, ()) ∧ M = [TableA p (Sp.addC cs (n, xs)).2.2] := by
  refine Spec.of (fun Q w' h => F.class.Table.Add.calls (some ⟨p, 0, none⟩) (n, s, ()) h) fun R => ?_
  unfold F.class.Table.Add
  try simp only [List.cons_append, List.nil_append]
  refine en_nw fun b1 => ?_
  refine en_brf rfl ?_
  refine en_ldg (b := b1) (x := (n, s, ())) [] rfl tk rfl ?_
  refine en_call (class_may n s xs hs hl) tks ?_
  rintro x M ⟨rfl, rfl⟩
  try simp only [List.cons_append, List.nil_append]
  refine en_br (fun h => ?_) (fun h => ?_)
  · have h : ¬ Sp.mayC n xs = true := by simpa using h
    have e : Sp.addC cs (n, xs) = (0, 1, cs) := by rw [Sp.addC, if_pos h]
    rw [e]
    exact en_rets (x := (0, 1, ())) rfl ⟨rfl, rfl⟩ tks ens
  · have h : Sp.mayC n xs = true := by simpa using h
    refine en_nn (TableA.op tk fun ts l hts hl2 => ?_)
    refine en_ld (k := .slice) (x := ts) (by rw [fa_mk]) tk rfl ?_
    refine en_br (fun h2 => ?_) (fun h2 => ?_)
    · replace h2 := of_decide_eq_true h2
      have e : Sp.addC cs (n, xs) = (0, 3, cs) := by rw [Sp.addC, if_neg (by simp [h]), if_pos (by omega)]
      rw [e]
      refine Tr.close tks (TableA.cl (p := p) hts hl2) ?_
      exact en_rets (x := (0, 3, ())) rfl ⟨rfl, rfl⟩ tks ens
    · replace h2 := of_decide_eq_false h2
      have e : Sp.addC cs (n, xs) = ((cs.length : Int) + 1, 0, cs ++ [(n, xs)]) := by rw [Sp.addC, if_neg (by simp [h]), if_neg (by omega)]
      rw [e]
      refine en_drw (en_held [blk p [.slice ts.a ts.n ts.c], blk b1 [.int .i64 n, .slice s.a s.n s.c]] tks ?_)
      refine en_nn (en_ldS (k := .slice) (x := ts) (by rw [fa_mk]) tk rfl ?_)
      refine en_ldgS (b := b1) (x := (n, s, ())) [] rfl tk rfl ?_
      refine en_call (class_own (A := []) n s xs (Rd.ro hs) hl) tks ?_
      rintro x M ⟨q, rfl, hq, rfl⟩
      try simp only [List.cons_append, List.nil_append]
      refine en_chk tks ?_
      refine en_nw fun b2 => ?_
      refine en_chk tks ?_
      refine en_app (s := ts) (x := ⟨some ⟨b2, 0, none⟩, 1, 1⟩) (ys := [.int .i64 n, .slice q.a q.n q.c]) appCls tk (Rd.cl tk rfl rfl) rfl (by dsimp only; omega) (by dsimp only; omega) fun r hr => ?_
      refine en_nn (en_st (b := p) (off := 0) (by rw [fa_mk]) tk (by simp) rfl (en_nn ?_))
      refine en_ld (k := .slice) (b := p) (off := 0) (x := r) (by rw [fa_mk]) tk rfl ?_
      refine Tr.imp (A := star (l.map ClsA)) (A' := star ((l ++ ([] : List (Cls × Slc))).map ClsA)) tk (by simp) ?_
      refine Tr.close (A := star ((l ++ [((n, xs), q)]).map ClsA)) (M := [ClsA ((n, xs), q), star ((l ++ ([] : List (Cls × Slc))).map ClsA)]) tks (fun h H => star_mid' h H) ?_
      have hflat : l.flatMap clsCs ++ [.int .i64 n, .slice q.a q.n q.c] = (l ++ [((n, xs), q)]).flatMap clsCs := by
        simp only [List.flatMap_append, List.flatMap_cons, List.flatMap_nil, clsCs, List.append_nil]
      rw [hflat]
      refine Tr.close (M := [blk p [.slice r.a r.n r.c], SLc r 2 ((l ++ [((n, xs), q)]).flatMap clsCs), star ((l ++ [((n, xs), q)]).map ClsA)]) tks (TableA.cl (p := p) (cs := cs ++ [(n, xs)]) (s := r) (l := l ++ [((n, xs), q)]) (by rw [hr, hts]; simp) (by simp [hl2])) ?_
      refine en_rets (x := ((cs.length : Int) + 1, 0, ())) ?_ ⟨rfl, rfl⟩ tks ens
      rw [hr, hts]; simp [RK.val, KD.val, LK.val, kvals]

theorem class_of (p : Nat) (cs : List Cls) (n : Int) (s : Slc) (xs : List Int) (hs : RoS ρ s 1 (xs.map i64)) (hl : xs.length ≤ 2 ^ 30) :
    Spec ρ Try.prog 25 [.pointer (some ⟨p, 0, none⟩), i64 n, .slice s.a s.n s.c] [TableA p cs] P2
    fun r M => r = ((Sp.addC cs (n, xs)).1, (Sp.addC cs (n, xs)).2.1, ()) ∧ M = [TableA p (Sp.addC cs (n, xs)).2.2] := by
  refine Spec.of (fun Q w' h => F.class.Table.Of.calls (some ⟨p, 0, none⟩) n s h) fun R => ?_
  unfold F.class.Table.Of
  try simp only [List.cons_append, List.nil_append]
  refine en_call (class_add p cs n s xs hs hl) tks ?_
  rintro x M ⟨rfl, rfl⟩
  try simp only [List.cons_append, List.nil_append]
  exact en_rets (x := ((Sp.addC cs (n, xs)).1, (Sp.addC cs (n, xs)).2.1, ())) rfl ⟨rfl, rfl⟩ tks ens

abbrev CE : RK := .many [.g CL, .l (.int .i64)]
theorem class_class0 (p : Nat) (cs : List Cls) (i : Int) (hi : ¬ (1 ≤ i ∧ i ≤ cs.length)) : Spec ρ Try.prog 27 [.pointer (some ⟨p, 0, none⟩), i64 i] [TableA p cs] CE
    fun r M => r = ((0, ⟨none, 0, 0⟩, ()), 2, ()) ∧ M = [TableA p cs] := by
  refine Spec.of (fun Q w' h => F.class.Table.Class.calls (some ⟨p, 0, none⟩) i h) fun R => ?_
  unfold F.class.Table.Class
  try simp only [List.cons_append, List.nil_append]
  have hz : zc Try.prog 58 = [.int .i64 0, .slice none 0 0] := by kernel_rfl
  rw [hz]
  refine en_nw fun b1 => ?_
  refine en_br (fun h => ?_) (fun h => ?_)
  · refine en_st (b := b1) (off := 0) rfl tk (by simp) rfl ?_
    refine en_ldg (b := b1) (x := (0, ⟨none, 0, 0⟩, ())) [] rfl tk rfl ?_
    exact en_rets (x := ((0, ⟨none, 0, 0⟩, ()), 2, ())) rfl ⟨rfl, rfl⟩ tks ens
  · replace h := of_decide_eq_false h
    refine en_call (class_classes p cs) tks ?_
    rintro x M ⟨rfl, rfl⟩
    try simp only [List.cons_append, List.nil_append]
    refine en_brt (by simp; omega) ?_
    refine en_st (b := b1) (off := 0) rfl tk (by simp) rfl ?_
    refine en_ldg (b := b1) (x := (0, ⟨none, 0, 0⟩, ())) [] rfl tk rfl ?_
    exact en_rets (x := ((0, ⟨none, 0, 0⟩, ()), 2, ())) rfl ⟨rfl, rfl⟩ tks ens

theorem class_class (p : Nat) (cs : List Cls) (i : Nat) (c : Cls) (hc : cs[i]? = some c) (hcs : cs.length ≤ 256) (hb : c.2.length ≤ 2 ^ 30) : Spec ρ Try.prog 27 [.pointer (some ⟨p, 0, none⟩), i64 (i + 1)] [TableA p cs] CE
    fun r M => ∃ q : Slc, r = ((c.1, q, ()), 0, ()) ∧ q.n = c.2.length ∧ M = [TableA p cs, SLc q 1 (c.2.map i64)] := by
  have hi : i < cs.length := by
    rcases Nat.lt_or_ge i cs.length with h | h
    · exact h
    · rw [List.getElem?_eq_none h] at hc; cases hc
  refine Spec.of (fun Q w' h => F.class.Table.Class.calls (some ⟨p, 0, none⟩) (i + 1) h) fun R => ?_
  unfold F.class.Table.Class
  try simp only [List.cons_append, List.nil_append]
  have hz : zc Try.prog 58 = [.int .i64 0, .slice none 0 0] := by kernel_rfl
  rw [hz]
  refine en_nw fun b1 => ?_
  refine en_brf (by simp; omega) ?_
  refine en_call (class_classes p cs) tks ?_
  rintro x M ⟨rfl, rfl⟩
  try simp only [List.cons_append, List.nil_append]
  refine en_brf (by simp; omega) (en_nn (TableA.op tk fun ts l hts hl2 => ?_))
  refine en_ld (k := .slice) (x := ts) (by rw [fa_mk]) tk rfl ?_
  have w1 : IntKind.wrap .i64 ((i : Int) + 1 - 1) = i := by rw [wrap64 (by omega) (by omega)]; omega
  rw [w1]
  obtain ⟨s, hs⟩ : ∃ s, l[i]? = some (c, s) := by
    have hll : i < l.length := by have := congrArg List.length hl2; simp at this; omega
    have := congrArg (fun l => l[i]?) hl2
    simp only [List.getElem?_map, hc] at this
    cases hh : l[i]? with
    | none => rw [hh] at this; cases this
    | some x => rw [hh] at this; simp at this; exact ⟨x.2, by rw [← this]⟩
  refine en_ixSL (s := ts) (xs := l.flatMap clsCs) tk (by omega) (by rw [hts]; omega) fun a0 ha => ?_
  refine en_ldSLg (s := ts) (xs := l.flatMap clsCs) (j := i * 2) (x := (c.1, s, ())) ha tk (by rintro b o rfl; simp [fa_mk]) (fun e he => ?_) ?_
  · rw [flat_get (g := clsCs) (m := 2) (fun _ => rfl) hs (by simpa using he)]; rfl
  obtain ⟨l1, l2, hl12⟩ : ∃ l1 l2, l = l1 ++ (c, s) :: l2 := by
    have hll : i < l.length := by
      rcases Nat.lt_or_ge i l.length with h | h
      · exact h
      · rw [List.getElem?_eq_none h] at hs; cases hs
    refine ⟨l.take i, l.drop (i + 1), ?_⟩
    have : l[i] = (c, s) := by rw [List.getElem?_eq_getElem hll] at hs; simpa using hs
    rw [← this, ← List.drop_eq_getElem_cons hll, List.take_append_drop]
  subst hl12
  refine Tr.mid (P := ClsA) tk ?_
  refine Tr.sl_len (s := s) (m := 1) (xs := c.2.map i64) .here fun hlen _ => ?_
  refine en_call (class_own (A := [ClsA (c, s)]) c.1 s c.2 (Rd.sl (L' := []) .here hlen) hb) tks ?_
  rintro x M ⟨q, rfl, hq, rfl⟩
  try simp only [List.cons_append, List.nil_append]
  refine Tr.close (A := star ((l1 ++ (c, s) :: l2).map ClsA)) (M := [ClsA (c, s), star ((l1 ++ l2).map ClsA)]) tks (fun h H => star_mid' h H) ?_
  refine en_st (b := b1) (off := 0) rfl tk (by simp) rfl ?_
  refine en_ldg (b := b1) (x := (c.1, q, ())) [] rfl tk rfl ?_
  refine Tr.close tks (TableA.cl (p := p) hts hl2) ?_
  exact en_rets (x := ((c.1, q, ()), 0, ())) rfl ⟨q, rfl, hq, rfl⟩ tks ens

end Go.Proofs.Ytncpnmpfghppeaa
