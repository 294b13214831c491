/- ObjectMade. -/
import Derived.Test.YtapchggmifbfoaaGreatGlRuns
import Derived.Test.YtapchggmifbfoaaGreatGlTxObjectMade
set_option linter.unusedSimpArgs false
set_option linter.unusedVariables false
namespace Go.Proofs.YtapchggmifbfoaaGreat
open Go Go.Gl
variable {ρ0 ρ : FR} {L L' : List Asn} {Post : Value → List Asn → Prop} {T : Tree}

theorem en_getU8S {M : List Asn} {s : Slc} {xs : List Int} {i : Int} {f : Int → Tree} (hr : RoS ρ s 1 (xs.map fun x => .int .u8 x)) (h0 : 0 ≤ i) (h1 : i < xs.length) (h : Tr ρ0 ρ L (f (xs.getD i.toNat 0)) Post) :
    Tr ρ0 ρ L (ix s.a s.n i 1 fun a => ldS (Sat ρ M) (.l (.int .u8)) a f) Post := by
  have hn := hr.len8
  refine en_ixRo hr h0 (by omega) fun a0 ha => ?_
  obtain ⟨h1, hr | ⟨b, off, cs, ty, fr, g1, g2, g3⟩⟩ := hr
  · omega
  · rw [ha] at g1
    injection g1 with g1
    exact en_ldSR (k := .int .u8) (x := xs.getD i.toNat 0) (by rw [g1, fa_mk, Nat.mul_one]) g2 (by rw [g3 i.toNat (by simp; omega)]; exact get_u8 (by omega)) h
theorem appAsk : appB Tryz.prog #[50, 50] 10 96 = true := by kernel_rfl
def AkA (x : Ask1 × Int) : Asn := SLc x.1.cr 1 (([x.2] : List Int).map i64)
theorem SLc.one {b : Nat} {y : Int} (h : HP) (H : blk b [.int .i64 y] h) : SLc ⟨some ⟨b, 0, none⟩, 1, 1⟩ 1 (([y] : List Int).map i64) h := .inr ⟨b, 0, [], [], rfl, rfl, by simp, by simp, by simp, H⟩
theorem star_snoc {α : Type} {P : α → Asn} {l : List α} {x : α} (h : HP) (H : star [P x, star (l.map P)] h) : star ((l ++ [x]).map P) h :=
  star_mid' (l1 := l) (l2 := []) h (by rw [List.append_nil]; exact H)
theorem keepAsks : ∀ (l : List (Ask1 × Int)) {ρ : FR} {L : List Asn} {T : Tree} (_ : ∀ ρ', Le ρ ρ' → (∀ x ∈ l, RoS ρ' x.1.cr 1 (([x.2] : List Int).map i64)) → Tr ρ0 ρ' L T Post), Tr ρ0 ρ (star (l.map AkA) :: L) T Post
  | [], ρ, L, T, h => Tr.drop .here (h ρ (Le.refl _) (by simp))
  | x :: l, ρ, L, T, h => by
    refine Tr.openL (ι := Unit) (M := fun _ => [AkA x, star (l.map AkA)]) (c := fun _ => True) .here (fun hp H => ⟨(), trivial, sep_mono (fun _ h => h) (fun _ => sep_emp) H⟩) fun _ _ => ?_
    refine Tr.keepSL (s := x.1.cr) (m := 1) (xs := ([x.2] : List Int).map i64) .here fun ρ' hle hro => ?_
    refine keepAsks l fun ρ'' hle2 hall => h ρ'' (hle.trans hle2) ?_
    intro y hy
    rcases List.mem_cons.mp hy with hy | hy
    · subst hy; exact hro.le hle2
    · exact hall y hy

theorem g_asks (s : Slc) (ns : List Int) (ro : RoS ρ s 1 (ns.map fun x => .int .u8 x)) (hb : ∀ x ∈ ns, 0 ≤ x ∧ x < 256) (hl : ns.length < 2 ^ 63) : Gl.Spec ρ Tryz.prog 37 [.slice s.a s.n s.c] [] RS
    fun r M => ∃ l : List (Ask1 × Int), M = [SLc r 10 ((l.map (·.1)).flatMap Ask1.cs), star (l.map AkA)] ∧ l.length ≤ 50 := by
  refine Spec.of (fun Q w h => F.gloaminglaw9.Asks.calls s h) fun R => ?_
  unfold F.gloaminglaw9.Asks
  try simp only [List.cons_append, List.nil_append]
  have hsn := ro.len8
  refine Tr.nilSL 10 ?_
  refine Tr.close (A := star (([] : List (Ask1 × Int)).map AkA)) (M := []) .nil (fun h H => H) ?_
  refine en_lp (fun m u M => (fun (t : Slc) (i : Int) => ∃ l : List (Ask1 × Int), M = star (l.map AkA) :: SLc t 10 ((l.map (·.1)).flatMap Ask1.cs) :: R ∧ i = 4 * (l.length : Int) ∧ l.length ≤ 50 ∧ m = 50 - l.length ∧ t.n = l.length) u.1 u.2.1) 50 ?_ ?_
  · exact ⟨[], rfl, rfl, by simp, by simp, rfl⟩
  · rintro m ⟨(t : Slc), (i : Int), ⟨⟩⟩ M ⟨l, rfl, hi, hl50, rfl, htn⟩ X hX
    dsimp only at hi htn hX ⊢
    have fin : Tr ρ ρ (star (l.map AkA) :: SLc t 10 ((l.map (·.1)).flatMap Ask1.cs) :: R) (ret (.slice t.a t.n t.c)) (SP RS (fun r M => ∃ l : List (Ask1 × Int), M = [SLc r 10 ((l.map (·.1)).flatMap Ask1.cs), star (l.map AkA)] ∧ l.length ≤ 50) R) :=
      en_rets (x := t) rfl ⟨l, rfl, hl50⟩ tks ens
    rw [wrap64 (n := i + 3) (by omega) (by omega)]
    refine en_br (fun h1 => ?_) (fun _ => fin)
    replace h1 : i + 3 < (s.n : Int) := of_decide_eq_true h1
    refine en_br (fun h2 => ?_) (fun _ => fin)
    replace h2 : ((t.n : Nat) : Int) < 50 := of_decide_eq_true h2
    clear fin
    rw [wrap64 (n := i + 1) (by omega) (by omega), wrap64 (n := i + 2) (by omega) (by omega), wrap64 (n := i + 4) (by omega) (by omega)]
    have v0 := u8_getD hb i.toNat
    have v1 := u8_getD hb (i + 1).toNat
    have v2 := u8_getD hb (i + 2).toNat
    have v3 := u8_getD hb (i + 3).toNat
    generalize g0 : ns.getD i.toNat 0 = x0 at v0
    generalize g1 : ns.getD (i + 1).toNat 0 = x1 at v1
    generalize g2 : ns.getD (i + 2).toNat 0 = x2 at v2
    generalize g3 : ns.getD (i + 3).toNat 0 = x3 at v3
    refine en_drw (en_held [] .nil ?_)
    refine en_getU8S ro (by omega) (by omega) (en_need (by decide) ?_)
    rw [g0]
    refine en_getU8S ro (by omega) (by omega) (en_need (by decide) ?_)
    rw [g1]
    refine en_getU8S ro (by omega) (by omega) (en_need (by decide) ?_)
    rw [g2]
    refine en_getU8S ro (by omega) (by omega) ?_
    rw [g3]
    refine en_nw fun b12 => en_chk .nil ?_
    rw [zcAsk]
    refine en_st (b := b12) (off := 0) rfl tk (by simp) rfl ?_
    refine en_drw ?_
    refine en_getU8 ro (by omega) (by omega) (en_need (by decide) ?_)
    rw [g1]
    refine en_getU8 ro (by omega) (by omega) (en_need (by decide) ?_)
    rw [g2]
    refine en_st (b := b12) (off := 1) (by rw [fa_mk]) tk (by simp [setL]) rfl ?_
    refine en_jn (fun _ M => ∃ k c n : Int, ∃ d a' i' x' : Int, M = blk b12 [.int .i64 d, .int .i64 k, .int .i64 c, .int .i64 n, .bool false, .int .i64 0, .slice none 0 0, .int .i64 a', .int .i64 i', .int .i64 x'] :: star (l.map AkA) :: SLc t 10 ((l.map (·.1)).flatMap Ask1.cs) :: R) ?_ ?_
    · rintro _ M ⟨k, c, n, d, a', i', x', rfl⟩
      refine en_drw (en_held [] .nil ?_)
      refine en_getU8S ro (by omega) (by omega) (en_need (by decide) ?_)
      rw [g3]
      refine en_getU8S ro (by omega) (by omega) (en_need (by decide) ?_)
      rw [g2]
      generalize IntKind.wrap .i64 (1 + Int.tmod (IntKind.wrap .i64 x3) 5) = cn
      generalize Int.tmod (IntKind.wrap .i64 x2) 5 = y
      refine en_nw fun b24 => en_chk .nil ?_
      refine en_st (b := b12) (off := 5) (by rw [fa_mk]) tk (by simp [setL]) rfl ?_
      refine en_ldg (b := b12) (off := 0) (x := (⟨d, k, c, n, false, cn, ⟨some ⟨b24, 0, none⟩, 1, 1⟩, a', i', x'⟩ : Ask1).t) [] rfl tk rfl ?_
      dsimp only [Ask1.t]
      refine en_nw fun b26 => ?_
      refine en_app (s := t) (x := ⟨some ⟨b26, 0, none⟩, 1, 1⟩) (ys := [.int .i64 d, .int .i64 k, .int .i64 c, .int .i64 n, .bool false, .int .i64 cn, .slice (some ⟨b24, 0, none⟩) 1 1, .int .i64 a', .int .i64 i', .int .i64 x']) appAsk tk (Rd.cl tk rfl rfl) rfl (by rw [htn]; dsimp only; omega) (by rw [htn]; dsimp only; omega) fun r hr => ?_
      refine Tr.imp (A := blk b24 [.int .i64 y]) (A' := AkA (⟨d, k, c, n, false, cn, ⟨some ⟨b24, 0, none⟩, 1, 1⟩, a', i', x'⟩, y)) tk (fun h H => SLc.one h H) ?_
      refine Tr.close (A := star ((l ++ [((⟨d, k, c, n, false, cn, ⟨some ⟨b24, 0, none⟩, 1, 1⟩, a', i', x'⟩ : Ask1), y)]).map AkA)) (M := [AkA (⟨d, k, c, n, false, cn, ⟨some ⟨b24, 0, none⟩, 1, 1⟩, a', i', x'⟩, y), star (l.map AkA)]) tks star_snoc ?_
      refine Tr.drop (A := blk b26 [.int .i64 d, .int .i64 k, .int .i64 c, .int .i64 n, .bool false, .int .i64 cn, .slice (some ⟨b24, 0, none⟩) 1 1, .int .i64 a', .int .i64 i', .int .i64 x']) tk ?_
      refine Tr.drop (A := blk b12 [.int .i64 d, .int .i64 k, .int .i64 c, .int .i64 n, .bool false, .int .i64 cn, .slice (some ⟨b24, 0, none⟩) 1 1, .int .i64 a', .int .i64 i', .int .i64 x']) tk ?_
      refine hX (50 - (l.length + 1)) _ _ (by omega) ⟨l ++ [((⟨d, k, c, n, false, cn, ⟨some ⟨b24, 0, none⟩, 1, 1⟩, a', i', x'⟩ : Ask1), y)], ?_, ?_, ?_, ?_, ?_⟩
      · dsimp only
        rw [List.map_append (f := fun x : Ask1 × Int => x.1), List.flatMap_append]; rfl
      · dsimp only; rw [List.length_append, List.length_singleton]; omega
      · rw [List.length_append, List.length_singleton]; omega
      · rw [List.length_append, List.length_singleton]
      · dsimp only; rw [hr, List.length_append, List.length_singleton, htn]
    · clear hX
      intro J hJ
      have go : ∀ (k c n d a' i' x' : Int), Tr ρ ρ (blk b12 [.int .i64 d, .int .i64 k, .int .i64 c, .int .i64 n, .bool false, .int .i64 0, .slice none 0 0, .int .i64 a', .int .i64 i', .int .i64 x'] :: star (l.map AkA) :: SLc t 10 ((l.map (·.1)).flatMap Ask1.cs) :: R) (J ()) (SP RS (fun r M => ∃ l : List (Ask1 × Int), M = [SLc r 10 ((l.map (·.1)).flatMap Ask1.cs), star (l.map AkA)] ∧ l.length ≤ 50) R) := fun k c n d a' i' x' => hJ () _ ⟨k, c, n, d, a', i', x', rfl⟩
      clear hJ
      refine en_ld (k := .int .i64) (b := b12) (off := 1) (x := IntKind.wrap .i64 (1 + Int.tmod (IntKind.wrap .i64 x1) 4)) (by rw [fa_mk, fa_mk]) tk rfl ?_
      refine en_br (fun h3 => ?_) (fun h3 => ?_)
      · refine en_getU8 ro (by omega) (by omega) (en_need (by decide) ?_)
        refine en_st (b := b12) (off := 2) (by rw [fa_mk, fa_mk]) tk (by simp [setL]) rfl ?_
        refine en_getU8 ro (by omega) (by omega) (en_need (by decide) ?_)
        refine en_st (b := b12) (off := 3) (by rw [fa_mk, fa_mk]) tk (by simp [setL]) rfl ?_
        exact go _ _ _ _ _ _ _
      · refine en_br (fun h4 => ?_) (fun h4 => ?_)
        · refine en_getU8 ro (by omega) (by omega) (en_need (by decide) ?_)
          refine en_st (b := b12) (off := 2) (by rw [fa_mk, fa_mk]) tk (by simp [setL]) rfl ?_
          refine en_st (b := b12) (off := 3) (by rw [fa_mk, fa_mk]) tk (by simp [setL]) rfl ?_
          exact go _ _ _ _ _ _ _
        · exact go _ _ _ _ _ _ _

theorem law_made (pages : Int) (s : Slc) (ns : List Int) (hp : 0 ≤ pages ∧ pages < 256) (ro : RoS ρ s 1 (ns.map fun x => .int .u8 x)) (hb : ∀ x ∈ ns, (Lit.int .u8 x).wf = true) (hl : ns.length < 2 ^ 63) :
    Gl.Spec ρ Tryz.prog 5 [.int .u8 pages, .slice s.a s.n s.c] [] RB fun r M => r = true ∧ M = [] := by
  refine Spec.of (fun Q w h => F.gloaminglaw9.ObjectMade.calls pages s h) fun R => ?_
  unfold F.gloaminglaw9.ObjectMade
  try simp only [List.cons_append, List.nil_append]
  refine en_need (by decide) ?_
  rw [wrap64 (n := pages) (by omega) (by omega), Int.tmod_eq_emod_of_nonneg hp.1, wrap64 (n := 2 + pages % 12) (by omega) (by omega)]
  refine en_call (g_asks s ns ro (u8_all hb) hl) tks ?_
  rintro r M ⟨l, rfl, hl50⟩
  try simp only [List.cons_append, List.nil_append]
  refine Tr.keepSL (s := r) tk fun ρ1 hle1 hr => ?_
  refine keepAsks l fun ρ2 hle2 hall => ?_
  have hasks : RoAsks ρ2 r (l.map (·.1)) := ⟨hr.le hle2, fun j a hj ha => by
    rw [List.getElem?_map] at ha
    cases hx : l[j]? with
    | none => rw [hx] at ha; cases ha
    | some x =>
      rw [hx] at ha
      injection ha with ha
      subst ha
      exact ⟨[x.2], hall x (List.mem_of_getElem? hx), by simp⟩⟩
  refine en_call (g_runs (2 + pages % 12) (by omega) (by omega) r (l.map (·.1)) hasks (by simp; omega)) .nil ?_
  rintro x' M ⟨rfl, rfl⟩
  try simp only [List.cons_append, List.nil_append]
  refine en_brt rfl ?_
  refine en_call (law_awake) tks ?_
  rintro x' M ⟨rfl, rfl⟩
  try simp only [List.cons_append, List.nil_append]
  exact en_rets (x := true) rfl ⟨rfl, rfl⟩ tks ens

end Go.Proofs.YtapchggmifbfoaaGreat
