/- Objects: Objects: contract. -/
import Derived.Test.YtncpnmpfghppeaaGlObj3
set_option linter.unusedSimpArgs false
set_option linter.unusedVariables false
namespace Go.Proofs.Ytncpnmpfghppeaa
open Go Go.Gl
variable {ρ0 ρ : FR} {L L' : List Asn} {Post : Value → List Asn → Prop} {T : Tree}

/-- an object: where it is, its head, its fields -/
structure Ob1 where
  a : Int
  h : Hd
  ws : List Int
def ObA (x : Ob1 × Slc) : Asn := SLc x.2 1 (x.1.ws.map i64)
def obCs (x : Ob1 × Slc) : List Value := [i64 x.1.a, i64 x.1.h.k, i64 x.1.h.c, i64 x.1.h.n, .bool x.1.h.f, .slice x.2.a x.2.n x.2.c]
/-- a list of objects -/
def ObsA (s : Slc) (os : List Ob1) : Asn := fun h => ∃ l : List (Ob1 × Slc), (s.n = os.length ∧ l.map (·.1) = os ∧ ∀ x ∈ l, x.2.n = x.1.ws.length) ∧ star [SLc s 6 (l.flatMap obCs), star (l.map ObA)] h
theorem ObsA.cl {s : Slc} {l : List (Ob1 × Slc)} {os : List Ob1} (h1 : s.n = os.length) (h2 : l.map (·.1) = os) (h3 : ∀ x ∈ l, x.2.n = x.1.ws.length) (h : HP) (H : star [SLc s 6 (l.flatMap obCs), star (l.map ObA)] h) : ObsA s os h := ⟨l, ⟨h1, h2, h3⟩, H⟩

/-- a list of objects that stays -/
def RoObs (ρ : FR) (s : Slc) (os : List Ob1) : Prop := s.n = os.length ∧ ∃ l : List (Ob1 × Slc), l.map (·.1) = os ∧ RoS ρ s 6 (l.flatMap obCs) ∧ ∀ x ∈ l, RoS ρ x.2 1 (x.1.ws.map i64) ∧ x.2.n = x.1.ws.length
theorem keepStar : ∀ (l : List (Ob1 × Slc)) {ρ : FR} {L : List Asn} {T : Tree} (_ : ∀ ρ', Le ρ ρ' → (∀ x ∈ l, RoS ρ' x.2 1 (x.1.ws.map i64)) → Tr ρ0 ρ' L T Post), Tr ρ0 ρ (star (l.map ObA) :: L) T Post
  | [], ρ, L, T, h => Tr.drop .here (h ρ (Le.refl _) (by simp))
  | x :: l, ρ, L, T, h => by
    refine Tr.openL (ι := Unit) (M := fun _ => [ObA x, star (l.map ObA)]) (c := fun _ => True) .here (fun hp H => ⟨(), trivial, sep_mono (fun _ h => h) (fun _ => sep_emp) H⟩) fun _ _ => ?_
    refine Tr.keepSL (s := x.2) (m := 1) (xs := x.1.ws.map i64) .here fun ρ' hle hro => ?_
    refine keepStar l fun ρ'' hle2 hall => h ρ'' (hle.trans hle2) ?_
    intro y hy
    rcases List.mem_cons.mp hy with hy | hy
    · subst hy; exact hro.le hle2
    · exact hall y hy
theorem Tr.keepObs {s : Slc} {os : List Ob1} (t : Take L (ObsA s os) L') (h : ∀ ρ', Le ρ ρ' → RoObs ρ' s os → Tr ρ0 ρ' L' T Post) : Tr ρ0 ρ L T Post := by
  refine Tr.openL (M := fun l : List (Ob1 × Slc) => [SLc s 6 (l.flatMap obCs), star (l.map ObA)]) t (fun _ h => h) fun l hl => ?_
  refine Tr.keepSL (s := s) (m := 6) (xs := l.flatMap obCs) .here fun ρ' hle hro => ?_
  refine keepStar l fun ρ'' hle2 hall => h ρ'' (hle.trans hle2) ⟨hl.1, l, hl.2.1, hro.le hle2, fun x hx => ⟨hall x hx, hl.2.2 x hx⟩⟩

/-- the object at an address -/
def Ob.at1 (S : Spc) (a : Int) : Ob1 := match Ob.head S a with
  | some h => ⟨a, h, (List.range h.n.toNat).map fun i : Nat => (Ob.get S a i).1⟩ | none => ⟨a, ⟨0, 0, 0, false⟩, []⟩
/-- all objects -/
def Ob.objs (S : Spc) : List Ob1 := (Sp.each S).map (Ob.at1 S)

theorem appObj : appB Try.prog #[41, 41] 6 64 = true := by kernel_rfl
theorem zcO : zc Try.prog 46 = [.int .i64 0, .int .i64 0, .int .i64 0, .int .i64 0, .bool false, .slice none 0 0] := by kernel_rfl

theorem object_objects (p : Nat) (S : Spc) (cs : List Cls) (hw : HWf S cs) : Gl.Spec ρ Try.prog 18 [.pointer (some ⟨p, 0, none⟩)] [HeapA p S cs] RS
    fun r M => M = [ObsA r (Ob.objs S), HeapA p S cs] ∧ r.n = (Ob.objs S).length := by
  have hel := Sp.each_len hw.wf
  refine Spec.of (fun Q w' h => F.object.Heap.Objects.calls (some ⟨p, 0, none⟩) h) fun R => ?_
  unfold F.object.Heap.Objects
  try simp only [List.cons_append, List.nil_append]
  refine en_brf rfl (en_nn (HeapA.op tk fun ps pt => ?_))
  refine en_ld (k := .ptr) (b := p) (x := some ⟨ps, 0, none⟩) (by rw [fa_mk]) tk rfl ?_
  refine en_call (space_each ps S hw.wf) tks ?_
  rintro s M ⟨hs, rfl⟩
  try simp only [List.cons_append, List.nil_append]
  refine Tr.close tks (HeapA.cl (p := p) (ps := ps) (pt := pt) (S := S) (cs := cs)) ?_
  refine Tr.keepSL (s := s) tk fun ρ' hle hro => ?_
  refine Tr.none ?_
  refine Tr.nilSL 6 ?_
  refine en_lp (fun m u M => (fun (t : Slc) (i : Int) => ∃ l : List (Ob1 × Slc), M = SLc t 6 (l.flatMap obCs) :: star (l.map ObA) :: HeapA p S cs :: R ∧ 0 ≤ i ∧ i ≤ (Sp.each S).length ∧ m = (Sp.each S).length - i.toNat ∧ t.n = i.toNat ∧
      l.map (·.1) = ((Sp.each S).take i.toNat).map (Ob.at1 S) ∧ ∀ x ∈ l, x.2.n = x.1.ws.length) u.1 u.2.1) (Sp.each S).length ?_ ?_
  · exact ⟨[], rfl, by simp, by simp, by simp, rfl, by simp, by simp⟩
  · rintro m ⟨(t : Slc), (i : Int), ⟨⟩⟩ M ⟨l, rfl, h0, h1, rfl, htn, hl, hln⟩ X hX
    dsimp only at *
    refine en_br (fun h => ?_) (fun h => ?_)
    · replace h : i < (s.n : Int) := of_decide_eq_true h
      have hi : i.toNat < (Sp.each S).length := by omega
      refine en_ixRo hro h0 h fun a0 ha => ?_
      refine en_ldRo (j := i.toNat) (x := (Sp.each S).getD i.toNat 0) ha hro (by rintro b o rfl; simp [fa_mk]) (getD_map hi) ?_
      have hmem : (Sp.each S).getD i.toNat 0 ∈ Sp.each S := by rw [List.getD_eq_getElem?_getD, List.getElem?_eq_getElem hi]; exact List.getElem_mem hi
      have htk := take_succ_getD 0 hi
      generalize (Sp.each S).getD i.toNat 0 = a at hmem htk ⊢
      obtain ⟨n, rfl, hn, w, hf, w1, w2, w3⟩ := Sp.each_find hw.wf hmem
      obtain ⟨hd, hm, hwd, hfit⟩ := hw.obj n w hf
      have hb := Sp.mayH_is hm
      have hhd : Ob.head S n = some hd := by unfold Ob.head; rw [hf]; dsimp only; rw [if_pos rfl, hwd, Sp.getH_put hm]
      obtain ⟨ln, hln2⟩ : ∃ ln : Nat, hd.n = ln := ⟨hd.n.toNat, by omega⟩
      refine en_nw fun b8 => ?_
      rw [zcO]
      refine en_st (b := b8) (off := 0) rfl tk (by simp) rfl ?_
      refine en_call (object_head p S cs hw (n : Int)) tks ?_
      rintro x M ⟨rfl, rfl⟩
      try simp only [List.cons_append, List.nil_append]
      rw [hhd]
      refine en_st (b := b8) (off := 1) (by rw [fa_mk]) tk (by simp [setL]) rfl ?_
      have e8 : setL (setL [.int .i64 0, .int .i64 0, .int .i64 0, .int .i64 0, .bool false, .slice none 0 0] 0 [.int .i64 (n : Int), .int .i64 0, .int .i64 0, .int .i64 0, .bool false, .slice none 0 0]) 1
          [.int .i64 (Ob.headR (some hd)).1.1, .int .i64 (Ob.headR (some hd)).1.2.1, .int .i64 (Ob.headR (some hd)).1.2.2.1, .bool (Ob.headR (some hd)).1.2.2.2.1] = [i64 n, i64 hd.k, i64 hd.c, i64 ln, .bool hd.f, .slice none 0 0] := by
        rw [← hln2]; rfl
      rw [e8]
      refine en_ld (k := .int .i64) (b := b8) (off := 3) (x := (ln : Int)) (by rw [fa_mk, fa_mk]) tk rfl ?_
      refine Tr.nilSL 1 ?_
      refine Tr.take (A := blk b8 [i64 n, i64 hd.k, i64 hd.c, i64 ln, .bool hd.f, .slice none 0 0]) tk ?_
      refine en_lp (fun m u M => (fun (j : Int) => ∃ q : Slc, M = blk b8 [i64 n, i64 hd.k, i64 hd.c, i64 ln, .bool hd.f, .slice q.a q.n q.c] :: SLc q 1 (((List.range j.toNat).map fun i : Nat => (Ob.get S n i).1).map i64) :: HeapA p S cs :: SLc t 6 (l.flatMap obCs) :: star (l.map ObA) :: R ∧
          0 ≤ j ∧ j ≤ ln ∧ m = ln - j.toNat ∧ q.n = j.toNat) u.1) ln ?_ ?_
      · exact ⟨⟨none, 0, 0⟩, rfl, by simp, by dsimp only; omega, by simp, rfl⟩
      · rintro m ⟨(j : Int), ⟨⟩⟩ M ⟨q, rfl, j0, j1, rfl, hq⟩ Y hY
        dsimp only at *
        refine en_br (fun h2 => ?_) (fun h2 => ?_)
        · replace h2 : j < (ln : Int) := of_decide_eq_true h2
          refine en_call (object_get p S cs hw (n : Int) j) tks ?_
          rintro x M ⟨rfl, rfl⟩
          try simp only [List.cons_append, List.nil_append]
          refine en_ld (k := .slice) (b := b8) (off := 5) (x := q) (by rw [fa_mk]) tk rfl ?_
          refine en_nw fun b => ?_
          refine en_app (s := q) (x := ⟨some ⟨b, 0, none⟩, 1, 1⟩) (ys := [i64 (Ob.get S n j).1]) appInt tk (Rd.cl tk rfl rfl) rfl (by rw [hq]; dsimp only; omega) (by rw [hq]; dsimp only; omega) fun r hr => ?_
          refine en_st (b := b8) (off := 5) (by rw [fa_mk]) tk (by simp) rfl ?_
          have e : ((List.range j.toNat).map fun i : Nat => (Ob.get S n i).1).map i64 ++ [i64 (Ob.get S n j).1] = ((List.range (j + 1).toNat).map fun i : Nat => (Ob.get S n i).1).map i64 := by
            rw [show (j + 1).toNat = j.toNat + 1 by omega, List.range_succ, List.map_append, List.map_append]
            simp only [List.map_cons, List.map_nil]
            rw [show ((j.toNat : Nat) : Int) = j by omega]
          rw [e]
          refine Tr.drop (A := blk b [i64 (Ob.get S n j).1]) tk ?_
          rw [wrap64 (by omega) (by omega)]
          exact hY (ln - (j + 1).toNat) _ _ (by omega) ⟨r, rfl, by dsimp only; omega, by dsimp only; omega, rfl, by dsimp only; rw [hr, hq]; show _ + 1 = _; omega⟩
        · replace h2 : ¬ j < (ln : Int) := of_decide_eq_false h2
          have hjl : j.toNat = ln := by omega
          rw [hjl] at hq ⊢
          refine en_ldg (b := b8) (x := ((n : Int), hd.k, hd.c, (ln : Int), hd.f, q, ())) [] rfl tk rfl ?_
          refine en_nw fun b9 => ?_
          refine en_app (s := t) (x := ⟨some ⟨b9, 0, none⟩, 1, 1⟩) (ys := [i64 n, i64 hd.k, i64 hd.c, i64 ln, .bool hd.f, .slice q.a q.n q.c]) appObj tk (Rd.cl tk rfl rfl) rfl (by rw [htn]; dsimp only; omega) (by rw [htn]; dsimp only; omega) fun r hr => ?_
          have hat : Ob.at1 S n = ⟨n, hd, (List.range ln).map fun i : Nat => (Ob.get S n i).1⟩ := by
            unfold Ob.at1; rw [hhd]; dsimp only; rw [hln2, Int.toNat_natCast]
          have hfl : l.flatMap obCs ++ [i64 n, i64 hd.k, i64 hd.c, i64 ln, .bool hd.f, .slice q.a q.n q.c] = (l ++ [(Ob.at1 S n, q)]).flatMap obCs := by
            rw [List.flatMap_append, List.flatMap_cons, List.flatMap_nil, List.append_nil, hat]
            simp only [obCs, hln2]
          rw [hfl]
          refine Tr.imp (A := star (l.map ObA)) (A' := star ((l ++ ([] : List (Ob1 × Slc))).map ObA)) tk (by simp) ?_
          have hw2 : ((List.range ln).map fun i : Nat => (Ob.get S n i).1) = (Ob.at1 S n).ws := by rw [hat]
          rw [hw2]
          refine Tr.close (A := star ((l ++ [(Ob.at1 S n, q)]).map ObA)) (M := [SLc q 1 ((Ob.at1 S n).ws.map i64), star ((l ++ ([] : List (Ob1 × Slc))).map ObA)]) tks (fun h H => star_mid' (P := ObA) (x := (Ob.at1 S n, q)) h H) ?_
          refine Tr.drop (A := blk b9 [i64 n, i64 hd.k, i64 hd.c, i64 ln, .bool hd.f, .slice q.a q.n q.c]) tk ?_
          refine Tr.drop (A := blk b8 [i64 n, i64 hd.k, i64 hd.c, i64 ln, .bool hd.f, .slice q.a q.n q.c]) tk ?_
          refine Tr.take (A := SLc r 6 ((l ++ [(Ob.at1 S n, q)]).flatMap obCs)) tk ?_
          rw [wrap64 (by omega) (by omega)]
          refine hX ((Sp.each S).length - (i + 1).toNat) _ _ (by omega) ⟨l ++ [(Ob.at1 S n, q)], rfl, by dsimp only; omega, by dsimp only; omega, rfl, by dsimp only; rw [hr, htn]; show _ + 1 = _; omega, ?_, ?_⟩
          · dsimp only
            rw [show (i + 1).toNat = i.toNat + 1 by omega, htk, List.map_append, List.map_append, hl]; rfl
          · intro x hx
            rcases List.mem_append.mp hx with hx | hx
            · exact hln x hx
            · simp only [List.mem_singleton] at hx
              subst hx
              dsimp only
              rw [← hw2, hq]; simp
    · replace h : ¬ i < (s.n : Int) := of_decide_eq_false h
      have hie : i.toNat = (Sp.each S).length := by omega
      rw [hie, List.take_length] at hl
      have htl : t.n = (Ob.objs S).length := by rw [htn, hie]; simp [Ob.objs]
      refine Tr.close (M := [SLc t 6 (l.flatMap obCs), star (l.map ObA)]) tks (ObsA.cl (os := Ob.objs S) htl hl hln) ?_
      exact en_rets (x := (t : Slc)) rfl ⟨rfl, htl⟩ tks ens

end Go.Proofs.Ytncpnmpfghppeaa
