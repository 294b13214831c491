/- Bits: places that are so or not. -/
import Derived.Test.YtncpnmpfghppeaaGlArena
set_option linter.unusedSimpArgs false
set_option linter.unusedVariables false
namespace Go.Proofs.Ytncpnmpfghppeaa
open Go Go.Gl

abbrev bv (b : Bool) : Value := .bool b
def BitsA (p : Nat) (l : List Bool) : Asn := fun h => ∃ s : Slc, s.n = l.length ∧ star [blk p [.slice s.a s.n s.c], SLc s 1 (l.map bv)] h

variable {ρ0 ρ : FR} {L L' : List Asn} {Post : Value → List Asn → Prop} {T : Tree}
theorem BitsA.op {p : Nat} {l : List Bool} (t : Take L (BitsA p l) L') (h : ∀ s : Slc, s.n = l.length → Tr ρ0 ρ (blk p [.slice s.a s.n s.c] :: SLc s 1 (l.map bv) :: L') T Post) : Tr ρ0 ρ L T Post :=
  Tr.openL (M := fun s : Slc => [blk p [.slice s.a s.n s.c], SLc s 1 (l.map bv)]) t (fun _ h => h) h
theorem BitsA.cl {p : Nat} {l : List Bool} {s : Slc} (hs : s.n = l.length) (h : HP) (H : star [blk p [.slice s.a s.n s.c], SLc s 1 (l.map bv)] h) : BitsA p l h := ⟨s, hs, H⟩
theorem getD_bv {l : List Bool} {i : Nat} (h : i < l.length) : (l.map bv)[i]? = some (bv (l.getD i false)) := by
  simp [List.getD_eq_getElem?_getD, h]

theorem bits_size (p : Nat) (l : List Bool) : Spec ρ Try.prog 69 [.pointer (some ⟨p, 0, none⟩)] [BitsA p l] R1 fun r M => r = l.length ∧ M = [BitsA p l] := by
  refine Spec.of (fun Q w h => F.bits.Bits.Size.calls (some ⟨p, 0, none⟩) h) fun R => ?_
  unfold F.bits.Bits.Size
  try simp only [List.cons_append, List.nil_append]
  refine en_brf rfl (en_nn ?_)
  refine BitsA.op tk fun s hs => ?_
  refine en_ld (by rw [fa_mk]) tk rfl ?_
  refine Tr.close tks (BitsA.cl (p := p) (l := l) hs) ?_
  rw [hs]
  exact en_rets (x := ((l.length : Nat) : Int)) rfl ⟨rfl, rfl⟩ tks ens

theorem bits_place (p : Nat) (l : List Bool) (i : Int) : Spec ρ Try.prog 68 [.pointer (some ⟨p, 0, none⟩), i64 i] [BitsA p l] RB fun r M => r = decide (0 ≤ i ∧ i < l.length) ∧ M = [BitsA p l] := by
  refine Spec.of (fun Q w h => F.bits.Bits.place.calls (some ⟨p, 0, none⟩) i h) fun R => ?_
  unfold F.bits.Bits.place
  try simp only [List.cons_append, List.nil_append]
  refine en_br (fun h => ?_) (fun h => ?_)
  · refine en_call (bits_size p l) tks ?_
    rintro x M ⟨rfl, rfl⟩
    try simp only [List.cons_append, List.nil_append]
    refine en_rets (x := decide (0 ≤ i ∧ i < l.length)) ?_ ⟨rfl, rfl⟩ tks ens
    simp at h
    simp [h, RK.val, KD.val, LK.val]
  · refine en_rets (x := decide (0 ≤ i ∧ i < l.length)) ?_ ⟨rfl, rfl⟩ tks ens
    simp at h
    simp [RK.val, KD.val, LK.val]; omega

def Sp.has (l : List Bool) (i : Int) : Bool := decide (0 ≤ i) && l.getD i.toNat false
theorem Sp.has_out {l : List Bool} {i : Int} (h : ¬ (0 ≤ i ∧ i < l.length)) : Sp.has l i = false := by
  unfold Sp.has
  by_cases h0 : 0 ≤ i
  · have : l.length ≤ i.toNat := by omega
    simp [List.getD_eq_getElem?_getD, List.getElem?_eq_none this]
  · simp [h0]

theorem bits_has (p : Nat) (l : List Bool) (i : Int) : Spec ρ Try.prog 45 [.pointer (some ⟨p, 0, none⟩), i64 i] [BitsA p l] RB fun r M => r = Sp.has l i ∧ M = [BitsA p l] := by
  refine Spec.of (fun Q w h => F.bits.Bits.Has.calls (some ⟨p, 0, none⟩) i h) fun R => ?_
  unfold F.bits.Bits.Has
  try simp only [List.cons_append, List.nil_append]
  refine en_call (bits_place p l i) tks ?_
  rintro x M ⟨rfl, rfl⟩
  try simp only [List.cons_append, List.nil_append]
  refine en_br (fun h => ?_) (fun h => ?_)
  · simp only [decide_eq_true_eq] at h
    refine en_nn (BitsA.op tk fun s hs => ?_)
    refine en_ld (by rw [fa_mk]) tk rfl ?_
    refine en_ixSL tk h.1 (by rw [hs]; exact h.2) fun a0 ha => ?_
    refine en_ldSL (j := i.toNat) ha tk (by rintro b o rfl; simp [fa_mk]) (getD_bv (by omega)) ?_
    refine Tr.close tks (BitsA.cl (p := p) (l := l) hs) ?_
    refine en_rets (x := Sp.has l i) ?_ ⟨rfl, rfl⟩ tks ens
    simp [Sp.has, h.1, RK.val, KD.val, LK.val]
  · simp only [decide_eq_false_iff_not] at h
    refine en_rets (x := Sp.has l i) ?_ ⟨rfl, rfl⟩ tks ens
    rw [Sp.has_out h]; rfl

/-- the first place from one on that is so, or is not; -1: none -/
def Sp.nextN (l : List Bool) (is : Bool) : Nat → Nat → Int
  | 0, _ => -1
  | n + 1, i => if i < l.length ∧ l.getD i false = is then i else Sp.nextN l is n (i + 1)
def Sp.next (l : List Bool) (start : Int) (is : Bool) : Int := Sp.nextN l is (l.length - start.toNat) start.toNat

theorem bits_next (p : Nat) (l : List Bool) (start : Int) (is : Bool) (hl : l.length ≤ 16384) : Spec ρ Try.prog 59 [.pointer (some ⟨p, 0, none⟩), i64 start, .bool is] [BitsA p l] R1
    fun r M => r = Sp.next l start is ∧ M = [BitsA p l] := by
  refine Spec.of (fun Q w h => F.bits.Bits.Next.calls (some ⟨p, 0, none⟩) start is h) fun R => ?_
  unfold F.bits.Bits.Next
  try simp only [List.cons_append, List.nil_append]
  refine en_lp (fun n s M => (fun i : Int => M = BitsA p l :: R ∧ 0 ≤ i ∧ n = l.length - i.toNat ∧ Sp.nextN l is n i.toNat = Sp.next l start is) s.1) (l.length - start.toNat) ?_ ?_
  · have e : (if start > 0 then start else 0).toNat = start.toNat := by split <;> omega
    exact ⟨rfl, by dsimp only; split <;> omega, by dsimp only; rw [e], by dsimp only; rw [e]; rfl⟩
  · rintro n ⟨(i : Int), ⟨⟩⟩ M ⟨rfl, h0, rfl, hn⟩ X hX
    dsimp only at *
    refine en_call (bits_size p l) tks ?_
    rintro x M ⟨rfl, rfl⟩
    try simp only [List.cons_append, List.nil_append]
    refine en_br (fun h => ?_) (fun h => ?_)
    · replace h : i < (l.length : Int) := of_decide_eq_true h
      obtain ⟨k, hk⟩ : ∃ k, l.length - i.toNat = k + 1 := ⟨l.length - i.toNat - 1, by omega⟩
      rw [hk] at hn hX
      unfold Sp.nextN at hn
      refine en_nn (BitsA.op tk fun s hs => ?_)
      refine en_ld (by rw [fa_mk]) tk rfl ?_
      refine en_ixSL tk h0 (by rw [hs]; exact h) fun a0 ha => ?_
      refine en_ldSL (j := i.toNat) ha tk (by rintro b o rfl; simp [fa_mk]) (getD_bv (by omega)) ?_
      refine Tr.close tks (BitsA.cl (p := p) (l := l) hs) ?_
      refine en_br (fun h2 => ?_) (fun h2 => ?_)
      · rw [if_pos ⟨by omega, by simpa using h2⟩] at hn
        refine en_rets (x := Sp.next l start is) ?_ ⟨rfl, rfl⟩ tks ens
        rw [← hn]; simp [RK.val, KD.val, LK.val]; omega
      · rw [if_neg (by rintro ⟨_, h3⟩; rw [h3] at h2; simp at h2)] at hn
        have hw : IntKind.wrap .i64 (i + 1) = i + 1 := wrap64 (by omega) (by omega)
        rw [hw]
        refine hX k _ _ (by omega) ⟨rfl, by dsimp only; omega, by dsimp only; omega, ?_⟩
        rw [← hn]
        dsimp only
        congr 1
        omega
    · replace h : ¬ i < (l.length : Int) := of_decide_eq_false h
      have hk : l.length - i.toNat = 0 := by omega
      rw [hk] at hn
      unfold Sp.nextN at hn
      refine en_rets (x := Sp.next l start is) ?_ ⟨rfl, rfl⟩ tks ens
      rw [← hn]; rfl

end Go.Proofs.Ytncpnmpfghppeaa
