/- MarkRows. -/
import Derived.Test.YtapchggmifbfoaaGreatGlMark4
import Derived.Test.YtapchggmifbfoaaGreatGlTxMarkRows
set_option linter.unusedSimpArgs false
set_option linter.unusedVariables false
namespace Go.Proofs.YtapchggmifbfoaaGreat
open Go Go.Gl
variable {ρ0 ρ : FR} {L L' : List Asn} {Post : Value → List Asn → Prop} {T : Tree}

namespace Rw
/-- a heap of some objects, with room -/
structure OK (S : Spc) (hs : List Hd) (l : List Int) : Prop where
  hw : HWf S []
  len : l.length = hs.length
  pfx : ∃ m, Pfx S.pg m ∧ m ≤ 1 + hs.length
  pgs : S.pg.length = 200
  head : ∀ i h, hs[i]? = some h → Ob.head S (l.getD i 0) = some h
  each : (Sp.each S).Perm l
theorem OK.start : OK (Sp.newSpc 200) [] [] := by
  refine ⟨newSpc_hwf (by omega) (by omega), rfl, ⟨1, Pfx.new (by omega), by simp⟩, by kernel_rfl, by simp, ?_⟩
  have : Sp.each (Sp.newSpc 200) = [] := by kernel_rfl
  rw [this]
theorem OK.make {S : Spc} {hs : List Hd} {l : List Int} (H : OK S hs l) (hn : hs.length < 100) {h : Hd} (hm : Ob.may [] h = 0) (hs1 : Sp.need (h.n + 1) ≤ 1) :
    (Ob.make S [] h).2.1 = 0 ∧ OK (Ob.make S [] h).2.2 (hs ++ [h]) (l ++ [(Ob.make S [] h).1]) := by
  obtain ⟨m, hp, hm1⟩ := H.pfx
  have hpg := H.pgs
  obtain ⟨h0, ⟨m', p1, p2⟩, p3⟩ := make_pfx H.hw hp hm (by omega)
  refine ⟨h0, H.hw.make _, by simp [H.len], ⟨m', p1, by simp; omega⟩, by omega, fun i h' hi => ?_, ?_⟩
  · rcases Nat.lt_or_ge i hs.length with c | c
    · rw [List.getElem?_append_left c] at hi
      rw [Gr.getD_front (by rw [H.len]; exact c)]
      exact (Ob.make_keep H.hw h0 (H.head i h' hi)).1
    · have hlt := getElem?_lt hi
      simp at hlt
      have : i = hs.length := by omega
      subst this
      rw [List.getElem?_append_right (Nat.le_refl _), Nat.sub_self] at hi
      injection hi with hi
      subst hi
      rw [← H.len, Gr.getD_last]
      exact Ob.make_head H.hw h0
  · refine (each_make H.hw h0).trans ?_
    exact (List.Perm.cons _ H.each).trans (List.perm_append_singleton _ _).symm
theorem OK.put {S : Spc} {hs : List Hd} {l : List Int} (H : OK S hs l) {i : Nat} {h : Hd} (hi : hs[i]? = some h) {k : Int} (k0 : 0 ≤ k) (k1 : k < h.n) (x : Int) :
    (Ob.put S (l.getD i 0) k x).1 = 0 ∧ OK (Ob.put S (l.getD i 0) k x).2 hs l := by
  obtain ⟨h0, hk⟩ := Ob.put_keep H.hw (x := x) (H.head i h hi) k0 k1
  obtain ⟨ws', e, hl⟩ := put_pg S (l.getD i 0) k x
  refine ⟨h0, H.hw.put _ _ _, H.len, by rw [e]; exact H.pfx, by rw [e]; exact H.pgs, fun j h' hj => (hk _ _ (H.head j h' hj)).1, ?_⟩
  rw [put_each H.hw]; exact H.each
theorem OK.nodup {S : Spc} {hs : List Hd} {l : List Int} (H : OK S hs l) : l.Nodup := H.each.nodup_iff.mp ((Sp.each_sorted H.hw.wf).imp fun h => Int.ne_of_lt h)
theorem nodup_inj {l : List Int} (hn : l.Nodup) {a b : Nat} (ha : a < l.length) (hb : b < l.length) (h : l[a] = l[b]) : a = b := by
  have hp := List.pairwise_iff_getElem.mp (List.nodup_iff_pairwise_ne.mp hn)
  rcases Nat.lt_trichotomy a b with c | c | c
  · exact absurd h (hp a b ha hb c)
  · exact c
  · exact absurd h.symm (hp b a hb ha c)
theorem OK.inj {S : Spc} {hs : List Hd} {l : List Int} (H : OK S hs l) {a b : Nat} (ha : a < l.length) (hb : b < l.length) (h : l.getD a 0 = l.getD b 0) : a = b := by
  rw [List.getD_eq_getElem?_getD, List.getD_eq_getElem?_getD, List.getElem?_eq_getElem ha, List.getElem?_eq_getElem hb] at h
  exact nodup_inj H.nodup ha hb h
theorem OK.obj {S : Spc} {hs : List Hd} {l : List Int} (H : OK S hs l) {a : Int} : Mk.obj S a ↔ a ∈ l := by
  constructor
  · intro h
    unfold Mk.obj at h
    cases hh : Ob.head S a with
    | none => rw [hh] at h; cases h
    | some hd =>
      obtain ⟨n, w, rfl, hf, _⟩ := Ob.head_is H.hw hh
      exact H.each.mem_iff.mp ((mem_each H.hw.wf).mpr ⟨n, w, rfl, hf⟩)
  · intro h
    obtain ⟨i, hi⟩ := List.mem_iff_getElem?.mp h
    have hlt := getElem?_lt hi
    rw [H.len] at hlt
    have h2 := H.head i _ (List.getElem?_eq_getElem hlt)
    rw [show l.getD i 0 = a by rw [List.getD_eq_getElem?_getD, hi]; rfl] at h2
    unfold Mk.obj; rw [h2]; rfl
/-- a row's object -/
def hdW (w : Int) : Hd := ⟨2, 0, w, false⟩
def hdR : Hd := ⟨4, 1, 5, false⟩
theorem may_w {w : Int} (h0 : 1 ≤ w) (h1 : w ≤ 30) : Ob.may [] (hdW w) = 0 := by
  have hm : Sp.mayH (hdW w) = true := by
    unfold hdW Sp.mayH; dsimp only; rw [if_neg (by omega), if_pos (by omega), Bool.and_eq_true]; exact ⟨decide_eq_true (by omega), rfl⟩
  unfold Ob.may; rw [hm]; unfold hdW; dsimp only; rw [if_neg (by simp), if_pos (by omega)]
theorem may_r : Ob.may [] hdR = 0 := by decide
theorem rep_get {K i : Nat} {h : Hd} (hi : i < K) : (List.replicate K h)[i]? = some h := by rw [List.getElem?_replicate, if_pos hi]

/-- rows that are put up to the i-th, and of that one j fields -/
structure Row (S : Spc) (K : Nat) (w : Int) (l : List Int) (i : Nat) (j : Int) : Prop where
  ok : OK S (List.replicate K (hdW w)) l
  old : ∀ a, a < i → (∀ c, 0 ≤ c → c < w → ∃ m, a < m ∧ m < K ∧ Ob.get S (l.getD a 0) c = (l.getD m 0, 0)) ∧ Ob.get S (l.getD a 0) 0 = (l.getD (a + 1) 0, 0)
  mid : ∀ c, 0 ≤ c → c < j → c < w → ∃ m, i < m ∧ m < K ∧ Ob.get S (l.getD i 0) c = (l.getD m 0, 0)
  zero : ∀ a, i < a → a < K → ∀ c, 0 ≤ c → c < w → Ob.get S (l.getD a 0) c = (0, 0)
  zero2 : i < K → ∀ c, j ≤ c → 0 ≤ c → c < w → Ob.get S (l.getD i 0) c = (0, 0)
theorem Row.len {S : Spc} {K : Nat} {w : Int} {l : List Int} {i : Nat} {j : Int} (H : Row S K w l i j) : l.length = K := by rw [H.ok.len, List.length_replicate]
theorem OK.putg {S : Spc} {K : Nat} {w : Int} {l : List Int} (H : OK S (List.replicate K (hdW w)) l) {i : Nat} (hi : i < K) {j : Int} (j0 : 0 ≤ j) (j1 : j < w) (x : Int) :
    (Ob.put S (l.getD i 0) j x).1 = 0 ∧ OK (Ob.put S (l.getD i 0) j x).2 (List.replicate K (hdW w)) l ∧ ∀ a, a < K → ∀ c, 0 ≤ c → c < w → Ob.get (Ob.put S (l.getD i 0) j x).2 (l.getD a 0) c = if a = i ∧ c = j then (x, 0) else Ob.get S (l.getD a 0) c := by
  have hl : l.length = K := by rw [H.len, List.length_replicate]
  obtain ⟨p0, p1⟩ := H.put (rep_get hi) (k := j) j0 j1 x
  obtain ⟨_, hk⟩ := Ob.put_keep (x := x) H.hw (H.head i _ (rep_get hi)) j0 j1
  refine ⟨p0, p1, fun a ha c c0 c1 => ?_⟩
  rw [(hk _ _ (H.head a _ (rep_get ha))).2 c c0 c1]
  by_cases hc : a = i ∧ c = j
  · rw [if_pos hc, if_pos ⟨by rw [hc.1], hc.2⟩]
  · rw [if_neg hc, if_neg (fun g => hc ⟨H.inj (by omega) (by omega) g.1, g.2⟩)]
theorem Row.put {S : Spc} {K : Nat} {w : Int} {l : List Int} {i : Nat} {j : Int} (H : Row S K w l i j) (hi : i < K) (j0 : 0 ≤ j) (j1 : j < w) {m : Nat} (hm : i < m) (hm2 : m < K) :
    (Ob.put S (l.getD i 0) j (l.getD m 0)).1 = 0 ∧ Row (Ob.put S (l.getD i 0) j (l.getD m 0)).2 K w l i (j + 1) := by
  obtain ⟨p0, p1, hg⟩ := H.ok.putg hi j0 j1 (l.getD m 0)
  refine ⟨p0, p1, fun a ha => ⟨fun c c0 c1 => ?_, ?_⟩, fun c c0 c1 c2 => ?_, fun a ha ha2 c c0 c1 => ?_, fun _ c c0 c1 c2 => ?_⟩
  · rw [hg a (by omega) c c0 c1, if_neg (fun g => by omega)]; exact (H.old a ha).1 c c0 c1
  · rw [hg a (by omega) 0 (by omega) (by omega), if_neg (fun g => by omega)]; exact (H.old a ha).2
  · rw [hg i hi c c0 c2]
    by_cases hc : c = j
    · rw [if_pos ⟨rfl, hc⟩]; exact ⟨m, hm, hm2, rfl⟩
    · rw [if_neg (fun g => hc g.2)]; exact H.mid c c0 (by omega) c2
  · rw [hg a ha2 c c0 c1, if_neg (fun g => by omega)]; exact H.zero a ha ha2 c c0 c1
  · rw [hg i hi c c1 c2, if_neg (fun g => by omega)]; exact H.zero2 hi c (by omega) c1 c2
theorem Row.next {S : Spc} {K : Nat} {w : Int} {l : List Int} {i : Nat} (H : Row S K w l i w) (hi : i + 1 < K) (w1 : 1 ≤ w) :
    (Ob.put S (l.getD i 0) 0 (l.getD (i + 1) 0)).1 = 0 ∧ Row (Ob.put S (l.getD i 0) 0 (l.getD (i + 1) 0)).2 K w l (i + 1) 0 := by
  obtain ⟨p0, p1, hg⟩ := H.ok.putg (i := i) (by omega) (j := 0) (by omega) (by omega) (l.getD (i + 1) 0)
  refine ⟨p0, p1, fun a ha => ⟨fun c c0 c1 => ?_, ?_⟩, fun c c0 c1 c2 => by omega, fun a ha ha2 c c0 c1 => ?_, fun _ c c0 c1 c2 => ?_⟩
  · rw [hg a (by omega) c c0 c1]
    by_cases hc : a = i ∧ c = 0
    · rw [if_pos hc]; exact ⟨i + 1, by omega, hi, rfl⟩
    · rw [if_neg hc]
      rcases Nat.lt_or_ge a i with h | h
      · exact (H.old a h).1 c c0 c1
      · have : a = i := by omega
        subst this
        exact H.mid c c0 c1 c1
  · rw [hg a (by omega) 0 (by omega) (by omega)]
    by_cases hc : a = i
    · subst hc; rw [if_pos ⟨rfl, rfl⟩]
    · rw [if_neg (fun g => hc g.1)]; exact (H.old a (by omega)).2
  · rw [hg a ha2 c c0 c1, if_neg (fun g => by omega)]; exact H.zero a (by omega) ha2 c c0 c1
  · rw [hg (i + 1) hi c c1 c2, if_neg (fun g => by omega)]; exact H.zero (i + 1) (by omega) hi c c1 c2

/-- the reference is made, and put -/
theorem Row.last {S : Spc} {K : Nat} {w : Int} {l : List Int} {i : Nat} (H : Row S K w l i 0) (hi : i + 1 = K) (hK : K ≤ 50) (w1 : 1 ≤ w) (w2 : w ≤ 30) :
    ∃ (r : Int) (S1 S2 : Spc), Ob.make S [] hdR = (r, 0, S1) ∧ (Ob.put S1 r 0 (l.getD 0 0)) = (0, S2) ∧ HWf S1 [] ∧ HWf S2 [] ∧ r ∉ l ∧ l.Nodup ∧
      ∀ J, J < K → ∀ a, Mk.Rch S2 [] [l.getD J 0, r, 0, -5] a ↔ (a = r ∨ ∃ c, J ≤ c ∧ c < K ∧ a = l.getD c 0) := by
  have hl := H.len
  obtain ⟨b0, K2⟩ := H.ok.make (by rw [List.length_replicate]; omega) may_r (need1 (by decide) (by decide))
  have hkeep := fun a h (hh : Ob.head S a = some h) => Ob.make_keep (h := hdR) H.ok.hw b0 hh
  have hzero := fun c c0 c1 => Ob.make_zero (i := c) H.ok.hw b0 c0 c1
  have hB : Ob.make S [] hdR = ((Ob.make S [] hdR).1, 0, (Ob.make S [] hdR).2.2) := by rw [← b0]
  generalize (Ob.make S [] hdR).1 = r at *
  generalize (Ob.make S [] hdR).2.2 = S1 at *
  have hnd2 := K2.nodup
  have hrl : r ∉ l := fun hin => by
    rw [List.nodup_append] at hnd2
    exact hnd2.2.2 r hin r (by simp) rfl
  have hR1 : Ob.head S1 r = some hdR := by
    have := K2.head K hdR (by rw [List.getElem?_append_right (by simp), List.length_replicate, Nat.sub_self]; rfl)
    rwa [← hl, Gr.getD_last] at this
  obtain ⟨p0, K3⟩ := K2.put (i := K) (h := hdR) (by rw [List.getElem?_append_right (by simp), List.length_replicate, Nat.sub_self]; rfl) (k := 0) (by omega) (by decide) (l.getD 0 0)
  rw [show (l ++ [r]).getD K 0 = r by rw [← hl, Gr.getD_last]] at p0 K3
  obtain ⟨_, hput⟩ := Ob.put_keep (x := l.getD 0 0) K2.hw hR1 (i := 0) (by omega) (by decide)
  have hC : Ob.put S1 r 0 (l.getD 0 0) = (0, (Ob.put S1 r 0 (l.getD 0 0)).2) := Prod.ext p0 rfl
  generalize (Ob.put S1 r 0 (l.getD 0 0)).2 = S2 at *
  have hgl : ∀ c, c < K → l.getD c 0 ∈ l := fun c hc => by rw [List.getD_eq_getElem?_getD, List.getElem?_eq_getElem (by omega)]; exact List.getElem_mem _
  have hhead : ∀ c, c < K → Ob.head S2 (l.getD c 0) = some (hdW w) := fun c hc => by
    have := K3.head c (hdW w) (by rw [List.getElem?_append_left (by simpa using hc)]; exact rep_get hc)
    rwa [Gr.getD_front (by omega)] at this
  have hheadr : Ob.head S2 r = some hdR := (hput r hdR hR1).1
  have hget : ∀ c, c < K → ∀ f, 0 ≤ f → f < w → Ob.get S2 (l.getD c 0) f = Ob.get S (l.getD c 0) f := fun c hc f f0 f1 => by
    have h0 := H.ok.head c _ (rep_get hc)
    obtain ⟨g1, g2, g3⟩ := hkeep _ _ h0
    rw [(hput _ _ g1).2 f f0 f1, if_neg (fun g => g2 g.1), g3 f f0 f1]
  have hgetr : Ob.get S2 r 2 = (0, 0) := by
    rw [(hput r hdR hR1).2 2 (by omega) (by decide), if_neg (fun g => by omega)]
    exact hzero 2 (by omega) (by decide)
  have hz := Mk.obj_zero K3.hw
  have hobj := fun a => K3.obj (a := a)
  refine ⟨r, S1, S2, hB, hC, K2.hw, K3.hw, hrl, H.ok.nodup, fun J hJ a => ⟨fun ha => ?_, ?_⟩⟩
  · induction ha with
    | @root a h ho =>
      simp only [List.mem_cons, List.not_mem_nil, or_false] at h
      rcases h with rfl | rfl | rfl | rfl
      · exact .inr ⟨J, Nat.le_refl _, hJ, rfl⟩
      · exact .inl rfl
      · exact (hz ho).elim
      · have := (Mk.obj_in K3.hw ho).1; omega
    | @step a b _ hb ho ih =>
      obtain ⟨f, hf, hf0, hfx⟩ := Mk.mem_kids.mp hb
      rcases ih with rfl | ⟨c, c0, c1, rfl⟩
      · have e : Ob.refs S2 [] a = [2] := by unfold Ob.refs; rw [hheadr]; rfl
        rw [e] at hf
        have : f = 2 := by simpa using hf
        rw [this, hgetr] at hfx
        rw [← hfx] at ho
        exact (hz ho).elim
      · obtain ⟨f0, f1⟩ := Ob.get_in K3.hw (hhead c c1) hf0
        have f1 : f < w := f1
        rw [hget c c1 f f0 f1] at hfx
        rcases Nat.lt_or_ge c i with h | h
        · obtain ⟨m, m0, m1, e⟩ := (H.old c h).1 f f0 f1
          rw [e] at hfx
          exact .inr ⟨m, by omega, m1, hfx.symm⟩
        · have : c = i := by omega
          subst this
          rw [H.zero2 c1 f (by omega) f0 f1] at hfx
          rw [← hfx] at ho
          exact (hz ho).elim
  · rintro (rfl | ⟨c, c0, c1, rfl⟩)
    · exact .root (by simp) ((hobj a).mpr (by simp))
    · obtain ⟨d, rfl⟩ := Nat.exists_eq_add_of_le c0
      clear c0
      induction d with
      | zero => exact .root (by simp) ((hobj _).mpr (List.mem_append_left _ (hgl J hJ)))
      | succ d ih =>
        refine .step (ih (by omega)) (Mk.mem_kids.mpr ⟨0, ?_, ?_, ?_⟩) ((hobj _).mpr (List.mem_append_left _ (hgl _ c1)))
        · have e : Ob.refs S2 [] (l.getD (J + d) 0) = Sp.upto w.toNat := by unfold Ob.refs; rw [hhead _ (by omega)]; rfl
          rw [e]
          unfold Sp.upto
          rw [List.mem_map]
          exact ⟨0, List.mem_range.mpr (by omega), rfl⟩
        · rw [hget _ (by omega) 0 (by omega) (by omega), (H.old (J + d) (by omega)).2]
        · rw [hget _ (by omega) 0 (by omega) (by omega), (H.old (J + d) (by omega)).2]; rfl
end Rw

theorem mark_mark0 (z : Slc) : Gl.Spec ρ Tryz.prog 40 [.pointer none, .slice z.a z.n z.c] [] (.many []) fun _ M => M = [] := by
  refine Spec.of (fun Q w h => F.mark.Tracer.Mark.calls none z h) fun R => ?_
  unfold F.mark.Tracer.Mark
  try simp only [List.cons_append, List.nil_append]
  exact en_brt rfl (en_rets (x := ()) rfl rfl tks ens)
theorem mark_marked0 (x : Int) : Gl.Spec ρ Tryz.prog 44 [.pointer none, i64 x] [] RB fun r M => r = false ∧ M = [] := by
  refine Spec.of (fun Q w h => F.mark.Tracer.Marked.calls none x h) fun R => ?_
  unfold F.mark.Tracer.Marked
  try simp only [List.cons_append, List.nil_append]
  refine en_brf rfl ?_
  exact en_rets (x := false) rfl ⟨rfl, rfl⟩ tks ens
theorem mark_all0 : Gl.Spec ρ Tryz.prog 41 [.pointer none] [] RS fun r M => r.n = 0 ∧ M = [] := by
  refine Spec.of (fun Q w h => F.mark.Tracer.All.calls none h) fun R => ?_
  unfold F.mark.Tracer.All
  try simp only [List.cons_append, List.nil_append]
  refine en_brt rfl ?_
  exact en_rets (x := (⟨none, 0, 0⟩ : Slc)) rfl ⟨rfl, rfl⟩ tks ens
theorem mark_deep0 : Gl.Spec ρ Tryz.prog 52 [.pointer none] [] R1 fun r M => r = 0 ∧ M = [] := by
  refine Spec.of (fun Q w h => F.mark.Tracer.Deep.calls none h) fun R => ?_
  unfold F.mark.Tracer.Deep
  try simp only [List.cons_append, List.nil_append]
  refine en_brt rfl ?_
  exact en_rets (x := (0 : Int)) rfl ⟨rfl, rfl⟩ tks ens
theorem Mk.all_nodup (m : List Bool) : (Mk.all m).Nodup := by
  unfold Mk.all
  have h1 : ((List.range m.length).filter fun i => m.getD i false).Pairwise (· < ·) := List.Pairwise.filter _ List.pairwise_lt_range
  rw [List.nodup_iff_pairwise_ne, List.pairwise_map]
  exact h1.imp fun h => by omega

open Rw in
theorem law_markrows (n from' wide size : Int) (hn : 0 ≤ n ∧ n < 256) (hf : 0 ≤ from' ∧ from' < 256) (hwd : 0 ≤ wide ∧ wide < 256) (hsz : 0 ≤ size ∧ size < 256) :
    Gl.Spec ρ Tryz.prog 9 [.int .u8 n, .int .u8 from', .int .u8 wide, .int .u8 size] [] RB fun r M => r = true ∧ M = [] := by
  refine Spec.of (fun Q w h => F.gloaminglaw17.MarkRows.calls n from' wide size h) fun R => ?_
  unfold F.gloaminglaw17.MarkRows
  try simp only [List.cons_append, List.nil_append]
  rw [wrap64 (n := n) (by omega) (by omega), Int.tmod_eq_emod_of_nonneg (a := n) (b := 40) hn.1, wrap64 (n := 2 + n % 40) (by omega) (by omega), wrap64 (n := wide) (by omega) (by omega), Int.tmod_eq_emod_of_nonneg (a := wide) (b := 30) hwd.1, wrap64 (n := 1 + wide % 30) (by omega) (by omega), wrap64 (n := size) (by omega) (by omega), Int.tmod_eq_emod_of_nonneg (a := size) (b := 4) hsz.1, wrap64 (n := 1 + size % 4) (by omega) (by omega), wrap64 (n := from') (by omega) (by omega)]
  obtain ⟨K, eK, hK2, hK41⟩ : ∃ K : Nat, 2 + n % 40 = (K : Int) ∧ 2 ≤ K ∧ K ≤ 41 := ⟨(2 + n % 40).toNat, by omega, by omega, by omega⟩
  rw [eK]
  obtain ⟨w, ew, w1, w2⟩ : ∃ w : Int, 1 + wide % 30 = w ∧ 1 ≤ w ∧ w ≤ 30 := ⟨_, rfl, by omega, by omega⟩
  rw [ew]
  obtain ⟨z, ez, z1, z2⟩ : ∃ z : Int, 1 + size % 4 = z ∧ 1 ≤ z ∧ z ≤ 4 := ⟨_, rfl, by omega, by omega⟩
  rw [ez, Int.tmod_eq_emod_of_nonneg (a := from') (b := (K : Int)) hf.1]
  obtain ⟨J, eJ, hJ⟩ : ∃ J : Nat, from' % (K : Int) = (J : Int) ∧ J < K := ⟨(from' % (K : Int)).toNat, by have := Int.emod_nonneg from' (show (K : Int) ≠ 0 by omega); omega, by have := Int.emod_lt_of_pos from' (show (0 : Int) < (K : Int) by omega); omega⟩
  rw [eJ]
  clear eK ew ez eJ hn hf hwd hsz
  rw [wrap64 (n := (K : Int) - 1) (by omega) (by omega), wrap64 (n := (K : Int) - J) (by omega) (by omega), wrap64 (n := (K : Int) - J + 1) (by omega) (by omega)]
  refine en_call (object_new 200 (by omega) (by omega)) tks ?_
  rintro x' M ⟨p, rfl, rfl⟩
  try simp only [List.cons_append, List.nil_append]
  refine en_call (law_whole p (Sp.newSpc (200 : Int).toNat) []) tks ?_
  rintro x' M ⟨rfl, rfl⟩
  try simp only [List.cons_append, List.nil_append]
  refine en_brf rfl ?_
  iterate 1
    refine en_call (law_err _) .nil ?_
    rintro x' M ⟨rfl, rfl⟩
    try simp only [List.cons_append, List.nil_append]
  refine en_brf rfl (en_need (by decide) (en_need (by decide) ?_))
  refine Tr.nilSL 1 ?_
  refine en_lp (fun m u M => (fun (t : Slc) (i : Int) => ∃ (S : Spc) (l : List Int), M = SLc t 1 (l.map i64) :: HeapA p S [] :: R ∧ 0 ≤ i ∧ i ≤ K ∧ m = K - i.toNat ∧ OK S (List.replicate i.toNat (hdW w)) l ∧ ∀ a, a < i.toNat → ∀ c, 0 ≤ c → c < w → Ob.get S (l.getD a 0) c = (0, 0)) u.1 u.2.1) K ?_ ?_
  · exact ⟨_, [], rfl, by simp, by dsimp only; omega, by simp, OK.start, fun a ha => by simp at ha⟩
  · rintro m ⟨(t : Slc), (i : Int), ⟨⟩⟩ M ⟨S, l, rfl, i0, i1, rfl, H, hzz⟩ X hX
    dsimp only at i0 i1 H hzz hX ⊢
    have hll : l.length = i.toNat := by rw [H.len, List.length_replicate]
    refine en_br (fun h => ?_) (fun h => ?_)
    · replace h : i < (K : Int) := of_decide_eq_true h
      obtain ⟨b0, K2⟩ := H.make (by rw [List.length_replicate]; omega) (may_w w1 w2) (need1 (by show 1 ≤ w + 1; omega) (by show w + 1 ≤ 64; omega))
      have hkeep := fun a h' (hh : Ob.head S a = some h') => Ob.make_keep (h := hdW w) H.hw b0 hh
      have hzero := fun c c0 c1 => Ob.make_zero (i := c) H.hw b0 c0 c1
      refine en_call (object_make p S [] H.hw (hdW w)) tks ?_
      rintro x' M ⟨rfl, rfl⟩
      try simp only [List.cons_append, List.nil_append]
      rw [b0]
      generalize (Ob.make S [] (hdW w)).1 = y at *
      generalize (Ob.make S [] (hdW w)).2.2 = S1 at *
      iterate 1
        refine en_call (law_err _) .nil ?_
        rintro x' M ⟨rfl, rfl⟩
        try simp only [List.cons_append, List.nil_append]
      refine en_brf rfl ?_
      refine en_appI (s := t) (xs := l) appInt tk (by omega) fun r hr' => ?_
      rw [wrap64 (n := i + 1) (by omega) (by omega)]
      refine hX (K - (i + 1).toNat) _ _ (by omega) ⟨S1, l ++ [y], rfl, by dsimp only; omega, by dsimp only; omega, rfl, ?_, fun a ha c c0 c1 => ?_⟩
      · dsimp only
        rw [show (i + 1).toNat = i.toNat + 1 by omega, List.replicate_succ']; exact K2
      · dsimp only at ha
        rcases Nat.lt_or_ge a i.toNat with h' | h'
        · rw [Gr.getD_front (by omega), (hkeep _ _ (H.head a _ (rep_get h'))).2.2 c c0 c1]
          exact hzz a h' c c0 c1
        · have : a = l.length := by omega
          rw [this, Gr.getD_last]; exact hzero c c0 c1
    · replace h : ¬ i < (K : Int) := of_decide_eq_false h
      have hiK : i.toNat = K := by omega
      rw [hiK] at H hzz hll
      clear hX h i0 i1 hiK i
      have H0 : Row S K w l 0 0 := ⟨H, fun a ha => by omega, fun c c0 c1 => by omega, fun a _ ha c c0 c1 => hzz a ha c c0 c1, fun h0 c _ c0 c1 => hzz 0 h0 c c0 c1⟩
      clear H hzz
      refine en_lp (fun m u M => (fun (i : Int) => ∃ (S : Spc), M = SLc t 1 (l.map i64) :: HeapA p S [] :: R ∧ 0 ≤ i ∧ i < K ∧ m = K - i.toNat ∧ Row S K w l i.toNat 0) u.1) K ?_ ?_
      · exact ⟨S, rfl, by simp, by dsimp only; omega, by simp, H0⟩
      · clear H0 S
        rintro m ⟨(i : Int), ⟨⟩⟩ M ⟨S, rfl, i0, i1, rfl, H⟩ X hX
        dsimp only at i0 i1 H hX ⊢
        obtain ⟨iN, rfl⟩ := Int.eq_ofNat_of_zero_le i0
        simp only [Int.toNat_natCast] at *
        rw [wrap64 (n := (iN : Int) + 1) (by omega) (by omega), wrap64 (n := (K : Int) - 1 - iN) (by omega) (by omega)]
        refine en_br (fun h => ?_) (fun h => ?_)
        · replace h : (iN : Int) + 1 < (K : Int) := of_decide_eq_true h
          refine en_lp (fun m u M => (fun (j : Int) => ∃ (S : Spc), M = SLc t 1 (l.map i64) :: HeapA p S [] :: R ∧ 0 ≤ j ∧ j ≤ w ∧ m = w.toNat - j.toNat ∧ Row S K w l iN j) u.1) w.toNat ?_ ?_
          · exact ⟨S, rfl, by simp, by dsimp only; omega, by simp, H⟩
          · clear H S
            rintro m ⟨(j : Int), ⟨⟩⟩ M ⟨S, rfl, j0, j1, rfl, H⟩ Y hY
            dsimp only at j0 j1 H hY ⊢
            have hwS := H.ok.hw
            refine en_br (fun h2 => ?_) (fun h2 => ?_)
            · replace h2 : j < w := of_decide_eq_true h2
              refine en_drw (en_getSL (s := t) (xs := l) tk (by omega) (by omega) ?_)
              refine en_need (by omega) ?_
              rw [Int.tmod_eq_emod_of_nonneg j0]
              have e0 := Int.emod_nonneg j (show (K : Int) - 1 - iN ≠ 0 by omega)
              have e1 := Int.emod_lt_of_pos j (show (0 : Int) < (K : Int) - 1 - iN by omega)
              generalize j % ((K : Int) - 1 - iN) = d at e0 e1 ⊢
              rw [wrap64 (n := (iN : Int) + 1 + d) (by omega) (by omega)]
              refine en_getSL (s := t) (xs := l) tk (by omega) (by omega) ?_
              obtain ⟨q0, q1⟩ := H.put (by omega) j0 h2 (m := ((iN : Int) + 1 + d).toNat) (by omega) (by omega)
              simp only [Int.toNat_natCast]
              refine en_call (object_put p S [] hwS (l.getD iN 0) j (l.getD ((iN : Int) + 1 + d).toNat 0)) tks ?_
              rintro x' M ⟨rfl, rfl⟩
              try simp only [List.cons_append, List.nil_append]
              rw [wrap64 (n := j + 1) (by omega) (by omega)]
              refine Tr.take (A := SLc t 1 (l.map i64)) tk ?_
              exact hY (w.toNat - (j + 1).toNat) _ _ (by omega) ⟨_, rfl, by dsimp only; omega, by dsimp only; omega, rfl, q1⟩
            · replace h2 : ¬ j < w := of_decide_eq_false h2
              have : j = w := by omega
              subst this
              refine en_drw (en_getSL (s := t) (xs := l) tk (by omega) (by omega) ?_)
              refine en_getSL (s := t) (xs := l) tk (by omega) (by omega) ?_
              obtain ⟨q0, q1⟩ := H.next (by omega) w1
              simp only [Int.toNat_natCast]
              rw [show ((iN : Int) + 1).toNat = iN + 1 by omega]
              refine en_call (object_put p S [] hwS (l.getD iN 0) 0 (l.getD (iN + 1) 0)) tks ?_
              rintro x' M ⟨rfl, rfl⟩
              try simp only [List.cons_append, List.nil_append]
              refine Tr.take (A := SLc t 1 (l.map i64)) tk ?_
              refine hX (K - ((iN : Int) + 1).toNat) _ _ (by omega) ⟨_, rfl, by dsimp only; omega, by dsimp only; omega, rfl, ?_⟩
              dsimp only
              rw [show ((iN : Int) + 1).toNat = iN + 1 by omega]; exact q1
        · replace h : ¬ (iN : Int) + 1 < (K : Int) := of_decide_eq_false h
          clear hX
          have hwS := H.ok.hw
          obtain ⟨r, S1, S2, e1, e2, hw1, hw2, hrl, hnd, hR⟩ := H.last (by omega) (by omega) w1 w2
          have hRJ := hR J hJ
          clear H hR
          refine en_call (object_make p S [] hwS hdR) tks ?_
          rintro x' M ⟨rfl, rfl⟩
          try simp only [List.cons_append, List.nil_append]
          rw [e1]
          refine en_getSL (s := t) (xs := l) tk (by omega) (by omega) ?_
          rw [show (0 : Int).toNat = 0 from rfl]
          dsimp only
          refine en_call (object_put p S1 [] hw1 r 0 (l.getD 0 0)) tks ?_
          rintro x' M ⟨rfl, rfl⟩
          try simp only [List.cons_append, List.nil_append]
          rw [e2]
          refine en_need (by decide) ?_
          refine en_call (mark_new p S2 [] hw2 z (by omega) (by omega)) tks ?_
          rintro x' M ⟨tr, rfl, rfl⟩
          try simp only [List.cons_append, List.nil_append]
          refine en_brf rfl (en_nn (TrA.op (t := tr) tk fun pb ps => ?_))
          refine en_ld (k := .ptr) (b := tr) (off := 0) (x := some ⟨pb, 0, none⟩) (by rw [fa_mk]) tk rfl ?_
          refine Tr.close tks (TrA.cl (t := tr) (ph := p) (pb := pb) (ps := ps) (m := (Mk.st0 S2.ws.length).m) (stk := (Mk.st0 S2.ws.length).stk) (room := z.toNat) (over := (Mk.st0 S2.ws.length).over) (deep := (Mk.st0 S2.ws.length).deep)) ?_
          refine en_brf rfl ?_
          iterate 1
            refine en_call (law_err _) .nil ?_
            rintro x' M ⟨rfl, rfl⟩
            try simp only [List.cons_append, List.nil_append]
          iterate 1
            refine en_call (law_err _) .nil ?_
            rintro x' M ⟨rfl, rfl⟩
            try simp only [List.cons_append, List.nil_append]
          refine en_brf rfl (en_need (by omega) ?_)
          refine en_getSL (s := t) (xs := l) tk (by omega) (by omega) ?_
          rw [Int.toNat_natCast]
          refine en_nw fun b19 => ?_
          refine Rd.bk (n := 4) (m := 1) (vs := ([l.getD J 0, r, 0, -5] : List Int).map i64) rfl tk fun ρ2 hle2 ro2 => ?_
          refine en_call (mark_mark tr p z.toNat (by omega) S2 [] hw2 (Mk.st0 S2.ws.length) Mk.rest0 ⟨some ⟨b19, 0, none⟩, 4, 4⟩ [l.getD J 0, r, 0, -5] ro2 (by simp)) tks ?_
          rintro x' M ⟨q1, rfl, H1, hq1⟩
          try simp only [List.cons_append, List.nil_append]
          have hm : ∀ a, Sp.has q1.m a = true ↔ (a = r ∨ ∃ c, J ≤ c ∧ c < K ∧ a = l.getD c 0) := fun a => by rw [hq1, Mk.has0, hRJ]; simp
          clear hq1 hRJ
          have hlen2 := hw2.wf.len
          have hmost2 := hw2.wf.most
          have c1 := H1.closed.len
          have hinj : ∀ a b : Nat, a < K → b < K → l.getD a 0 = l.getD b 0 → a = b := fun a b ha hb h => by
            rw [List.getD_eq_getElem?_getD, List.getD_eq_getElem?_getD, List.getElem?_eq_getElem (by omega), List.getElem?_eq_getElem (by omega)] at h
            exact nodup_inj hnd (by omega) (by omega) h
          have hgl : ∀ c, c < K → l.getD c 0 ∈ l := fun c hc => by rw [List.getD_eq_getElem?_getD, List.getElem?_eq_getElem (by omega)]; exact List.getElem_mem _
          refine Tr.take (A := SLc t 1 (l.map i64)) tk ?_
          refine en_lp (fun m u M => (fun (i : Int) => M = SLc t 1 (l.map i64) :: TrA tr p z.toNat q1 :: HeapA p S2 [] :: R ∧ 0 ≤ i ∧ i ≤ K ∧ m = K - i.toNat) u.1) K ?_ ?_
          · exact ⟨rfl, by simp, by dsimp only; omega, by simp⟩
          · rintro m ⟨(i : Int), ⟨⟩⟩ M ⟨rfl, i0, i1, rfl⟩ X hX
            dsimp only at i0 i1 hX ⊢
            refine en_br (fun h2 => ?_) (fun h2 => ?_)
            · replace h2 : i < (K : Int) := of_decide_eq_true h2
              refine en_getSL (s := t) (xs := l) tk i0 (by omega) ?_
              refine en_call (mark_marked tr p z.toNat q1 (l.getD i.toNat 0)) tks ?_
              rintro x' M ⟨rfl, rfl⟩
              try simp only [List.cons_append, List.nil_append]
              have e : Sp.has q1.m (l.getD i.toNat 0) = decide (i ≥ (J : Int)) := by
                rw [Bool.eq_iff_iff, hm, decide_eq_true_iff]
                constructor
                · rintro (h | ⟨c, c0, c1, h⟩)
                  · exact absurd (h ▸ hgl i.toNat (by omega)) hrl
                  · have := hinj _ _ (by omega) c1 h
                    omega
                · intro h
                  exact .inr ⟨i.toNat, by omega, by omega, rfl⟩
              rw [e]
              refine en_brf (by simp) ?_
              rw [wrap64 (n := i + 1) (by omega) (by omega)]
              refine Tr.take (A := SLc t 1 (l.map i64)) tk ?_
              exact hX (K - (i + 1).toNat) _ _ (by omega) ⟨rfl, by dsimp only; omega, by dsimp only; omega, rfl⟩
            · clear hX
              refine en_call (mark_new0 1) tks ?_
              rintro x' M ⟨rfl, rfl⟩
              try simp only [List.cons_append, List.nil_append]
              refine en_call (mark_new1 p S2 [] 0 (by omega)) tks ?_
              rintro x' M ⟨rfl, rfl⟩
              try simp only [List.cons_append, List.nil_append]
              refine en_nw fun b25 => ?_
              refine en_call (mark_mark0 ⟨some ⟨b25, 0, none⟩, 1, 1⟩) tks ?_
              rintro x' M rfl
              try simp only [List.cons_append, List.nil_append]
              refine en_call (mark_marked tr p z.toNat q1 r) tks ?_
              rintro x' M ⟨rfl, rfl⟩
              try simp only [List.cons_append, List.nil_append]
              refine en_brt ((hm r).mpr (.inl rfl)) ?_
              refine en_call (mark_all tr p z.toNat q1 (by omega)) tks ?_
              rintro r28 M rfl
              try simp only [List.cons_append, List.nil_append]
              have hal : (Mk.all q1.m).length = K - J + 1 := by
                have hp : (Mk.all q1.m).Perm (r :: l.drop J) := by
                  rw [List.perm_ext_iff_of_nodup (Mk.all_nodup _) (List.nodup_cons.mpr ⟨fun h => hrl (List.mem_of_mem_drop h), hnd.sublist (List.drop_sublist _ _)⟩)]
                  intro a
                  rw [Mk.mem_all, hm, List.mem_cons]
                  refine or_congr_right ⟨?_, fun h => ?_⟩
                  · rintro ⟨c, c0, c1, rfl⟩
                    rw [List.mem_iff_getElem?]
                    refine ⟨c - J, ?_⟩
                    rw [List.getElem?_drop, show J + (c - J) = c by omega, List.getD_eq_getElem?_getD, List.getElem?_eq_getElem (by omega)]; rfl
                  · obtain ⟨c, hc⟩ := List.mem_iff_getElem?.mp h
                    rw [List.getElem?_drop] at hc
                    have hlt := getElem?_lt hc
                    refine ⟨J + c, by omega, by omega, ?_⟩
                    rw [List.getD_eq_getElem?_getD, hc]; rfl
                rw [hp.length_eq, List.length_cons, List.length_drop, hll]
              refine Tr.nlen (s := r28) (xs := Mk.all q1.m) tk fun h28 => ?_
              refine en_brt (beq_iff_eq.2 (show ((r28.n : Nat) : Int) = (K : Int) - J + 1 by omega)) ?_
              have d1 := H1.deep1
              refine en_call (mark_deep tr p z.toNat q1) tks ?_
              rintro x' M ⟨rfl, rfl⟩
              try simp only [List.cons_append, List.nil_append]
              refine en_need (by decide) (en_brt (decide_eq_true (show q1.deep ≤ z by omega)) ?_)
              iterate 1
                refine en_call (law_err _) .nil ?_
                rintro x' M ⟨rfl, rfl⟩
                try simp only [List.cons_append, List.nil_append]
              refine en_brt rfl ?_
              iterate 1
                refine en_call (law_err _) .nil ?_
                rintro x' M ⟨rfl, rfl⟩
                try simp only [List.cons_append, List.nil_append]
              refine en_brt rfl ?_
              refine en_call (mark_marked0 64) tks ?_
              rintro x' M ⟨rfl, rfl⟩
              try simp only [List.cons_append, List.nil_append]
              refine en_brt rfl ?_
              refine en_call (mark_all0) tks ?_
              rintro r33 M ⟨h33, rfl⟩
              try simp only [List.cons_append, List.nil_append]
              refine en_call (mark_deep0) tks ?_
              rintro x' M ⟨rfl, rfl⟩
              try simp only [List.cons_append, List.nil_append]
              refine en_brt (by rw [h33]; rfl) ?_
              refine en_call (law_awake17) tks ?_
              rintro x' M ⟨rfl, rfl⟩
              try simp only [List.cons_append, List.nil_append]
              exact en_rets (x := true) rfl ⟨rfl, rfl⟩ tks ens

end Go.Proofs.YtapchggmifbfoaaGreat
