/- ProcTimes. -/
import Derived.Test.YtpefngbfgjfcgaaGreatGsFlat
import Derived.Test.YtpefngbfgjfcgaaGreatGsTxProcTimes
set_option linter.unusedSimpArgs false
set_option linter.unusedVariables false
namespace Go.Proofs.YtpefngbfgjfcgaaGreat
open Go Go.Gl
variable {ρ0 ρ : FR} {L L' : List Asn} {Post : Value → List Asn → Prop} {T : Tree}
theorem keep_small {c t f r : Int} (hc : 0 ≤ c ∧ c < 256) (ht : 0 ≤ t ∧ t < 256) (hf : 0 ≤ f ∧ f < 30) (hr : 0 ≤ r ∧ r < 6) : Sf.keep c t f r = decide ((if c - t > 0 then c - t else 0) ≤ f * r) := by
 have e1 : Sf.none c = c := by unfold Sf.none; split <;> omega
 have e2 : Sf.none t = t := by unfold Sf.none; split <;> omega
 have e3 : Sf.none f = f := by unfold Sf.none; split <;> omega
 have e4 : Sf.none r = r := by unfold Sf.none; split <;> omega
 have hm : f * r ≤ 30 * 6 := Int.mul_le_mul (by omega) (by omega) hr.1 (by omega)
 unfold Sf.keep Sf.idle Sf.limit
 rw [e1, e2, e3, e4, if_neg (by omega)]
 unfold Sf.none
 rfl
namespace Chain
abbrev Lk := Int × Int × Int
def next : List Lk → Int
 | [] => 0 | e :: _ => e.2.1
def bx (b x : Int) : Ob1 := ⟨b, ⟨2, 0, 1, false⟩, [x]⟩
def rf (r b t n : Int) : Ob1 := ⟨r, ⟨4, 1, 5, false⟩, [b, 1, 0, t, n]⟩
def objs : List Lk → Int → List Ob1
 | [], _ => [] | (b, r, t) :: c, i => objs c (i + 1) ++ [bx b (next c), rf r b t (i + 1)]
def ads (c : List Lk) : List Int := c.flatMap fun e => [e.1, e.2.1]
theorem objs_len : ∀ (c : List Lk) (i : Int), (objs c i).length = 2 * c.length
 | [], _ => rfl
 | (b, r, t) :: c, i => by
  unfold objs
  rw [List.length_append, objs_len c, List.length_cons]
  simp; omega
theorem mem_ads : ∀ (c : List Lk) (i : Int) {a : Int}, a ∈ (objs c i).map (·.a) ↔ a ∈ ads c
 | [], _, a => by simp [objs, ads]
 | (b, r, t) :: c, i, a => by
  have ih := mem_ads c (i + 1) (a := a)
  unfold objs
  rw [List.map_append, List.mem_append, ih]
  simp [ads, bx, rf]
  constructor
  ·rintro (h | h | h)
   ·exact .inr (.inr h)
   ·exact .inl h
   ·exact .inr (.inl h)
  ·rintro (h | h | h)
   ·exact .inr (.inl h)
   ·exact .inr (.inr h)
   ·exact .inl h
def Dis : List Lk → Prop
 | [] => True | (b, r, _) :: c => b ≠ r ∧ b ∉ ads c ∧ r ∉ ads c ∧ Dis c
theorem dis_of : ∀ (c : List Lk) (i : Int), ((objs c i).map (·.a)).Nodup → Dis c
 | [], _, _ => trivial
 | (b, r, t) :: c, i, h => by
  unfold objs at h
  rw [List.map_append, List.nodup_append] at h
  obtain ⟨h1, h2, h3⟩ := h
  refine ⟨?_, fun hb => ?_, fun hb => ?_, dis_of c _ h1⟩
  ·simp [bx, rf] at h2; exact h2
  ·exact h3 b ((mem_ads c (i + 1)).mpr hb) b (by simp [bx]) rfl
  ·exact h3 r ((mem_ads c (i + 1)).mpr hb) r (by simp [rf]) rfl
def All (os : List Ob1) : List Lk → Int → Prop
 | [], _ => True | (b, r, t) :: c, i => bx b (next c) ∈ os ∧ rf r b t (i + 1) ∈ os ∧ All os c (i + 1)
theorem all_mono {os os' : List Ob1} (h : ∀ o ∈ os, o ∈ os') : ∀ (c : List Lk) (i : Int), All os c i → All os' c i
 | [], _, _ => trivial
 | _ :: c, _, ⟨h1, h2, h3⟩ => ⟨h _ h1, h _ h2, all_mono h c _ h3⟩
theorem all_of : ∀ (c : List Lk) (i : Int), All (objs c i) c i
 | [], _ => trivial
 | (b, r, t) :: c, i => ⟨by simp [objs], by simp [objs], all_mono (fun o ho => by unfold objs; exact List.mem_append_left _ ho) c _ (all_of c (i + 1))⟩
theorem refs_of : ∀ (c : List Lk) (i : Int) {f : Rf6}, f ∈ (objs c i).filterMap ref1 → ∃ b r t n, (b, r, t) ∈ c ∧ f = (r, 1, b, 1, t, n, ())
 | [], _, f, h => by simp [objs] at h
 | (b, r, t) :: c, i, f, h => by
  unfold objs at h
  rw [List.filterMap_append] at h
  rcases List.mem_append.mp h with h | h
  ·obtain ⟨b', r', t', n, h1, h2⟩ := refs_of c (i + 1) h
   exact ⟨b', r', t', n, .tail _ h1, h2⟩
  ·rw [List.filterMap_cons, show ref1 (bx b (next c)) = none from rfl, List.filterMap_cons, show ref1 (rf r b t (i + 1)) = some (r, 1, b, 1, t, i + 1, ()) from rfl, List.filterMap_nil, List.mem_singleton] at h
   exact ⟨b, r, t, i + 1, .head _, h⟩
def Lv (k : Int → Bool) : List Lk → Int → Prop
 | [], _ => False | (b, r, t) :: c, a => a = r ∨ (k t = true ∧ (a = b ∨ Lv k c a))
theorem lv_ads {k : Int → Bool} : ∀ (c : List Lk) {a : Int}, Lv k c a → a ∈ ads c
 | [], a, h => h.elim
 | (b, r, t) :: c, a, h => by
  unfold ads
  rw [List.flatMap_cons]
  rcases h with rfl | ⟨_, rfl | h⟩
  ·simp
  ·simp
  ·exact List.mem_append_right _ (lv_ads c h)
theorem in_ads : ∀ {c : List Lk} {b r t : Int}, (b, r, t) ∈ c → b ∈ ads c ∧ r ∈ ads c := fun {c b r t} h => by
 unfold ads
 exact ⟨List.mem_flatMap.mpr ⟨_, h, by simp⟩, List.mem_flatMap.mpr ⟨_, h, by simp⟩⟩
theorem lv_keep {k : Int → Bool} : ∀ (c : List Lk), Dis c → ∀ {b r t : Int}, (b, r, t) ∈ c → Lv k c r → k t = true → Lv k c b
 | [], _, _, _, _, h, _, _ => by cases h
 | (b0, r0, t0) :: c, ⟨d1, d2, d3, d4⟩, b, r, t, h, hl, hk => by
  rcases List.mem_cons.mp h with h | h
  ·injection h with h1 h2
   injection h2 with h2 h3
   subst h1 h2 h3
   exact .inr ⟨hk, .inl rfl⟩
  ·have hr := (in_ads h).2
   rcases hl with rfl | ⟨hk0, rfl | hl⟩
   ·exact absurd hr d3
   ·exact absurd hr d2
   ·exact .inr ⟨hk0, .inr (lv_keep c d4 h hl hk)⟩
theorem lv_at {k : Int → Bool} : ∀ (c : List Lk), Dis c → ∀ (i : Nat) {b r t : Int}, c[i]? = some (b, r, t) → ((Lv k c r ↔ (c.take i).all (fun e => k e.2.2) = true) ∧ (Lv k c b ↔ (c.take (i + 1)).all (fun e => k e.2.2) = true))
 | [], _, i, _, _, _, h => by simp at h
 | (b0, r0, t0) :: c, ⟨d1, d2, d3, d4⟩, 0, b, r, t, h => by
  simp at h
  obtain ⟨rfl, rfl, rfl⟩ := h
  refine ⟨by simp [Lv], ?_⟩
  simp [Lv]
  exact fun h => absurd h d1
 | (b0, r0, t0) :: c, ⟨d1, d2, d3, d4⟩, i + 1, b, r, t, h => by
  rw [List.getElem?_cons_succ] at h
  obtain ⟨ih1, ih2⟩ := lv_at c d4 i h
  obtain ⟨hb, hr⟩ := in_ads (List.mem_of_getElem? h)
  constructor
  ·rw [List.take_succ_cons, List.all_cons, Bool.and_eq_true, ← ih1]
   constructor
   ·rintro (rfl | ⟨hk, rfl | hl⟩)
    ·exact absurd hr d3
    ·exact absurd hr d2
    ·exact ⟨hk, hl⟩
   ·rintro ⟨hk, hl⟩
    exact .inr ⟨hk, .inr hl⟩
  ·rw [List.take_succ_cons, List.all_cons, Bool.and_eq_true, ← ih2]
   constructor
   ·rintro (rfl | ⟨hk, rfl | hl⟩)
    ·exact absurd hb d3
    ·exact absurd hb d2
    ·exact ⟨hk, hl⟩
   ·rintro ⟨hk, hl⟩
    exact .inr ⟨hk, .inr hl⟩
section
variable {S : Spc} {os : List Ob1}
theorem kids_b (H : Bx S Gr.cs 60 os) {b x : Int} (h : bx b x ∈ os) : Mk.kids S Gr.cs b = [x] := H.kids h (show (2 : Int) ≠ 1 by decide)
theorem kids_r (H : Bx S Gr.cs 60 os) {r b t n : Int} (h : rf r b t n ∈ os) : Mk.kids S Gr.cs r = [0] := H.kids h (show (4 : Int) ≠ 1 by decide)
theorem lv_kids (H : Bx S Gr.cs 60 os) {k : Int → Bool} : ∀ (c : List Lk) (i : Int), All os c i → ∀ {a d : Int}, Lv k c a → d ∈ Mk.kids S Gr.cs a → Mk.obj S d → Lv k c d
 | [], _, _, _, _, h, _, _ => h.elim
 | (b, r, t) :: c, i, ⟨h1, h2, h3⟩, a, d, h, hd, ho => by
  rcases h with rfl | ⟨hk, rfl | h⟩
  ·rw [kids_r H h2, List.mem_singleton] at hd
   subst hd
   exact absurd ho (Mk.obj_zero H.hw)
  ·rw [kids_b H h1, List.mem_singleton] at hd
   subst hd
   cases c with
   | nil => exact absurd ho (Mk.obj_zero H.hw)
   | cons e c => exact .inr ⟨hk, .inr (.inl rfl)⟩
  ·exact .inr ⟨hk, .inr (lv_kids H c _ h3 h hd ho)⟩
theorem lv_soft (H : Bx S Gr.cs 60 os) {x : In7} (hx : x.all = false) {R : Int → Prop} : ∀ (c : List Lk) (i : Int), All os c i → (c ≠ [] → SoftR S Gr.cs (refsOf S) x R (next c)) → ∀ {a : Int}, Lv (fun t => Sf.keep x.clock t x.free x.rate) c a → SoftR S Gr.cs (refsOf S) x R a
 | [], _, _, _, _, h => h.elim
 | (b, r, t) :: c, i, ⟨h1, h2, h3⟩, hs, a, h => by
  have hr := hs (by simp)
  have hob : Mk.obj S b := H.obj_of h1
  have hin : (r, 1, b, 1, t, i + 1, ()) ∈ refsOf S := H.refs.mem_iff.mpr (List.mem_filterMap.mpr ⟨_, h2, rfl⟩)
  rcases h with rfl | ⟨hk, h⟩
  ·exact hr
  ·have hsb : SoftR S Gr.cs (refsOf S) x R b := .keep hin rfl hx hr hk hob (.root (by simp) hob)
   rcases h with rfl | h
   ·exact hsb
   ·refine lv_soft H hx c _ h3 (fun hc => ?_) h
    cases c with
    | nil => exact absurd rfl hc
    | cons e c =>
     obtain ⟨eb, er, et⟩ := e
     have ho : Mk.obj S er := H.obj_of h3.2.1
     exact .keep hin rfl hx hr hk hob (.step (.root (by simp) hob) (by rw [kids_b H h1]; simp [next]) ho)
end
theorem out {S : Spc} {c : List Lk} (H : Bx S Gr.cs 60 (objs c 0)) {b0 r0 t0 : Int} {c' : List Lk} (hc : c = (b0, r0, t0) :: c') {x : In7} (hx : x.all = false) {l : List Rf6} {m2 m3 : List Bool} (hC : Coll S Gr.cs x [r0] [] l m2 m3) (i : Nat) {b r t : Int} (hi : c[i]? = some (b, r, t)) :
  (Sp.has m3 r = true ↔ (c.take i).all (fun e => Sf.keep x.clock e.2.2 x.free x.rate) = true) ∧ (Sp.has m3 b = true ↔ (c.take (i + 1)).all (fun e => Sf.keep x.clock e.2.2 x.free x.rate) = true) ∧ (r ∈ clrOf S m2 m3 l ↔ ¬ (c.take (i + 1)).all (fun e => Sf.keep x.clock e.2.2 x.free x.rate) = true) := by
 have hall := all_of c 0
 have hdis := dis_of c 0 H.nodup
 have hr0 : Mk.obj S r0 := by rw [hc] at hall H; exact H.obj_of hall.2.1
 have h2 : ∀ a, Sp.has m2 a = true ↔ Lv (fun t => Sf.keep x.clock t x.free x.rate) c a := fun a => by
  rw [hC.has2]
  constructor
  ·have hcl : ∀ a, Lv (fun t => Sf.keep x.clock t x.free x.rate) c a → Mk.obj S a → ∀ b ∈ Mk.kids S Gr.cs a, Mk.obj S b → Lv (fun t => Sf.keep x.clock t x.free x.rate) c b := fun a ha _ d hd ho => lv_kids H c 0 hall ha hd ho
   have hb : ∀ d, Mk.Rch S Gr.cs [r0] d → Lv (fun t => Sf.keep x.clock t x.free x.rate) c d := fun d hd => by
    refine hd.le (T := Lv (fun t => Sf.keep x.clock t x.free x.rate) c) (fun e he _ => ?_) hcl
    rw [List.mem_singleton] at he
    subst he
    rw [hc]; exact .inl rfl
   refine SoftR.le (T := Lv (fun t => Sf.keep x.clock t x.free x.rate) c) hb ?_ hcl
   intro f hf _ _ ht hk ho
   obtain ⟨b', r', t', n, g1, rfl⟩ := refs_of c 0 (H.refs.mem_iff.mp hf)
   exact lv_keep c hdis g1 ht hk
  ·refine lv_soft H hx c 0 hall fun _ => ?_
   rw [hc]
   exact .base (.root (by simp [next]) hr0)
 have h3 : ∀ a, Sp.has m3 a = true ↔ Sp.has m2 a = true := fun a => by
  rw [hC.has3]
  exact ⟨fun h => h.elim id fun h => absurd h Mk.rch_nil, .inl⟩
 obtain ⟨k1, k2⟩ := lv_at (k := fun t => Sf.keep x.clock t x.free x.rate) c hdis i hi
 have hin := List.mem_of_getElem? hi
 refine ⟨by rw [h3, h2, k1], by rw [h3, h2, k2], ?_⟩
 rw [← k2, ← h2]
 have hcl : ∀ f ∈ l, ∃ b r t n, (b, r, t) ∈ c ∧ f = (r, 1, b, 1, t, n, ()) := fun f hf => refs_of c 0 (H.refs.mem_iff.mp (hC.perm.mem_iff.mp hf))
 have huni : ∀ (c : List Lk) (_ : Dis c) {b b' r t t' : Int}, (b, r, t) ∈ c → (b', r, t') ∈ c → b = b' := fun c => by
  induction c with
  | nil => intro _ _ _ _ _ _ h; cases h
  | cons e c ih =>
   obtain ⟨eb, er, et⟩ := e
   rintro ⟨d1, d2, d3, d4⟩ b b' r t t' g g'
   rcases List.mem_cons.mp g with g | g <;> rcases List.mem_cons.mp g' with g' | g'
   ·injection g with g1 g2
    injection g' with g1' g2'
    rw [g1, g1']
   ·injection g with g1 g2
    injection g2 with g2 _
    exact absurd (in_ads g').2 (by rw [g2]; exact d3)
   ·injection g' with g1 g2
    injection g2 with g2 _
    exact absurd (in_ads g).2 (by rw [g2]; exact d3)
   ·exact ih d4 g g'
 constructor
 ·intro h
  rcases List.mem_append.mp h with h | h
  ·obtain ⟨f, hf, e, _, hlo⟩ := mem_clear.mp h
   obtain ⟨b', r', t', n, g1, rfl⟩ := hcl f hf
   have e : r' = r := e
   subst e
   have := huni c hdis g1 hin
   subst this
   exact (lost_iff.mp hlo).2
  ·obtain ⟨f, hf, _, hs, _⟩ := mem_clear.mp h
   obtain ⟨b', r', t', n, g1, rfl⟩ := hcl f hf
   simp at hs
 ·intro h
  have hall2 : ∀ (os : List Ob1) (c : List Lk) (i : Int), All os c i → ∀ {b r t : Int}, (b, r, t) ∈ c → ∃ y n, bx b y ∈ os ∧ rf r b t n ∈ os := fun os c => by
   induction c with
   | nil => intro _ _ _ _ _ h; cases h
   | cons e c ih =>
    obtain ⟨eb, er, et⟩ := e
    rintro i ⟨g1, g2, g3⟩ b r t h
    rcases List.mem_cons.mp h with h | h
    ·injection h with e1 e2
     injection e2 with e2 e3
     subst e1 e2 e3
     exact ⟨_, _, g1, g2⟩
    ·exact ih _ g3 h
  obtain ⟨y, n, g1, g2⟩ := hall2 _ c 0 hall hin
  refine List.mem_append_left _ (mem_clear.mpr ⟨(r, 1, b, 1, t, n, ()), hC.perm.mem_iff.mpr (H.refs.mem_iff.mpr (List.mem_filterMap.mpr ⟨_, g2, rfl⟩)), rfl, by simp, lost_iff.mpr ⟨H.obj_of g1, h⟩⟩)
end Chain
abbrev c1 (e : Chain.Lk) : Int := e.1
abbrev c2 (e : Chain.Lk) : Int := e.2.1
abbrev c3 (e : Chain.Lk) : Int := e.2.2
open Chain in
theorem law_proctimes (free rate : Int) (z : Slc) (vs : List Int) (clock : Int) (hf : 0 ≤ free ∧ free < 256) (hr : 0 ≤ rate ∧ rate < 256) (hc : 0 ≤ clock ∧ clock < 256) (ro : RoS ρ z 1 (vs.map fun x => .int .u8 x)) (hb : ∀ x ∈ vs, (Lit.int .u8 x).wf = true) (hl : vs.length < 2 ^ 63) :
  Gl.Spec ρ Tryz.prog 7 [.int .u8 free, .int .u8 rate, .slice z.a z.n z.c, .int .u8 clock] [] RB fun r M => r = true ∧ M = [] := by
 refine Spec.of (fun Q w h => F.gloaminglaw18.ProcTimes.calls free rate z clock h) fun R => ?_
 unfold F.gloaminglaw18.ProcTimes
 try simp only [lca, lna]
 have hb := u8_all hb
 have hzn := ro.len8
 refine en_call (g_graph ⟨none, 0, 0⟩ [] RoS.nil1 (by simp) (by simp)) tks ?_
 rintro x' M ⟨ph, q, rfl, rfl⟩
 try simp only [lca, lna]
 have H := Bx.start
 change Bx (Gr.graph []).1 Gr.cs 60 [] at H
 generalize (Gr.graph []).1 = S0 at *
 refine Tr.drop (A := SLc q 1 ((Gr.graph []).2.map i64)) tk ?_
 refine en_brf rfl ?_
 obtain ⟨K, hK, hK1, hK2⟩ : ∃ K : Nat, (if (8 : Int) < (z.n : Nat) then (8 : Int) else (z.n : Nat)) = K ∧ K ≤ 8 ∧ K ≤ vs.length := ⟨(if (8 : Int) < (z.n : Nat) then (8 : Int) else (z.n : Nat)).toNat, by split <;> omega, by split <;> omega, by split <;> omega⟩
 rw [hK, wrap64 (n := (K : Int) - 1) (by omega) (by omega)]
 refine Tr.nilSL 1 (Tr.nilSL 1 ?_)
 refine en_lp (fun m u M => (fun (tb tr : Slc) (nx i : Int) => ∃ (S' : Spc) (c : List Lk), M = SLc tb 1 ((c.map c1).map i64) :: SLc tr 1 ((c.map c2).map i64) :: HeapA ph S' Gr.cs :: R ∧ -1 ≤ i ∧ i + 1 ≤ K ∧ m = (i + 1).toNat ∧ nx = next c ∧ (c.length : Int) = K - 1 - i ∧ Bx S' Gr.cs 60 (objs c (i + 1)) ∧ c.map c3 = (vs.take K).drop (i + 1).toNat) u.1 u.2.1 u.2.2.1 u.2.2.2.1) K ?_ ?_
 ·exact ⟨S0, [], rfl, by dsimp only; omega, by dsimp only; omega, by dsimp only; omega, rfl, by dsimp only; simp, H, by dsimp only; rw [List.drop_eq_nil_of_le (by simp; omega), List.map_nil]⟩
 ·rintro m ⟨(tb : Slc), (tr : Slc), (nx : Int), (i : Int), ⟨⟩⟩ M ⟨S', c, rfl, i0, i1, rfl, hnx, hcl, H', hct⟩ X hX
  dsimp only at i0 i1 hnx hcl H' hct hX ⊢
  refine Tr.nlen (s := tb) (xs := c.map c1) tk fun htb => Tr.nlen (s := tr) (xs := c.map c2) tk fun htr => ?_
  rw [List.length_map] at htb htr
  refine en_br (fun h => ?_) (fun h => ?_)
  ·replace h : i ≥ 0 := of_decide_eq_true h
   obtain ⟨k, rfl⟩ := Int.eq_ofNat_of_zero_le h
   refine en_nw fun b4 => ?_
   refine Rd.bk (n := 1) (m := 1) (vs := ([nx] : List Int).map i64) rfl tk fun ρ1 hle1 ro1 => ?_
   refine en_call (g_box ph S' Gr.cs 60 _ H' (by rw [Chain.objs_len]; omega) ⟨some ⟨b4, 0, none⟩, 1, 1⟩ [nx] ro1 (by simp) (by simp)) tks ?_
   rintro b M ⟨S2, rfl, b0, H2⟩
   try simp only [lca, lna]
   refine en_getU8 (ro.le hle1) (by omega) (by omega) ?_
   rw [Int.toNat_natCast]
   have hv := u8_getD hb k
   have htk : (vs.take K).drop k = vs.getD k 0 :: (vs.take K).drop (k + 1) := by
    have := drop_getD (l := vs.take K) 0 (show k < (vs.take K).length by simp; omega)
    rw [this]
    congr 1
    rw [List.getD_eq_getElem?_getD, List.getElem?_take, if_pos (by omega), List.getD_eq_getElem?_getD]
   generalize vs.getD k 0 = v at *
   rw [wrap64 (n := v) (by omega) (by omega), wrap64 (n := (k : Int) + 1) (by omega) (by omega), wrap64 (n := (k : Int) - 1) (by omega) (by omega)]
   refine en_call (g_refer ph S2 Gr.cs 60 _ H2 (by rw [List.length_append, Chain.objs_len]; simp; omega) 1 b 1 v ((k : Int) + 1) (by decide) (by decide)) tks ?_
   rintro r M ⟨S3, rfl, r0, H3⟩
   try simp only [lca, lna]
   refine en_brf (by simpa using b0) (en_brf (by simpa using r0) ?_)
   refine en_nw fun b9 => ?_
   refine Tr.imp (A := blk b9 (([b] : List Int).map i64)) (A' := SLc ⟨some ⟨b9, 0, none⟩, 1, 1⟩ 1 (([b] : List Int).map i64)) tk (SLc.of_cl rfl) ?_
   refine en_appS (s := ⟨some ⟨b9, 0, none⟩, 1, 1⟩) (x := tb) (xs := [b]) (ys := c.map c1) appInt tk (Rd.sl tk (by simp [htb])) (by rw [List.length_map, List.length_singleton]; omega) fun r10 h10 => ?_
   refine en_nw fun b11 => ?_
   refine Tr.imp (A := blk b11 (([r] : List Int).map i64)) (A' := SLc ⟨some ⟨b11, 0, none⟩, 1, 1⟩ 1 (([r] : List Int).map i64)) tk (SLc.of_cl rfl) ?_
   refine en_appS (s := ⟨some ⟨b11, 0, none⟩, 1, 1⟩) (x := tr) (xs := [r]) (ys := c.map c2) appInt tk (Rd.sl tk (by simp [htr])) (by rw [List.length_map, List.length_singleton]; omega) fun r12 h12 => ?_
   refine Tr.drop (A := SLc tb 1 ((c.map c1).map i64)) tk (Tr.drop (A := SLc tr 1 ((c.map c2).map i64)) tk ?_)
   refine Tr.take (A := SLc r12 1 (([r] ++ c.map c2).map i64)) tk (Tr.take (A := SLc r10 1 (([b] ++ c.map c1).map i64)) tk ?_)
   refine tr_weak2 (Le.refl _) hle1 ?_
   refine hX k _ _ (by omega) ⟨S3, (b, r, v) :: c, rfl, by dsimp only; omega, by dsimp only; omega, by dsimp only; omega, rfl, by dsimp only; rw [List.length_cons]; omega, ?_, ?_⟩
   ·dsimp only
    rw [show (k : Int) - 1 + 1 = k by omega]
    unfold objs
    rw [List.append_assoc] at H3
    rw [← hnx]; exact H3
   ·dsimp only
    rw [show ((k : Int) - 1 + 1).toNat = k by omega, htk, List.map_cons, hct, show ((k : Int) + 1).toNat = k + 1 by omega]
  ·replace h : ¬ i ≥ 0 := of_decide_eq_false h
   have e : i = -1 := by omega
   subst e
   clear hX h i0 i1
   rw [show ((-1 : Int) + 1) = 0 from rfl] at H' hct
   rw [show (0 : Int).toNat = 0 from rfl, List.drop_zero] at hct
   have hclK : c.length = K := by omega
   refine en_br (fun h => ?_) (fun h => ?_)
   ·refine en_call (law_awake18) tks ?_
    rintro x' M ⟨rfl, rfl⟩
    try simp only [lca, lna]
    exact en_rets (x := true) rfl ⟨rfl, rfl⟩ tks ens
   have h : (K : Int) ≠ 0 := by simpa using h
   refine en_need (by decide) (en_need (by decide) ?_)
   have hkf : 0 ≤ free % 30 ∧ free % 30 < 30 := by omega
   have hkr : 0 ≤ rate % 6 ∧ rate % 6 < 6 := by omega
   have hmul : free % 30 * (rate % 6) ≤ 30 * 6 := Int.mul_le_mul (by omega) (by omega) hkr.1 (by omega)
   have hmul0 : 0 ≤ free % 30 * (rate % 6) := Int.mul_nonneg hkf.1 hkr.1
   rw [wrap64 (n := clock) (by omega) (by omega), wrap64 (n := free) (by omega) (by omega), wrap64 (n := rate) (by omega) (by omega), Int.tmod_eq_emod_of_nonneg hf.1, Int.tmod_eq_emod_of_nonneg hr.1, wrap64 (n := free % 30 * (rate % 6)) (by omega) (by omega)]
   generalize free % 30 = f at *
   generalize rate % 6 = rr at *
   obtain ⟨b0, r0, t0, c', hcc⟩ : ∃ b0 r0 t0 c', c = (b0, r0, t0) :: c' := by
    cases c with
    | nil => simp at hclK; omega
    | cons e c => obtain ⟨a, b, d⟩ := e; exact ⟨a, b, d, c, rfl⟩
   have hst : ∀ g ∈ refsOf S', g.2.2.2.2.1 < 9223372036854775808 := fun g hg => by
    obtain ⟨b', r', t', n', hin, rfl⟩ := refs_of c 0 (H'.refs.mem_iff.mp hg)
    have : t' ∈ c.map c3 := List.mem_map.mpr ⟨_, hin, rfl⟩
    rw [hct] at this
    exact Int.lt_trans (hb t' (List.mem_of_mem_take this)).2 (by decide)
   refine en_getSL (s := tr) (xs := c.map c2) tk (by decide) (by simp; omega) ?_
   rw [show (c.map c2).getD (0 : Int).toNat 0 = r0 by rw [hcc]; rfl]
   refine en_nw fun b6 => ?_
   refine Rd.bk (n := 1) (m := 1) (vs := ([r0] : List Int).map i64) rfl tk fun ρ1 hle1 ro1 => ?_
   refine en_call (proc_process ph S' Gr.cs H'.hw ⟨⟨some ⟨b6, 0, none⟩, 1, 1⟩, ⟨none, 0, 0⟩, clock, f, rr, false, 3⟩ ⟨show clock < 9223372036854775808 by omega, show f < 9223372036854775808 by omega, show rr < 9223372036854775808 by omega⟩ [r0] [] ro1 RoS.nil1 (by simp) (by simp) hst (show (1 : Int) ≤ 3 ∧ (3 : Int) ≤ 4096 by decide)) tks ?_
   rintro r7 M ⟨t1, t2, t3, t4, l, m2, m3, rfl, hC, rfl⟩
   try simp only [lca, lna]
   have hout := fun (j : Nat) (b r t : Int) (hj : c[j]? = some (b, r, t)) => out H' hcc rfl hC j hj
   have n4 := Mk.all_len (m := m3)
   have hm3 := hC.c3.len
   have hfew := hC.few H'.hw
   have n1 := clr_le (S := S') (m2 := m2) (m3 := m3) (l := l)
   have hlen := H'.hw.wf.len
   have hmost := H'.hw.wf.most
   refine en_nw fun b8 => ?_
   rw [zcOut]
   refine en_st (b := b8) (off := 0) rfl tk (by simp) rfl ?_
   refine Tr.take (A := blk b8 [.slice t1.a t1.n t1.c, .slice t2.a t2.n t2.c, .slice t3.a t3.n t3.c, .slice t4.a t4.n t4.c]) tk ?_
   iterate 1
    refine en_call (law_err _) .nil ?_
    rintro x' M ⟨rfl, rfl⟩
    try simp only [lca, lna]
   refine en_brf rfl ?_
   refine Tr.keepSL (s := t1) tk fun ρ2 hle2 a1 => Tr.keepSL (s := t4) tk fun ρ3 hle3 a4 => Tr.keepSL (s := tb) tk fun ρ4 hle4 ab => Tr.keepSL (s := tr) tk fun ρ5 hle5 ar => ?_
   have q4 := hle4.trans hle5
   have q3 := hle3.trans q4
   replace a1 := a1.le q3
   replace a4 := a4.le q4
   replace ab := ab.le hle5
   replace ro := (ro.le hle1).le (hle2.trans q3)
   have hmem : ∀ a, (decide (a ∈ Mk.all m3)) = Sp.has m3 a := fun a => by rw [Bool.eq_iff_iff, decide_eq_true_iff, Mk.mem_all]
   generalize Mk.all m3 = live at *
   generalize clrOf S' m2 m3 l = cl at *
   refine Tr.take (A := blk b8 [.slice t1.a t1.n t1.c, .slice t2.a t2.n t2.c, .slice t3.a t3.n t3.c, .slice t4.a t4.n t4.c]) tk ?_
   refine Tr.drop (A := SLc t2 1 ((putOf S' m3 cl).map i64)) tk (Tr.drop (A := SLc t3 1 ((pendOf S' m2 []).map i64)) tk (Tr.drop (A := HeapA ph S' Gr.cs) tk ?_))
   refine en_lp (fun m u M => (fun (kept : Bool) (i : Int) => M = blk b8 [.slice t1.a t1.n t1.c, .slice t2.a t2.n t2.c, .slice t3.a t3.n t3.c, .slice t4.a t4.n t4.c] :: R ∧ 0 ≤ i ∧ i ≤ K ∧ m = K - i.toNat ∧ kept = (c.take i.toNat).all (fun e => Sf.keep clock e.2.2 f rr)) u.1 u.2.1) K ?_ ?_
   ·exact ⟨rfl, by simp, by dsimp only; omega, by simp, rfl⟩
   ·rintro m ⟨(kept : Bool), (i : Int), ⟨⟩⟩ M ⟨rfl, i0, i1, rfl, hkept⟩ Y hY
    dsimp only at i0 i1 hkept hY ⊢
    refine en_br (fun h2 => ?_) (fun h2 => ?_)
    ·replace h2 : i < (K : Int) := of_decide_eq_true h2
     have hi : i.toNat < c.length := by omega
     obtain ⟨⟨b, r, t⟩, hce⟩ : ∃ e, c[i.toNat]? = some e := ⟨_, List.getElem?_eq_getElem hi⟩
     obtain ⟨o1, o2, o3⟩ := hout i.toNat b r t hce
     dsimp only at o1 o2 o3
     have hgb : (c.map c1).getD i.toNat 0 = b := by rw [List.getD_eq_getElem?_getD, List.getElem?_map, hce]; rfl
     have hgr : (c.map c2).getD i.toNat 0 = r := by rw [List.getD_eq_getElem?_getD, List.getElem?_map, hce]; rfl
     have hgt : vs.getD i.toNat 0 = t := by
      have h5 : (c.map c3)[i.toNat]? = some t := by rw [List.getElem?_map, hce]; rfl
      rw [hct, List.getElem?_take, if_pos (by omega)] at h5
      rw [List.getD_eq_getElem?_getD, h5]; rfl
     have hv := u8_getD hb i.toNat
     rw [hgt] at hv
     have htake : (c.take (i.toNat + 1)).all (fun e => Sf.keep clock e.2.2 f rr) = (kept && Sf.keep clock t f rr) := by
      rw [hkept, List.take_add_one, hce, List.all_append]; simp
     rw [htake] at o2 o3
     rw [← hkept] at o1
     refine en_drw ?_
     refine en_ld (k := .slice) (b := b8) (off := 3) (x := t4) (by rw [fa_mk]) tk rfl ?_
     refine en_getRo ar i0 (by simp; omega) ?_
     rw [hgr]
     refine en_call (ref_in t4 live a4 (by omega) r) tks ?_
     rintro x' M ⟨rfl, rfl⟩
     try simp only [lca, lna]
     rw [hmem]
     have e1 : Sp.has m3 r = kept := by rw [Bool.eq_iff_iff, o1]
     rw [e1]
     refine en_jn (fun _ M => M = blk b8 [.slice t1.a t1.n t1.c, .slice t2.a t2.n t2.c, .slice t3.a t3.n t3.c, .slice t4.a t4.n t4.c] :: R) ?_ ?_
     ·rintro u M rfl
      refine en_jn (fun (u : LTs [.bool]) M => u.1 = (kept && Sf.keep clock t f rr) ∧ M = blk b8 [.slice t1.a t1.n t1.c, .slice t2.a t2.n t2.c, .slice t3.a t3.n t3.c, .slice t4.a t4.n t4.c] :: R) ?_ ?_
      ·rintro ⟨kk, ⟨⟩⟩ M ⟨hkk, rfl⟩
       dsimp only at hkk ⊢
       refine en_drw (en_held [blk b8 [.slice t1.a t1.n t1.c, .slice t2.a t2.n t2.c, .slice t3.a t3.n t3.c, .slice t4.a t4.n t4.c]] tks ?_)
       refine en_ldS (k := .slice) (b := b8) (off := 3) (x := t4) (by rw [fa_mk]) tk rfl ?_
       refine en_getRoS ab i0 (by simp; omega) ?_
       rw [hgb]
       refine en_call (ref_in t4 live a4 (by omega) b) tks ?_
       rintro x' M ⟨rfl, rfl⟩
       try simp only [lca, lna]
       rw [hmem]
       have e2 : Sp.has m3 b = kk := by rw [Bool.eq_iff_iff, o2, hkk]
       rw [e2]
       refine en_chk tks (en_cut [blk b8 [.slice t1.a t1.n t1.c, .slice t2.a t2.n t2.c, .slice t3.a t3.n t3.c, .slice t4.a t4.n t4.c]] tks (fun w h => h) ?_)
       refine en_brf (by simp) ?_
       refine en_ldS (k := .slice) (b := b8) (off := 0) (x := t1) (by rw [fa_mk]) tk rfl ?_
       refine en_getRoS ar i0 (by simp; omega) ?_
       rw [hgr]
       refine en_call (ref_in t1 cl a1 (by omega) r) tks ?_
       rintro x' M ⟨rfl, rfl⟩
       try simp only [lca, lna]
       have e3 : decide (r ∈ cl) = !kk := by
        rw [hkk, Bool.eq_iff_iff, decide_eq_true_iff, o3]
        cases kept <;> cases Sf.keep clock t f rr <;> simp
       rw [e3]
       refine en_brf (by cases kk <;> rfl) ?_
       rw [wrap64 (n := i + 1) (by omega) (by omega)]
       refine hY (K - (i + 1).toNat) _ _ (by omega) ⟨rfl, by dsimp only; omega, by dsimp only; omega, rfl, ?_⟩
       dsimp only
       rw [show (i + 1).toNat = i.toNat + 1 by omega, htake, hkk]
      ·intro J hJ
       refine en_br (fun h3 => ?_) (fun h3 => ?_)
       ·refine en_getU8 ro i0 (by omega) ?_
        rw [hgt, wrap64 (n := t) (by omega) (by omega), wrap64 (n := clock - t) (by omega) (by omega)]
        exact hJ (_, ()) _ ⟨by rw [show kept = true from h3, Bool.true_and, keep_small hc hv hkf hkr], rfl⟩
       ·exact hJ (false, ()) _ ⟨by rw [show kept = false from h3]; rfl, rfl⟩
     ·intro J hJ
      refine en_drw ?_
      refine en_brf (by simp) ?_
      refine en_ld (k := .slice) (b := b8) (off := 3) (x := t4) (by rw [fa_mk]) tk rfl ?_
      have habn := ab.len
      rw [List.length_map] at habn
      refine en_ixRo ab i0 (by omega) fun a0 ha => ?_
      refine en_ldRo (k := .int .i64) (j := i.toNat) (x := b) ha ab (by rintro b o rfl; simp [fa_mk]) (by rw [List.getElem?_map, List.getElem?_map, hce]; rfl) ?_
      refine en_call (ref_in t4 live a4 (by omega) b) tks ?_
      rintro x' M ⟨rfl, rfl⟩
      try simp only [lca, lna]
      rw [hmem]
      refine en_br (fun h3 => ?_) (fun h3 => ?_)
      ·have : kept = true := by
        have := o2.mp h3
        rw [Bool.and_eq_true] at this
        exact this.1
       refine en_brf (by rw [this]; rfl) ?_
       exact hJ _ _ rfl
      ·exact hJ _ _ rfl
    ·refine en_call (law_awake18) tks ?_
     rintro x' M ⟨rfl, rfl⟩
     try simp only [lca, lna]
     exact en_rets (x := true) rfl ⟨rfl, rfl⟩ tks ens
end Go.Proofs.YtpefngbfgjfcgaaGreat
