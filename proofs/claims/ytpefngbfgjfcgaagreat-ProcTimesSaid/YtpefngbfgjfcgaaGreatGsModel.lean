/- Graphs by numbers, of the document's heap. -/
import Derived.Test.YtpefngbfgjfcgaaGreatGsGraph2
import Derived.Test.YtpefngbfgjfcgaaGreatGsRefE
set_option linter.unusedSimpArgs false
set_option linter.unusedVariables false
namespace Go.Proofs.YtpefngbfgjfcgaaGreat
open Go Go.Gl
variable {ρ0 ρ : FR} {L L' : List Asn} {Post : Value → List Asn → Prop} {T : Tree}
open Gr in
theorem g_model (s : Slc) (ns : List Int) (ro : RoS ρ s 1 (ns.map fun x => .int .u8 x)) (hb : ∀ x ∈ ns, 0 ≤ x ∧ x < 256) (hl : ns.length < 2 ^ 63) : Gl.Spec ρ Tryz.prog 14 [.slice s.a s.n s.c] [] PS
  fun r M => ∃ p q, ∃ lc : List (Cls × Slc), csO lc = cs ∧ (∀ x ∈ lc, x.2.n = x.1.2.length) ∧ r = (Option.some ⟨p, 0, none⟩, q, ()) ∧ M = [RHp p (graph ns).1 lc, SLc q 1 ((graph ns).2.map i64)] := by
 refine Spec.of (fun Q w hh => F.gloaminglaw17.Model.calls s hh) fun R => ?_
 unfold F.gloaminglaw17.Model
 try simp only [List.cons_append, List.nil_append]
 refine en_call (rh_new 60 (by omega) (by omega)) tks ?_
 rintro x' M ⟨p, rfl, rfl⟩
 try simp only [List.cons_append, List.nil_append]
 refine en_nw fun b6 => ?_
 refine Rd.bk (n := 2) (m := 1) rfl tk fun ρ1 hle1 ro1 => ?_
 have hw0 : HWf (Sp.newSpc (60 : Int).toNat) (csO []) := newSpc_hwf (by decide) (by decide)
 refine en_call (rh_add p (Sp.newSpc (60 : Int).toNat) [] hw0 3 ⟨Option.some ⟨b6, 0, none⟩, 2, 2⟩ [0, 2] ro1 (by decide)) tks ?_
 rintro x' M ⟨lc, hcs, hln, rfl, rfl⟩
 try simp only [List.cons_append, List.nil_append]
 have ec : Sp.addC (csO []) (3, [0, 2]) = (1, 0, cs) := by decide
 rw [ec] at hcs
 dsimp only at hcs
 have hln := hln (by simp)
 rw [show (60 : Int).toNat = 60 from rfl]
 refine en_call (g_heads s ns (ro.le hle1) hb hl) tks ?_
 rintro hq M ⟨hqn, rfl⟩
 try simp only [List.cons_append, List.nil_append]
 refine Tr.keepSL (s := hq) (m := 4) tk fun ρ2 hle2 hro => ?_
 have hgood := heads_good hb
 have hlen := heads_len (ns := ns)
 have hok := made_ok hgood hlen
 have hfull : (heads ns).take (heads ns).length = heads ns := List.take_length
 have hG : graph ns = (puts (made (heads ns)).1 (heads ns) (made (heads ns)).2 ns (heads ns).length, (made (heads ns)).2) := rfl
 have hns : (heads ns).length ≤ ns.length := by unfold heads; simp; omega
 have roN := (ro.le hle1).le hle2
 rw [hG]
 generalize heads ns = hs at *
 have hcell : ∀ (j : Nat) (h : Hd), hs[j]? = Option.some h → ∀ e v, (vals HL h.t)[e]? = Option.some v → (hs.flatMap Hd.cs)[j * 4 + 0 + e]? = Option.some v := fun j h hj e v he => by
  have hlt : e < 4 := getElem?_lt he
  rw [Nat.add_zero, flat_get (g := Hd.cs) (m := 4) hcs_len hj hlt]
  exact he
 refine Tr.nilSL 1 ?_
 refine en_lp (fun m u M => (fun (t : Slc) (i : Int) => M = SLc t 1 ((made (hs.take i.toNat)).2.map i64) :: RHp p (made (hs.take i.toNat)).1 lc :: R ∧ 0 ≤ i ∧ i ≤ hs.length ∧ m = hs.length - i.toNat) u.1 u.2.1) hs.length ?_ ?_
 ·exact ⟨rfl, by simp, by dsimp only; omega, by simp⟩
 ·rintro m ⟨(t : Slc), (i : Int), ⟨⟩⟩ M ⟨rfl, i0, i1, rfl⟩ X hX
  dsimp only at *
  refine en_br (fun h => ?_) (fun h => ?_)
  ·replace h : i < (hq.n : Int) := of_decide_eq_true h
   have hi : i.toNat < hs.length := by omega
   have hh : hs[i.toNat]? = Option.some hs[i.toNat] := List.getElem?_eq_getElem hi
   have hgd := hgood _ (List.getElem_mem hi)
   have hms := made_step hh
   obtain ⟨k0, k1⟩ := (hok i.toNat (by omega)).make (by simp; omega) hgd
   have hw := (hok i.toNat (by omega)).hw
   refine en_ixRo hro i0 h fun a0 ha => ?_
   generalize hs[i.toNat] = hd at *
   refine en_ldRg (x := hd.t) ha hro (j := i.toNat * 4) (by rintro b o rfl; simp [fa_mk]) (hcell _ _ hh) ?_
   dsimp only
   refine en_call (rh_make p (made (hs.take i.toNat)).1 lc (by rw [hcs]; exact hw) hd) tks ?_
   rintro x' M ⟨rfl, rfl⟩
   try simp only [List.cons_append, List.nil_append]
   rw [hcs]
   have hml := (hok i.toNat (by omega)).len
   refine en_appI (s := t) (xs := (made (hs.take i.toNat)).2) appInt tk (by rw [hml]; simp; omega) fun r hr => ?_
   rw [wrap64 (by omega) (by omega)]
   refine hX (hs.length - (i + 1).toNat) _ _ (by omega) ⟨?_, by dsimp only; omega, by dsimp only; omega, rfl⟩
   dsimp only
   rw [show (i + 1).toNat = i.toNat + 1 by omega, hms]; rfl
  ·replace h : ¬ i < (hq.n : Int) := of_decide_eq_false h
   have hi : i.toNat = hs.length := by omega
   rw [hi, hfull]
   have hok1 := hok hs.length (Nat.le_refl _)
   rw [hfull] at hok1
   clear hX
   generalize made hs = md at hok1 ⊢
   obtain ⟨S1, l⟩ := md
   dsimp only at *
   have hll := hok1.len
   refine en_lp (fun m u M => (fun (i : Int) => M = SLc t 1 (l.map i64) :: RHp p (puts S1 hs l ns i.toNat) lc :: R ∧ 0 ≤ i ∧ i ≤ hs.length ∧ m = hs.length - i.toNat) u.1) hs.length ?_ ?_
   ·exact ⟨rfl, by simp, by dsimp only; omega, by simp⟩
   ·clear h hi i0 i1 i
    rintro m ⟨(i : Int), ⟨⟩⟩ M ⟨rfl, i0, i1, rfl⟩ X hX
    dsimp only at *
    have hokp := hok1.puts hgood ns
    refine en_br (fun h => ?_) (fun h => ?_)
    ·replace h : i < (hq.n : Int) := of_decide_eq_true h
     have hi : i.toNat < hs.length := by omega
     have hh : hs[i.toNat]? = Option.some hs[i.toNat] := List.getElem?_eq_getElem hi
     have hgd := hgood _ (List.getElem_mem hi)
     have hO := hokp i.toNat (by omega)
     have hps := puts_succ (S := S1) (hs := hs) (l := l) (ns := ns) (n := i.toNat)
     rw [getD_hd hh] at hps
     refine en_ixRo hro i0 h fun a0 ha => ?_
     generalize hs[i.toNat] = hd at *
     refine en_ldRg (x := hd.t) ha hro (j := i.toNat * 4) (by rintro b o rfl; simp [fa_mk]) (hcell _ _ hh) ?_
     dsimp only
     obtain ⟨iN, rfl⟩ := Int.eq_ofNat_of_zero_le i0
     simp only [Int.toNat_natCast] at *
     refine en_call (g_words hd hgd t l (by omega) s ns roN hb (by omega) iN (by omega)) tks ?_
     rintro x' M rfl
     try simp only [List.cons_append, List.nil_append]
     have hwl := words_len (h := hd) (l := l) (ns := ns) (i := iN)
     have n0 := hgd.n0
     have n1 := hgd.n1
     generalize words hd l ns iN = ws at *
     generalize puts S1 hs l ns iN = S2 at *
     refine Tr.nlen (s := x') (xs := ws) tk fun hxn => ?_
     refine Tr.take (A := RHp p S2 lc) tk ?_
     refine en_lp (fun m u M => (fun (k : Int) => M = RHp p (putN S2 (l.getD iN 0) ws k.toNat) lc :: SLc x' 1 (ws.map i64) :: SLc t 1 (l.map i64) :: R ∧ 0 ≤ k ∧ k ≤ ws.length ∧ m = ws.length - k.toNat) u.1) ws.length ?_ ?_
     ·exact ⟨rfl, by simp, by dsimp only; omega, by simp⟩
     ·rintro m ⟨(k : Int), ⟨⟩⟩ M ⟨rfl, c0, c1, rfl⟩ Y hY
      dsimp only at *
      refine en_br (fun h3 => ?_) (fun h3 => ?_)
      ·replace h3 : k < (x'.n : Int) := of_decide_eq_true h3
       have hO2 := hO.putN hh ws k.toNat (by omega)
       obtain ⟨p0, p1⟩ := hO2.put hh (k := k) c0 (by omega) (ws.getD k.toNat 0)
       refine en_drw (en_getSL (s := t) (xs := l) tk i0 (by omega) ?_)
       refine en_getSL (s := x') (xs := ws) tk c0 (by omega) ?_
       simp only [Int.toNat_natCast]
       refine en_call (rh_put p (putN S2 (l.getD iN 0) ws k.toNat) lc (by rw [hcs]; exact hO2.hw) (l.getD iN 0) k (ws.getD k.toNat 0)) tks ?_
       rintro x' M ⟨rfl, rfl⟩
       try simp only [List.cons_append, List.nil_append]
       rw [wrap64 (by omega) (by omega)]
       refine hY (ws.length - (k + 1).toNat) _ _ (by omega) ⟨?_, by dsimp only; omega, by dsimp only; omega, rfl⟩
       dsimp only
       rw [show (k + 1).toNat = k.toNat + 1 by omega, putN_succ, show ((k.toNat : Nat) : Int) = k by omega]
      ·replace h3 : ¬ k < (x'.n : Int) := of_decide_eq_false h3
       have : k.toNat = ws.length := by omega
       rw [wrap64 (by omega) (by omega), this]
       refine Tr.drop (A := SLc x' 1 (ws.map i64)) tk ?_
       refine Tr.take (A := SLc t 1 (l.map i64)) tk ?_
       refine hX (hs.length - ((iN : Int) + 1).toNat) _ _ (by omega) ⟨?_, by dsimp only; omega, by dsimp only; omega, rfl⟩
       dsimp only
       rw [show ((iN : Int) + 1).toNat = iN + 1 by omega, hps]; rfl
    ·replace h : ¬ i < (hq.n : Int) := of_decide_eq_false h
     have : i.toNat = hs.length := by omega
     rw [this]
     exact en_rets (x := (Option.some ⟨p, 0, none⟩, t, ())) rfl ⟨p, t, lc, hcs, hln, rfl, rfl⟩ tks ens
theorem Gr.OK.kn {S : Spc} {hs : List Hd} {l : List Int} (H : Gr.OK S hs l) (hg : ∀ h ∈ hs, Gr.Good h) : Kn S Gr.cs := by
 intro a h hh hk
 obtain ⟨n, w, rfl, hf, _⟩ := Ob.head_is H.hw hh
 have hm : (n : Int) ∈ Sp.each S := (mem_each H.hw.wf).mpr ⟨n, w, rfl, hf⟩
 obtain ⟨i, hi⟩ := List.mem_iff_getElem?.mp (H.each.mem_iff.mp hm)
 have hlt := getElem?_lt hi
 rw [H.len] at hlt
 have h2 := H.head i _ (List.getElem?_eq_getElem hlt)
 rw [show l.getD i 0 = n by rw [List.getD_eq_getElem?_getD, hi]; rfl, hh] at h2
 injection h2 with h2
 have hgd := hg _ (List.getElem_mem hlt)
 rw [← h2] at hgd
 have hm := hgd.may
 unfold Ob.may at hm
 split at hm
 ·cases hm
 ·rw [if_neg (fun g => g hk)] at hm
  split at hm
  ·exact ⟨_, by assumption⟩
  ·cases hm
theorem RoObs.le {ρ' : FR} {s : Slc} {os : List Ob1} (h : RoObs ρ s os) (hle : Le ρ ρ') : RoObs ρ' s os := ⟨h.1, h.2.elim fun l g => ⟨l, g.1, g.2.1.le hle, fun x hx => ⟨(g.2.2 x hx).1.le hle, (g.2.2 x hx).2⟩⟩⟩
theorem objs_small {S : Spc} {cs : List Cls} (hw : HWf S cs) : (∀ o ∈ Ob.objs S, o.ws.length < 2 ^ 40) ∧ (Ob.objs S).length < 2 ^ 40 := by
 refine ⟨fun o ho => ?_, ?_⟩
 ·obtain ⟨a, _, rfl⟩ := List.mem_map.mp ho
  unfold Ob.at1
  split
  ·rename_i h hh
   obtain ⟨_, _, _, _, _, g, _⟩ := Ob.head_is hw hh
   have := Sp.mayH_is g
   simp; omega
  ·simp
 ·have := Sp.each_len hw.wf
  unfold Ob.objs; rw [List.length_map]; omega
end Go.Proofs.YtpefngbfgjfcgaaGreat
