/- The document's example of law 20. -/
import Derived.Test.YtdplphebjhfliaaGreatGsL20
set_option linter.unusedSimpArgs false
set_option linter.unusedVariables false
namespace Go.Proofs.YtdplphebjhfliaaGreat
open Go Go.Gl
variable {ρ0 ρ : FR} {L L' : List Asn} {Post : Value → List Asn → Prop} {T : Tree}
theorem new_head {n : Nat} (h0 : 1 ≤ n) (a : Int) : Ob.head (Sp.newSpc n) a = none := by unfold Ob.head; rw [newSpc_find h0]
theorem new_each {n : Nat} (h0 : 1 ≤ n) (h1 : n ≤ 256) : Sp.each (Sp.newSpc n) = [] := by
 rw [List.eq_nil_iff_forall_not_mem]
 intro a ha
 obtain ⟨m, w, rfl, hf⟩ := (mem_each (newSpc_hwf h0 h1).wf).mp ha
 rw [newSpc_find h0] at hf; cases hf
theorem new_refs {n : Nat} (h0 : 1 ≤ n) (h1 : n ≤ 256) : refsOf (Sp.newSpc n) = [] := by
 unfold refsOf Ob.objs; rw [new_each h0 h1]; rfl
theorem new_ok {pg rate stack : Int} (h : (1 ≤ pg ∧ pg ≤ 256) ∧ 0 ≤ rate ∧ (1 ≤ stack ∧ stack ≤ 4096)) (hr : rate < 9223372036854775808) (rows : List (List Int)) (hrw : RowsOk (Sp.newSpc pg.toNat) rows) : Rt.Ok2 { Rt.new pg rate stack with rows := rows } := by
 have h0 : 1 ≤ pg.toNat := by omega
 have h1 : pg.toNat ≤ 256 := by omega
 have hst : ∀ r ∈ refsOf (Sp.newSpc pg.toNat), r.2.2.2.2.1 < 9223372036854775808 := fun r hr => by
  rw [new_refs h0 h1] at hr; cases hr
 have hqb : QB (Sp.newSpc pg.toNat) := fun a ha => by
  obtain ⟨hd, hh, _⟩ := isR_head ha
  rw [new_head h0 a] at hh; cases hh
 have hhs : Hn.Ok (List.replicate 512 (0, 0)) := ⟨List.length_replicate, fun e he => by rw [List.eq_of_mem_replicate he]; decide⟩
 have hws : 64 ≤ (Sp.newSpc pg.toNat).ws.length := by
  show 64 ≤ (List.replicate (pg.toNat * 64) (0 : Int)).length
  rw [List.length_replicate]; omega
 exact { hw := newSpc_hwf h0 h1, rows := hrw, hs := hhs, ro := List.length_replicate, wa := Nat.zero_le _, pe := Nat.zero_le _, ws := hws, qb := hqb, st := hst, ck := (by decide : (0 : Int) < 9223372036854775808), rate := hr, stack := h.2.2, rn := ⟨Int.le_refl _, (by decide : (0 : Int) < 2 ^ 60)⟩ }
theorem coll_none {x : Rt} {z1 z2 : Slc} {all : Bool} {ro fs : List Int} {l : List Rf6} {m2 m3 : List Bool} (hw : HWf x.S x.cs) (he : Sp.each x.S = []) (h : Coll x.S x.cs (x.in7 z1 z2 all) ro fs l m2 m3) :
  clrOf x.S m2 m3 l = [] ∧ putOf x.S m3 [] = [] ∧ Mk.all m3 = [] := by
 have hr : refsOf x.S = [] := by unfold refsOf Ob.objs; rw [he]; rfl
 have hl : l = [] := by have := h.perm; rw [hr] at this; exact this.eq_nil
 subst hl
 refine ⟨rfl, rfl, ?_⟩
 refine Mk.all_eq (by simp) fun a => ?_
 constructor
 ·intro g; cases g
 ·intro g
  have := h.c3.obj a g
  unfold Mk.obj at this
  cases hh : Ob.head x.S a with
  | none => rw [hh] at this; cases this
  | some hd =>
   have := (obj_each hw).mpr ⟨hd, hh⟩
   rw [he] at this; cases this
theorem after_none {x : Rt} (he : Sp.each x.S = []) : x.after [] [] [] [] = { x with rn := x.rn + 1 } := by
 have e : Sw.sweep x.S [] = x.S := by unfold Sw.sweep Sw.dead; rw [he]; rfl
 unfold Rt.after
 show ({ x with S := Sw.sweep x.S [], rows := x.rows, wa := x.wa, pe := x.pe, rn := x.rn + 1 } : Rt) = _
 rw [e]
theorem law_awake20 : Gl.Spec ρ Tryz.prog 15 [] [] RB fun r M => r = true ∧ M = [] := by
 refine Gl.Spec.of (fun Q w h => F.gloaminglaw20.awake.calls h) fun R => ?_
 unfold F.gloaminglaw20.awake
 have hc : (1 ≤ (2 : Int) ∧ (2 : Int) ≤ 256) ∧ 0 ≤ (1 : Int) ∧ (1 ≤ (1 : Int) ∧ (1 : Int) ≤ 4096) := by omega
 refine en_call (gc_new 2 1 1 hc) tks ?_
 rintro _ _ ⟨i, rfl, rfl⟩
 try simp only [lca, lna]
 refine en_call (law_whole20 i (Rt.new 2 1 1)) tks ?_
 rintro x' M ⟨rfl, rfl⟩
 try simp only [lca, lna]
 refine en_brf rfl ?_
 iterate 1
  refine en_call (law_err _) .nil ?_
  rintro x' M ⟨rfl, rfl⟩
  try simp only [lca, lna]
 refine en_brf rfl ?_
 have hok : Rt.Ok2 (Rt.new 2 1 1) := new_ok hc (by decide) [] ⟨by simp, (by intro r hr; cases hr), (by intro r hr; cases hr)⟩
 have he : Sp.each (Rt.new 2 1 1).S = [] := new_each (by decide) (by decide)
 refine en_call (gc_collect i (Rt.new 2 1 1) hok false) tks ?_
 rintro _ _ ⟨z1, z2, s1, s2, s3, s4, l, m2, m3, hco, rfl, rfl⟩
 try simp only [lca, lna]
 obtain ⟨c1, c2, c3⟩ := coll_none hok.hw he hco
 have c4 : pendOf (Rt.new 2 1 1).S m2 (Rt.new 2 1 1).wa = [] := rfl
 rw [c1, c2, c3, c4, after_none he]
 refine Tr.nlen (s := s1) (xs := []) tk fun hn1 => ?_
 refine Tr.nlen (s := s4) (xs := []) tk fun hn4 => ?_
 refine en_nw fun b5 => ?_
 rw [zcOut]
 refine en_st (b := b5) (off := 0) rfl tk (by simp) rfl ?_
 have hok' : Rt.Ok { Rt.new 2 1 1 with rn := (Rt.new 2 1 1).rn + 1 } := ⟨hok.hw, hok.rows, hok.hs, hok.ro, hok.wa, hok.pe, hok.ws⟩
 refine en_call (gc_view i _ hok') tks ?_
 rintro _ _ ⟨so, sh, sr, sq, sf, sp, lv, rfl, ⟨n1, n2, n3, n4, n5, n6⟩, hl, hly, rfl⟩
 try simp only [lca, lna]
 refine en_nw fun b7 => ?_
 rw [zcView]
 refine en_st (b := b7) (off := 0) rfl tk (by simp) rfl ?_
 iterate 1
  refine en_call (law_err _) .nil ?_
  rintro x' M ⟨rfl, rfl⟩
  try simp only [lca, lna]
 refine en_brt rfl ?_
 refine en_ld (k := .slice) (b := b5) (off := 3) (x := s4) (by rw [fa_mk]) tk rfl ?_
 refine en_ld (k := .slice) (b := b5) (off := 0) (x := s1) (by rw [fa_mk]) tk rfl ?_
 refine en_brt (by rw [hn1, hn4]; decide) ?_
 refine en_ld (k := .int .i64) (b := b7) (off := 9) (x := 1) (by rw [fa_mk]) tk rfl ?_
 refine en_brt rfl ?_
 refine en_call (gc_runs i { Rt.new 2 1 1 with rn := (Rt.new 2 1 1).rn + 1 }) tks ?_
 rintro _ _ ⟨rfl, rfl⟩
 try simp only [lca, lna]
 refine en_brt rfl ?_
 refine en_ld (k := .slice) (b := b7) (off := 2) (x := sr) (by rw [fa_mk]) tk rfl ?_
 rw [n3]
 exact en_rets (x := true) rfl ⟨rfl, rfl⟩ .nil ens
end Go.Proofs.YtdplphebjhfliaaGreat
