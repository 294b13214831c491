/- Laws of objects: what they share. -/
import Derived.Test.YtncpnmpfghppeaaGlLaw
set_option linter.unusedSimpArgs false
set_option linter.unusedVariables false
namespace Go.Proofs.Ytncpnmpfghppeaa
open Go Go.Gl
variable {ρ0 ρ : FR} {L L' : List Asn} {Post : Value → List Asn → Prop} {T : Tree}

theorem law_err (e : Int) : Gl.Spec ρ Try.prog 13 [i64 e] [] R1 fun r M => r = e ∧ M = [] := by
  refine Spec.of (fun Q w h => F.gloaminglaw1.Err.calls e h) fun R => ?_
  unfold F.gloaminglaw1.Err
  try simp only [List.cons_append, List.nil_append]
  exact en_rets (x := e) rfl ⟨rfl, rfl⟩ tks ens

theorem law_whole (p : Nat) (S : Spc) (cs : List Cls) : Gl.Spec ρ Try.prog 12 [.pointer (some ⟨p, 0, none⟩)] [HeapA p S cs] RB fun r M => r = true ∧ M = [HeapA p S cs] := by
  refine Spec.of (fun Q w h => F.gloaminglaw9.Whole.calls (some ⟨p, 0, none⟩) h) fun R => ?_
  unfold F.gloaminglaw9.Whole
  try simp only [List.cons_append, List.nil_append]
  refine HeapA.op tk fun ps pt => ?_
  refine en_brt rfl (en_nn (en_ld (k := .ptr) (b := p) (x := some ⟨ps, 0, none⟩) (by rw [fa_mk]) tk rfl ?_))
  refine en_brt rfl (en_nn (en_ld (k := .ptr) (b := p) (x := some ⟨pt, 0, none⟩) (by rw [fa_mk]) tk rfl ?_))
  refine en_brt rfl (en_nn (en_ld (k := .ptr) (b := p) (x := some ⟨ps, 0, none⟩) (by rw [fa_mk]) tk rfl ?_))
  refine SpaceA.op tk fun pa pp ms ml ls ll hS hL nS nL => ?_
  refine en_nn (en_ld (k := .ptr) (b := ps) (x := some ⟨pa, 0, none⟩) (by rw [fa_mk]) tk rfl ?_)
  refine en_brt rfl (en_nn (en_ld (k := .ptr) (b := p) (x := some ⟨ps, 0, none⟩) (by rw [fa_mk]) tk rfl ?_))
  refine en_nn (en_ld (k := .ptr) (b := ps) (x := some ⟨pp, 0, none⟩) (by rw [fa_mk]) tk rfl ?_)
  refine Tr.close tks (SpaceA.cl (p := ps) (pa := pa) (pp := pp) (ms := ms) (ml := ml) hS hL) ?_
  refine Tr.close tks (HeapA.cl (p := p) (ps := ps) (pt := pt) (S := S) (cs := cs)) ?_
  exact en_rets (x := true) rfl ⟨rfl, rfl⟩ tks ens

theorem Ob.make_may {S : Spc} {cs : List Cls} {h : Hd} {e : Int} (he : Ob.may cs h = e) (h0 : e ≠ 0) : Ob.make S cs h = (0, e, S) := by
  unfold Ob.make; rw [he, if_pos h0]

theorem law_awake : Gl.Spec ρ Try.prog 20 [] [] RB fun r M => r = true ∧ M = [] := by
  refine Spec.of (fun Q w h => F.gloaminglaw9.awake.calls h) fun R => ?_
  unfold F.gloaminglaw9.awake
  try simp only [List.cons_append, List.nil_append]
  refine en_call (object_new 2 (by omega) (by omega)) tks ?_
  rintro x M ⟨p, rfl, rfl⟩
  try simp only [List.cons_append, List.nil_append]
  refine en_call (law_whole p (Sp.newSpc 2) []) tks ?_
  rintro x M ⟨rfl, rfl⟩
  try simp only [List.cons_append, List.nil_append]
  refine en_brf rfl ?_
  refine en_call (law_err 0) tks ?_
  rintro x M ⟨rfl, rfl⟩
  try simp only [List.cons_append, List.nil_append]
  refine en_brf rfl ?_
  have hw := newSpc_hwf (n := 2) (by omega) (by omega)
  refine en_call (object_make p (Sp.newSpc 2) [] hw ⟨3, 0, 1, false⟩) tks ?_
  rintro x M ⟨rfl, rfl⟩
  try simp only [List.cons_append, List.nil_append]
  have hw1 := hw.make ⟨3, 0, 1, false⟩
  have e1 : (Ob.make (Sp.newSpc 2) [] ⟨3, 0, 1, false⟩).1 = 64 := by kernel_rfl
  have e2 : (Ob.make (Sp.newSpc 2) [] ⟨3, 0, 1, false⟩).2.1 = 0 := by kernel_rfl
  have e3 : (Ob.objs (Ob.make (Sp.newSpc 2) [] ⟨3, 0, 1, false⟩).2.2).length = 1 := by kernel_rfl
  rw [e1, e2]
  refine en_brt rfl ?_
  refine en_call (law_err 0) tks ?_
  rintro x M ⟨rfl, rfl⟩
  try simp only [List.cons_append, List.nil_append]
  refine en_brt rfl ?_
  refine en_call (object_objects p (Ob.make (Sp.newSpc 2) [] ⟨3, 0, 1, false⟩).2.2 [] hw1) tks ?_
  rintro x M ⟨rfl, hn⟩
  try simp only [List.cons_append, List.nil_append]
  rw [hn, e3]
  exact en_rets (x := true) rfl ⟨rfl, rfl⟩ tks ens

end Go.Proofs.Ytncpnmpfghppeaa
