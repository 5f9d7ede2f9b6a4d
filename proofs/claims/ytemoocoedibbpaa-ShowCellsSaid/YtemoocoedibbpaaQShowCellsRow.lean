/- The law ShowCells holds for every input: the given row, out of the pure statement (YtemoocoedibbpaaXPureShowCells) and the walk. No condition. -/
import Derived.Test.YtemoocoedibbpaaQShowCells4
import Derived.Test.YtemoocoedibbpaaRows
import Derived.WalkKit
import Derived.ProofKit
import Derived.OpenShut
import Derived.ShutString
import Derived.ChangeOld
import Derived.Below
import Derived.SizedLaws
import Derived.WideShapes
namespace Go.Proofs.Ytemoocoedibbpaa.showCells
open Go.ChangeShapes Go.WideShapes Go.ChangeAt Go.RowKit Go.Proofs.Ytemoocoedibbpaa.X Go.Proofs.YtemoocoedibbpaaW.PrintWords Go.Proofs.YtemoocoedibbpaaW.PrintLast Go.Proofs.YtemoocoedibbpaaW.PrintMore
open Go.ChangeMaps (open_string shut_string)
set_option linter.unusedVariables false
theorem own : ownKnob Try.prog.godebug = none := by kernel_rfl
theorem laidOut : laidOutB Try.prog = true := by kernel_rfl
set_option maxRecDepth 100000 in
set_option maxHeartbeats 4000000 in
theorem lifted (os : Os) (started : os.Started) (H : Type) (enc : TypeId × Value → H) :
    ReturnsInHanded {} Try.checked os 4 .any (Rows.showCellsSpec.pre6 enc Try.prog Try.f4 Rows.showCellsRow.domain false) (Rows.showCellsSpec.post enc Try.prog Try.f4 false true false false) := by
  refine returnsInHanded_of_change_sized (C := Try.checked) own started (by kernel_rfl) Try.func4
    (ChangeSpec.witness6 (enc := enc) (C := Try.checked) false ⟨#[], #[.agg #[.int .i64 0, .int .i64 0], .agg #[.int .i64 0, .int .i64 0], .int .i64 0], []⟩ 8 (by kernel_rfl) (by kernel_rfl) (by kernel_rfl) (by kernel_rfl)) ?_
  intro W base args ds gs before hval0 hW hcnd hsz0 _
  have hval : ∀ (j : Nat) t v, Try.f4.params[j]? = some t → args[j]? = some v → Value.okWide Try.prog W .any base t v := hval0
  have hW' := hW
  obtain ⟨p, q, hA0, hV, rfl, hfz, hnd⟩ := hW
  have hA : DataW.TrodAll enc Try.prog W 0 (fun _ => true) true Try.f4.params.toList args.toList ds p := hA0
  rw [Try.params4] at hA hval
  obtain ⟨v0, vs0, d0, ds0, p0, q0, hargs, rfl, rfl, h0, r0⟩ := trodAll_cons hA
  obtain ⟨v1, vs1, d1, ds1, p1, q1, rfl, rfl, rfl, h1, r1⟩ := trodAll_cons r0
  obtain ⟨v2, vs2, d2, ds2, p2, q2, rfl, rfl, rfl, h2, r2⟩ := trodAll_cons r1
  obtain ⟨rfl, rfl, rfl⟩ := trodAll_nil r2
  obtain rfl : args = #[v0, v1, v2] := by cases args; simp_all
  obtain ⟨rfl, rfl⟩ := trodVars_none hV
  have lt0 : ∀ x ∈ p0, x.block < W.heap.size := by obtain ⟨m, hm⟩ := h0; exact DataW.trod_lt m _ _ _ hm
  have k0 := h0
  obtain ⟨fuel0, hf0⟩ := k0
  obtain ⟨cs0, hcs0, hsw0⟩ := okWide_struct Try.underlying45 (hval 0 45 v0 rfl rfl)
  subst hcs0
  obtain ⟨cl0⟩ := cs0
  have hl0 : cl0.length = 2 := hsw0.trans (by kernel_rfl)
  obtain ⟨e0_0, t0_0, rfl, h0_0⟩ := len_cons hl0
  obtain ⟨e0_1, t0_1, rfl, h0_1⟩ := len_cons h0_0
  obtain rfl := List.eq_nil_of_length_eq_zero h0_1
  obtain ⟨x0, hx0, w0⟩ := opk_45 H enc W fuel0 [e0_0, e0_1] _ (by simpa [Value.cells] using hf0)
  obtain ⟨a0_0, a0_1⟩ := x0
  obtain ⟨_, _, hs0_0, hk0_0, hk0_1⟩ := hx0
  obtain rfl := hk0_0
  simp only [List.cons_append, List.nil_append, List.cons.injEq] at hs0_0
  obtain ⟨rfl, rfl, -⟩ := hs0_0
  have hz0 : [e0_1] = [.int .i64 a0_1] := hk0_1
  obtain rfl : e0_1 = .int .i64 a0_1 := by injection hz0
  have lt1 : ∀ x ∈ p1, x.block < W.heap.size := by obtain ⟨m, hm⟩ := h1; exact DataW.trod_lt m _ _ _ hm
  have k1 := h1
  obtain ⟨fuel1, hf1⟩ := k1
  obtain ⟨cs1, hcs1, hsw1⟩ := okWide_struct Try.underlying45 (hval 1 45 v1 rfl rfl)
  subst hcs1
  obtain ⟨cl1⟩ := cs1
  have hl1 : cl1.length = 2 := hsw1.trans (by kernel_rfl)
  obtain ⟨e1_0, t1_0, rfl, h1_0⟩ := len_cons hl1
  obtain ⟨e1_1, t1_1, rfl, h1_1⟩ := len_cons h1_0
  obtain rfl := List.eq_nil_of_length_eq_zero h1_1
  obtain ⟨x1, hx1, w1⟩ := opk_45 H enc W fuel1 [e1_0, e1_1] _ (by simpa [Value.cells] using hf1)
  obtain ⟨a1_0, a1_1⟩ := x1
  obtain ⟨_, _, hs1_0, hk1_0, hk1_1⟩ := hx1
  obtain rfl := hk1_0
  simp only [List.cons_append, List.nil_append, List.cons.injEq] at hs1_0
  obtain ⟨rfl, rfl, -⟩ := hs1_0
  have hz1 : [e1_1] = [.int .i64 a1_1] := hk1_1
  obtain rfl : e1_1 = .int .i64 a1_1 := by injection hz1
  have lt2 : ∀ x ∈ p2, x.block < W.heap.size := by obtain ⟨m, hm⟩ := h2; exact DataW.trod_lt m _ _ _ hm
  have k2 := h2
  obtain ⟨fuel2, hf2⟩ := k2
  have kk2 := h2
  obtain ⟨a2, rfl, rfl, rfl, w2⟩ := open_int Try.underlying3 (hval 2 3 v2 rfl rfl) kk2
  clear hA0 hval0 hsz0
  obtain ⟨k, hk⟩ := Go.Proofs.Ytemoocoedibbpaa.X.Pure_ShowCells _ _ _ _ _ w0 w1 w2
  refine (dactyllaw06_ShowCells.calls k a0_0 a0_1 a1_0 a1_1 a2 true W  hk).mono fun e W' hpost => ?_
  obtain ⟨he, bel⟩ := hpost
  subst he
  exact ⟨_, rfl, _, _, _, [], _, [], hW', trodAll_mk1 (shut_bool Try.underlying4 _), (trodAll_cons_mk (Below.trod laidOut (by kernel_rfl) (of_decide_eq_true (by kernel_rfl)) h0 bel lt0) (trodAll_cons_mk (Below.trod laidOut (by kernel_rfl) (of_decide_eq_true (by kernel_rfl)) h1 bel lt1) (trodAll_cons_mk (Below.trod laidOut (by kernel_rfl) (of_decide_eq_true (by kernel_rfl)) h2 bel lt2) trodAll_mk0))), rfl, bel.frame _, fun h => by cases h⟩
theorem over : Rows.showCellsRow.holds Try.pinned (OpenSpec.ofChange Rows.showCellsSpec) :=
  OpenClaim.holds_of_wide 4 Try.f4 rfl rfl rfl rfl rfl rfl rfl ⟨rfl, rfl, rfl, rfl, rfl⟩ rfl rfl rfl rfl rfl (by kernel_rfl) Try.func4 (by kernel_rfl)
    (of_decide_eq_true (by kernel_rfl)) (by unfold Func.isWrapper; first | (rw [if_pos (by decide +kernel)]; kernel_rfl) | (rw [if_neg (by decide +kernel)]; exact ⟨rfl, rfl⟩))
    (fun os started H enc _ => lifted os started H enc)
theorem proved : Rows.ShowCellsSaid := over
#print axioms proved
end Go.Proofs.Ytemoocoedibbpaa.showCells
namespace Go.Proofs.Ytemoocoedibbpaa
/-- The row, under a short name, for the claim. -/
theorem showCells_holds : Rows.ShowCellsSaid := showCells.proved
end Go.Proofs.Ytemoocoedibbpaa
