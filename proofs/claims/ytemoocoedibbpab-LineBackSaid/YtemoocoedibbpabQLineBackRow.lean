/- The law LineBack holds for every input: the given row, out of the pure statement (YtemoocoedibbpabXPureLineBack) and the walk. No condition. -/
import Derived.Test.YtemoocoedibbpabQLineBack4
import Derived.Test.YtemoocoedibbpabRows
import Derived.WalkKit
import Derived.ProofKit
import Derived.OpenShut
import Derived.ShutString
import Derived.ChangeOld
import Derived.Below
import Derived.SizedLaws
import Derived.WideShapes
namespace Go.Proofs.Ytemoocoedibbpab.lineBack
open Go.ChangeShapes Go.WideShapes Go.ChangeAt Go.RowKit Go.Proofs.Ytemoocoedibbpab.X Go.Proofs.YtemoocoedibbpabW.PrintWords Go.Proofs.YtemoocoedibbpabW.PrintLast Go.Proofs.YtemoocoedibbpabW.PrintMore
open Go.ChangeMaps (open_string shut_string)
set_option linter.unusedVariables false
theorem own : ownKnob Try.prog.godebug = none := by kernel_rfl
theorem laidOut : laidOutB Try.prog = true := by kernel_rfl
set_option maxRecDepth 100000 in
set_option maxHeartbeats 4000000 in
theorem lifted (os : Os) (started : os.Started) (H : Type) (enc : TypeId × Value → H) :
    ReturnsInHanded {} Try.checked os 7 .any (Rows.lineBackSpec.pre6 enc Try.prog Try.f7 Rows.lineBackRow.domain false) (Rows.lineBackSpec.post enc Try.prog Try.f7 false true false false) := by
  refine returnsInHanded_of_change_sized (C := Try.checked) own started (by kernel_rfl) Try.func7
    (ChangeSpec.witness6 (enc := enc) (C := Try.checked) false ⟨#[], #[.agg #[.slice none 0 0, .int .i64 0], .agg #[.int .i64 0, .int .i64 0, .int .i64 0]], []⟩ 8 (by kernel_rfl) (by kernel_rfl) (by kernel_rfl) (by kernel_rfl)) ?_
  intro W base args ds gs before hval0 hW hcnd hsz0 _
  have hval : ∀ (j : Nat) t v, Try.f7.params[j]? = some t → args[j]? = some v → Value.okWide Try.prog W .any base t v := hval0
  have hW' := hW
  obtain ⟨p, q, hA0, hV, rfl, hfz, hnd⟩ := hW
  have hA : DataW.TrodAll enc Try.prog W 0 (fun _ => true) true Try.f7.params.toList args.toList ds p := hA0
  rw [Try.params7] at hA hval
  obtain ⟨v0, vs0, d0, ds0, p0, q0, hargs, rfl, rfl, h0, r0⟩ := trodAll_cons hA
  obtain ⟨v1, vs1, d1, ds1, p1, q1, rfl, rfl, rfl, h1, r1⟩ := trodAll_cons r0
  obtain ⟨rfl, rfl, rfl⟩ := trodAll_nil r1
  obtain rfl : args = #[v0, v1] := by cases args; simp_all
  obtain ⟨rfl, rfl⟩ := trodVars_none hV
  have lt0 : ∀ x ∈ p0, x.block < W.heap.size := by obtain ⟨m, hm⟩ := h0; exact DataW.trod_lt m _ _ _ hm
  have k0 := h0
  obtain ⟨fuel0, hf0⟩ := k0
  obtain ⟨cs0, hcs0, hsw0⟩ := okWide_struct Try.underlying24 (hval 0 24 v0 rfl rfl)
  subst hcs0
  obtain ⟨cl0⟩ := cs0
  have hl0 : cl0.length = 2 := hsw0.trans (by kernel_rfl)
  obtain ⟨e0_0, t0_0, rfl, h0_0⟩ := len_cons hl0
  obtain ⟨e0_1, t0_1, rfl, h0_1⟩ := len_cons h0_0
  obtain rfl := List.eq_nil_of_length_eq_zero h0_1
  obtain ⟨x0, hx0, w0⟩ := opk_24 H enc W fuel0 [e0_0, e0_1] _ (by simpa [Value.cells] using hf0)
  obtain ⟨l0_0, a0_1⟩ := x0
  obtain ⟨_, _, hs0_0, hk0_0, hk0_1⟩ := hx0
  obtain ⟨A0_0, c0_0, he0_0, hc0_0, hr0_0⟩ := hk0_0
  subst he0_0
  simp only [List.cons_append, List.nil_append, List.cons.injEq] at hs0_0
  obtain ⟨rfl, rfl, -⟩ := hs0_0
  have hz0 : [e0_1] = [.int .i64 a0_1] := hk0_1
  obtain rfl : e0_1 = .int .i64 a0_1 := by injection hz0
  have lt1 : ∀ x ∈ p1, x.block < W.heap.size := by obtain ⟨m, hm⟩ := h1; exact DataW.trod_lt m _ _ _ hm
  have k1 := h1
  obtain ⟨fuel1, hf1⟩ := k1
  obtain ⟨cs1, hcs1, hsw1⟩ := okWide_struct Try.underlying53 (hval 1 53 v1 rfl rfl)
  subst hcs1
  obtain ⟨cl1⟩ := cs1
  have hl1 : cl1.length = 3 := hsw1.trans (by kernel_rfl)
  obtain ⟨e1_0, t1_0, rfl, h1_0⟩ := len_cons hl1
  obtain ⟨e1_1, t1_1, rfl, h1_1⟩ := len_cons h1_0
  obtain ⟨e1_2, t1_2, rfl, h1_2⟩ := len_cons h1_1
  obtain rfl := List.eq_nil_of_length_eq_zero h1_2
  obtain ⟨x1, hx1, w1⟩ := opk_53 H enc W fuel1 [e1_0, e1_1, e1_2] _ (by simpa [Value.cells] using hf1)
  obtain ⟨a1_0, a1_1, a1_2⟩ := x1
  obtain ⟨_, _, hs1_0, hk1_0, _, _, hs1_1, hk1_1, hk1_2⟩ := hx1
  obtain rfl := hk1_0
  simp only [List.cons_append, List.nil_append, List.cons.injEq] at hs1_0
  obtain ⟨rfl, rfl⟩ := hs1_0
  obtain rfl := hk1_1
  simp only [List.cons_append, List.nil_append, List.cons.injEq] at hs1_1
  obtain ⟨rfl, rfl, -⟩ := hs1_1
  have hz1 : [e1_2] = [.int .i64 a1_2] := hk1_2
  obtain rfl : e1_2 = .int .i64 a1_2 := by injection hz1
  clear hA0 hval0 hsz0
  obtain ⟨k, hk⟩ := Go.Proofs.Ytemoocoedibbpab.X.Pure_LineBack _ _ _ _ _ w0 w1
  refine (dactyllaw17_LineBack.calls k _ _ l0_0 a0_1 a1_0 a1_1 a1_2 true W hr0_0 hc0_0 rfl hk).mono fun e W' hpost => ?_
  obtain ⟨he, bel⟩ := hpost
  subst he
  exact ⟨_, rfl, _, _, _, [], _, [], hW', trodAll_mk1 (shut_bool Try.underlying4 _), (trodAll_cons_mk (Below.trod laidOut (by kernel_rfl) (of_decide_eq_true (by kernel_rfl)) h0 bel lt0) (trodAll_cons_mk (Below.trod laidOut (by kernel_rfl) (of_decide_eq_true (by kernel_rfl)) h1 bel lt1) trodAll_mk0)), rfl, bel.frame _, fun h => by cases h⟩
theorem over : Rows.lineBackRow.holds Try.pinned (OpenSpec.ofChange Rows.lineBackSpec) :=
  OpenClaim.holds_of_wide 7 Try.f7 rfl rfl rfl rfl rfl rfl rfl ⟨rfl, rfl, rfl, rfl, rfl⟩ rfl rfl rfl rfl rfl (by kernel_rfl) Try.func7 (by kernel_rfl)
    (of_decide_eq_true (by kernel_rfl)) (by unfold Func.isWrapper; first | (rw [if_pos (by decide +kernel)]; kernel_rfl) | (rw [if_neg (by decide +kernel)]; exact ⟨rfl, rfl⟩))
    (fun os started H enc _ => lifted os started H enc)
theorem proved : Rows.LineBackSaid := over
#print axioms proved
end Go.Proofs.Ytemoocoedibbpab.lineBack
namespace Go.Proofs.Ytemoocoedibbpab
/-- The row, under a short name, for the claim. -/
theorem lineBack_holds : Rows.LineBackSaid := lineBack.proved
end Go.Proofs.Ytemoocoedibbpab
