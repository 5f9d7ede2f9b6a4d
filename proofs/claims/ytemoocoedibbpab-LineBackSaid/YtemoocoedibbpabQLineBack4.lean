/- Written by a program of this session (wip/tools/hp.py, pack.py) and by this session: what the law LineBack reaches, function by function: a Lean function with the same answers, and the proof that the machine's call gives them. No condition but the ones the theorems state. -/
import Derived.Test.YtemoocoedibbpabQLineBack3
namespace Go.Proofs.Ytemoocoedibbpab.X
open Go.RowKit Go.Proofs.YtemoocoedibbpabW.PrintWords Go.Proofs.YtemoocoedibbpabW.PrintLast Go.Proofs.YtemoocoedibbpabW.PrintMore
attribute [local go_sem] max2_int min2_int max_two min_two max_three min_three max_four min_four
set_option linter.unusedVariables false
set_option linter.unusedSimpArgs false

/-! ### dactylref03_Of: function 112 -/
def dactylref03_Of.f (k : Nat) (a0 : Int) : Option (Int) := (dactylref02_Right.f a0).bind fun t101 => (if t101 = true then (if a0 > 1114111 then (some 12) else ((dactylref03_odd.f k a0).bind fun t102 => (if t102 > 0 then (some t102) else ((dactylref03_Skeleton.f k a0).bind fun t103 => (if t103 = a0 then ((dactylref03_within.f k a0 (([4352, 4447, 8986, 8987, 11904, 12287, 12289, 12350, 12353, 13311, 13312, 19903, 19968, 42191, 43360, 43391, 44032, 55203, 63744, 64255, 65072, 65135, 65280, 65376, 65504, 65510, 127744, 128591, 128640, 128767, 129280, 129535, 131072, 262141] : List Int))).bind fun t107 => (if t107 = true then (some 2) else (some 1))) else (some 3)))))) else (some 0))
theorem dactylref03_Of.mono : ∀ a0 k, LeO (dactylref03_Of.f k a0) (dactylref03_Of.f (k + 1) a0) := by
 intro a0 k
 unfold dactylref03_Of.f
 repeat' first
   | (with_reducible exact dactylref03_Skeleton.mono _ _)
   | (with_reducible exact dactylref03_odd.mono _ _)
   | (with_reducible exact dactylref03_within.mono _ _ _)
   | (with_reducible exact LeO.refl _)
   | (with_reducible exact LeO.none _)
   | (with_reducible refine LeO.ite ?_ ?_)
   | (with_reducible refine LeO.bind ?_ (fun _ => ?_))
   | exact dactylref03_Skeleton.mono _ _
   | exact dactylref03_odd.mono _ _
   | exact dactylref03_within.mono _ _ _
   | exact LeO.none _
   | refine LeO.ite ?_ ?_
   | refine LeO.bind ?_ (fun _ => ?_)
set_option maxHeartbeats 8000000 in
set_option maxRecDepth 100000 in
theorem dactylref03_Of.calls (k : Nat) (a0 : Int) (r : Int) (w : World) (h : dactylref03_Of.f k a0 = some r) :
  Calls Try.prog 112 #[.int .i64 a0] w fun e w' => e = .returned (.int .i64 r) ∧ Below w.heap.size w w' := by
 have HB := Aside0.mk (Below.refl w.heap.size w)
 have H : ((dactylref02_Right.f a0).bind fun t101 => (if t101 = true then (if a0 > 1114111 then (some 12) else ((dactylref03_odd.f k a0).bind fun t102 => (if t102 > 0 then (some t102) else ((dactylref03_Skeleton.f k a0).bind fun t103 => (if t103 = a0 then ((dactylref03_within.f k a0 (([4352, 4447, 8986, 8987, 11904, 12287, 12289, 12350, 12353, 13311, 13312, 19903, 19968, 42191, 43360, 43391, 44032, 55203, 63744, 64255, 65072, 65135, 65280, 65376, 65504, 65510, 127744, 128591, 128640, 128767, 129280, 129535, 131072, 262141] : List Int))).bind fun t107 => (if t107 = true then (some 2) else (some 1))) else (some 3)))))) else (some 0))) = some r := h
 clear h
 replace H := Option.bind_eq_some_iff.mp H
 obtain ⟨t101, A20, H⟩ := H
 replace H : (if t101 = true then (if a0 > 1114111 then (some 12) else ((dactylref03_odd.f k a0).bind fun t102 => (if t102 > 0 then (some t102) else ((dactylref03_Skeleton.f k a0).bind fun t103 => (if t103 = a0 then ((dactylref03_within.f k a0 (([4352, 4447, 8986, 8987, 11904, 12287, 12289, 12350, 12353, 13311, 13312, 19903, 19968, 42191, 43360, 43391, 44032, 55203, 63744, 64255, 65072, 65135, 65280, 65376, 65504, 65510, 127744, 128591, 128640, 128767, 129280, 129535, 131072, 262141] : List Int))).bind fun t107 => (if t107 = true then (some 2) else (some 1))) else (some 3)))))) else (some 0)) = some r := H
 have A2 := Aside0.mk A20
 clear A20
 by_cases c3 : t101 = true
 ·subst c3
  have H1 : (if a0 > 1114111 then (some 12) else ((dactylref03_odd.f k a0).bind fun t102 => (if t102 > 0 then (some t102) else ((dactylref03_Skeleton.f k a0).bind fun t103 => (if t103 = a0 then ((dactylref03_within.f k a0 (([4352, 4447, 8986, 8987, 11904, 12287, 12289, 12350, 12353, 13311, 13312, 19903, 19968, 42191, 43360, 43391, 44032, 55203, 63744, 64255, 65072, 65135, 65280, 65376, 65504, 65510, 127744, 128591, 128640, 128767, 129280, 129535, 131072, 262141] : List Int))).bind fun t107 => (if t107 = true then (some 2) else (some 1))) else (some 3)))))) = some r := by rw [if_pos rfl] at H; exact H
  clear H
  have H := H1
  clear H1
  by_cases c4 : a0 > 1114111
  ·rw [if_pos c4] at H
   have c4b0 : decide (1114111 < a0) = true := decide_eq_true c4
   clear c4
   obtain rfl := Option.some.inj H
   go_enter Try.func112, Try.ntmps112
   go_wp2_with (first | ((with_reducible refine gate_callee (f := 132) rfl ?_); refine gL (some 5) Try.func132 (by kernel_rfl) #[.int .i64 a0] rfl rfl rfl rfl rfl ?_; (with_reducible refine (dactylref02_Right.calls a0 true _ A2.out).mono ?_); rintro e w' ⟨rfl, ⟨nd, rfl⟩⟩; refine ⟨_, rfl, ?_⟩))
   go_ret
   exact ⟨by first | rfl | (simp [errW_none, errW_some] <;> rfl) | (simp [*, errW_none, errW_some] <;> rfl), by repeat (first | exact HB.out | apply below_alloc | apply pw_below_drewN | apply below_drew1)⟩
  ·rw [if_neg c4] at H
   have c4b0 : decide (1114111 < a0) = false := decide_eq_false c4
   clear c4
   replace H := Option.bind_eq_some_iff.mp H
   obtain ⟨t102, A50, H⟩ := H
   replace H : (if t102 > 0 then (some t102) else ((dactylref03_Skeleton.f k a0).bind fun t103 => (if t103 = a0 then ((dactylref03_within.f k a0 (([4352, 4447, 8986, 8987, 11904, 12287, 12289, 12350, 12353, 13311, 13312, 19903, 19968, 42191, 43360, 43391, 44032, 55203, 63744, 64255, 65072, 65135, 65280, 65376, 65504, 65510, 127744, 128591, 128640, 128767, 129280, 129535, 131072, 262141] : List Int))).bind fun t107 => (if t107 = true then (some 2) else (some 1))) else (some 3)))) = some r := H
   have A5 := Aside0.mk A50
   clear A50
   by_cases c6 : t102 > 0
   ·rw [if_pos c6] at H
    have c6b0 : decide (0 < t102) = true := decide_eq_true c6
    clear c6
    obtain rfl := Option.some.inj H
    go_enter Try.func112, Try.ntmps112
    go_wp2_with (first | ((with_reducible refine gate_callee (f := 132) rfl ?_); refine gL (some 5) Try.func132 (by kernel_rfl) #[.int .i64 a0] rfl rfl rfl rfl rfl ?_; (with_reducible refine (dactylref02_Right.calls a0 true _ A2.out).mono ?_); rintro e w' ⟨rfl, ⟨nd, rfl⟩⟩; refine ⟨_, rfl, ?_⟩) | ((with_reducible refine gate_callee (f := 152) rfl ?_); refine gL (some 10) Try.func152 (by kernel_rfl) #[.int .i64 a0] rfl rfl rfl rfl rfl ?_; (with_reducible refine (dactylref03_odd.calls k a0 t102 _ A5.out).mono ?_); rintro e w7 ⟨rfl, hb⟩; refine ⟨_, rfl, ?_⟩; have n0_ := Aside0.mk (below_step (by repeat (first | exact HB.out | apply below_alloc | apply pw_below_drewN | apply below_drew1)) hb); clear HB; have HB := n0_; clear n0_; (try clear hb); (try clear hb2); (try clear hk); (try clear hi)))
    go_ret
    exact ⟨by first | rfl | (simp [errW_none, errW_some] <;> rfl) | (simp [*, errW_none, errW_some] <;> rfl), by repeat (first | exact HB.out | apply below_alloc | apply pw_below_drewN | apply below_drew1)⟩
   ·rw [if_neg c6] at H
    have c6b0 : decide (0 < t102) = false := decide_eq_false c6
    clear c6
    replace H := Option.bind_eq_some_iff.mp H
    obtain ⟨t103, A80, H⟩ := H
    replace H : (if t103 = a0 then ((dactylref03_within.f k a0 (([4352, 4447, 8986, 8987, 11904, 12287, 12289, 12350, 12353, 13311, 13312, 19903, 19968, 42191, 43360, 43391, 44032, 55203, 63744, 64255, 65072, 65135, 65280, 65376, 65504, 65510, 127744, 128591, 128640, 128767, 129280, 129535, 131072, 262141] : List Int))).bind fun t107 => (if t107 = true then (some 2) else (some 1))) else (some 3)) = some r := H
    have A8 := Aside0.mk A80
    clear A80
    by_cases c9 : t103 = a0
    ·rw [if_pos c9] at H
     have c9b0 : (t103 == a0) = true := beq_iff_eq.mpr c9
     have c9b1 : (t103 != a0) = false := bne_eq_false_iff_eq.mpr c9
     clear c9
     obtain ⟨y104, hy104⟩ : ∃ y_ : List Int, y_ = (([4352, 4447, 8986, 8987, 11904, 12287, 12289, 12350, 12353, 13311, 13312, 19903, 19968, 42191, 43360, 43391, 44032, 55203, 63744, 64255, 65072, 65135, 65280, 65376, 65504, 65510, 127744, 128591, 128640, 128767, 129280, 129535, 131072, 262141] : List Int)) := ⟨_, rfl⟩
     replace H : ((dactylref03_within.f k a0 y104).bind fun t107 => (if t107 = true then (some 2) else (some 1))) = some r := by first | (rw [hy104]; with_reducible exact H) | (have H2_ := (Option.bind_some _ _).symm.trans H; rw [hy104]; with_reducible exact H2_) | (have H2_ := (Option.bind_some _ _).symm.trans H; with_reducible exact H2_) | with_reducible exact H | (rw [hy104]; exact H) | exact H
     have Ny104 := Aside0.mk hy104
     clear hy104
     replace H := Option.bind_eq_some_iff.mp H
     obtain ⟨t107, A100, H⟩ := H
     replace H : (if t107 = true then (some 2) else (some 1)) = some r := H
     have A10 := Aside0.mk A100
     clear A100
     by_cases c11 : t107 = true
     ·subst c11
      have H1 : (some 2) = some r := by rw [if_pos rfl] at H; exact H
      clear H
      have H := H1
      clear H1
      obtain rfl := Option.some.inj H
      go_enter Try.func112, Try.ntmps112
      go_wp2_with (first | ((with_reducible refine gate_callee (f := 132) rfl ?_); refine gL (some 5) Try.func132 (by kernel_rfl) #[.int .i64 a0] rfl rfl rfl rfl rfl ?_; (with_reducible refine (dactylref02_Right.calls a0 true _ A2.out).mono ?_); rintro e w' ⟨rfl, ⟨nd, rfl⟩⟩; refine ⟨_, rfl, ?_⟩) | ((with_reducible refine gate_callee (f := 152) rfl ?_); refine gL (some 10) Try.func152 (by kernel_rfl) #[.int .i64 a0] rfl rfl rfl rfl rfl ?_; (with_reducible refine (dactylref03_odd.calls k a0 t102 _ A5.out).mono ?_); rintro e w12 ⟨rfl, hb⟩; refine ⟨_, rfl, ?_⟩; have n0_ := Aside0.mk (below_step (by repeat (first | exact HB.out | apply below_alloc | apply pw_below_drewN | apply below_drew1)) hb); clear HB; have HB := n0_; clear n0_; (try clear hb); (try clear hb2); (try clear hk); (try clear hi)) | ((with_reducible refine gate_callee (f := 153) rfl ?_); refine gL (some 15) Try.func153 (by kernel_rfl) #[.int .i64 a0] rfl rfl rfl rfl rfl ?_; (with_reducible refine (dactylref03_Skeleton.calls k a0 t103 _ A8.out).mono ?_); rintro e w13 ⟨rfl, hb⟩; refine ⟨_, rfl, ?_⟩; have n0_ := Aside0.mk (below_step (by repeat (first | exact HB.out | apply below_alloc | apply pw_below_drewN | apply below_drew1)) hb); clear HB; have HB := n0_; clear n0_; (try clear hb); (try clear hb2); (try clear hk); (try clear hi)) | ((with_reducible refine gate_dst (N := 19) rfl ?_); refine Kd.R_lit (Kd.int .i64) _ 3 ?hg (N := 19) ?hd (xs := ([4352, 4447, 8986, 8987, 11904, 12287, 12289, 12350, 12353, 13311, 13312, 19903, 19968, 42191, 43360, 43391, 44032, 55203, 63744, 64255, 65072, 65135, 65280, 65376, 65504, 65510, 127744, 128591, 128640, 128767, 129280, 129535, 131072, 262141] : List Int)) (inner := [.int .i64 4352, .int .i64 4447, .int .i64 8986, .int .i64 8987, .int .i64 11904, .int .i64 12287, .int .i64 12289, .int .i64 12350, .int .i64 12353, .int .i64 13311, .int .i64 13312, .int .i64 19903, .int .i64 19968, .int .i64 42191, .int .i64 43360, .int .i64 43391, .int .i64 44032, .int .i64 55203, .int .i64 63744, .int .i64 64255, .int .i64 65072, .int .i64 65135, .int .i64 65280, .int .i64 65376, .int .i64 65504, .int .i64 65510, .int .i64 127744, .int .i64 128591, .int .i64 128640, .int .i64 128767, .int .i64 129280, .int .i64 129535, .int .i64 131072, .int .i64 262141]) (ok := fun _ => True) (okp := fun _ => True) ?hr ?hp (fun _ hk => hk) trivial (Below.refl _ _) (Nat.le_refl _) (by simp) ?_; (case hd => rfl); (case hg => rfl); (case hr => first | (go_simp; done) | (go_simp; rfl)); (case hp => exact (repsJ .i64 [4352, 4447, 8986, 8987, 11904, 12287, 12289, 12350, 12353, 13311, 13312, 19903, 19968, 42191, 43360, 43391, 44032, 55203, 63744, 64255, 65072, 65135, 65280, 65376, 65504, 65510, 127744, 128591, 128640, 128767, 129280, 129535, 131072, 262141])); intro v105 w14 ho15 hb hg_ hnew_; clear hg_ hnew_; (first | rw [← Ny104.out] at ho15 | (simp only [Int.reduceToNat] at ho15; rw [← Ny104.out] at ho15)); have n0_ := Aside0.mk (Kd.R_lower ho15 (below_size (by repeat (first | exact HB.out | apply below_alloc | apply pw_below_drewN | apply below_drew1)))); have n1_ := Aside0.mk (below_step (by repeat (first | exact HB.out | apply below_alloc | apply pw_below_drewN | apply below_drew1)) hb); clear HB; have HO106 := n0_; have HB := n1_; clear n0_ n1_; clear hb ho15; obtain ⟨Ao16, co16, eo16⟩ := Kd.R_slice HO106.out; subst eo16) | ((with_reducible refine gate_callee (f := 154) rfl ?_); refine gL (some 20) Try.func154 (by kernel_rfl) #[.int .i64 a0, .slice Ao16 y104.length co16] rfl rfl rfl rfl rfl ?_; (with_reducible refine (dactylref03_within.calls k a0 _ _ y104 true _ ?side1 ?side2 A10.out).mono ?_); (case side1 => repeat (first | exact (Kd.R_reads' HO106.out).2.2 | (with_reducible refine Kd.C_alloc ?_ _) | (with_reducible refine Kd.C_drewN ?_ _) | (with_reducible refine Kd.C_drew ?_))); (case side2 => exact (Kd.R_reads' HO106.out).2.1); rintro e w' ⟨rfl, ⟨nd, rfl⟩⟩; refine ⟨_, rfl, ?_⟩))
      go_ret
      exact ⟨by first | rfl | (simp [errW_none, errW_some] <;> rfl) | (simp [*, errW_none, errW_some] <;> rfl), by repeat (first | exact HB.out | apply below_alloc | apply pw_below_drewN | apply below_drew1)⟩
     ·replace c11 := Bool.eq_false_iff.mpr c11
      subst c11
      have H1 : (some 1) = some r := by rw [if_neg (show ¬ (false = true) by decide)] at H; exact H
      clear H
      have H := H1
      clear H1
      obtain rfl := Option.some.inj H
      go_enter Try.func112, Try.ntmps112
      go_wp2_with (first | ((with_reducible refine gate_callee (f := 132) rfl ?_); refine gL (some 5) Try.func132 (by kernel_rfl) #[.int .i64 a0] rfl rfl rfl rfl rfl ?_; (with_reducible refine (dactylref02_Right.calls a0 true _ A2.out).mono ?_); rintro e w' ⟨rfl, ⟨nd, rfl⟩⟩; refine ⟨_, rfl, ?_⟩) | ((with_reducible refine gate_callee (f := 152) rfl ?_); refine gL (some 10) Try.func152 (by kernel_rfl) #[.int .i64 a0] rfl rfl rfl rfl rfl ?_; (with_reducible refine (dactylref03_odd.calls k a0 t102 _ A5.out).mono ?_); rintro e w17 ⟨rfl, hb⟩; refine ⟨_, rfl, ?_⟩; have n0_ := Aside0.mk (below_step (by repeat (first | exact HB.out | apply below_alloc | apply pw_below_drewN | apply below_drew1)) hb); clear HB; have HB := n0_; clear n0_; (try clear hb); (try clear hb2); (try clear hk); (try clear hi)) | ((with_reducible refine gate_callee (f := 153) rfl ?_); refine gL (some 15) Try.func153 (by kernel_rfl) #[.int .i64 a0] rfl rfl rfl rfl rfl ?_; (with_reducible refine (dactylref03_Skeleton.calls k a0 t103 _ A8.out).mono ?_); rintro e w18 ⟨rfl, hb⟩; refine ⟨_, rfl, ?_⟩; have n0_ := Aside0.mk (below_step (by repeat (first | exact HB.out | apply below_alloc | apply pw_below_drewN | apply below_drew1)) hb); clear HB; have HB := n0_; clear n0_; (try clear hb); (try clear hb2); (try clear hk); (try clear hi)) | ((with_reducible refine gate_dst (N := 19) rfl ?_); refine Kd.R_lit (Kd.int .i64) _ 3 ?hg (N := 19) ?hd (xs := ([4352, 4447, 8986, 8987, 11904, 12287, 12289, 12350, 12353, 13311, 13312, 19903, 19968, 42191, 43360, 43391, 44032, 55203, 63744, 64255, 65072, 65135, 65280, 65376, 65504, 65510, 127744, 128591, 128640, 128767, 129280, 129535, 131072, 262141] : List Int)) (inner := [.int .i64 4352, .int .i64 4447, .int .i64 8986, .int .i64 8987, .int .i64 11904, .int .i64 12287, .int .i64 12289, .int .i64 12350, .int .i64 12353, .int .i64 13311, .int .i64 13312, .int .i64 19903, .int .i64 19968, .int .i64 42191, .int .i64 43360, .int .i64 43391, .int .i64 44032, .int .i64 55203, .int .i64 63744, .int .i64 64255, .int .i64 65072, .int .i64 65135, .int .i64 65280, .int .i64 65376, .int .i64 65504, .int .i64 65510, .int .i64 127744, .int .i64 128591, .int .i64 128640, .int .i64 128767, .int .i64 129280, .int .i64 129535, .int .i64 131072, .int .i64 262141]) (ok := fun _ => True) (okp := fun _ => True) ?hr ?hp (fun _ hk => hk) trivial (Below.refl _ _) (Nat.le_refl _) (by simp) ?_; (case hd => rfl); (case hg => rfl); (case hr => first | (go_simp; done) | (go_simp; rfl)); (case hp => exact (repsJ .i64 [4352, 4447, 8986, 8987, 11904, 12287, 12289, 12350, 12353, 13311, 13312, 19903, 19968, 42191, 43360, 43391, 44032, 55203, 63744, 64255, 65072, 65135, 65280, 65376, 65504, 65510, 127744, 128591, 128640, 128767, 129280, 129535, 131072, 262141])); intro v105 w19 ho20 hb hg_ hnew_; clear hg_ hnew_; (first | rw [← Ny104.out] at ho20 | (simp only [Int.reduceToNat] at ho20; rw [← Ny104.out] at ho20)); have n0_ := Aside0.mk (Kd.R_lower ho20 (below_size (by repeat (first | exact HB.out | apply below_alloc | apply pw_below_drewN | apply below_drew1)))); have n1_ := Aside0.mk (below_step (by repeat (first | exact HB.out | apply below_alloc | apply pw_below_drewN | apply below_drew1)) hb); clear HB; have HO106 := n0_; have HB := n1_; clear n0_ n1_; clear hb ho20; obtain ⟨Ao21, co21, eo21⟩ := Kd.R_slice HO106.out; subst eo21) | ((with_reducible refine gate_callee (f := 154) rfl ?_); refine gL (some 20) Try.func154 (by kernel_rfl) #[.int .i64 a0, .slice Ao21 y104.length co21] rfl rfl rfl rfl rfl ?_; (with_reducible refine (dactylref03_within.calls k a0 _ _ y104 false _ ?side1 ?side2 A10.out).mono ?_); (case side1 => repeat (first | exact (Kd.R_reads' HO106.out).2.2 | (with_reducible refine Kd.C_alloc ?_ _) | (with_reducible refine Kd.C_drewN ?_ _) | (with_reducible refine Kd.C_drew ?_))); (case side2 => exact (Kd.R_reads' HO106.out).2.1); rintro e w' ⟨rfl, ⟨nd, rfl⟩⟩; refine ⟨_, rfl, ?_⟩))
      go_ret
      exact ⟨by first | rfl | (simp [errW_none, errW_some] <;> rfl) | (simp [*, errW_none, errW_some] <;> rfl), by repeat (first | exact HB.out | apply below_alloc | apply pw_below_drewN | apply below_drew1)⟩
    ·rw [if_neg c9] at H
     have c9b0 : (t103 == a0) = false := beq_eq_false_iff_ne.mpr c9
     have c9b1 : (t103 != a0) = true := bne_iff_ne.mpr c9
     obtain rfl := Option.some.inj H
     go_enter Try.func112, Try.ntmps112
     go_wp2_with (first | ((with_reducible refine gate_callee (f := 132) rfl ?_); refine gL (some 5) Try.func132 (by kernel_rfl) #[.int .i64 a0] rfl rfl rfl rfl rfl ?_; (with_reducible refine (dactylref02_Right.calls a0 true _ A2.out).mono ?_); rintro e w' ⟨rfl, ⟨nd, rfl⟩⟩; refine ⟨_, rfl, ?_⟩) | ((with_reducible refine gate_callee (f := 152) rfl ?_); refine gL (some 10) Try.func152 (by kernel_rfl) #[.int .i64 a0] rfl rfl rfl rfl rfl ?_; (with_reducible refine (dactylref03_odd.calls k a0 t102 _ A5.out).mono ?_); rintro e w22 ⟨rfl, hb⟩; refine ⟨_, rfl, ?_⟩; have n0_ := Aside0.mk (below_step (by repeat (first | exact HB.out | apply below_alloc | apply pw_below_drewN | apply below_drew1)) hb); clear HB; have HB := n0_; clear n0_; (try clear hb); (try clear hb2); (try clear hk); (try clear hi)) | ((with_reducible refine gate_callee (f := 153) rfl ?_); refine gL (some 15) Try.func153 (by kernel_rfl) #[.int .i64 a0] rfl rfl rfl rfl rfl ?_; (with_reducible refine (dactylref03_Skeleton.calls k a0 t103 _ A8.out).mono ?_); rintro e w23 ⟨rfl, hb⟩; refine ⟨_, rfl, ?_⟩; have n0_ := Aside0.mk (below_step (by repeat (first | exact HB.out | apply below_alloc | apply pw_below_drewN | apply below_drew1)) hb); clear HB; have HB := n0_; clear n0_; (try clear hb); (try clear hb2); (try clear hk); (try clear hi)))
     go_ret
     exact ⟨by first | rfl | (simp [errW_none, errW_some] <;> rfl) | (simp [*, errW_none, errW_some] <;> rfl), by repeat (first | exact HB.out | apply below_alloc | apply pw_below_drewN | apply below_drew1)⟩
 ·replace c3 := Bool.eq_false_iff.mpr c3
  subst c3
  have H1 : (some 0) = some r := by rw [if_neg (show ¬ (false = true) by decide)] at H; exact H
  clear H
  have H := H1
  clear H1
  obtain rfl := Option.some.inj H
  go_enter Try.func112, Try.ntmps112
  go_wp2_with (first | ((with_reducible refine gate_callee (f := 132) rfl ?_); refine gL (some 5) Try.func132 (by kernel_rfl) #[.int .i64 a0] rfl rfl rfl rfl rfl ?_; (with_reducible refine (dactylref02_Right.calls a0 false _ A2.out).mono ?_); rintro e w' ⟨rfl, ⟨nd, rfl⟩⟩; refine ⟨_, rfl, ?_⟩))
  go_ret
  exact ⟨by first | rfl | (simp [errW_none, errW_some] <;> rfl) | (simp [*, errW_none, errW_some] <;> rfl), by repeat (first | exact HB.out | apply below_alloc | apply pw_below_drewN | apply below_drew1)⟩

end Go.Proofs.Ytemoocoedibbpab.X

namespace Go.Proofs.Ytemoocoedibbpab.X
open Go.RowKit Go.Proofs.YtemoocoedibbpabW.PrintWords Go.Proofs.YtemoocoedibbpabW.PrintLast Go.Proofs.YtemoocoedibbpabW.PrintMore
attribute [local go_sem] max2_int min2_int max_two min_two max_three min_three max_four min_four
set_option linter.unusedVariables false
set_option linter.unusedSimpArgs false

/-! ### pairs of a table -/
def withinB (v : Int) : List Int → Bool
  | a :: b :: r => (decide (a ≤ v) && decide (v ≤ b)) || withinB v r
  | _ => false
theorem within_l0 (v : Int) (l : List Int) (hl : l.length ≤ 1000) : ∀ (d k i : Nat), 2 * d + i = l.length → d < k → dactylref03_within.l0 k v l (i : Int) = some (withinB v (l.drop i)) := by
  intro d
  induction d with
  | zero =>
    intro k i h1 h2
    obtain ⟨k, rfl⟩ : ∃ m, k = m + 1 := ⟨k - 1, by omega⟩
    simp only [dactylref03_within.l0]
    rw [w64 (by omega) (by omega), if_neg (by omega), List.drop_of_length_le (by omega)]
    rfl
  | succ d ih =>
    intro k i h1 h2
    obtain ⟨k, rfl⟩ : ∃ m, k = m + 1 := ⟨k - 1, by omega⟩
    have hi := ih k (i + 2) (by omega) (by omega)
    have e1 : wrap64 ((i : Int) + 1) = ((i + 1 : Nat) : Int) := by rw [w64 (by omega) (by omega)]; omega
    have e2 : wrap64 ((i : Int) + 2) = ((i + 2 : Nat) : Int) := by rw [w64 (by omega) (by omega)]; omega
    have ed : l.drop i = l[i] :: l[i + 1] :: l.drop (i + 2) := by rw [List.drop_eq_getElem_cons (by omega), List.drop_eq_getElem_cons (by omega)]
    have r0 : rd l (i : Int) = l[i] := by simp [rd, List.getD, show i < l.length by omega]
    have r1 : rd l ((i + 1 : Nat) : Int) = l[i + 1] := by simp only [rd, Int.toNat_natCast]; simp [List.getD, show i + 1 < l.length by omega]
    simp only [dactylref03_within.l0]
    rw [e1, e2, if_pos (by omega), if_pos (by omega), if_pos (by omega), r0, r1, hi, ed]
    by_cases c1 : v ≥ l[i]
    · rw [if_pos c1, if_pos (by omega)]
      by_cases c2 : v ≤ l[i + 1]
      · rw [if_pos c2]; simp [withinB, c1, c2]
      · rw [if_neg c2]; simp [withinB, c2]
    · rw [if_neg c1]; simp [withinB, c1]
theorem within_f (v : Int) (l : List Int) (d : Nat) (hd : 2 * d = l.length) (hl : l.length ≤ 1000) (k : Nat) (hk : d < k) : dactylref03_within.f k v l = some (withinB v l) := by
  have := within_l0 v l hl d k 0 (by omega) hk
  simpa [dactylref03_within.f] using this
/-! ### break points -/
def flo (B : List Int) (v : Int) : Int := (B.filter (fun b => decide (b ≤ v))).foldl max (-1)
theorem foldl_max (l : List Int) (a : Int) : a ≤ l.foldl max a ∧ (∀ b ∈ l, b ≤ l.foldl max a) ∧ (l.foldl max a = a ∨ l.foldl max a ∈ l) := by
  induction l generalizing a with
  | nil => simp
  | cons x l ih =>
    obtain ⟨h1, h2, h3⟩ := ih (max a x)
    simp only [List.foldl_cons]
    refine ⟨by omega, fun b hb => ?_, ?_⟩
    · rcases List.mem_cons.1 hb with rfl | hb
      · omega
      · exact h2 b hb
    · rcases h3 with h3 | h3
      · rw [h3]
        by_cases h : a ≤ x
        · right; rw [Int.max_eq_right h]; exact List.mem_cons_self
        · left; omega
      · exact .inr (List.mem_cons_of_mem _ h3)
theorem flo_le (B : List Int) (v : Int) (hv : -1 ≤ v) : flo B v ≤ v := by
  rcases (foldl_max (B.filter (fun b => decide (b ≤ v))) (-1)).2.2 with h | h
  · unfold flo; omega
  · have := (List.mem_filter.1 h).2
    simpa [flo] using this
theorem flo_iff (B : List Int) (v : Int) (hv : -1 ≤ v) (a : Int) (ha : a ∈ B) : a ≤ v ↔ a ≤ flo B v :=
  ⟨fun h => (foldl_max (B.filter (fun b => decide (b ≤ v))) (-1)).2.1 a (List.mem_filter.2 ⟨ha, by simpa using h⟩), fun h => by have := flo_le B v hv; omega⟩
theorem flo_mem (B : List Int) (v : Int) (hv : 0 ≤ v) (h0 : 0 ∈ B) : flo B v ∈ B := by
  rcases (foldl_max (B.filter (fun b => decide (b ≤ v))) (-1)).2.2 with h | h
  · have := (flo_iff B v (by omega) 0 h0).1 hv
    unfold flo at this
    omega
  · exact (List.mem_filter.1 h).1
def okL (B : List Int) : List Int → Bool
  | a :: b :: r => B.contains a && B.contains (b + 1) && okL B r
  | _ => true
theorem withinB_flo (B : List Int) (v : Int) (hv : 0 ≤ v) (l : List Int) (h : okL B l = true) : withinB v l = withinB (flo B v) l := by
  induction l using okL.induct with
  | case1 a b r ih =>
    simp only [okL, Bool.and_eq_true, List.contains_iff_mem] at h
    obtain ⟨⟨h1, h2⟩, h3⟩ := h
    have e1 := flo_iff B v (by omega) a h1
    have e2 := flo_iff B v (by omega) (b + 1) h2
    simp only [withinB, ih h3]
    congr 2
    · exact decide_eq_decide.mpr e1
    · exact decide_eq_decide.mpr (by omega)
  | case2 l hl => rw [withinB.eq_2 _ _ hl, withinB.eq_2 _ _ hl]
/-! ### the program's class, as one total function -/
def clsIn (v : Int) (l : List S160) : Int := if idxP (inP v) l < 0 then 0 else (rd_T160 l (idxP (inP v) l)).f2
def spansL : List S160 := (class_spans.f).getD []
def widesL : List S160 := (class_wides.f).getD []
theorem class_in_f (v : Int) (l : List S160) : class_in.f v l = some (clsIn v l) := rfl
def skel (v : Int) : Int := if idxP (lookP v) looksL < 0 then v else (rd_T166 looksL (idxP (lookP v) looksL)).f1
def cls (v : Int) : Int := if rightB v = true then (if v > 1114111 then 12 else if 31 < v ∧ v < 127 then 1 else if clsIn v spansL = 0 then (if skel v = v then (if clsIn v widesL = 0 then 1 else clsIn v widesL) else 3) else clsIn v spansL) else 0
theorem class_Of_f (v : Int) (k : Nat) (hk : 1 ≤ k) : class_Of.f k v = some (cls v) := by
  obtain ⟨k, rfl⟩ : ∃ m, k = m + 1 := ⟨k - 1, by omega⟩
  have hj : class_Of.j0 (k + 1) v = some (if clsIn v spansL = 0 then (if skel v = v then (if clsIn v widesL = 0 then 1 else clsIn v widesL) else 3) else clsIn v spansL) := by
    simp only [class_Of.j0]
    rw [show class_spans.f = some spansL from rfl, Option.bind_some, class_in_f, Option.bind_some, show class_Skeleton.f v = some (skel v) from rfl, Option.bind_some, show class_wides.f = some widesL from rfl, Option.bind_some, class_in_f, Option.bind_some]
    by_cases h1 : clsIn v spansL = 0
    · rw [if_pos h1, if_pos h1]
      by_cases h2 : skel v = v
      · rw [if_pos h2, if_pos h2]; split <;> rfl
      · rw [if_neg h2, if_neg h2]
    · rw [if_neg h1, if_neg h1]
  unfold class_Of.f cls
  rw [utf_Right_f, Option.bind_some, hj]
  by_cases h1 : rightB v = true
  · rw [if_pos h1, if_pos h1]
    by_cases h2 : v > 1114111
    · rw [if_pos h2, if_pos h2]
    · rw [if_neg h2, if_neg h2]
      by_cases h3 : v > 31
      · rw [if_pos h3]
        by_cases h4 : v < 127
        · rw [if_pos h4, if_pos ⟨h3, h4⟩]
        · rw [if_neg h4, if_neg (show ¬ (31 < v ∧ v < 127) by omega)]
      · rw [if_neg h3, if_neg (show ¬ (31 < v ∧ v < 127) by omega)]
  · rw [if_neg h1, if_neg h1]
/-! ### the reference's -/
theorem skel_l0 (v : Int) (l : List S166) (xs : List Int) (s : ByteArray) (hx : xs = l.map (·.f0)) (hs : s.size = l.length) (hb : ∀ i, (h : i < l.length) → bt s (i : Int) = (l[i]).f1) (hl : l.length ≤ 1000) :
    ∀ (d k i : Nat), d + i = l.length → d < k → dactylref03_Skeleton.l0 k v xs s (i : Int) = some (if idxP (lookP v) (l.drop i) < 0 then v else (rd_T166 (l.drop i) (idxP (lookP v) (l.drop i))).f1) := by
  have hxl : xs.length = l.length := by rw [hx, List.length_map]
  intro d
  induction d with
  | zero =>
    intro k i h1 h2
    obtain ⟨k, rfl⟩ : ∃ m, k = m + 1 := ⟨k - 1, by omega⟩
    simp only [dactylref03_Skeleton.l0]
    rw [if_neg (by omega), List.drop_of_length_le (by omega)]
    rfl
  | succ d ih =>
    intro k i h1 h2
    obtain ⟨k, rfl⟩ : ∃ m, k = m + 1 := ⟨k - 1, by omega⟩
    have hi := ih k (i + 1) (by omega) (by omega)
    have e1 : wrap64 ((i : Int) + 1) = ((i + 1 : Nat) : Int) := by rw [w64 (by omega) (by omega)]; omega
    have ed : l.drop i = l[i] :: l.drop (i + 1) := by rw [List.drop_eq_getElem_cons (by omega)]
    have r0 : rd xs (i : Int) = (l[i]).f0 := by subst hx; simp [rd, List.getD, show i < l.length by omega]
    simp only [dactylref03_Skeleton.l0]
    rw [if_pos (by omega), if_pos (by omega), r0, e1, hi, ed]
    by_cases c : (l[i]).f0 = v
    · rw [if_pos c, if_pos (by omega), hb i (by omega)]
      have : lookP v l[i] = true := by simp [lookP, c]
      simp only [idxP, this, if_true]
      rw [if_neg (by omega)]
      have hr : -9223372036854775808 ≤ (l[i]).f1 ∧ (l[i]).f1 ≤ 9223372036854775807 := by rw [← hb i (by omega)]; have := bt_range s (i : Int); omega
      rw [w64 hr.1 hr.2]
      rfl
    · rw [if_neg c]
      have hp : lookP v l[i] = false := by simp [lookP, c]
      have hg := idxP_ge (lookP v) (l.drop (i + 1))
      simp only [idxP, hp]
      by_cases h : idxP (lookP v) (l.drop (i + 1)) < 0
      · simp [h]
      · simp only [if_neg h, Bool.false_eq_true, if_false]
        rw [if_neg (by omega)]
        congr 2
        simp only [rd_T166, List.getD]
        rw [show (idxP (lookP v) (l.drop (i + 1)) + 1).toNat = (idxP (lookP v) (l.drop (i + 1))).toNat + 1 by omega, List.getElem?_cons_succ]
theorem ref_Skeleton_f (v : Int) (k : Nat) (hk : 52 ≤ k) : dactylref03_Skeleton.f k v = some (skel v) := by
  unfold dactylref03_Skeleton.f
  have := skel_l0 v looksL ([913, 914, 917, 918, 919, 921, 922, 924, 925, 927, 929, 932, 933, 935, 957, 959, 961, 1029, 1030, 1032, 1040, 1042, 1045, 1050, 1052, 1053, 1054, 1056, 1057, 1058, 1061, 1072, 1077, 1086, 1088, 1089, 1091, 1093, 1109, 1110, 1112, 1281, 1307, 1309, 894, 8208, 8722, 8260, 8725, 8228, 8218]) (⟨#[65, 66, 69, 90, 72, 73, 75, 77, 78, 79, 80, 84, 89, 88, 118, 111, 112, 83, 73, 74, 65, 66, 69, 75, 77, 72, 79, 80, 67, 84, 88, 97, 101, 111, 112, 99, 121, 120, 115, 105, 106, 100, 113, 119, 59, 45, 45, 47, 47, 46, 44]⟩ : ByteArray) (by decide +kernel) (by decide +kernel) (by decide +kernel) (by decide +kernel) 51 k 0 (by decide +kernel) (by omega)
  exact this
def oddB (v : Int) : Int := if v ≤ 31 then 4 else if v = 127 then 5 else if 128 ≤ v ∧ v ≤ 159 then 6 else
  if withinB v [160, 160, 5760, 5760, 8192, 8202, 8232, 8233, 8239, 8239, 8287, 8287, 12288, 12288] = true then 10 else
  if withinB v [173, 173, 6155, 6158, 8203, 8205, 8288, 8292, 65279, 65279, 65529, 65531] = true then 8 else
  if withinB v [1564, 1564, 8206, 8207, 8234, 8238, 8294, 8297] = true then 7 else
  if withinB v [768, 879, 1155, 1161, 1425, 1469, 1552, 1562, 1611, 1631, 1750, 1756, 6832, 6862, 7616, 7679, 8400, 8432, 12330, 12335, 12441, 12442, 65024, 65039, 65056, 65071] = true then 9 else
  if withinB v [57344, 63743, 64976, 65007, 65520, 65528, 65534, 65535, 131070, 131071, 262142, 1114111] = true then 11 else 0
def widesR : List Int := [4352, 4447, 8986, 8987, 11904, 12287, 12289, 12350, 12353, 13311, 13312, 19903, 19968, 42191, 43360, 43391, 44032, 55203, 63744, 64255, 65072, 65135, 65280, 65376, 65504, 65510, 127744, 128591, 128640, 128767, 129280, 129535, 131072, 262141]
theorem ref_odd_f (v : Int) (k : Nat) (hk : 52 ≤ k) : dactylref03_odd.f k v = some (oddB v) := by
  have hj : ∀ b : Bool, dactylref03_odd.j0 k v b = some (if b = true then 6 else
      if withinB v [160, 160, 5760, 5760, 8192, 8202, 8232, 8233, 8239, 8239, 8287, 8287, 12288, 12288] = true then 10 else
      if withinB v [173, 173, 6155, 6158, 8203, 8205, 8288, 8292, 65279, 65279, 65529, 65531] = true then 8 else
      if withinB v [1564, 1564, 8206, 8207, 8234, 8238, 8294, 8297] = true then 7 else
      if withinB v [768, 879, 1155, 1161, 1425, 1469, 1552, 1562, 1611, 1631, 1750, 1756, 6832, 6862, 7616, 7679, 8400, 8432, 12330, 12335, 12441, 12442, 65024, 65039, 65056, 65071] = true then 9 else
      if withinB v [57344, 63743, 64976, 65007, 65520, 65528, 65534, 65535, 131070, 131071, 262142, 1114111] = true then 11 else 0) := by
    obtain ⟨k, rfl⟩ : ∃ m, k = m + 1 := ⟨k - 1, by omega⟩
    intro b
    simp only [dactylref03_odd.j0]
    rw [within_f v _ 7 rfl (by decide) k (by omega), within_f v _ 6 rfl (by decide) k (by omega), within_f v _ 4 rfl (by decide) k (by omega), within_f v _ 13 rfl (by decide) k (by omega), within_f v _ 6 rfl (by decide) k (by omega)]
    simp only [Option.bind_some]
    repeat' (split <;> try rfl)
  unfold dactylref03_odd.f oddB
  rw [hj, hj]
  by_cases h1 : v ≤ 31
  · rw [if_pos h1, if_pos h1]
  · rw [if_neg h1, if_neg h1]
    by_cases h2 : v = 127
    · rw [if_pos h2, if_pos h2]
    · rw [if_neg h2, if_neg h2]
      by_cases h3 : v ≥ 128
      · rw [if_pos h3]
        by_cases h4 : v ≤ 159
        · rw [decide_eq_true h4, if_pos rfl, if_pos ⟨h3, h4⟩]
        · rw [decide_eq_false h4, if_neg (show ¬ (false = true) by decide), if_neg (show ¬ (128 ≤ v ∧ v ≤ 159) by omega)]
      · rw [if_neg h3, if_neg (show ¬ (false = true) by decide), if_neg (show ¬ (128 ≤ v ∧ v ≤ 159) by omega)]
/-- Where the classes change. -/
def brk : List Int := [0, 32, 127, 128, 160, 161, 173, 174, 768, 880, 1155, 1162, 1425, 1470, 1552, 1563, 1564, 1565, 1611, 1632, 1750, 1757, 4352, 4448, 5760, 5761, 6155, 6159, 6832, 6863, 7616, 7680, 8192, 8203, 8206, 8208, 8232, 8234, 8239, 8240, 8287, 8288, 8293, 8294, 8298, 8400, 8433, 8986, 8988, 11904, 12288, 12289, 12330, 12336, 12351, 12353, 12441, 12443, 13312, 19904, 19968, 42192, 43360, 43392, 44032, 55204, 57344, 63744, 64256, 64976, 65008, 65024, 65040, 65056, 65072, 65136, 65279, 65280, 65377, 65504, 65511, 65520, 65529, 65532, 65534, 65536, 127744, 128592, 128640, 128768, 129280, 129536, 131070, 131072, 262142, 1114112]
theorem idxP_congr {α : Type} (p q : α → Bool) (l : List α) (h : ∀ x ∈ l, p x = q x) : idxP p l = idxP q l := by
  induction l with
  | nil => rfl
  | cons x l ih => simp only [idxP, h x List.mem_cons_self, ih (fun y hy => h y (List.mem_cons_of_mem _ hy))]
theorem clsIn_flo (v : Int) (hv : 0 ≤ v) (l : List S160) (h : (l.all fun s => brk.contains s.f0 && brk.contains (s.f1 + 1)) = true) : clsIn v l = clsIn (flo brk v) l := by
  have : idxP (inP v) l = idxP (inP (flo brk v)) l := idxP_congr _ _ l (fun s hs => by
    have hb := List.all_eq_true.1 h s hs
    simp only [Bool.and_eq_true, List.contains_iff_mem] at hb
    have e1 := flo_iff brk v (by omega) s.f0 hb.1
    have e2 := flo_iff brk v (by omega) (s.f1 + 1) hb.2
    unfold inP
    congr 1
    · exact decide_eq_decide.mpr e1
    · exact decide_eq_decide.mpr (by omega))
  unfold clsIn
  rw [this]
theorem oddB_flo (v : Int) (hv : 0 ≤ v) : oddB v = oddB (flo brk v) := by
  have e1 := flo_iff brk v (by omega) 32 (by decide +kernel)
  have e2 := flo_iff brk v (by omega) 127 (by decide +kernel)
  have e3 := flo_iff brk v (by omega) 128 (by decide +kernel)
  have e4 := flo_iff brk v (by omega) 160 (by decide +kernel)
  unfold oddB
  rw [withinB_flo brk v hv _ (by decide +kernel), withinB_flo brk v hv [173, 173, 6155, 6158, 8203, 8205, 8288, 8292, 65279, 65279, 65529, 65531] (by decide +kernel), withinB_flo brk v hv [1564, 1564, 8206, 8207, 8234, 8238, 8294, 8297] (by decide +kernel), withinB_flo brk v hv [768, 879, 1155, 1161, 1425, 1469, 1552, 1562, 1611, 1631, 1750, 1756, 6832, 6862, 7616, 7679, 8400, 8432, 12330, 12335, 12441, 12442, 65024, 65039, 65056, 65071] (by decide +kernel), withinB_flo brk v hv [57344, 63743, 64976, 65007, 65520, 65528, 65534, 65535, 131070, 131071, 262142, 1114111] (by decide +kernel)]
  by_cases h1 : v ≤ 31
  · rw [if_pos h1, if_pos (show flo brk v ≤ 31 by omega)]
  · rw [if_neg h1, if_neg (show ¬ flo brk v ≤ 31 by omega)]
    by_cases h2 : v = 127
    · rw [if_pos h2, if_pos (show flo brk v = 127 by omega)]
    · rw [if_neg h2, if_neg (show ¬ flo brk v = 127 by omega)]
      by_cases h3 : 128 ≤ v ∧ v ≤ 159
      · rw [if_pos h3, if_pos (show 128 ≤ flo brk v ∧ flo brk v ≤ 159 by omega)]
      · rw [if_neg h3, if_neg (show ¬ (128 ≤ flo brk v ∧ flo brk v ≤ 159) by omega)]
/-- The two tables say the same at the points where the classes change. -/
def sameAt (b : Int) : Bool := (decide (31 < b ∧ b < 127) || decide (clsIn b spansL = oddB b)) && (!decide (31 < b ∧ b < 127) || (decide (oddB b = 0) && !withinB b widesR)) && decide (clsIn b widesL = if withinB b widesR = true then 2 else 0)
theorem same_brk : (brk.all fun b => decide (b > 1114111) || sameAt b) = true := by decide +kernel
theorem same_all (v : Int) (h0 : 0 ≤ v) (h1 : v ≤ 1114111) : (¬ (31 < v ∧ v < 127) → clsIn v spansL = oddB v) ∧ ((31 < v ∧ v < 127) → oddB v = 0 ∧ withinB v widesR = false) ∧ clsIn v widesL = (if withinB v widesR = true then 2 else 0) := by
  have e1 := flo_iff brk v (by omega) 32 (by decide +kernel)
  have e2 := flo_iff brk v (by omega) 127 (by decide +kernel)
  have hm := flo_mem brk v h0 (by decide +kernel)
  have hle := flo_le brk v (by omega)
  rw [clsIn_flo v h0 spansL (by decide +kernel), clsIn_flo v h0 widesL (by decide +kernel), oddB_flo v h0, withinB_flo brk v h0 widesR (by decide +kernel)]
  have := List.all_eq_true.1 same_brk _ hm
  rw [decide_eq_false (show ¬ flo brk v > 1114111 by omega), Bool.false_or] at this
  unfold sameAt at this
  simp only [Bool.and_eq_true, Bool.or_eq_true, decide_eq_true_eq, Bool.not_eq_true'] at this
  obtain ⟨⟨h2, h3⟩, h4⟩ := this
  refine ⟨fun h => ?_, fun h => ?_, h4⟩
  · rcases h2 with h2 | h2
    · omega
    · exact h2
  · rcases h3 with h3 | h3
    · have := of_decide_eq_false h3; omega
    · exact h3
theorem skel_low (v : Int) (h : v < 894) : skel v = v := by
  have : idxP (lookP v) looksL = -1 := idxP_miss _ _ (fun j hj => by
    have hb : (looksL.all fun s => decide (894 ≤ s.f0)) = true := by decide +kernel
    have := List.all_eq_true.1 hb _ (List.getElem_mem hj)
    simp only [decide_eq_true_eq] at this
    simp only [lookP, beq_eq_false_iff_ne]
    omega)
  unfold skel
  rw [this, if_pos (by decide)]
theorem oddB_range (v : Int) : 0 ≤ oddB v := by unfold oddB; (repeat' split) <;> decide
theorem ref_Of_f (v : Int) (k : Nat) (hk : 52 ≤ k) : dactylref03_Of.f k v = some (cls v) := by
  unfold dactylref03_Of.f cls
  rw [ref_Right_f, Option.bind_some]
  by_cases h1 : rightB v = true
  · rw [if_pos h1, if_pos h1]
    by_cases h2 : v > 1114111
    · rw [if_pos h2, if_pos h2]
    · rw [if_neg h2, if_neg h2, ref_odd_f v k hk, Option.bind_some]
      have h0 : 0 ≤ v := by unfold rightB at h1; simp only [Bool.or_eq_true, decide_eq_true_eq] at h1; omega
      obtain ⟨s1, s2, s3⟩ := same_all v h0 (by omega)
      rw [ref_Skeleton_f v k hk, Option.bind_some, within_f v _ 17 rfl (by decide) k (by omega), Option.bind_some, show withinB v [4352, 4447, 8986, 8987, 11904, 12287, 12289, 12350, 12353, 13311, 13312, 19903, 19968, 42191, 43360, 43391, 44032, 55203, 63744, 64255, 65072, 65135, 65280, 65376, 65504, 65510, 127744, 128591, 128640, 128767, 129280, 129535, 131072, 262141] = withinB v widesR from rfl]
      by_cases h3 : 31 < v ∧ v < 127
      · obtain ⟨t1, t2⟩ := s2 h3
        rw [if_pos h3, t1, t2, skel_low v (by omega), if_neg (by decide), if_pos rfl, if_neg (by decide)]
      · rw [if_neg h3, s1 h3, s3]
        have := oddB_range v
        by_cases h4 : oddB v > 0
        · rw [if_pos h4, if_neg (show ¬ oddB v = 0 by omega)]
        · rw [if_neg h4, if_pos (show oddB v = 0 by omega)]
          by_cases h5 : skel v = v
          · rw [if_pos h5, if_pos h5]
            cases withinB v widesR <;> rfl
          · rw [if_neg h5, if_neg h5]
  · rw [if_neg h1, if_neg h1]

end Go.Proofs.Ytemoocoedibbpab.X

namespace Go.Proofs.Ytemoocoedibbpab.X
open Go.RowKit Go.Proofs.YtemoocoedibbpabW.PrintWords Go.Proofs.YtemoocoedibbpabW.PrintLast Go.Proofs.YtemoocoedibbpabW.PrintMore
attribute [local go_sem] max2_int min2_int max_two min_two max_three min_three max_four min_four
set_option linter.unusedVariables false
set_option linter.unusedSimpArgs false

def okS (s : S47) : Bool := rightB s.f0 && (decide (0 ≤ s.f1) && decide (s.f1 ≤ 5))
def allB (l : List S47) : Bool := l.all okS
theorem sign_Right_f (a b : Int) : sign_Right.f a b = some (okS ⟨a, b⟩) := by
  unfold sign_Right.f okS
  rw [utf_Right_f, Option.bind_some]
  cases rightB a
  · simp
  · by_cases h : b ≥ 0
    · simp [h]
    · simp [h]
theorem sign_Check_f (l : List S47) : sign_Check.f l = some (if allB l = true then 0 else 2) := by
  have hb : ∀ s : S47, badSign s = !okS s := fun s => by unfold badSign; rw [sign_Right_f]; rfl
  have : l.any badSign = !allB l := by
    unfold allB
    induction l with
    | nil => rfl
    | cons s l ih => simp only [List.any_cons, List.all_cons, ih, hb, Bool.not_and]
  unfold sign_Check.f
  rw [this]
  cases allB l <;> rfl
theorem rd_sign (l : List S47) (i : Nat) (h : i < l.length) : rd_T47 l (i : Int) = l[i] := by simp [rd_T47, List.getD, h]
theorem ref_Right4_f (a b : Int) : dactylref04_Right.f a b = some (okS ⟨a, b⟩) := by
  unfold dactylref04_Right.f okS
  rw [ref_Right_f, Option.bind_some]
  cases rightB a
  · simp
  · by_cases h : b ≥ 0
    · simp [h]
    · simp [h]
theorem ref_AllS_f (l : List S47) (hl : l.length ≤ 4611686018427387904) (k : Nat) (hk : l.length < k) : dactylref04_All.f k l = some (allB l) := by
  obtain ⟨b, hb, hiff⟩ := scan_all (fun k i => dactylref04_All.l0 k l i) l.length (fun i => okS (rd_T47 l i)) hl (fun k => by simp [dactylref04_All.l0]) (fun k i hi => by
    simp only [dactylref04_All.l0]
    rw [if_pos (by omega), if_pos (by omega), ref_Right4_f, Option.bind_some]) l.length k 0 (by omega) hk
  unfold dactylref04_All.f
  rw [show dactylref04_All.l0 k l 0 = some b from hb]
  congr 1
  rw [Bool.eq_iff_iff, hiff]
  unfold allB
  rw [List.all_eq_true]
  constructor
  · intro h x hx
    obtain ⟨i, hi, rfl⟩ := List.mem_iff_getElem.1 hx
    have := h i (by omega) hi
    rwa [rd_sign l i hi] at this
  · intro h j _ hj
    rw [rd_sign l j hj]
    exact h _ (List.getElem_mem hj)
instance decSign : DecidableEq S47 := fun x y => decidable_of_iff (x.f0 = y.f0 ∧ x.f1 = y.f1) (by
  obtain ⟨a, b⟩ := x
  obtain ⟨c, d⟩ := y
  constructor
  · rintro ⟨rfl, rfl⟩; rfl
  · intro h; injection h with h1 h2; exact ⟨h1, h2⟩)

end Go.Proofs.Ytemoocoedibbpab.X

namespace Go.Proofs.Ytemoocoedibbpab.X
open Go.RowKit Go.Proofs.YtemoocoedibbpabW.PrintWords Go.Proofs.YtemoocoedibbpabW.PrintLast Go.Proofs.YtemoocoedibbpabW.PrintMore
attribute [local go_sem] max2_int min2_int max_two min_two max_three min_three max_four min_four
set_option linter.unusedVariables false
set_option linter.unusedSimpArgs false

/-! ### dactylref05_Kind: function 63 -/
def kind5 (v c : Int) : Int := if v = 9 ∨ v = 10 ∨ v = 13 ∨ v = 32 ∨ c = 10 then 0 else if v = 95 ∨ (48 ≤ v ∧ v ≤ 57) ∨ (65 ≤ v ∧ v ≤ 90) ∨ (97 ≤ v ∧ v ≤ 122) ∨ (127 < v ∧ (c = 1 ∨ c = 2 ∨ c = 3)) then 1 else 2
def dactylref05_Kind.f (k : Nat) (a0 : Int) : Option Int := (dactylref03_Of.f k a0).bind fun c => some (kind5 a0 c)
theorem dactylref05_Kind.mono : ∀ a0 k, LeO (dactylref05_Kind.f k a0) (dactylref05_Kind.f (k + 1) a0) := fun a k => LeO.bind (dactylref03_Of.mono _ _) (fun _ => LeO.refl _)
set_option maxHeartbeats 8000000 in
set_option maxRecDepth 100000 in
theorem dactylref05_Kind.calls (k : Nat) (a0 : Int) (r : Int) (w : World) (h : dactylref05_Kind.f k a0 = some r) :
  Calls Try.prog 63 #[.int .i64 a0] w fun e w' => e = .returned (.int .i64 r) ∧ Below w.heap.size w w' := by
 unfold dactylref05_Kind.f at h
 obtain ⟨c, h1, h⟩ := Option.bind_eq_some_iff.mp h
 have H1 := Aside0.mk h1
 obtain rfl := Option.some.inj h
 clear h1 h
 by_cases I : a0 = 9
 ·have e9 : (a0 == 9) = true := beq_iff_eq.mpr I
  rw [show kind5 a0 c = 0 from by unfold kind5; (repeat' split) <;> first | rfl | omega]
  clear I
  go_enter Try.func63, Try.ntmps63
  go_wp2_with fail
  refine (dactylref03_Of.calls k a0 c _ H1.out).mono ?_
  rintro _ _ ⟨rfl, hb⟩
  go_wp2
  go_ret
  exact ⟨rfl, hb⟩
 have i_e9 := I
 have e9 : (a0 == 9) = false := beq_eq_false_iff_ne.mpr I
 clear I
 by_cases I : a0 = 10
 ·have e10 : (a0 == 10) = true := beq_iff_eq.mpr I
  rw [show kind5 a0 c = 0 from by unfold kind5; (repeat' split) <;> first | rfl | omega]
  clear I
  go_enter Try.func63, Try.ntmps63
  go_wp2_with fail
  refine (dactylref03_Of.calls k a0 c _ H1.out).mono ?_
  rintro _ _ ⟨rfl, hb⟩
  go_wp2
  go_ret
  exact ⟨rfl, hb⟩
 have i_e10 := I
 have e10 : (a0 == 10) = false := beq_eq_false_iff_ne.mpr I
 clear I
 by_cases I : a0 = 13
 ·have e13 : (a0 == 13) = true := beq_iff_eq.mpr I
  rw [show kind5 a0 c = 0 from by unfold kind5; (repeat' split) <;> first | rfl | omega]
  clear I
  go_enter Try.func63, Try.ntmps63
  go_wp2_with fail
  refine (dactylref03_Of.calls k a0 c _ H1.out).mono ?_
  rintro _ _ ⟨rfl, hb⟩
  go_wp2
  go_ret
  exact ⟨rfl, hb⟩
 have i_e13 := I
 have e13 : (a0 == 13) = false := beq_eq_false_iff_ne.mpr I
 clear I
 by_cases I : a0 = 32
 ·have e32 : (a0 == 32) = true := beq_iff_eq.mpr I
  rw [show kind5 a0 c = 0 from by unfold kind5; (repeat' split) <;> first | rfl | omega]
  clear I
  go_enter Try.func63, Try.ntmps63
  go_wp2_with fail
  refine (dactylref03_Of.calls k a0 c _ H1.out).mono ?_
  rintro _ _ ⟨rfl, hb⟩
  go_wp2
  go_ret
  exact ⟨rfl, hb⟩
 have i_e32 := I
 have e32 : (a0 == 32) = false := beq_eq_false_iff_ne.mpr I
 clear I
 by_cases I : c = 10
 ·have ec : (c == 10) = true := beq_iff_eq.mpr I
  rw [show kind5 a0 c = 0 from by unfold kind5; (repeat' split) <;> first | rfl | omega]
  clear I
  go_enter Try.func63, Try.ntmps63
  go_wp2_with fail
  refine (dactylref03_Of.calls k a0 c _ H1.out).mono ?_
  rintro _ _ ⟨rfl, hb⟩
  go_wp2
  go_ret
  exact ⟨rfl, hb⟩
 have i_ec := I
 have ec : (c == 10) = false := beq_eq_false_iff_ne.mpr I
 clear I
 by_cases I : a0 = 95
 ·have e95 : (a0 == 95) = true := beq_iff_eq.mpr I
  rw [show kind5 a0 c = 1 from by unfold kind5; (repeat' split) <;> first | rfl | omega]
  clear I
  go_enter Try.func63, Try.ntmps63
  go_wp2_with fail
  refine (dactylref03_Of.calls k a0 c _ H1.out).mono ?_
  rintro _ _ ⟨rfl, hb⟩
  go_wp2
  go_ret
  exact ⟨rfl, hb⟩
 have i_e95 := I
 have e95 : (a0 == 95) = false := beq_eq_false_iff_ne.mpr I
 clear I
 have I : a0 < 48 ∨ (48 ≤ a0 ∧ a0 ≤ 57) ∨ (58 ≤ a0 ∧ a0 ≤ 64) ∨ (65 ≤ a0 ∧ a0 ≤ 90) ∨ (91 ≤ a0 ∧ a0 ≤ 96) ∨ (97 ≤ a0 ∧ a0 ≤ 122) ∨ (123 ≤ a0 ∧ a0 ≤ 127) ∨ 128 ≤ a0 := by omega
 rcases I with I | I | I | I | I | I | I | I
 ·have v48 : decide (48 ≤ a0) = false := decide_eq_false (by omega)
  have v57 : decide (a0 ≤ 57) = true := decide_eq_true (by omega)
  have v65 : decide (65 ≤ a0) = false := decide_eq_false (by omega)
  have v90 : decide (a0 ≤ 90) = true := decide_eq_true (by omega)
  have v97 : decide (97 ≤ a0) = false := decide_eq_false (by omega)
  have v122 : decide (a0 ≤ 122) = true := decide_eq_true (by omega)
  have v127 : decide (127 < a0) = false := decide_eq_false (by omega)
  rw [show kind5 a0 c = 2 from by unfold kind5; (repeat' split) <;> first | rfl | omega]
  clear I
  go_enter Try.func63, Try.ntmps63
  go_wp2_with fail
  refine (dactylref03_Of.calls k a0 c _ H1.out).mono ?_
  rintro _ _ ⟨rfl, hb⟩
  go_wp2
  go_ret
  exact ⟨rfl, hb⟩
 ·have v48 : decide (48 ≤ a0) = true := decide_eq_true (by omega)
  have v57 : decide (a0 ≤ 57) = true := decide_eq_true (by omega)
  have v65 : decide (65 ≤ a0) = false := decide_eq_false (by omega)
  have v90 : decide (a0 ≤ 90) = true := decide_eq_true (by omega)
  have v97 : decide (97 ≤ a0) = false := decide_eq_false (by omega)
  have v122 : decide (a0 ≤ 122) = true := decide_eq_true (by omega)
  have v127 : decide (127 < a0) = false := decide_eq_false (by omega)
  rw [show kind5 a0 c = 1 from by unfold kind5; (repeat' split) <;> first | rfl | omega]
  clear I
  go_enter Try.func63, Try.ntmps63
  go_wp2_with fail
  refine (dactylref03_Of.calls k a0 c _ H1.out).mono ?_
  rintro _ _ ⟨rfl, hb⟩
  go_wp2
  go_ret
  exact ⟨rfl, hb⟩
 ·have v48 : decide (48 ≤ a0) = true := decide_eq_true (by omega)
  have v57 : decide (a0 ≤ 57) = false := decide_eq_false (by omega)
  have v65 : decide (65 ≤ a0) = false := decide_eq_false (by omega)
  have v90 : decide (a0 ≤ 90) = true := decide_eq_true (by omega)
  have v97 : decide (97 ≤ a0) = false := decide_eq_false (by omega)
  have v122 : decide (a0 ≤ 122) = true := decide_eq_true (by omega)
  have v127 : decide (127 < a0) = false := decide_eq_false (by omega)
  rw [show kind5 a0 c = 2 from by unfold kind5; (repeat' split) <;> first | rfl | omega]
  clear I
  go_enter Try.func63, Try.ntmps63
  go_wp2_with fail
  refine (dactylref03_Of.calls k a0 c _ H1.out).mono ?_
  rintro _ _ ⟨rfl, hb⟩
  go_wp2
  go_ret
  exact ⟨rfl, hb⟩
 ·have v48 : decide (48 ≤ a0) = true := decide_eq_true (by omega)
  have v57 : decide (a0 ≤ 57) = false := decide_eq_false (by omega)
  have v65 : decide (65 ≤ a0) = true := decide_eq_true (by omega)
  have v90 : decide (a0 ≤ 90) = true := decide_eq_true (by omega)
  have v97 : decide (97 ≤ a0) = false := decide_eq_false (by omega)
  have v122 : decide (a0 ≤ 122) = true := decide_eq_true (by omega)
  have v127 : decide (127 < a0) = false := decide_eq_false (by omega)
  rw [show kind5 a0 c = 1 from by unfold kind5; (repeat' split) <;> first | rfl | omega]
  clear I
  go_enter Try.func63, Try.ntmps63
  go_wp2_with fail
  refine (dactylref03_Of.calls k a0 c _ H1.out).mono ?_
  rintro _ _ ⟨rfl, hb⟩
  go_wp2
  go_ret
  exact ⟨rfl, hb⟩
 ·have v48 : decide (48 ≤ a0) = true := decide_eq_true (by omega)
  have v57 : decide (a0 ≤ 57) = false := decide_eq_false (by omega)
  have v65 : decide (65 ≤ a0) = true := decide_eq_true (by omega)
  have v90 : decide (a0 ≤ 90) = false := decide_eq_false (by omega)
  have v97 : decide (97 ≤ a0) = false := decide_eq_false (by omega)
  have v122 : decide (a0 ≤ 122) = true := decide_eq_true (by omega)
  have v127 : decide (127 < a0) = false := decide_eq_false (by omega)
  rw [show kind5 a0 c = 2 from by unfold kind5; (repeat' split) <;> first | rfl | omega]
  clear I
  go_enter Try.func63, Try.ntmps63
  go_wp2_with fail
  refine (dactylref03_Of.calls k a0 c _ H1.out).mono ?_
  rintro _ _ ⟨rfl, hb⟩
  go_wp2
  go_ret
  exact ⟨rfl, hb⟩
 ·have v48 : decide (48 ≤ a0) = true := decide_eq_true (by omega)
  have v57 : decide (a0 ≤ 57) = false := decide_eq_false (by omega)
  have v65 : decide (65 ≤ a0) = true := decide_eq_true (by omega)
  have v90 : decide (a0 ≤ 90) = false := decide_eq_false (by omega)
  have v97 : decide (97 ≤ a0) = true := decide_eq_true (by omega)
  have v122 : decide (a0 ≤ 122) = true := decide_eq_true (by omega)
  have v127 : decide (127 < a0) = false := decide_eq_false (by omega)
  rw [show kind5 a0 c = 1 from by unfold kind5; (repeat' split) <;> first | rfl | omega]
  clear I
  go_enter Try.func63, Try.ntmps63
  go_wp2_with fail
  refine (dactylref03_Of.calls k a0 c _ H1.out).mono ?_
  rintro _ _ ⟨rfl, hb⟩
  go_wp2
  go_ret
  exact ⟨rfl, hb⟩
 ·have v48 : decide (48 ≤ a0) = true := decide_eq_true (by omega)
  have v57 : decide (a0 ≤ 57) = false := decide_eq_false (by omega)
  have v65 : decide (65 ≤ a0) = true := decide_eq_true (by omega)
  have v90 : decide (a0 ≤ 90) = false := decide_eq_false (by omega)
  have v97 : decide (97 ≤ a0) = true := decide_eq_true (by omega)
  have v122 : decide (a0 ≤ 122) = false := decide_eq_false (by omega)
  have v127 : decide (127 < a0) = false := decide_eq_false (by omega)
  rw [show kind5 a0 c = 2 from by unfold kind5; (repeat' split) <;> first | rfl | omega]
  clear I
  go_enter Try.func63, Try.ntmps63
  go_wp2_with fail
  refine (dactylref03_Of.calls k a0 c _ H1.out).mono ?_
  rintro _ _ ⟨rfl, hb⟩
  go_wp2
  go_ret
  exact ⟨rfl, hb⟩
 ·have v48 : decide (48 ≤ a0) = true := decide_eq_true (by omega)
  have v57 : decide (a0 ≤ 57) = false := decide_eq_false (by omega)
  have v65 : decide (65 ≤ a0) = true := decide_eq_true (by omega)
  have v90 : decide (a0 ≤ 90) = false := decide_eq_false (by omega)
  have v97 : decide (97 ≤ a0) = true := decide_eq_true (by omega)
  have v122 : decide (a0 ≤ 122) = false := decide_eq_false (by omega)
  have v127 : decide (127 < a0) = true := decide_eq_true (by omega)
  by_cases J : c = 1
  ·have ec1 : (c == 1) = true := beq_iff_eq.mpr J
   rw [show kind5 a0 c = 1 from by unfold kind5; (repeat' split) <;> first | rfl | omega]
   clear I J
   go_enter Try.func63, Try.ntmps63
   go_wp2_with fail
   refine (dactylref03_Of.calls k a0 c _ H1.out).mono ?_
   rintro _ _ ⟨rfl, hb⟩
   go_wp2
   go_ret
   exact ⟨rfl, hb⟩
  have j_1 := J
  have ec1 : (c == 1) = false := beq_eq_false_iff_ne.mpr J
  clear J
  by_cases J : c = 2
  ·have ec2 : (c == 2) = true := beq_iff_eq.mpr J
   rw [show kind5 a0 c = 1 from by unfold kind5; (repeat' split) <;> first | rfl | omega]
   clear I J
   go_enter Try.func63, Try.ntmps63
   go_wp2_with fail
   refine (dactylref03_Of.calls k a0 c _ H1.out).mono ?_
   rintro _ _ ⟨rfl, hb⟩
   go_wp2
   go_ret
   exact ⟨rfl, hb⟩
  have j_2 := J
  have ec2 : (c == 2) = false := beq_eq_false_iff_ne.mpr J
  clear J
  by_cases J : c = 3
  ·have ec3 : (c == 3) = true := beq_iff_eq.mpr J
   rw [show kind5 a0 c = 1 from by unfold kind5; (repeat' split) <;> first | rfl | omega]
   clear I J
   go_enter Try.func63, Try.ntmps63
   go_wp2_with fail
   refine (dactylref03_Of.calls k a0 c _ H1.out).mono ?_
   rintro _ _ ⟨rfl, hb⟩
   go_wp2
   go_ret
   exact ⟨rfl, hb⟩
  have j_3 := J
  have ec3 : (c == 3) = false := beq_eq_false_iff_ne.mpr J
  clear J
  rw [show kind5 a0 c = 2 from by unfold kind5; (repeat' split) <;> first | rfl | omega]
  clear I
  go_enter Try.func63, Try.ntmps63
  go_wp2_with fail
  refine (dactylref03_Of.calls k a0 c _ H1.out).mono ?_
  rintro _ _ ⟨rfl, hb⟩
  go_wp2
  go_ret
  exact ⟨rfl, hb⟩

end Go.Proofs.Ytemoocoedibbpab.X

namespace Go.Proofs.Ytemoocoedibbpab.X
open Go.RowKit Go.Proofs.YtemoocoedibbpabW.PrintWords Go.Proofs.YtemoocoedibbpabW.PrintLast Go.Proofs.YtemoocoedibbpabW.PrintMore
attribute [local go_sem] max2_int min2_int max_two min_two max_three min_three max_four min_four
set_option linter.unusedVariables false
set_option linter.unusedSimpArgs false

/-! ### dactylref05_At: function 76 -/
def dactylref05_At.j0 : Nat → List (S47) → Int → Bool → Bool → Option (Int)
 | 0, _, _, _, _ => none
 | k + 1, x0, x1, x2, x15 => if x15 = true then (some 9) else (if 0 ≤ x1 then (if x1 < (x0.length : Int) then ((dactylref05_Kind.f k ((rd_T47 x0 x1).f0)).bind fun t102 => (if x2 = true then (if t102 = 2 then (some 1) else (some t102)) else (some t102))) else (none)) else (none))
def dactylref05_At.f (k : Nat) (l0 : List (S47)) (a1 : Int) (a2 : Bool) : Option (Int) := if a1 < 0 then (dactylref05_At.j0 k l0 a1 a2 true) else (dactylref05_At.j0 k l0 a1 a2 (decide (a1 ≥ (l0.length : Int))))
theorem dactylref05_At.mono_l : ∀ k, (∀ y0 y1 y2 y3, LeO (dactylref05_At.j0 k y0 y1 y2 y3) (dactylref05_At.j0 (k + 1) y0 y1 y2 y3))
 | 0 => fun _ _ _ _ r h => by simp [dactylref05_At.j0] at h
 | k + 1 => by
  have ih0 := dactylref05_At.mono_l k
  ·intro y0 y1 y2 y3
   unfold dactylref05_At.j0
   repeat' first
   | (with_reducible exact ih0 _ _ _ _)
   | (with_reducible exact dactylref05_Kind.mono _ _)
   | (with_reducible exact LeO.refl _)
   | (with_reducible exact LeO.none _)
   | (with_reducible refine LeO.ite ?_ ?_)
   | (with_reducible refine LeO.bind ?_ (fun _ => ?_))
   | exact ih0 _ _ _ _
   | exact dactylref05_Kind.mono _ _
   | exact LeO.none _
   | refine LeO.ite ?_ ?_
   | refine LeO.bind ?_ (fun _ => ?_)
theorem dactylref05_At.mono : ∀ a0 a1 a2 k, LeO (dactylref05_At.f k a0 a1 a2) (dactylref05_At.f (k + 1) a0 a1 a2) := by
 intro a0 a1 a2 k
 have ih0 := dactylref05_At.mono_l k
 unfold dactylref05_At.f
 repeat' first
   | (with_reducible exact ih0 _ _ _ _)
   | (with_reducible exact dactylref05_Kind.mono _ _)
   | (with_reducible exact LeO.refl _)
   | (with_reducible exact LeO.none _)
   | (with_reducible refine LeO.ite ?_ ?_)
   | (with_reducible refine LeO.bind ?_ (fun _ => ?_))
   | exact ih0 _ _ _ _
   | exact dactylref05_Kind.mono _ _
   | exact LeO.none _
   | refine LeO.ite ?_ ?_
   | refine LeO.bind ?_ (fun _ => ?_)
set_option maxHeartbeats 8000000 in
set_option maxRecDepth 100000 in
theorem dactylref05_At.calls (k : Nat) (A0 : Option Addr) (c0 : Nat) (l0 : List (S47)) (a1 : Int) (a2 : Bool) (r : Int) (w : World) (hr0 : Kd.C k47 w A0 l0.length l0) (hc0 : l0.length ≤ c0) (h : dactylref05_At.f k l0 a1 a2 = some r) :
  Calls Try.prog 76 #[.slice A0 l0.length c0, .int .i64 a1, .bool a2] w fun e w' => e = .returned (.int .i64 r) ∧ Below w.heap.size w w' := by
 have HR0 := Aside0.mk hr0
 have HC0 := Aside0.mk hc0
 clear hr0 hc0
 have HB := Aside0.mk (Below.refl w.heap.size w)
 have H : (if a1 < 0 then (dactylref05_At.j0 k l0 a1 a2 true) else (dactylref05_At.j0 k l0 a1 a2 (decide (a1 ≥ (l0.length : Int))))) = some r := h
 clear h
 have HC4 := Aside0.mk H
 clear H
 go_enter Try.func76, Try.ntmps76
 go_upto_region 1 with (fail)
 go_cut [15] (fun v15 wc => ∃ (kq : Nat) (x15_3 : Bool), v15 = .bool x15_3 ∧ Aside0 (dactylref05_At.j0 kq l0 a1 a2 x15_3 = some r) ∧ Aside0 (kq ≤ k) ∧ Aside0 (Below w.heap.size w wc))
 case first =>
  have H := HC4.out
  clear HC4
  by_cases c5 : a1 < 0
  ·rw [if_pos c5] at H
   have c5b0 : decide (a1 < 0) = true := decide_eq_true c5
   clear c5
   (first | rw [c5b0] | (simp only [i64_w, i32_w]; rw [c5b0]) | skip)
   have H' := Aside0.mk H
   clear H
   go_wp2
   go_meet
   case rel => exact ⟨_, (true), (by first | rfl | (simp; done) | (simp [*]; done)), H', ⟨by first | omega | exact Nat.le_refl _⟩, ⟨by repeat (first | (with_reducible first | exact HB.out | apply below_alloc | apply pw_below_drewN | apply below_drew1) | exact HB.out)⟩⟩
  ·rw [if_neg c5] at H
   have c5b0 : decide (a1 < 0) = false := decide_eq_false c5
   clear c5
   (first | rw [c5b0] | (simp only [i64_w, i32_w]; rw [c5b0]) | skip)
   have H' := Aside0.mk H
   clear H
   go_wp2
   go_meet
   case rel => exact ⟨_, (decide (a1 ≥ (l0.length : Int))), (by first | rfl | (simp; done) | (simp [*]; done)), H', ⟨by first | omega | exact Nat.le_refl _⟩, ⟨by repeat (first | (with_reducible first | exact HB.out | apply below_alloc | apply pw_below_drewN | apply below_drew1) | exact HB.out)⟩⟩
 case rest =>
  clear HC4
  try clear p2
  try clear c5
  try clear c5b0
  obtain ⟨kq, x15_3, rfl, HA, HJ3, HB⟩ := hcut
  cases kq with
  | zero => exact absurd HA.out (by simp [dactylref05_At.j0])
  | succ kj3 =>
   have H := HA.out
   clear HA
   simp only [dactylref05_At.j0] at H
   by_cases c6 : x15_3 = true
   ·subst c6
    have H1 : (some 9) = some r := by rw [if_pos rfl] at H; exact H
    clear H
    have H := H1
    clear H1
    obtain rfl := Option.some.inj H
    go_wp2
    go_ret
    exact ⟨by first | rfl | (simp [errW_none, errW_some] <;> rfl) | (simp [*, errW_none, errW_some] <;> rfl), by repeat (first | (with_reducible first | exact HB.out | apply below_alloc | apply pw_below_drewN | apply below_drew1) | exact HB.out)⟩
   ·replace c6 := Bool.eq_false_iff.mpr c6
    subst c6
    have H1 : (if 0 ≤ a1 then (if a1 < (l0.length : Int) then ((dactylref05_Kind.f kj3 ((rd_T47 l0 a1).f0)).bind fun t102 => (if a2 = true then (if t102 = 2 then (some 1) else (some t102)) else (some t102))) else (none)) else (none)) = some r := by rw [if_neg (show ¬ (false = true) by decide)] at H; exact H
    clear H
    have H := H1
    clear H1
    by_cases c7 : 0 ≤ a1
    ·rw [if_pos c7] at H
     have c7b0 : decide (0 ≤ a1) = true := decide_eq_true c7
     clear c7
     by_cases c8 : a1 < (l0.length : Int)
     ·rw [if_pos c8] at H
      have c8b0 : decide (a1 < (l0.length : Int)) = true := decide_eq_true c8
      clear c8
      replace H := Option.bind_eq_some_iff.mp H
      obtain ⟨t102, A90, H⟩ := H
      try dsimp only at H
      have A9 := Aside0.mk A90
      clear A90
      by_cases c10 : a2 = true
      ·subst c10
       have H1 : (if t102 = 2 then (some 1) else (some t102)) = some r := by rw [if_pos rfl] at H; exact H
       clear H
       have H := H1
       clear H1
       by_cases c11 : t102 = 2
       ·rw [if_pos c11] at H
        have c11b0 : (t102 == 2) = true := beq_iff_eq.mpr c11
        have c11b1 : (t102 != 2) = false := bne_eq_false_iff_eq.mpr c11
        clear c11
        obtain rfl := Option.some.inj H
        have p101 : 0 ≤ (a1 : Int) := of_decide_eq_true (by first | (with_reducible assumption) | assumption)
        have q101 : a1 < (l0.length : Int) := of_decide_eq_true (by first | (with_reducible assumption) | assumption)
        obtain ⟨ad101, e101, hx101_0, hx101_1⟩ := at_T47 HR0.out a1 p101 q101
        cases e101
        replace hx101_0 := (HB.out.cell (World.block_lt_of_cell? w _ hx101_0)).trans hx101_0
        replace hx101_1 := (HB.out.cell (World.block_lt_of_cell? w _ hx101_1)).trans hx101_1
        replace p101 := eq_true p101
        replace q101 := eq_true q101
        go_wp2_with (first | ((with_reducible refine gate_callee (f := 63) rfl ?_); refine gL (some 21) Try.func63 (by kernel_rfl) #[.int .i64 ((rd_T47 l0 a1).f0)] rfl rfl rfl rfl rfl ?_; (with_reducible refine (dactylref05_Kind.calls kj3 ((rd_T47 l0 a1).f0) t102 _ A9.out).mono ?_); rintro e w12 ⟨rfl, hb⟩; refine ⟨_, rfl, ?_⟩; replace HB := a0 (below_step HB.out hb); (try clear hb); (try clear hb2); (try clear hk); (try clear hi)))
        go_ret
        exact ⟨by first | rfl | (simp [errW_none, errW_some] <;> rfl) | (simp [*, errW_none, errW_some] <;> rfl), by repeat (first | (with_reducible first | exact HB.out | apply below_alloc | apply pw_below_drewN | apply below_drew1) | exact HB.out)⟩
       ·rw [if_neg c11] at H
        have c11b0 : (t102 == 2) = false := beq_eq_false_iff_ne.mpr c11
        have c11b1 : (t102 != 2) = true := bne_iff_ne.mpr c11
        obtain rfl := Option.some.inj H
        have p101 : 0 ≤ (a1 : Int) := of_decide_eq_true (by first | (with_reducible assumption) | assumption)
        have q101 : a1 < (l0.length : Int) := of_decide_eq_true (by first | (with_reducible assumption) | assumption)
        obtain ⟨ad101, e101, hx101_0, hx101_1⟩ := at_T47 HR0.out a1 p101 q101
        cases e101
        replace hx101_0 := (HB.out.cell (World.block_lt_of_cell? w _ hx101_0)).trans hx101_0
        replace hx101_1 := (HB.out.cell (World.block_lt_of_cell? w _ hx101_1)).trans hx101_1
        replace p101 := eq_true p101
        replace q101 := eq_true q101
        go_wp2_with (first | ((with_reducible refine gate_callee (f := 63) rfl ?_); refine gL (some 21) Try.func63 (by kernel_rfl) #[.int .i64 ((rd_T47 l0 a1).f0)] rfl rfl rfl rfl rfl ?_; (with_reducible refine (dactylref05_Kind.calls kj3 ((rd_T47 l0 a1).f0) t102 _ A9.out).mono ?_); rintro e w13 ⟨rfl, hb⟩; refine ⟨_, rfl, ?_⟩; replace HB := a0 (below_step HB.out hb); (try clear hb); (try clear hb2); (try clear hk); (try clear hi)))
        go_ret
        exact ⟨by first | rfl | (simp [errW_none, errW_some] <;> rfl) | (simp [*, errW_none, errW_some] <;> rfl), by repeat (first | (with_reducible first | exact HB.out | apply below_alloc | apply pw_below_drewN | apply below_drew1) | exact HB.out)⟩
      ·replace c10 := Bool.eq_false_iff.mpr c10
       subst c10
       have H1 : (some t102) = some r := by rw [if_neg (show ¬ (false = true) by decide)] at H; exact H
       clear H
       have H := H1
       clear H1
       obtain rfl := Option.some.inj H
       have p101 : 0 ≤ (a1 : Int) := of_decide_eq_true (by first | (with_reducible assumption) | assumption)
       have q101 : a1 < (l0.length : Int) := of_decide_eq_true (by first | (with_reducible assumption) | assumption)
       obtain ⟨ad101, e101, hx101_0, hx101_1⟩ := at_T47 HR0.out a1 p101 q101
       cases e101
       replace hx101_0 := (HB.out.cell (World.block_lt_of_cell? w _ hx101_0)).trans hx101_0
       replace hx101_1 := (HB.out.cell (World.block_lt_of_cell? w _ hx101_1)).trans hx101_1
       replace p101 := eq_true p101
       replace q101 := eq_true q101
       go_wp2_with (first | ((with_reducible refine gate_callee (f := 63) rfl ?_); refine gL (some 21) Try.func63 (by kernel_rfl) #[.int .i64 ((rd_T47 l0 a1).f0)] rfl rfl rfl rfl rfl ?_; (with_reducible refine (dactylref05_Kind.calls kj3 ((rd_T47 l0 a1).f0) t102 _ A9.out).mono ?_); rintro e w14 ⟨rfl, hb⟩; refine ⟨_, rfl, ?_⟩; replace HB := a0 (below_step HB.out hb); (try clear hb); (try clear hb2); (try clear hk); (try clear hi)))
       go_ret
       exact ⟨by first | rfl | (simp [errW_none, errW_some] <;> rfl) | (simp [*, errW_none, errW_some] <;> rfl), by repeat (first | (with_reducible first | exact HB.out | apply below_alloc | apply pw_below_drewN | apply below_drew1) | exact HB.out)⟩
     ·rw [if_neg c8] at H
      exact absurd H (by simp)
    ·rw [if_neg c7] at H
     exact absurd H (by simp)

end Go.Proofs.Ytemoocoedibbpab.X

namespace Go.Proofs.Ytemoocoedibbpab.X
open Go.RowKit Go.Proofs.YtemoocoedibbpabW.PrintWords Go.Proofs.YtemoocoedibbpabW.PrintLast Go.Proofs.YtemoocoedibbpabW.PrintMore
attribute [local go_sem] max2_int min2_int max_two min_two max_three min_three max_four min_four
set_option linter.unusedVariables false
set_option linter.unusedSimpArgs false

/-! ### dactylref05_Place: function 120 -/
def dactylref05_Place.f (l0 : List (S47)) (a1 : Int) : Option (Int) := (dactylref01_High.f a1 0).bind fun t101 => ((dactylref01_Low.f t101 (l0.length : Int)).bind fun t102 => (some t102))
set_option maxHeartbeats 8000000 in
set_option maxRecDepth 100000 in
theorem dactylref05_Place.calls (A0 : Option Addr) (c0 : Nat) (l0 : List (S47)) (a1 : Int) (r : Int) (w : World) (hr0 : Kd.C k47 w A0 l0.length l0) (hc0 : l0.length ≤ c0) (h : dactylref05_Place.f l0 a1 = some r) :
    Calls Try.prog 120 #[.slice A0 l0.length c0, .int .i64 a1] w fun e w' => e = .returned (.int .i64 r) ∧ Drawn0 w w' := by
  have HR0 := Aside0.mk hr0
  have HC0 := Aside0.mk hc0
  clear hr0 hc0
  have H : ((dactylref01_High.f a1 0).bind fun t101 => ((dactylref01_Low.f t101 (l0.length : Int)).bind fun t102 => (some t102))) = some r := h
  clear h
  replace H := Option.bind_eq_some_iff.mp H
  obtain ⟨t101, A30, H⟩ := H
  replace H : ((dactylref01_Low.f t101 (l0.length : Int)).bind fun t102 => (some t102)) = some r := H
  have A3 := Aside0.mk A30
  clear A30
  replace H := Option.bind_eq_some_iff.mp H
  obtain ⟨t102, A40, H⟩ := H
  replace H : (some t102) = some r := H
  have A4 := Aside0.mk A40
  clear A40
  obtain rfl := Option.some.inj H
  go_enter Try.func120, Try.ntmps120
  go_wp2_with (first | ((with_reducible refine gate_callee (f := 78) rfl ?_); refine goesL_ (some 6) rfl rfl Try.func78 (by kernel_rfl) rfl #[.int .i64 a1, .int .i64 0] rfl (by (try simp only [List.map_toArray, List.map_cons, List.map_nil]); first | done | rfl | (simp only [List.length_drop, List.length_take]; rfl)) ?_; (with_reducible refine (dactylref01_High.calls a1 0 t101 _ A3.out).mono ?_); rintro e w' ⟨rfl, ⟨nd, rfl⟩⟩; refine ⟨_, rfl, ?_⟩) | ((with_reducible refine gate_callee (f := 36) rfl ?_); refine goesL_ (some 9) rfl rfl Try.func36 (by kernel_rfl) rfl #[.int .i64 t101, .int .i64 (l0.length : Int)] rfl (by (try simp only [List.map_toArray, List.map_cons, List.map_nil]); first | done | rfl | (simp only [List.length_drop, List.length_take]; rfl)) ?_; (with_reducible refine (dactylref01_Low.calls t101 (l0.length : Int) t102 _ A4.out).mono ?_); rintro e w' ⟨rfl, ⟨nd, rfl⟩⟩; refine ⟨_, rfl, ?_⟩))
  go_ret
  exact ⟨by first | rfl | (simp; done) | (simp [*]; done), by repeat (first | exact Drawn0.refl _ | apply Drawn0.step)⟩

end Go.Proofs.Ytemoocoedibbpab.X

namespace Go.Proofs.Ytemoocoedibbpab.X
open Go.RowKit Go.Proofs.YtemoocoedibbpabW.PrintWords Go.Proofs.YtemoocoedibbpabW.PrintLast Go.Proofs.YtemoocoedibbpabW.PrintMore
attribute [local go_sem] max2_int min2_int max_two min_two max_three min_three max_four min_four
set_option linter.unusedVariables false
set_option linter.unusedSimpArgs false

/-! ### dactylref05_Next: function 75 -/
def dactylref05_Next.l0 : Nat → List (S47) → Int → Int → Option (Int)
 | 0, _, _, _ => none
 | k + 1, x0, x1, x5 => if x5 ≤ (x0.length : Int) then ((dactylref05_Place.f x0 x1).bind fun t101 => (if x5 > t101 then ((dactylref05_At.f k x0 (wrap64 (x5 - 1)) false).bind fun t102 => (if t102 = 1 then ((dactylref05_At.f k x0 x5 false).bind fun t103 => (if t103 = 1 then (dactylref05_Next.l0 k x0 x1 (wrap64 (x5 + 1))) else (some x5))) else (dactylref05_Next.l0 k x0 x1 (wrap64 (x5 + 1))))) else (dactylref05_Next.l0 k x0 x1 (wrap64 (x5 + 1))))) else (some (x0.length : Int))
def dactylref05_Next.f (k : Nat) (l0 : List (S47)) (a1 : Int) : Option (Int) := dactylref05_Next.l0 k l0 a1 0
theorem dactylref05_Next.mono_l : ∀ k, (∀ y0 y1 y2, LeO (dactylref05_Next.l0 k y0 y1 y2) (dactylref05_Next.l0 (k + 1) y0 y1 y2))
 | 0 => fun _ _ _ r h => by simp [dactylref05_Next.l0] at h
 | k + 1 => by
  have ih0 := dactylref05_Next.mono_l k
  ·intro y0 y1 y2
   unfold dactylref05_Next.l0
   repeat' first
   | (with_reducible exact ih0 _ _ _)
   | (with_reducible exact dactylref05_At.mono _ _ _ _)
   | (with_reducible exact LeO.refl _)
   | (with_reducible exact LeO.none _)
   | (with_reducible refine LeO.ite ?_ ?_)
   | (with_reducible refine LeO.bind ?_ (fun _ => ?_))
   | exact ih0 _ _ _
   | exact dactylref05_At.mono _ _ _ _
   | exact LeO.none _
   | refine LeO.ite ?_ ?_
   | refine LeO.bind ?_ (fun _ => ?_)
theorem dactylref05_Next.mono : ∀ a0 a1 k, LeO (dactylref05_Next.f k a0 a1) (dactylref05_Next.f (k + 1) a0 a1) := by
 intro a0 a1 k
 have ih0 := dactylref05_Next.mono_l k
 unfold dactylref05_Next.f
 repeat' first
   | (with_reducible exact ih0 _ _ _)
   | (with_reducible exact dactylref05_At.mono _ _ _ _)
   | (with_reducible exact LeO.refl _)
   | (with_reducible exact LeO.none _)
   | (with_reducible refine LeO.ite ?_ ?_)
   | (with_reducible refine LeO.bind ?_ (fun _ => ?_))
   | exact ih0 _ _ _
   | exact dactylref05_At.mono _ _ _ _
   | exact LeO.none _
   | refine LeO.ite ?_ ?_
   | refine LeO.bind ?_ (fun _ => ?_)
set_option maxHeartbeats 8000000 in
set_option maxRecDepth 100000 in
theorem dactylref05_Next.calls (k : Nat) (A0 : Option Addr) (c0 : Nat) (l0 : List (S47)) (a1 : Int) (r : Int) (w : World) (hr0 : Kd.C k47 w A0 l0.length l0) (hc0 : l0.length ≤ c0) (h : dactylref05_Next.f k l0 a1 = some r) :
  Calls Try.prog 75 #[.slice A0 l0.length c0, .int .i64 a1] w fun e w' => e = .returned (.int .i64 r) ∧ Below w.heap.size w w' := by
 have HR0 := Aside0.mk hr0
 have HC0 := Aside0.mk hc0
 clear hr0 hc0
 have HB := Aside0.mk (Below.refl w.heap.size w)
 have H : (dactylref05_Next.l0 k l0 a1 0) = some r := h
 clear h
 have H' := Aside0.mk H
 clear H
 go_enter Try.func75, Try.ntmps75
 go_wp2
 go_loopg [5] k (fun kq v5 w' => ∃ (x5_1 : Int), v5 = .int .i64 x5_1 ∧ Aside0 (dactylref05_Next.l0 kq l0 a1 x5_1 = some r) ∧ Aside0 (kq ≤ k) ∧ Aside0 (Below w.heap.size w w'))
 case atStart => exact ⟨(0), (by first | rfl | (simp; done) | (simp [*]; done)), H', ⟨Nat.le_refl _⟩, ⟨by repeat (first | exact HB.out | apply below_alloc | apply pw_below_drewN | apply below_drew1)⟩⟩
 case round =>
  clear H'
  try clear p2
  obtain ⟨x5_1, rfl, HA, HK1, HB⟩ := hrel
  cases gk with
  | zero => exact absurd HA.out (by simp [dactylref05_Next.l0])
  | succ k1 =>
   have H := HA.out
   clear HA
   simp only [dactylref05_Next.l0] at H
   by_cases c3 : x5_1 ≤ (l0.length : Int)
   ·rw [if_pos c3] at H
    have c3b0 : decide (x5_1 ≤ (l0.length : Int)) = true := decide_eq_true c3
    clear c3
    replace H := Option.bind_eq_some_iff.mp H
    obtain ⟨t101, A40, H⟩ := H
    try dsimp only at H
    have A4 := Aside0.mk A40
    clear A40
    by_cases c5 : x5_1 > t101
    ·rw [if_pos c5] at H
     have c5b0 : decide (t101 < x5_1) = true := decide_eq_true c5
     clear c5
     replace H := Option.bind_eq_some_iff.mp H
     obtain ⟨t102, A60, H⟩ := H
     try dsimp only at H
     have A6 := Aside0.mk A60
     clear A60
     by_cases c7 : t102 = 1
     ·rw [if_pos c7] at H
      have c7b0 : (t102 == 1) = true := beq_iff_eq.mpr c7
      have c7b1 : (t102 != 1) = false := bne_eq_false_iff_eq.mpr c7
      clear c7
      replace H := Option.bind_eq_some_iff.mp H
      obtain ⟨t103, A80, H⟩ := H
      try dsimp only at H
      have A8 := Aside0.mk A80
      clear A80
      by_cases c9 : t103 = 1
      ·rw [if_pos c9] at H
       have c9b0 : (t103 == 1) = true := beq_iff_eq.mpr c9
       have c9b1 : (t103 != 1) = false := bne_eq_false_iff_eq.mpr c9
       clear c9
       have H' := Aside0.mk H
       clear H
       go_wp2_with (first | ((with_reducible refine gate_callee (f := 120) rfl ?_); refine gL (some 15) Try.func120 (by kernel_rfl) #[.slice A0 l0.length c0, .int .i64 a1] rfl rfl rfl rfl rfl ?_; (with_reducible refine (dactylref05_Place.calls _ _ l0 a1 t101 _ ?side1 ?side2 A4.out).mono ?_); (case side1 => repeat (first | exact (Kd.C_below HR0.out HB.out) | (with_reducible refine Kd.C_alloc ?_ _) | (with_reducible refine Kd.C_drewN ?_ _) | (with_reducible refine Kd.C_drew ?_))); (case side2 => exact HC0.out); rintro e w' ⟨rfl, ⟨nd, rfl⟩⟩; refine ⟨_, rfl, ?_⟩) | (go_at_call 76; (with_reducible refine (dactylref05_At.calls k1 _ _ l0 (wrap64 (x5_1 - 1)) false t102 _ ?side1 ?side2 A6.out).mono ?_); (case side1 => repeat (first | exact (Kd.C_below HR0.out (by repeat (first | exact HB.out | apply below_alloc | apply pw_below_drewN | apply below_drew1))) | (with_reducible refine Kd.C_alloc ?_ _) | (with_reducible refine Kd.C_drewN ?_ _) | (with_reducible refine Kd.C_drew ?_))); (case side2 => exact HC0.out); rintro e w10 ⟨rfl, hb⟩; replace HB := a0 (below_step (by repeat (first | exact HB.out | apply below_alloc | apply pw_below_drewN | apply below_drew1)) hb); (try clear hb); (try clear hb2); (try clear hk); (try clear hi)) | (go_at_call 76; (with_reducible refine (dactylref05_At.calls k1 _ _ l0 x5_1 false t103 _ ?side1 ?side2 A8.out).mono ?_); (case side1 => repeat (first | exact (Kd.C_below HR0.out HB.out) | (with_reducible refine Kd.C_alloc ?_ _) | (with_reducible refine Kd.C_drewN ?_ _) | (with_reducible refine Kd.C_drew ?_))); (case side2 => exact HC0.out); rintro e w11 ⟨rfl, hb⟩; replace HB := a0 (below_step (by repeat (first | exact HB.out | apply below_alloc | apply pw_below_drewN | apply below_drew1)) hb); (try clear hb); (try clear hb2); (try clear hk); (try clear hi)))
       go_roundg k1
       case measure => have := HK1.out; omega
       case rel => exact ⟨(wrap64 (x5_1 + 1)), (by first | rfl | (simp; done) | (simp [*]; done)), H', ⟨by have := HK1.out; omega⟩, ⟨by repeat (first | exact HB.out | apply below_alloc | apply pw_below_drewN | apply below_drew1)⟩⟩
      ·rw [if_neg c9] at H
       have c9b0 : (t103 == 1) = false := beq_eq_false_iff_ne.mpr c9
       have c9b1 : (t103 != 1) = true := bne_iff_ne.mpr c9
       obtain rfl := Option.some.inj H
       go_wp2_with (first | ((with_reducible refine gate_callee (f := 120) rfl ?_); refine gL (some 15) Try.func120 (by kernel_rfl) #[.slice A0 l0.length c0, .int .i64 a1] rfl rfl rfl rfl rfl ?_; (with_reducible refine (dactylref05_Place.calls _ _ l0 a1 t101 _ ?side1 ?side2 A4.out).mono ?_); (case side1 => repeat (first | exact (Kd.C_below HR0.out HB.out) | (with_reducible refine Kd.C_alloc ?_ _) | (with_reducible refine Kd.C_drewN ?_ _) | (with_reducible refine Kd.C_drew ?_))); (case side2 => exact HC0.out); rintro e w' ⟨rfl, ⟨nd, rfl⟩⟩; refine ⟨_, rfl, ?_⟩) | (go_at_call 76; (with_reducible refine (dactylref05_At.calls k1 _ _ l0 (wrap64 (x5_1 - 1)) false t102 _ ?side1 ?side2 A6.out).mono ?_); (case side1 => repeat (first | exact (Kd.C_below HR0.out (by repeat (first | exact HB.out | apply below_alloc | apply pw_below_drewN | apply below_drew1))) | (with_reducible refine Kd.C_alloc ?_ _) | (with_reducible refine Kd.C_drewN ?_ _) | (with_reducible refine Kd.C_drew ?_))); (case side2 => exact HC0.out); rintro e w12 ⟨rfl, hb⟩; replace HB := a0 (below_step (by repeat (first | exact HB.out | apply below_alloc | apply pw_below_drewN | apply below_drew1)) hb); (try clear hb); (try clear hb2); (try clear hk); (try clear hi)) | (go_at_call 76; (with_reducible refine (dactylref05_At.calls k1 _ _ l0 x5_1 false t103 _ ?side1 ?side2 A8.out).mono ?_); (case side1 => repeat (first | exact (Kd.C_below HR0.out HB.out) | (with_reducible refine Kd.C_alloc ?_ _) | (with_reducible refine Kd.C_drewN ?_ _) | (with_reducible refine Kd.C_drew ?_))); (case side2 => exact HC0.out); rintro e w13 ⟨rfl, hb⟩; replace HB := a0 (below_step (by repeat (first | exact HB.out | apply below_alloc | apply pw_below_drewN | apply below_drew1)) hb); (try clear hb); (try clear hb2); (try clear hk); (try clear hi)))
       go_ret
       exact ⟨by first | rfl | (simp [errW_none, errW_some] <;> rfl) | (simp [*, errW_none, errW_some] <;> rfl), by repeat (first | exact HB.out | apply below_alloc | apply pw_below_drewN | apply below_drew1)⟩
     ·rw [if_neg c7] at H
      have c7b0 : (t102 == 1) = false := beq_eq_false_iff_ne.mpr c7
      have c7b1 : (t102 != 1) = true := bne_iff_ne.mpr c7
      have H' := Aside0.mk H
      clear H
      go_wp2_with (first | ((with_reducible refine gate_callee (f := 120) rfl ?_); refine gL (some 15) Try.func120 (by kernel_rfl) #[.slice A0 l0.length c0, .int .i64 a1] rfl rfl rfl rfl rfl ?_; (with_reducible refine (dactylref05_Place.calls _ _ l0 a1 t101 _ ?side1 ?side2 A4.out).mono ?_); (case side1 => repeat (first | exact (Kd.C_below HR0.out HB.out) | (with_reducible refine Kd.C_alloc ?_ _) | (with_reducible refine Kd.C_drewN ?_ _) | (with_reducible refine Kd.C_drew ?_))); (case side2 => exact HC0.out); rintro e w' ⟨rfl, ⟨nd, rfl⟩⟩; refine ⟨_, rfl, ?_⟩) | (go_at_call 76; (with_reducible refine (dactylref05_At.calls k1 _ _ l0 (wrap64 (x5_1 - 1)) false t102 _ ?side1 ?side2 A6.out).mono ?_); (case side1 => repeat (first | exact (Kd.C_below HR0.out (by repeat (first | exact HB.out | apply below_alloc | apply pw_below_drewN | apply below_drew1))) | (with_reducible refine Kd.C_alloc ?_ _) | (with_reducible refine Kd.C_drewN ?_ _) | (with_reducible refine Kd.C_drew ?_))); (case side2 => exact HC0.out); rintro e w14 ⟨rfl, hb⟩; replace HB := a0 (below_step (by repeat (first | exact HB.out | apply below_alloc | apply pw_below_drewN | apply below_drew1)) hb); (try clear hb); (try clear hb2); (try clear hk); (try clear hi)))
      go_roundg k1
      case measure => have := HK1.out; omega
      case rel => exact ⟨(wrap64 (x5_1 + 1)), (by first | rfl | (simp; done) | (simp [*]; done)), H', ⟨by have := HK1.out; omega⟩, ⟨by repeat (first | exact HB.out | apply below_alloc | apply pw_below_drewN | apply below_drew1)⟩⟩
    ·rw [if_neg c5] at H
     have c5b0 : decide (t101 < x5_1) = false := decide_eq_false c5
     clear c5
     have H' := Aside0.mk H
     clear H
     go_wp2_with (first | ((with_reducible refine gate_callee (f := 120) rfl ?_); refine gL (some 15) Try.func120 (by kernel_rfl) #[.slice A0 l0.length c0, .int .i64 a1] rfl rfl rfl rfl rfl ?_; (with_reducible refine (dactylref05_Place.calls _ _ l0 a1 t101 _ ?side1 ?side2 A4.out).mono ?_); (case side1 => repeat (first | exact (Kd.C_below HR0.out HB.out) | (with_reducible refine Kd.C_alloc ?_ _) | (with_reducible refine Kd.C_drewN ?_ _) | (with_reducible refine Kd.C_drew ?_))); (case side2 => exact HC0.out); rintro e w' ⟨rfl, ⟨nd, rfl⟩⟩; refine ⟨_, rfl, ?_⟩))
     go_roundg k1
     case measure => have := HK1.out; omega
     case rel => exact ⟨(wrap64 (x5_1 + 1)), (by first | rfl | (simp; done) | (simp [*]; done)), H', ⟨by have := HK1.out; omega⟩, ⟨by repeat (first | exact HB.out | apply below_alloc | apply pw_below_drewN | apply below_drew1)⟩⟩
   ·rw [if_neg c3] at H
    have c3b0 : decide (x5_1 ≤ (l0.length : Int)) = false := decide_eq_false c3
    clear c3
    obtain rfl := Option.some.inj H
    go_wp2
    go_ret
    exact ⟨by first | rfl | (simp [errW_none, errW_some] <;> rfl) | (simp [*, errW_none, errW_some] <;> rfl), by repeat (first | exact HB.out | apply below_alloc | apply pw_below_drewN | apply below_drew1)⟩

end Go.Proofs.Ytemoocoedibbpab.X

namespace Go.Proofs.Ytemoocoedibbpab.X
open Go.RowKit Go.Proofs.YtemoocoedibbpabW.PrintWords Go.Proofs.YtemoocoedibbpabW.PrintLast Go.Proofs.YtemoocoedibbpabW.PrintMore
attribute [local go_sem] max2_int min2_int max_two min_two max_three min_three max_four min_four
set_option linter.unusedVariables false
set_option linter.unusedSimpArgs false

/-! ### dactylref05_Back: function 74 -/
def dactylref05_Back.l0 : Nat → List (S47) → Int → Int → Option (Int)
 | 0, _, _, _ => none
 | k + 1, x0, x1, x5 => if x5 ≥ 0 then ((dactylref05_Place.f x0 x1).bind fun t101 => (if x5 < t101 then ((dactylref05_At.f k x0 x5 false).bind fun t102 => (if t102 = 1 then ((dactylref05_At.f k x0 (wrap64 (x5 - 1)) false).bind fun t103 => (if t103 = 1 then (dactylref05_Back.l0 k x0 x1 (wrap64 (x5 - 1))) else (some x5))) else (dactylref05_Back.l0 k x0 x1 (wrap64 (x5 - 1))))) else (dactylref05_Back.l0 k x0 x1 (wrap64 (x5 - 1))))) else (some 0)
def dactylref05_Back.f (k : Nat) (l0 : List (S47)) (a1 : Int) : Option (Int) := dactylref05_Back.l0 k l0 a1 (l0.length : Int)
theorem dactylref05_Back.mono_l : ∀ k, (∀ y0 y1 y2, LeO (dactylref05_Back.l0 k y0 y1 y2) (dactylref05_Back.l0 (k + 1) y0 y1 y2))
 | 0 => fun _ _ _ r h => by simp [dactylref05_Back.l0] at h
 | k + 1 => by
  have ih0 := dactylref05_Back.mono_l k
  ·intro y0 y1 y2
   unfold dactylref05_Back.l0
   repeat' first
   | (with_reducible exact ih0 _ _ _)
   | (with_reducible exact dactylref05_At.mono _ _ _ _)
   | (with_reducible exact LeO.refl _)
   | (with_reducible exact LeO.none _)
   | (with_reducible refine LeO.ite ?_ ?_)
   | (with_reducible refine LeO.bind ?_ (fun _ => ?_))
   | exact ih0 _ _ _
   | exact dactylref05_At.mono _ _ _ _
   | exact LeO.none _
   | refine LeO.ite ?_ ?_
   | refine LeO.bind ?_ (fun _ => ?_)
theorem dactylref05_Back.mono : ∀ a0 a1 k, LeO (dactylref05_Back.f k a0 a1) (dactylref05_Back.f (k + 1) a0 a1) := by
 intro a0 a1 k
 have ih0 := dactylref05_Back.mono_l k
 unfold dactylref05_Back.f
 repeat' first
   | (with_reducible exact ih0 _ _ _)
   | (with_reducible exact dactylref05_At.mono _ _ _ _)
   | (with_reducible exact LeO.refl _)
   | (with_reducible exact LeO.none _)
   | (with_reducible refine LeO.ite ?_ ?_)
   | (with_reducible refine LeO.bind ?_ (fun _ => ?_))
   | exact ih0 _ _ _
   | exact dactylref05_At.mono _ _ _ _
   | exact LeO.none _
   | refine LeO.ite ?_ ?_
   | refine LeO.bind ?_ (fun _ => ?_)
set_option maxHeartbeats 8000000 in
set_option maxRecDepth 100000 in
theorem dactylref05_Back.calls (k : Nat) (A0 : Option Addr) (c0 : Nat) (l0 : List (S47)) (a1 : Int) (r : Int) (w : World) (hr0 : Kd.C k47 w A0 l0.length l0) (hc0 : l0.length ≤ c0) (h : dactylref05_Back.f k l0 a1 = some r) :
  Calls Try.prog 74 #[.slice A0 l0.length c0, .int .i64 a1] w fun e w' => e = .returned (.int .i64 r) ∧ Below w.heap.size w w' := by
 have HR0 := Aside0.mk hr0
 have HC0 := Aside0.mk hc0
 clear hr0 hc0
 have HB := Aside0.mk (Below.refl w.heap.size w)
 have H : (dactylref05_Back.l0 k l0 a1 (l0.length : Int)) = some r := h
 clear h
 have H' := Aside0.mk H
 clear H
 go_enter Try.func74, Try.ntmps74
 go_wp2
 go_loopg [5] k (fun kq v5 w' => ∃ (x5_1 : Int), v5 = .int .i64 x5_1 ∧ Aside0 (dactylref05_Back.l0 kq l0 a1 x5_1 = some r) ∧ Aside0 (kq ≤ k) ∧ Aside0 (Below w.heap.size w w'))
 case atStart => exact ⟨((l0.length : Int)), (by first | rfl | (simp; done) | (simp [*]; done)), H', ⟨Nat.le_refl _⟩, ⟨by repeat (first | exact HB.out | apply below_alloc | apply pw_below_drewN | apply below_drew1)⟩⟩
 case round =>
  clear H'
  try clear p2
  obtain ⟨x5_1, rfl, HA, HK1, HB⟩ := hrel
  cases gk with
  | zero => exact absurd HA.out (by simp [dactylref05_Back.l0])
  | succ k1 =>
   have H := HA.out
   clear HA
   simp only [dactylref05_Back.l0] at H
   by_cases c3 : x5_1 ≥ 0
   ·rw [if_pos c3] at H
    have c3b0 : decide (0 ≤ x5_1) = true := decide_eq_true c3
    clear c3
    replace H := Option.bind_eq_some_iff.mp H
    obtain ⟨t101, A40, H⟩ := H
    try dsimp only at H
    have A4 := Aside0.mk A40
    clear A40
    by_cases c5 : x5_1 < t101
    ·rw [if_pos c5] at H
     have c5b0 : decide (x5_1 < t101) = true := decide_eq_true c5
     clear c5
     replace H := Option.bind_eq_some_iff.mp H
     obtain ⟨t102, A60, H⟩ := H
     try dsimp only at H
     have A6 := Aside0.mk A60
     clear A60
     by_cases c7 : t102 = 1
     ·rw [if_pos c7] at H
      have c7b0 : (t102 == 1) = true := beq_iff_eq.mpr c7
      have c7b1 : (t102 != 1) = false := bne_eq_false_iff_eq.mpr c7
      clear c7
      replace H := Option.bind_eq_some_iff.mp H
      obtain ⟨t103, A80, H⟩ := H
      try dsimp only at H
      have A8 := Aside0.mk A80
      clear A80
      by_cases c9 : t103 = 1
      ·rw [if_pos c9] at H
       have c9b0 : (t103 == 1) = true := beq_iff_eq.mpr c9
       have c9b1 : (t103 != 1) = false := bne_eq_false_iff_eq.mpr c9
       clear c9
       have H' := Aside0.mk H
       clear H
       go_wp2_with (first | ((with_reducible refine gate_callee (f := 120) rfl ?_); refine gL (some 15) Try.func120 (by kernel_rfl) #[.slice A0 l0.length c0, .int .i64 a1] rfl rfl rfl rfl rfl ?_; (with_reducible refine (dactylref05_Place.calls _ _ l0 a1 t101 _ ?side1 ?side2 A4.out).mono ?_); (case side1 => repeat (first | exact (Kd.C_below HR0.out HB.out) | (with_reducible refine Kd.C_alloc ?_ _) | (with_reducible refine Kd.C_drewN ?_ _) | (with_reducible refine Kd.C_drew ?_))); (case side2 => exact HC0.out); rintro e w' ⟨rfl, ⟨nd, rfl⟩⟩; refine ⟨_, rfl, ?_⟩) | (go_at_call 76; (with_reducible refine (dactylref05_At.calls k1 _ _ l0 x5_1 false t102 _ ?side1 ?side2 A6.out).mono ?_); (case side1 => repeat (first | exact (Kd.C_below HR0.out (by repeat (first | exact HB.out | apply below_alloc | apply pw_below_drewN | apply below_drew1))) | (with_reducible refine Kd.C_alloc ?_ _) | (with_reducible refine Kd.C_drewN ?_ _) | (with_reducible refine Kd.C_drew ?_))); (case side2 => exact HC0.out); rintro e w10 ⟨rfl, hb⟩; replace HB := a0 (below_step (by repeat (first | exact HB.out | apply below_alloc | apply pw_below_drewN | apply below_drew1)) hb); (try clear hb); (try clear hb2); (try clear hk); (try clear hi)) | (go_at_call 76; (with_reducible refine (dactylref05_At.calls k1 _ _ l0 (wrap64 (x5_1 - 1)) false t103 _ ?side1 ?side2 A8.out).mono ?_); (case side1 => repeat (first | exact (Kd.C_below HR0.out HB.out) | (with_reducible refine Kd.C_alloc ?_ _) | (with_reducible refine Kd.C_drewN ?_ _) | (with_reducible refine Kd.C_drew ?_))); (case side2 => exact HC0.out); rintro e w11 ⟨rfl, hb⟩; replace HB := a0 (below_step (by repeat (first | exact HB.out | apply below_alloc | apply pw_below_drewN | apply below_drew1)) hb); (try clear hb); (try clear hb2); (try clear hk); (try clear hi)))
       go_roundg k1
       case measure => have := HK1.out; omega
       case rel => exact ⟨(wrap64 (x5_1 - 1)), (by first | rfl | (simp; done) | (simp [*]; done)), H', ⟨by have := HK1.out; omega⟩, ⟨by repeat (first | exact HB.out | apply below_alloc | apply pw_below_drewN | apply below_drew1)⟩⟩
      ·rw [if_neg c9] at H
       have c9b0 : (t103 == 1) = false := beq_eq_false_iff_ne.mpr c9
       have c9b1 : (t103 != 1) = true := bne_iff_ne.mpr c9
       obtain rfl := Option.some.inj H
       go_wp2_with (first | ((with_reducible refine gate_callee (f := 120) rfl ?_); refine gL (some 15) Try.func120 (by kernel_rfl) #[.slice A0 l0.length c0, .int .i64 a1] rfl rfl rfl rfl rfl ?_; (with_reducible refine (dactylref05_Place.calls _ _ l0 a1 t101 _ ?side1 ?side2 A4.out).mono ?_); (case side1 => repeat (first | exact (Kd.C_below HR0.out HB.out) | (with_reducible refine Kd.C_alloc ?_ _) | (with_reducible refine Kd.C_drewN ?_ _) | (with_reducible refine Kd.C_drew ?_))); (case side2 => exact HC0.out); rintro e w' ⟨rfl, ⟨nd, rfl⟩⟩; refine ⟨_, rfl, ?_⟩) | (go_at_call 76; (with_reducible refine (dactylref05_At.calls k1 _ _ l0 x5_1 false t102 _ ?side1 ?side2 A6.out).mono ?_); (case side1 => repeat (first | exact (Kd.C_below HR0.out (by repeat (first | exact HB.out | apply below_alloc | apply pw_below_drewN | apply below_drew1))) | (with_reducible refine Kd.C_alloc ?_ _) | (with_reducible refine Kd.C_drewN ?_ _) | (with_reducible refine Kd.C_drew ?_))); (case side2 => exact HC0.out); rintro e w12 ⟨rfl, hb⟩; replace HB := a0 (below_step (by repeat (first | exact HB.out | apply below_alloc | apply pw_below_drewN | apply below_drew1)) hb); (try clear hb); (try clear hb2); (try clear hk); (try clear hi)) | (go_at_call 76; (with_reducible refine (dactylref05_At.calls k1 _ _ l0 (wrap64 (x5_1 - 1)) false t103 _ ?side1 ?side2 A8.out).mono ?_); (case side1 => repeat (first | exact (Kd.C_below HR0.out HB.out) | (with_reducible refine Kd.C_alloc ?_ _) | (with_reducible refine Kd.C_drewN ?_ _) | (with_reducible refine Kd.C_drew ?_))); (case side2 => exact HC0.out); rintro e w13 ⟨rfl, hb⟩; replace HB := a0 (below_step (by repeat (first | exact HB.out | apply below_alloc | apply pw_below_drewN | apply below_drew1)) hb); (try clear hb); (try clear hb2); (try clear hk); (try clear hi)))
       go_ret
       exact ⟨by first | rfl | (simp [errW_none, errW_some] <;> rfl) | (simp [*, errW_none, errW_some] <;> rfl), by repeat (first | exact HB.out | apply below_alloc | apply pw_below_drewN | apply below_drew1)⟩
     ·rw [if_neg c7] at H
      have c7b0 : (t102 == 1) = false := beq_eq_false_iff_ne.mpr c7
      have c7b1 : (t102 != 1) = true := bne_iff_ne.mpr c7
      have H' := Aside0.mk H
      clear H
      go_wp2_with (first | ((with_reducible refine gate_callee (f := 120) rfl ?_); refine gL (some 15) Try.func120 (by kernel_rfl) #[.slice A0 l0.length c0, .int .i64 a1] rfl rfl rfl rfl rfl ?_; (with_reducible refine (dactylref05_Place.calls _ _ l0 a1 t101 _ ?side1 ?side2 A4.out).mono ?_); (case side1 => repeat (first | exact (Kd.C_below HR0.out HB.out) | (with_reducible refine Kd.C_alloc ?_ _) | (with_reducible refine Kd.C_drewN ?_ _) | (with_reducible refine Kd.C_drew ?_))); (case side2 => exact HC0.out); rintro e w' ⟨rfl, ⟨nd, rfl⟩⟩; refine ⟨_, rfl, ?_⟩) | (go_at_call 76; (with_reducible refine (dactylref05_At.calls k1 _ _ l0 x5_1 false t102 _ ?side1 ?side2 A6.out).mono ?_); (case side1 => repeat (first | exact (Kd.C_below HR0.out (by repeat (first | exact HB.out | apply below_alloc | apply pw_below_drewN | apply below_drew1))) | (with_reducible refine Kd.C_alloc ?_ _) | (with_reducible refine Kd.C_drewN ?_ _) | (with_reducible refine Kd.C_drew ?_))); (case side2 => exact HC0.out); rintro e w14 ⟨rfl, hb⟩; replace HB := a0 (below_step (by repeat (first | exact HB.out | apply below_alloc | apply pw_below_drewN | apply below_drew1)) hb); (try clear hb); (try clear hb2); (try clear hk); (try clear hi)))
      go_roundg k1
      case measure => have := HK1.out; omega
      case rel => exact ⟨(wrap64 (x5_1 - 1)), (by first | rfl | (simp; done) | (simp [*]; done)), H', ⟨by have := HK1.out; omega⟩, ⟨by repeat (first | exact HB.out | apply below_alloc | apply pw_below_drewN | apply below_drew1)⟩⟩
    ·rw [if_neg c5] at H
     have c5b0 : decide (x5_1 < t101) = false := decide_eq_false c5
     clear c5
     have H' := Aside0.mk H
     clear H
     go_wp2_with (first | ((with_reducible refine gate_callee (f := 120) rfl ?_); refine gL (some 15) Try.func120 (by kernel_rfl) #[.slice A0 l0.length c0, .int .i64 a1] rfl rfl rfl rfl rfl ?_; (with_reducible refine (dactylref05_Place.calls _ _ l0 a1 t101 _ ?side1 ?side2 A4.out).mono ?_); (case side1 => repeat (first | exact (Kd.C_below HR0.out HB.out) | (with_reducible refine Kd.C_alloc ?_ _) | (with_reducible refine Kd.C_drewN ?_ _) | (with_reducible refine Kd.C_drew ?_))); (case side2 => exact HC0.out); rintro e w' ⟨rfl, ⟨nd, rfl⟩⟩; refine ⟨_, rfl, ?_⟩))
     go_roundg k1
     case measure => have := HK1.out; omega
     case rel => exact ⟨(wrap64 (x5_1 - 1)), (by first | rfl | (simp; done) | (simp [*]; done)), H', ⟨by have := HK1.out; omega⟩, ⟨by repeat (first | exact HB.out | apply below_alloc | apply pw_below_drewN | apply below_drew1)⟩⟩
   ·rw [if_neg c3] at H
    have c3b0 : decide (0 ≤ x5_1) = false := decide_eq_false c3
    clear c3
    obtain rfl := Option.some.inj H
    go_wp2
    go_ret
    exact ⟨by first | rfl | (simp [errW_none, errW_some] <;> rfl) | (simp [*, errW_none, errW_some] <;> rfl), by repeat (first | exact HB.out | apply below_alloc | apply pw_below_drewN | apply below_drew1)⟩

end Go.Proofs.Ytemoocoedibbpab.X

namespace Go.Proofs.Ytemoocoedibbpab.X
open Go.RowKit Go.Proofs.YtemoocoedibbpabW.PrintWords Go.Proofs.YtemoocoedibbpabW.PrintLast Go.Proofs.YtemoocoedibbpabW.PrintMore
attribute [local go_sem] max2_int min2_int max_two min_two max_three min_three max_four min_four
set_option linter.unusedVariables false
set_option linter.unusedSimpArgs false

def letterB (v : Int) : Bool := decide (97 ≤ v ∧ v ≤ 122) || decide (65 ≤ v ∧ v ≤ 90) || decide (48 ≤ v ∧ v ≤ 57) || decide (v = 95)
def kindK (v c : Int) : Int := if letterB v = true then 1 else if 128 ≤ v ∧ 1 ≤ c ∧ c ≤ 3 then 1 else 2
def kindV (v : Int) : Int := if v = 9 ∨ v = 10 ∨ v = 13 ∨ v = 32 ∨ cls v = 10 then 0 else kindK v (cls v)
theorem word_Kind_f (v : Int) (k : Nat) (hk : 2 ≤ k) : word_Kind.f k v = some (kindV v) := by
  unfold word_Kind.f
  rw [class_Of_f v _ (by omega), Option.bind_some]
  congr 1
  unfold wkind kindV kindK letterB
  simp only [Bool.or_eq_true, decide_eq_true_eq]
  (repeat' split) <;> first | rfl | (exfalso; omega)
theorem kindT_eq (v : Int) : kindT v = kindV v := by
  have := kindT_f v
  rw [word_Kind_f v 9 (by omega)] at this
  exact (Option.some.inj this).symm
theorem ref_Kind5_f (v : Int) (k : Nat) (hk : 52 ≤ k) : dactylref05_Kind.f k v = some (kindV v) := by
  unfold dactylref05_Kind.f
  rw [ref_Of_f v _ (by omega), Option.bind_some]
  congr 1
  unfold kind5 kindV kindK letterB
  simp only [Bool.or_eq_true, decide_eq_true_eq]
  (repeat' split) <;> first | rfl | (exfalso; omega)
theorem kindV_range (v : Int) : 0 ≤ kindV v ∧ kindV v ≤ 2 := by unfold kindV kindK; (repeat' split) <;> decide
/-- The reference's kind at a place; 9: nothing. -/
def rAt (l : List S47) (i : Int) : Int := if i < 0 then 9 else if i ≥ (l.length : Int) then 9 else kindV (rd_T47 l i).f0
theorem ref_At_f (l : List S47) (i : Int) (k : Nat) (hk : 54 ≤ k) : dactylref05_At.f k l i false = some (rAt l i) := by
  obtain ⟨k, rfl⟩ : ∃ m, k = m + 1 := ⟨k - 1, by omega⟩
  unfold dactylref05_At.f rAt
  simp only [dactylref05_At.j0]
  by_cases c : i < 0
  · simp [c]
  · rw [if_neg c, if_neg c]
    by_cases d : i ≥ (l.length : Int)
    · simp [d]
    · rw [if_neg d, if_neg (by simpa using d), if_pos (by omega), if_pos (by omega), ref_Kind5_f _ _ (by omega)]
      simp
theorem rAt_one (l : List S47) (i : Int) : rAt l i = 1 ↔ kAt l i = 1 := by
  unfold rAt kAt
  rw [kindT_eq]
  (repeat' split) <;> simp
theorem High0_f (a : Int) : dactylref01_High.f a 0 = some (if a < 0 then 0 else a) := by
  unfold dactylref01_High.f
  by_cases h : a > 0
  · rw [if_pos h, if_neg (by omega)]
  · rw [if_neg h]
    by_cases h2 : a < 0
    · rw [if_pos h2]
    · rw [if_neg h2]; congr 1; omega
theorem Low_f (a b : Int) : dactylref01_Low.f a b = some (if b < a then b else a) := by
  unfold dactylref01_Low.f
  by_cases h : a < b
  · rw [if_pos h, if_neg (by omega)]
  · rw [if_neg h]
    by_cases h2 : b < a
    · rw [if_pos h2]
    · rw [if_neg h2]; congr 1; omega
theorem ref_Place5_f (l : List S47) (a : Int) : dactylref05_Place.f l a = some (pl a l.length) := by
  unfold dactylref05_Place.f
  rw [High0_f, Option.bind_some, Low_f, Option.bind_some]
  rfl
theorem ref_Place16_f (n : Nat) (a : Int) : dactylref16_Place.f (n : Int) a = some (pl a n) := by
  unfold dactylref16_Place.f
  rw [High0_f, Option.bind_some, Low_f, Option.bind_some]
  rfl
theorem nextSo_iff (l : List S47) (i : Int) : nextSo l i = true ↔ rAt l (i - 1) = 1 ∧ rAt l i ≠ 1 := by
  unfold nextSo
  rw [rAt_one, ne_eq, rAt_one]
  split <;> simp [*]
theorem backSo_iff (l : List S47) (i : Int) : backSo l i = true ↔ rAt l i = 1 ∧ rAt l (i - 1) ≠ 1 := by
  unfold backSo
  rw [rAt_one, ne_eq, rAt_one]
  split <;> simp [*]
theorem ref_Next_l0 (l : List S47) (a : Int) (hl : l.length ≤ 100000) : ∀ (d k i : Nat), d + i = l.length + 1 → d + 60 < k → dactylref05_Next.l0 k l a (i : Int) = some (if (i : Int) ≤ pl a l.length then upP (nextSo l) l.length (l.length - (pl a l.length).toNat) (pl a l.length + 1) else upP (nextSo l) l.length d i) := by
  obtain ⟨p0, p1⟩ := pl_range a l.length
  intro d
  induction d with
  | zero =>
    intro k i h1 h2
    obtain ⟨k, rfl⟩ : ∃ m, k = m + 1 := ⟨k - 1, by omega⟩
    simp only [dactylref05_Next.l0]
    rw [if_neg (by omega), if_neg (by omega)]
    rfl
  | succ d ih =>
    intro k i h1 h2
    obtain ⟨k, rfl⟩ : ∃ m, k = m + 1 := ⟨k - 1, by omega⟩
    have hi := ih k (i + 1) (by omega) (by omega)
    have e1 : wrap64 ((i : Int) + 1) = ((i + 1 : Nat) : Int) := by rw [w64 (by omega) (by omega)]; omega
    have e2 : wrap64 ((i : Int) - 1) = (i : Int) - 1 := w64 (by omega) (by omega)
    simp only [dactylref05_Next.l0]
    rw [if_pos (by omega), ref_Place5_f, Option.bind_some, e1, e2, hi]
    by_cases hp : (i : Int) > pl a l.length
    · rw [if_pos hp, ref_At_f l _ _ (by omega), Option.bind_some, ref_At_f l _ _ (by omega), Option.bind_some, if_neg (show ¬ (((i + 1 : Nat) : Int) ≤ pl a l.length) by omega), if_neg (show ¬ ((i : Int) ≤ pl a l.length) by omega), upP]
      have hn := nextSo_iff l (i : Int)
      by_cases c1 : rAt l ((i : Int) - 1) = 1
      · by_cases c2 : rAt l (i : Int) = 1
        · rw [if_pos c1, if_pos c2, if_neg (by rw [hn]; exact fun h => h.2 c2)]; push_cast; rfl
        · rw [if_pos c1, if_neg c2, if_pos (by rw [hn]; exact ⟨c1, c2⟩)]
      · rw [if_neg c1, if_neg (by rw [hn]; exact fun h => c1 h.1)]; push_cast; rfl
    · rw [if_neg hp, if_pos (show (i : Int) ≤ pl a l.length by omega)]
      by_cases hq : ((i + 1 : Nat) : Int) ≤ pl a l.length
      · rw [if_pos hq]
      · rw [if_neg hq]
        congr 1
        rw [show ((i + 1 : Nat) : Int) = pl a l.length + 1 by omega]
        congr 1
        omega
theorem ref_Next_f (l : List S47) (a : Int) (hl : l.length ≤ 100000) (k : Nat) (hk : l.length + 62 < k) : dactylref05_Next.f k l a = word_Next.f l a := by
  obtain ⟨p0, p1⟩ := pl_range a l.length
  unfold dactylref05_Next.f word_Next.f
  rw [if_pos (by omega), show (0 : Int) = ((0 : Nat) : Int) from rfl, ref_Next_l0 l a hl (l.length + 1) k 0 (by omega) (by omega), if_pos (by omega)]
theorem ref_Back_l0 (l : List S47) (a : Int) (hl : l.length ≤ 100000) : ∀ (d k : Nat), d ≤ l.length + 1 → d + 60 < k → dactylref05_Back.l0 k l a ((d : Int) - 1) = some (if pl a l.length ≤ (d : Int) - 1 then downP (backSo l) ((pl a l.length).toNat - 1) (pl a l.length - 1) else downP (backSo l) (d - 1) ((d : Int) - 1)) := by
  obtain ⟨p0, p1⟩ := pl_range a l.length
  intro d
  induction d with
  | zero =>
    intro k h1 h2
    obtain ⟨k, rfl⟩ : ∃ m, k = m + 1 := ⟨k - 1, by omega⟩
    simp only [dactylref05_Back.l0]
    rw [if_neg (by omega), if_neg (by omega)]
    rfl
  | succ d ih =>
    intro k h1 h2
    obtain ⟨k, rfl⟩ : ∃ m, k = m + 1 := ⟨k - 1, by omega⟩
    have hi := ih k (by omega) (by omega)
    have e0 : (((d + 1 : Nat) : Int) - 1) = (d : Int) := by omega
    have e2 : wrap64 ((d : Int) - 1) = (d : Int) - 1 := w64 (by omega) (by omega)
    rw [e0]
    simp only [dactylref05_Back.l0]
    rw [if_pos (by omega), ref_Place5_f, Option.bind_some, e2, hi]
    by_cases hp : (d : Int) < pl a l.length
    · rw [if_pos hp, ref_At_f l _ _ (by omega), Option.bind_some, ref_At_f l _ _ (by omega), Option.bind_some, if_neg (show ¬ (pl a l.length ≤ (d : Int) - 1) by omega), if_neg (show ¬ (pl a l.length ≤ (d : Int)) by omega)]
      have hn := backSo_iff l (d : Int)
      cases d with
      | zero =>
        simp only [Nat.zero_add, Nat.sub_self, Nat.zero_sub, downP]
        (repeat' split) <;> rfl
      | succ d =>
        rw [show d + 1 + 1 - 1 = d + 1 by omega, downP]
        by_cases c1 : rAt l ((d + 1 : Nat) : Int) = 1
        · by_cases c2 : rAt l (((d + 1 : Nat) : Int) - 1) = 1
          · rw [if_pos c1, if_pos c2, if_neg (by rw [hn]; exact fun h => h.2 c2)]; rfl
          · rw [if_pos c1, if_neg c2, if_pos (by rw [hn]; exact ⟨c1, c2⟩)]
        · rw [if_neg c1, if_neg (by rw [hn]; exact fun h => c1 h.1)]; rfl
    · rw [if_neg hp, if_pos (show pl a l.length ≤ (d : Int) by omega)]
      by_cases hq : pl a l.length ≤ (d : Int) - 1
      · rw [if_pos hq]
      · rw [if_neg hq, show pl a l.length = (d : Int) by omega]
        simp
theorem ref_Back_f (l : List S47) (a : Int) (hl : l.length ≤ 100000) (k : Nat) (hk : l.length + 62 < k) : dactylref05_Back.f k l a = word_Back.f l a := by
  obtain ⟨p0, p1⟩ := pl_range a l.length
  unfold dactylref05_Back.f word_Back.f
  rw [if_pos (by omega), show (l.length : Int) = ((l.length + 1 : Nat) : Int) - 1 by omega, ref_Back_l0 l a hl (l.length + 1) k (by omega) (by omega)]
  by_cases hq : pl a l.length ≤ ((l.length + 1 : Nat) : Int) - 1
  · rw [if_pos hq]
  · omega
theorem upP_range (so : Int → Bool) (or : Int) (n : Nat) : ∀ i : Int, (i ≤ upP so or n i ∧ upP so or n i < i + n) ∨ upP so or n i = or := by
  induction n with
  | zero => intro i; right; rfl
  | succ n ih =>
    intro i
    rw [upP]
    split
    · left; omega
    · rcases ih (i + 1) with h | h
      · left; omega
      · right; exact h
theorem downP_range (so : Int → Bool) (n : Nat) : ∀ i : Int, (i - n < downP so n i ∧ downP so n i ≤ i ∧ so (downP so n i) = true) ∨ downP so n i = 0 := by
  induction n with
  | zero => intro i; right; rfl
  | succ n ih =>
    intro i
    rw [downP]
    split
    · rename_i h; left; exact ⟨by omega, by omega, h⟩
    · rcases ih (i - 1) with h | h
      · left; exact ⟨by omega, by omega, h.2.2⟩
      · right; exact h
/-- Where the next word ends; where the word ahead begins. -/
def nextV (l : List S47) (a : Int) : Int := upP (nextSo l) l.length (l.length - (pl a l.length).toNat) (pl a l.length + 1)
def backV (l : List S47) (a : Int) : Int := downP (backSo l) ((pl a l.length).toNat - 1) (pl a l.length - 1)
theorem word_Next_f (l : List S47) (a : Int) (hl : l.length ≤ 100000) : word_Next.f l a = some (nextV l a) := by unfold word_Next.f; rw [if_pos (by omega)]; rfl
theorem word_Back_f (l : List S47) (a : Int) (hl : l.length ≤ 100000) : word_Back.f l a = some (backV l a) := by unfold word_Back.f; rw [if_pos (by omega)]; rfl
theorem nextV_range (l : List S47) (a : Int) : pl a l.length ≤ nextV l a ∧ nextV l a ≤ l.length := by
  obtain ⟨p0, p1⟩ := pl_range a l.length
  unfold nextV
  rcases upP_range (nextSo l) l.length (l.length - (pl a l.length).toNat) (pl a l.length + 1) with h | h <;> omega
theorem backV_range (l : List S47) (a : Int) : 0 ≤ backV l a ∧ backV l a ≤ pl a l.length ∧ (0 < backV l a → backV l a < pl a l.length) := by
  obtain ⟨p0, p1⟩ := pl_range a l.length
  unfold backV
  rcases downP_range (backSo l) ((pl a l.length).toNat - 1) (pl a l.length - 1) with h | h <;> omega

end Go.Proofs.Ytemoocoedibbpab.X

namespace Go.Proofs.Ytemoocoedibbpab.X
open Go.RowKit Go.Proofs.YtemoocoedibbpabW.PrintWords Go.Proofs.YtemoocoedibbpabW.PrintLast Go.Proofs.YtemoocoedibbpabW.PrintMore
attribute [local go_sem] max2_int min2_int max_two min_two max_three min_three max_four min_four
set_option linter.unusedVariables false
set_option linter.unusedSimpArgs false

/-! ### dactylref17_Swap: function 31 -/
def dactylref17_Swap.j0 : Nat → Bool → List (S47) → Int → Option ((List (S47)) × Int × Bool)
 | 0, _, _, _ => none
 | k + 1, x14, x102000, x102001 => if x14 = true then (some (x102000, x102001, false)) else ((dactylref01_Low.f x102001 (wrap64 ((x102000.length : Int) - 1))).bind fun t103 => (if 0 ≤ (wrap64 (t103 - 1)) then (if (wrap64 (t103 - 1)) ≤ (x102000.length : Int) then (if 0 ≤ t103 then (if t103 < (x102000.length : Int) then (if (wrap64 (t103 - 1)) < (x102000.length : Int) then ((dactylref04_Join.f (x102000.take ((wrap64 (t103 - 1)) : Int).toNat) (([(⟨(rd_T47 x102000 t103).f0, (rd_T47 x102000 t103).f1⟩ : S47), (⟨(rd_T47 x102000 (wrap64 (t103 - 1))).f0, (rd_T47 x102000 (wrap64 (t103 - 1))).f1⟩ : S47)] : List (S47)))).bind fun t114 => (if 0 ≤ (wrap64 (t103 + 1)) then (if (wrap64 (t103 + 1)) ≤ (x102000.length : Int) then ((some (x102000.drop ((wrap64 (t103 + 1)) : Int).toNat : List (S47))).bind fun y117 => (if t114.length + y117.length < 8796093022208 then (some ((t114 ++ y117), wrap64 (t103 + 1), true)) else (none))) else (none)) else (none))) else (none)) else (none)) else (none)) else (none)) else (none)))
def dactylref17_Swap.f (k : Nat) (l0_0 : List (S47)) (a0_1 : Int) : Option ((List (S47)) × Int × Bool) := if a0_1 = 0 then (dactylref17_Swap.j0 k true l0_0 a0_1) else (dactylref17_Swap.j0 k (decide ((l0_0.length : Int) < 2)) l0_0 a0_1)
theorem dactylref17_Swap.mono_l : ∀ k, (∀ y0 y1 y2, LeO (dactylref17_Swap.j0 k y0 y1 y2) (dactylref17_Swap.j0 (k + 1) y0 y1 y2))
 | 0 => fun _ _ _ r h => by simp [dactylref17_Swap.j0] at h
 | k + 1 => by
  have ih0 := dactylref17_Swap.mono_l k
  ·intro y0 y1 y2
   unfold dactylref17_Swap.j0
   repeat' first
   | (with_reducible exact ih0 _ _ _)
   | (with_reducible exact LeO.refl _)
   | (with_reducible exact LeO.none _)
   | (with_reducible refine LeO.ite ?_ ?_)
   | (with_reducible refine LeO.bind ?_ (fun _ => ?_))
   | exact ih0 _ _ _
   | exact LeO.none _
   | refine LeO.ite ?_ ?_
   | refine LeO.bind ?_ (fun _ => ?_)
theorem dactylref17_Swap.mono : ∀ a0 a1 k, LeO (dactylref17_Swap.f k a0 a1) (dactylref17_Swap.f (k + 1) a0 a1) := by
 intro a0 a1 k
 have ih0 := dactylref17_Swap.mono_l k
 unfold dactylref17_Swap.f
 repeat' first
   | (with_reducible exact ih0 _ _ _)
   | (with_reducible exact LeO.refl _)
   | (with_reducible exact LeO.none _)
   | (with_reducible refine LeO.ite ?_ ?_)
   | (with_reducible refine LeO.bind ?_ (fun _ => ?_))
   | exact ih0 _ _ _
   | exact LeO.none _
   | refine LeO.ite ?_ ?_
   | refine LeO.bind ?_ (fun _ => ?_)
def dactylref17_Swap.T4 : Bool × List (List Nat × List Nat) := (true, [([], []), ([0], [0]), ([], []), ([2], [2]), ([1, 3], [1, 3]), ([], []), ([5], [5]), ([], []), ([6, 7], [6, 7]), ([8], [8]), ([], []), ([10], [10]), ([], []), ([12], [12]), ([11, 13], [11, 13]), ([14], [14]), ([9, 15], [9, 15]), ([4, 16], [4, 16]), ([17, 17, 0, 1, 2, 3, 4, 5, 6, 7, 8, 9, 10, 11, 12, 13, 14, 15, 16, 17], [17])])
def dactylref17_Swap.B4 : List Nat := [0, 1, 0, 4, 15, 0, 32, 0, 224, 480, 0, 1024, 0, 4096, 15360, 31744, 65504, 131071, 262143]
theorem dactylref17_Swap.tab4 : rtab .any (opsOf Try.f31 4) = dactylref17_Swap.T4 := by kernel_rfl
theorem dactylref17_Swap.bits4 : waitsOk dactylref17_Swap.T4.2 dactylref17_Swap.B4 = true := by kernel_rfl
set_option maxHeartbeats 8000000 in
set_option maxRecDepth 100000 in
theorem dactylref17_Swap.calls (k : Nat) (P0_0_ : Nat → Prop) (A0_0 : Option Addr) (c0_0 : Nat) (l0_0 : List (S47)) (a0_1 : Int) (r1 : List (S47)) (r2 : Int) (r3 : Bool) (w : World) (hs0_0 : Kd.V k47 47 w w.heap.size (fun k_ => P0_0_ k_) (.slice A0_0 l0_0.length c0_0) l0_0) (h : dactylref17_Swap.f k l0_0 a0_1 = some (r1, r2, r3)) :
  Calls Try.prog 31 #[.agg #[.slice A0_0 l0_0.length c0_0, .int .i64 a0_1]] w fun e w' => ∃ v0_ : Value, e = .returned (.tuple #[.agg #[v0_, .int .i64 r2], .bool r3]) ∧ Kd.V k47 47 w' w.heap.size (fun k_ => (P0_0_ k_ ∨ w.heap.size ≤ k_)) v0_ r1 ∧ Below w.heap.size w w' := by
 have hu24 := Try.underlying24
 have hu47 := Try.underlying47
 have HO0_0 := Aside0.mk (show Kd.V k47 47 w w.heap.size (fun k_ => (P0_0_ k_ ∨ w.heap.size ≤ k_)) (.slice A0_0 l0_0.length c0_0) l0_0 from Kd.V_mono hs0_0 (fun k_ hk => .inl hk))
 have HB := Aside0.mk (Below.refl w.heap.size w)
 have H : (if a0_1 = 0 then (dactylref17_Swap.j0 k true l0_0 a0_1) else (dactylref17_Swap.j0 k (decide ((l0_0.length : Int) < 2)) l0_0 a0_1)) = some (r1, r2, r3) := h
 clear h
 have HC2 := Aside0.mk H
 clear H
 go_enter Try.func31, Try.ntmps31
 go_upto_region 1 with (first | ((with_reducible refine gate_dst (N := 1) rfl ?_); (try (refine gate_guard (by rfl) ?_; dsimp only)); refine box_event ?hg (N := 1) ?hd (cs := #[.slice A0_0 l0_0.length c0_0, .int .i64 a0_1]) (t := 24) ?hr ?_; (case hd => rfl); (case hg => rfl); (case hr => first | (go_simp; done) | (go_simp; rfl)); intro gb101 hg w3 hbox hb; replace HO0_0 := a0 (Kd.V_below (Kd.V_elderB HO0_0.out gb101 (Nat.le_of_eq hg.symm)) hb); have BK101 := a0 (hbox); have GW101 := a0 ((by rw [hg]; exact (below_size (by repeat (first | exact HB.out | apply below_alloc | apply pw_below_drewN | apply below_drew1))) : w.heap.size ≤ gb101)); have GE101 := a0 ((by rw [hg]; exact (below_size (by repeat (first | exact HB.out | apply below_alloc | apply pw_below_drewN | apply below_drew1))) : w.heap.size ≤ gb101)); replace HB := a0 (below_step (by repeat (first | exact HB.out | apply below_alloc | apply pw_below_drewN | apply below_drew1)) hb); clear hb hbox hg) | ((with_reducible refine gate_dst (N := 2) rfl ?_); (try (refine gate_guard (by rfl) ?_; dsimp only)); refine box_event ?hg (N := 2) ?hd (cs := #[.slice none 0 0, .int .i64 0]) (t := 24) ?hr ?_; (case hd => rfl); (case hg => rfl); (case hr => first | (go_simp; done) | (go_simp; rfl)); intro gb102 hg w4 hbox hb; replace HO0_0 := a0 (Kd.V_below (Kd.V_elderB HO0_0.out gb102 (Nat.le_of_eq hg.symm)) hb); have BK102 := a0 (hbox); have GW102 := a0 ((by rw [hg]; exact (below_size (by repeat (first | exact HB.out | apply below_alloc | apply pw_below_drewN | apply below_drew1 | refine below_set ?_ GE101.out))) : w.heap.size ≤ gb102)); have GE102 := a0 ((by rw [hg]; exact (below_size (by repeat (first | exact HB.out | apply below_alloc | apply pw_below_drewN | apply below_drew1 | refine below_set ?_ GE101.out))) : w.heap.size ≤ gb102)); replace HB := a0 (below_step (by repeat (first | exact HB.out | apply below_alloc | apply pw_below_drewN | apply below_drew1 | refine below_set ?_ GE101.out)) hb); have NB101_102 := a0 ((by rw [hg]; exact Nat.ne_of_lt (blk_lt BK101.out) : gb101 ≠ gb102)); have NB102_101 := a0 ((by rw [hg]; exact Nat.ne_of_gt (blk_lt BK101.out) : gb102 ≠ gb101)); replace BK101 := a0 (bB hb BK101.out); clear hb hbox hg))
 (try simp only [Act.put, List.setIfInBounds_toArray, List.set_cons_zero, List.set_cons_succ])
 go_cut [14] (fun v14 wc => ∃ (kq : Nat) (x14_1 : Bool), v14 = .bool x14_1 ∧ Aside0 (dactylref17_Swap.j0 kq x14_1 l0_0 a0_1 = some (r1, r2, r3)) ∧ Aside0 (kq ≤ k) ∧ Aside0 (Kd.V k47 47 wc w.heap.size (fun k_ => (P0_0_ k_ ∨ w.heap.size ≤ k_) ∧ k_ ≠ gb101 ∧ k_ ≠ gb102) (.slice A0_0 l0_0.length c0_0) l0_0) ∧ Aside0 (wc.heap[gb101]? = some (.cells #[(.slice A0_0 l0_0.length c0_0), .int .i64 a0_1] 24 (0, 0))) ∧ Aside0 (wc.heap[gb102]? = some (.cells #[(.slice none 0 0), .int .i64 0] 24 (0, 0))) ∧ Aside0 (Below w.heap.size w wc))
 case first =>
  have H := HC2.out
  clear HC2
  by_cases c5 : a0_1 = 0
  ·rw [if_pos c5] at H
   have c5b0 : (a0_1 == 0) = true := beq_iff_eq.mpr c5
   have c5b1 : (a0_1 != 0) = false := bne_eq_false_iff_eq.mpr c5
   clear c5
   (first | rw [c5b0] | (simp only [i64_w, i32_w]; rw [c5b0]) | skip)
   have H' := Aside0.mk H
   clear H
   have hnb6 := NB101_102.out
   have hnc6 := NB102_101.out
   obtain ⟨hcz7_0, hcz7_1, hfz7_0, hfz7_1⟩ := c2 BK101.out
   go_wp2
   go_meet
   case rel => exact ⟨_, (true), (by first | rfl | (simp; done) | (simp [*]; done)), H', ⟨by first | omega | exact Nat.le_refl _⟩, ⟨by exact Kd.V_mono HO0_0.out (fun _ hk => ⟨hk.1.1, ⟨hk.1.2, hk.2⟩⟩)⟩, ⟨by exact BK101.out⟩, ⟨by exact BK102.out⟩, ⟨by repeat (first | exact HB.out | apply below_alloc | apply pw_below_drewN | apply below_drew1 | refine below_set ?_ GE101.out | refine below_set ?_ GE102.out)⟩⟩
  ·rw [if_neg c5] at H
   have c5b0 : (a0_1 == 0) = false := beq_eq_false_iff_ne.mpr c5
   have c5b1 : (a0_1 != 0) = true := bne_iff_ne.mpr c5
   (first | rw [c5b0] | (simp only [i64_w, i32_w]; rw [c5b0]) | skip)
   have H' := Aside0.mk H
   clear H
   have hnb8 := NB101_102.out
   have hnc8 := NB102_101.out
   obtain ⟨hcz9_0, hcz9_1, hfz9_0, hfz9_1⟩ := c2 BK101.out
   go_wp2
   go_meet
   case rel => exact ⟨_, (decide ((l0_0.length : Int) < 2)), (by first | rfl | (simp; done) | (simp [*]; done)), H', ⟨by first | omega | exact Nat.le_refl _⟩, ⟨by exact Kd.V_mono HO0_0.out (fun _ hk => ⟨hk.1.1, ⟨hk.1.2, hk.2⟩⟩)⟩, ⟨by exact BK101.out⟩, ⟨by exact BK102.out⟩, ⟨by repeat (first | exact HB.out | apply below_alloc | apply pw_below_drewN | apply below_drew1 | refine below_set ?_ GE101.out | refine below_set ?_ GE102.out)⟩⟩
 case rest =>
  clear HC2
  try clear p2
  try clear c3
  try clear c5
  try clear c5b0
  try clear c5b1
  try clear c6
  try clear c8
  try clear hcz7_0
  try clear hcz7_1
  try clear hcz9_0
  try clear hcz9_1
  try clear hfz7_0
  try clear hfz7_1
  try clear hfz9_0
  try clear hfz9_1
  obtain ⟨kq, x14_1, rfl, HA, HJ1, HO_102000, BK101, BK102, HB⟩ := hcut
  cases kq with
  | zero => exact absurd HA.out (by simp [dactylref17_Swap.j0])
  | succ kj1 =>
   have H := HA.out
   clear HA
   simp only [dactylref17_Swap.j0] at H
   by_cases c10 : x14_1 = true
   ·subst c10
    have H1 : (some (l0_0, a0_1, false)) = some (r1, r2, r3) := by rw [if_pos rfl] at H; exact H
    clear H
    have H := H1
    clear H1
    simp only [Option.some.injEq, Prod.mk.injEq] at H
    obtain ⟨rfl, rfl, rfl⟩ := H
    have hnb11 := NB101_102.out
    have hnc11 := NB102_101.out
    have hcz12_0 : wc.cell? ⟨gb101, 0, none⟩ = some (.slice A0_0 l0_0.length c0_0) := (blk_cell BK101.out 0).trans rfl
    have hcz12_1 : wc.cell? ⟨gb101, 1, none⟩ = some (.int .i64 a0_1) := (blk_cell BK101.out 1).trans rfl
    have hfz12_0 := blk_frozen BK101.out 0
    have hfz12_1 := blk_frozen BK101.out 1
    obtain ⟨hcz13_0, hcz13_1, hfz13_0, hfz13_1⟩ := c2 BK102.out
    go_wp2
    refine bodyPost_ret (results_ct rfl _ _ gb102 24 #[.slice A0_0 l0_0.length c0_0, .int .i64 a0_1] (0, 0) _ rfl (by refine blk_put (cs := #[.slice A0_0 l0_0.length c0_0, .int .i64 0]) ?_ 1 _ rfl; refine blk_put (cs := #[.slice none 0 0, .int .i64 0]) ?_ 0 _ rfl; exact BK102.out) Try.underlying24 rfl (by kernel_rfl)) rfl ?_
    exact ⟨_, by first | rfl | (simp [errW_none, errW_some] <;> rfl) | (simp [*, errW_none, errW_some] <;> rfl), by exact Kd.V_mono (Kd.V_far (p := ⟨gb102, 1, none⟩) (Kd.V_far (p := ⟨gb102, 0, none⟩) (Kd.V_mono HO_102000.out (fun k_ hk => (⟨hk, hk.2.2⟩ : _ ∧ k_ ≠ gb102))) (fun _ hk => hk.2) (.slice A0_0 l0_0.length c0_0)) (fun _ hk => hk.2) (.int .i64 a0_1)) (fun _ hk => hk.1.1), by repeat (first | exact HB.out | apply below_alloc | apply pw_below_drewN | apply below_drew1 | refine below_set ?_ GE101.out | refine below_set ?_ GE102.out)⟩
   ·replace c10 := Bool.eq_false_iff.mpr c10
    subst c10
    have H1 : ((dactylref01_Low.f a0_1 (wrap64 ((l0_0.length : Int) - 1))).bind fun t103 => (if 0 ≤ (wrap64 (t103 - 1)) then (if (wrap64 (t103 - 1)) ≤ (l0_0.length : Int) then (if 0 ≤ t103 then (if t103 < (l0_0.length : Int) then (if (wrap64 (t103 - 1)) < (l0_0.length : Int) then ((dactylref04_Join.f (l0_0.take ((wrap64 (t103 - 1)) : Int).toNat) (([(⟨(rd_T47 l0_0 t103).f0, (rd_T47 l0_0 t103).f1⟩ : S47), (⟨(rd_T47 l0_0 (wrap64 (t103 - 1))).f0, (rd_T47 l0_0 (wrap64 (t103 - 1))).f1⟩ : S47)] : List (S47)))).bind fun t114 => (if 0 ≤ (wrap64 (t103 + 1)) then (if (wrap64 (t103 + 1)) ≤ (l0_0.length : Int) then ((some (l0_0.drop ((wrap64 (t103 + 1)) : Int).toNat : List (S47))).bind fun y117 => (if t114.length + y117.length < 8796093022208 then (some ((t114 ++ y117), wrap64 (t103 + 1), true)) else (none))) else (none)) else (none))) else (none)) else (none)) else (none)) else (none)) else (none))) = some (r1, r2, r3) := by rw [if_neg (show ¬ (false = true) by decide)] at H; exact H
    clear H
    have H := H1
    clear H1
    replace H := Option.bind_eq_some_iff.mp H
    obtain ⟨t103, A140, H⟩ := H
    try dsimp only at H
    have A14 := Aside0.mk A140
    clear A140
    obtain ⟨ji15, hji15⟩ : ∃ j_ : Int, (wrap64 (t103 - 1)) = j_ := ⟨_, rfl⟩
    replace H : (if 0 ≤ (ji15) then (if (ji15) ≤ (l0_0.length : Int) then (if 0 ≤ t103 then (if t103 < (l0_0.length : Int) then (if (ji15) < (l0_0.length : Int) then ((dactylref04_Join.f (l0_0.take ((ji15) : Int).toNat) (([(⟨(rd_T47 l0_0 t103).f0, (rd_T47 l0_0 t103).f1⟩ : S47), (⟨(rd_T47 l0_0 (ji15)).f0, (rd_T47 l0_0 (ji15)).f1⟩ : S47)] : List (S47)))).bind fun t114 => (if 0 ≤ (wrap64 (t103 + 1)) then (if (wrap64 (t103 + 1)) ≤ (l0_0.length : Int) then ((some (l0_0.drop ((wrap64 (t103 + 1)) : Int).toNat : List (S47))).bind fun y117 => (if t114.length + y117.length < 8796093022208 then (some ((t114 ++ y117), wrap64 (t103 + 1), true)) else (none))) else (none)) else (none))) else (none)) else (none)) else (none)) else (none)) else (none)) = some (r1, r2, r3) := by first | (rw [hji15] at H; exact H) | (simp only [hji15] at H ⊢; exact H)
    (try rw [hji15] at A14)
    have hji15w : (IntKind.i64.wrap (t103 - 1)) = ji15 := (i64_w _).trans hji15
    by_cases c16 : 0 ≤ (ji15)
    ·rw [if_pos c16] at H
     have c16b0 := eq_true c16
     have c16b1 : decide (0 ≤ (ji15)) = true := decide_eq_true c16
     clear c16
     by_cases c17 : (ji15) ≤ (l0_0.length : Int)
     ·rw [if_pos c17] at H
      have c17b0 := eq_true c17
      have c17b1 : decide ((ji15) ≤ (l0_0.length : Int)) = true := decide_eq_true c17
      clear c17
      obtain ⟨y104, hy104⟩ : ∃ y_ : List (S47), y_ = (l0_0.take ((ji15) : Int).toNat) := ⟨_, rfl⟩
      replace H : (if 0 ≤ t103 then (if t103 < (l0_0.length : Int) then (if (ji15) < (l0_0.length : Int) then ((dactylref04_Join.f y104 (([(⟨(rd_T47 l0_0 t103).f0, (rd_T47 l0_0 t103).f1⟩ : S47), (⟨(rd_T47 l0_0 (ji15)).f0, (rd_T47 l0_0 (ji15)).f1⟩ : S47)] : List (S47)))).bind fun t114 => (if 0 ≤ (wrap64 (t103 + 1)) then (if (wrap64 (t103 + 1)) ≤ (l0_0.length : Int) then ((some (l0_0.drop ((wrap64 (t103 + 1)) : Int).toNat : List (S47))).bind fun y117 => (if t114.length + y117.length < 8796093022208 then (some ((t114 ++ y117), wrap64 (t103 + 1), true)) else (none))) else (none)) else (none))) else (none)) else (none)) else (none)) = some (r1, r2, r3) := by first | (rw [hy104]; with_reducible exact H) | (have H2_ := (Option.bind_some _ _).symm.trans H; rw [hy104]; with_reducible exact H2_) | (have H2_ := (Option.bind_some _ _).symm.trans H; with_reducible exact H2_) | with_reducible exact H | (rw [hy104]; exact H) | exact H
      have Ny104 := Aside0.mk hy104
      clear hy104
      by_cases c18 : 0 ≤ t103
      ·rw [if_pos c18] at H
       have c18b0 : decide (0 ≤ t103) = true := decide_eq_true c18
       clear c18
       by_cases c19 : t103 < (l0_0.length : Int)
       ·rw [if_pos c19] at H
        have c19b0 : decide (t103 < (l0_0.length : Int)) = true := decide_eq_true c19
        clear c19
        by_cases c20 : (ji15) < (l0_0.length : Int)
        ·rw [if_pos c20] at H
         have c20b0 : decide ((ji15) < (l0_0.length : Int)) = true := decide_eq_true c20
         clear c20
         obtain ⟨y111, hy111⟩ : ∃ y_ : List (S47), y_ = (([(⟨(rd_T47 l0_0 t103).f0, (rd_T47 l0_0 t103).f1⟩ : S47), (⟨(rd_T47 l0_0 (ji15)).f0, (rd_T47 l0_0 (ji15)).f1⟩ : S47)] : List (S47))) := ⟨_, rfl⟩
         replace H : ((dactylref04_Join.f y104 y111).bind fun t114 => (if 0 ≤ (wrap64 (t103 + 1)) then (if (wrap64 (t103 + 1)) ≤ (l0_0.length : Int) then ((some (l0_0.drop ((wrap64 (t103 + 1)) : Int).toNat : List (S47))).bind fun y117 => (if t114.length + y117.length < 8796093022208 then (some ((t114 ++ y117), wrap64 (t103 + 1), true)) else (none))) else (none)) else (none))) = some (r1, r2, r3) := by first | (rw [hy111]; with_reducible exact H) | (have H2_ := (Option.bind_some _ _).symm.trans H; rw [hy111]; with_reducible exact H2_) | (have H2_ := (Option.bind_some _ _).symm.trans H; with_reducible exact H2_) | with_reducible exact H | (rw [hy111]; exact H) | exact H
         have Ny111 := Aside0.mk hy111
         clear hy111
         replace H := Option.bind_eq_some_iff.mp H
         obtain ⟨t114, A210, H⟩ := H
         try dsimp only at H
         have A21 := Aside0.mk A210
         clear A210
         obtain ⟨ji22, hji22⟩ : ∃ j_ : Int, (wrap64 (t103 + 1)) = j_ := ⟨_, rfl⟩
         replace H : (if 0 ≤ (ji22) then (if (ji22) ≤ (l0_0.length : Int) then ((some (l0_0.drop ((ji22) : Int).toNat : List (S47))).bind fun y117 => (if t114.length + y117.length < 8796093022208 then (some ((t114 ++ y117), ji22, true)) else (none))) else (none)) else (none)) = some (r1, r2, r3) := by first | (rw [hji22] at H; exact H) | (simp only [hji22] at H ⊢; exact H)
         (try rw [hji22] at A14)
         (try rw [hji22] at A21)
         have hji22w : (IntKind.i64.wrap (t103 + 1)) = ji22 := (i64_w _).trans hji22
         by_cases c23 : 0 ≤ (ji22)
         ·rw [if_pos c23] at H
          have c23b0 := eq_true c23
          have c23b1 : decide (0 ≤ (ji22)) = true := decide_eq_true c23
          clear c23
          by_cases c24 : (ji22) ≤ (l0_0.length : Int)
          ·rw [if_pos c24] at H
           have c24b0 := eq_true c24
           have c24b1 : decide ((ji22) ≤ (l0_0.length : Int)) = true := decide_eq_true c24
           clear c24
           obtain ⟨y117, hy117⟩ : ∃ y_ : List (S47), y_ = (l0_0.drop ((ji22) : Int).toNat) := ⟨_, rfl⟩
           replace H : (if t114.length + y117.length < 8796093022208 then (some ((t114 ++ y117), ji22, true)) else (none)) = some (r1, r2, r3) := by first | (rw [hy117]; with_reducible exact H) | (have H2_ := (Option.bind_some _ _).symm.trans H; rw [hy117]; with_reducible exact H2_) | (have H2_ := (Option.bind_some _ _).symm.trans H; with_reducible exact H2_) | with_reducible exact H | (rw [hy117]; exact H) | exact H
           have Ny117 := Aside0.mk hy117
           clear hy117
           by_cases c25 : t114.length + y117.length < 8796093022208
           ·rw [if_pos c25] at H
            have LMc25 := Aside0.mk c25
            clear c25
            obtain ⟨y122, hy122⟩ : ∃ y_ : List (S47), y_ = (t114 ++ y117) := ⟨_, rfl⟩
            replace H : (some (y122, ji22, true)) = some (r1, r2, r3) := by first | (rw [hy122]; with_reducible exact H) | (have H2_ := (Option.bind_some _ _).symm.trans H; rw [hy122]; with_reducible exact H2_) | (have H2_ := (Option.bind_some _ _).symm.trans H; with_reducible exact H2_) | with_reducible exact H | (rw [hy122]; exact H) | exact H
            have Ny122 := Aside0.mk hy122
            clear hy122
            simp only [Option.some.injEq, Prod.mk.injEq] at H
            obtain ⟨rfl, rfl, rfl⟩ := H
            have hnb26 := NB101_102.out
            have hnc26 := NB102_101.out
            obtain ⟨hcz27_0, hcz27_1, hfz27_0, hfz27_1⟩ := c2 BK101.out
            try go_wp2_with (first | ((with_reducible refine gate_callee (f := 36) rfl ?_); refine gL (some 22) Try.func36 (by kernel_rfl) #[.int .i64 a0_1, .int .i64 (wrap64 ((l0_0.length : Int) - 1))] rfl rfl rfl rfl rfl ?_; (with_reducible refine (dactylref01_Low.calls a0_1 (wrap64 ((l0_0.length : Int) - 1)) t103 _ A14.out).mono ?_); rintro e w' ⟨rfl, ⟨nd, rfl⟩⟩; refine ⟨_, rfl, ?_⟩; (try (rw [drewN_self wc]; generalize hq_ : World.drewN wc _ = wc; have n0_ : Aside0 (Kd.V k47 47 wc w.heap.size (fun k_ => (P0_0_ k_ ∨ w.heap.size ≤ k_) ∧ k_ ≠ gb101 ∧ k_ ≠ gb102) (.slice A0_0 l0_0.length c0_0) l0_0) := ⟨by rw [← hq_]; exact HO_102000.out⟩; have n1_ : Aside0 (wc.heap[gb101]? = some (.cells #[.slice A0_0 l0_0.length c0_0, .int .i64 a0_1] 24 (0, 0))) := ⟨by rw [← hq_]; exact BK101.out⟩; have n2_ : Aside0 (wc.heap[gb102]? = some (.cells #[.slice none 0 0, .int .i64 0] 24 (0, 0))) := ⟨by rw [← hq_]; exact BK102.out⟩; have n3_ : Aside0 (Below w.heap.size w wc) := ⟨by rw [← hq_]; exact (by repeat (first | exact HB.out | apply below_alloc | apply pw_below_drewN | apply below_drew1 | refine below_set ?_ GE101.out | refine below_set ?_ GE102.out))⟩; clear HO_102000 BK101 BK102 HB hq_; have HO_102000 := n0_; have BK101 := n1_; have BK102 := n2_; have HB := n3_; clear n0_ n1_ n2_ n3_))))
            replace HO_102000 := a0 (Kd.V_drew HO_102000.out)
            replace BK101 := a0 (blk_drew BK101.out)
            replace BK102 := a0 (blk_drew BK102.out)
            replace HB := a0 (below_drew1 HB.out)
            have q29 : ((ji15) : Int) ≤ ((l0_0.length : Int) : Int) := of_decide_eq_true (by first | (with_reducible assumption) | assumption)
            obtain ⟨i029, hi029, _, hsz29, _⟩ := info_parts info47
            have hroom29 : l0_0.length ≤ c0_0 := (Kd.V_reads' HO_102000.out).2.1
            have hC29 : Kd.F k47 _ _ A0_0 l0_0.length l0_0 := (Kd.V_at (base := w.heap.size) HO_102000.out).2.2
            have hcut29 := cut_to (P := Try.prog) 22 47 .i64 Try.underlying22 hi029 A0_0 l0_0.length c0_0 (ji15) (of_decide_eq_true (by first | (with_reducible assumption) | assumption)) q29 hroom29
            have hr29 := Kd.F_take (m := ((ji15) : Int).toNat) hC29 (by omega)
            have hy29 : y104.length = ((ji15) : Int).toNat := (by rw [Ny104.out, List.length_take]; omega)
            rw [← Ny104.out] at hr29
            rw [← hy29] at hcut29
            have HO108 := Aside0.mk (show Kd.V k47 47 _ w.heap.size _ (.slice A0_0 y104.length c0_0) y104 from Kd.V_mk (by omega) hr29)
            have HC108 := Aside0.mk (show y104.length ≤ c0_0 from by omega)
            clear hr29 hC29 hroom29 hi029 hsz29
            have KY29 := Aside0.mk hy29
            clear hy29
            replace q29 := eq_true q29
            have p109 : 0 ≤ (t103 : Int) := of_decide_eq_true (by first | (with_reducible assumption) | assumption)
            have q109 : t103 < (l0_0.length : Int) := of_decide_eq_true (by first | (with_reducible assumption) | assumption)
            obtain ⟨ad109, e109, hx109_0, hx109_1⟩ := at_T47 (Kd.V_reads' HO_102000.out).2.2 t103 p109 q109
            cases e109
            replace p109 := eq_true p109
            replace q109 := eq_true q109
            have p110 : 0 ≤ ((ji15) : Int) := of_decide_eq_true (by first | (with_reducible assumption) | assumption)
            have q110 : (ji15) < (l0_0.length : Int) := of_decide_eq_true (by first | (with_reducible assumption) | assumption)
            obtain ⟨ad110, e110, hx110_0, hx110_1⟩ := at_T47 (Kd.V_reads' HO_102000.out).2.2 (ji15) p110 q110
            obtain rfl : ad109 = ad110 := (by injection e110)
            replace p110 := eq_true p110
            replace q110 := eq_true q110
            refine start_ (n := 19) (S := fun w' => w'.cell? ⟨gb101, 0, none⟩ = some (.slice (some ad109) l0_0.length c0_0) ∧ w'.cell? ⟨gb101, 1, none⟩ = some (.int .i64 a0_1) ∧ w'.cell? (ad109.add ((t103).toNat * 2)) = some (.int .i64 ((rd_T47 l0_0 t103).f0)) ∧ w'.cell? ⟨(ad109.add ((t103).toNat * 2)).block, (ad109.add ((t103).toNat * 2)).off + 1, none⟩ = some (.int .i64 ((rd_T47 l0_0 t103).f1)) ∧ w'.cell? (ad109.add (((ji15)).toNat * 2)) = some (.int .i64 ((rd_T47 l0_0 (ji15)).f0)) ∧ w'.cell? ⟨(ad109.add (((ji15)).toNat * 2)).block, (ad109.add (((ji15)).toNat * 2)).off + 1, none⟩ = some (.int .i64 ((rd_T47 l0_0 (ji15)).f1))) (ds := []) (ba 19 0) (by kernel_rfl) rfl rfl ⟨(blk_cell BK101.out 0).trans rfl, (blk_cell BK101.out 1).trans rfl, hx109_0, hx109_1, hx110_0, hx110_1⟩ (fun hHeld => ?_); refine with_tabW dactylref17_Swap.tab4 dactylref17_Swap.bits4 (fun HT_ HW_ => ?_)
            generalize wc.drew = w28 at HO_102000 BK101 BK102 HB HO108 hx109_0 hx109_1 hx110_0 hx110_1 hHeld ⊢
            refine pS 0 23 (v := ?_) (a' := ?_) (ba 19 1) HT_ (by kernel_rfl) rfl rfl (fun _ _ _ h => h) (by rfl) ?_ ?_ ?_; rotate_left 2; (intro w'; go_simp; with_reducible rfl); (simp only [Act.put, List.setIfInBounds_toArray, List.set_cons_zero, List.set_cons_succ, i64_w, i32_w]; rfl)
            refine pS 2 25 (v := ?_) (a' := ?_) (ba 19 5) HT_ (by kernel_rfl) rfl rfl (fun _ _ _ h => h) (by rfl) ?_ ?_ ?_; rotate_left 2; (intro w'; go_simp; with_reducible rfl); (simp only [Act.put, List.setIfInBounds_toArray, List.set_cons_zero, List.set_cons_succ, i64_w, i32_w]; rfl)
            refine pS 3 26 (v := ?_) (a' := ?_) (ba 19 13) HT_ (by kernel_rfl) rfl rfl (fun _ _ _ h => h) (by rfl) ?_ ?_ ?_; rotate_left 2; (intro w'; go_simp; with_reducible rfl); (simp only [Act.put, List.setIfInBounds_toArray, List.set_cons_zero, List.set_cons_succ, i64_w, i32_w]; rfl)
            refine pS 5 28 (v := ?_) (a' := ?_) (ba 19 45) HT_ (by kernel_rfl) rfl rfl (fun _ _ _ h => h) (by rfl) ?_ ?_ ?_; rotate_left 2; (intro w'; go_simp; with_reducible rfl); (simp only [Act.put, List.setIfInBounds_toArray, List.set_cons_zero, List.set_cons_succ, i64_w, i32_w]; rfl)
            refine pS 7 30 (v := ?_) (a' := ?_) (ba 19 173) HT_ (by kernel_rfl) rfl rfl (fun _ _ _ h => h) (by rfl) ?_ ?_ ?_; rotate_left 2; (intro w'; go_simp; with_reducible rfl); (simp only [Act.put, List.setIfInBounds_toArray, List.set_cons_zero, List.set_cons_succ, i64_w, i32_w]; rfl)
            refine pS 10 33 (v := ?_) (a' := ?_) (ba 19 1197) HT_ (by kernel_rfl) rfl rfl (fun _ _ _ h => h) (by rfl) ?_ ?_ ?_; rotate_left 2; (intro w'; go_simp; with_reducible rfl); (simp only [Act.put, List.setIfInBounds_toArray, List.set_cons_zero, List.set_cons_succ, i64_w, i32_w]; rfl)
            refine pS 12 35 (v := ?_) (a' := ?_) (ba 19 5293) HT_ (by kernel_rfl) rfl rfl (fun _ _ _ h => h) (by rfl) ?_ ?_ ?_; rotate_left 2; (intro w'; go_simp; with_reducible rfl); (simp only [Act.put, List.setIfInBounds_toArray, List.set_cons_zero, List.set_cons_succ, i64_w, i32_w]; rfl)
            refine pS 13 36 (v := ?_) (a' := ?_) (ba 19 13485) HT_ (by kernel_rfl) rfl rfl (fun _ _ _ h => h) (by rfl) ?_ ?_ ?_; rotate_left 2; (intro w'; go_simp; with_reducible rfl); (simp only [Act.put, List.setIfInBounds_toArray, List.set_cons_zero, List.set_cons_succ, i64_w, i32_w]; rfl)
            refine take_ (i := 1) (N := some 24) (v := ?_) (a' := ?_) (ba 19 13487) rfl rfl (take_ofW HT_.out HW_.out (by kernel_rfl)) (fun _ _ _ h => h) (Or.inl ⟨by rfl, ?_⟩) hHeld ?_ ?_; rotate_left; (rintro w' ⟨s0, s1, s2, s3, s4, s5⟩; go_simp; with_reducible rfl); rotate_left; (simp only [Act.put, List.setIfInBounds_toArray, List.set_cons_zero, List.set_cons_succ, i64_w, i32_w]; rfl)
            refine pS 4 27 (v := ?_) (a' := ?_) (ba 19 13503) HT_ (by kernel_rfl) rfl rfl (fun _ _ _ h => h) (by rfl) ?_ ?_ ?_; rotate_left 2; (intro w'; go_simp; with_reducible rfl); (simp only [Act.put, List.setIfInBounds_toArray, List.set_cons_zero, List.set_cons_succ, i64_w, i32_w]; rfl)
            refine take_ (i := 6) (N := some 29) (v := ?_) (a' := ?_) (ba 19 13567) rfl rfl (take_ofW HT_.out HW_.out (by kernel_rfl)) (fun _ _ _ h => h) (Or.inl ⟨by rfl, ?_⟩) hHeld ?_ ?_; rotate_left; (rintro w' ⟨s0, s1, s2, s3, s4, s5⟩; go_simp; with_reducible rfl); rotate_left; (simp only [Act.put, List.setIfInBounds_toArray, List.set_cons_zero, List.set_cons_succ, i64_w, i32_w]; rfl)
            refine pS 8 31 (v := ?_) (a' := ?_) (ba 19 13823) HT_ (by kernel_rfl) rfl rfl (fun _ _ _ h => h) (by rfl) ?_ ?_ ?_; rotate_left 2; (intro w'; go_simp; with_reducible rfl); (simp only [Act.put, List.setIfInBounds_toArray, List.set_cons_zero, List.set_cons_succ, i64_w, i32_w]; rfl)
            refine take_ (i := 9) (N := some 32) (v := ?_) (a' := ?_) (ba 19 14335) rfl rfl (take_ofW HT_.out HW_.out (by kernel_rfl)) (fun _ _ _ h => h) (Or.inl ⟨by rfl, ?_⟩) hHeld ?_ ?_; rotate_left; (rintro w' ⟨s0, s1, s2, s3, s4, s5⟩; go_simp; with_reducible rfl); rotate_left; (simp only [Act.put, List.setIfInBounds_toArray, List.set_cons_zero, List.set_cons_succ, i64_w, i32_w]; rfl)
            refine take_ (i := 11) (N := some 34) (v := ?_) (a' := ?_) (ba 19 16383) rfl rfl (take_ofW HT_.out HW_.out (by kernel_rfl)) (fun _ _ _ h => h) (Or.inl ⟨by rfl, ?_⟩) hHeld ?_ ?_; rotate_left; (rintro w' ⟨s0, s1, s2, s3, s4, s5⟩; go_simp; with_reducible rfl); rotate_left; (simp only [Act.put, List.setIfInBounds_toArray, List.set_cons_zero, List.set_cons_succ, i64_w, i32_w]; rfl)
            refine pS 14 37 (v := ?_) (a' := ?_) (ba 19 32767) HT_ (by kernel_rfl) rfl rfl (fun _ _ _ h => h) (by rfl) ?_ ?_ ?_; rotate_left 2; (intro w'; go_simp; with_reducible rfl); (simp only [Act.put, List.setIfInBounds_toArray, List.set_cons_zero, List.set_cons_succ, i64_w, i32_w]; rfl)
            refine take_ (i := 15) (N := some 38) (v := ?_) (a' := ?_) (ba 19 65535) rfl rfl (take_ofW HT_.out HW_.out (by kernel_rfl)) (fun _ _ _ h => h) (Or.inl ⟨by rfl, ?_⟩) hHeld ?_ ?_; rotate_left; (rintro w' ⟨s0, s1, s2, s3, s4, s5⟩; go_simp; with_reducible rfl); rotate_left; (simp only [Act.put, List.setIfInBounds_toArray, List.set_cons_zero, List.set_cons_succ, i64_w, i32_w]; rfl)
            refine one_ (i := 16) (N := some 39) (ba 19 131071) rfl rfl (one_of HT_.out (by kernel_rfl)) (by decide) (fun K hK => ?_)
            refine Kd.R_lit_step k47 _ 47 ?hg (N := 39) ?hd (xs := ([(⟨(rd_T47 l0_0 t103).f0, (rd_T47 l0_0 t103).f1⟩ : S47), (⟨(rd_T47 l0_0 (ji15)).f0, (rd_T47 l0_0 (ji15)).f1⟩ : S47)] : List (S47))) (inner := [.int .i64 ((rd_T47 l0_0 t103).f0), .int .i64 ((rd_T47 l0_0 t103).f1), .int .i64 ((rd_T47 l0_0 (ji15)).f0), .int .i64 ((rd_T47 l0_0 (ji15)).f1)]) (ok := fun _ => True) (okp := fun _ => True) ?hr ?hp (fun _ hk => hk) trivial (Below.refl _ _) (Nat.le_refl _) (by simp) ?_; (case hd => rfl); (case hg => rfl); (case hr => first | (go_simp; done) | (go_simp; rfl)); (case hp => exact (Reps.c2 (show Kd.M k47 _ _ _ (⟨(rd_T47 l0_0 t103).f0, (rd_T47 l0_0 t103).f1⟩ : S47) [.int .i64 ((rd_T47 l0_0 t103).f0), .int .i64 ((rd_T47 l0_0 t103).f1)] from (k47_mkM _ _ _ (⟨(rd_T47 l0_0 t103).f0, (rd_T47 l0_0 t103).f1⟩ : S47) )) (Reps.c2 (show Kd.M k47 _ _ _ (⟨(rd_T47 l0_0 (ji15)).f0, (rd_T47 l0_0 (ji15)).f1⟩ : S47) [.int .i64 ((rd_T47 l0_0 (ji15)).f0), .int .i64 ((rd_T47 l0_0 (ji15)).f1)] from (k47_mkM _ _ _ (⟨(rd_T47 l0_0 (ji15)).f0, (rd_T47 l0_0 (ji15)).f1⟩ : S47) )) (Reps.none _ _))))
            intro v112 w30 ho31 hb hg_ hnew_
            have HS2_ := (hb.cell (World.block_lt_of_cell? _ _ (hHeld.2.2.1))).trans (hHeld.2.2.1)
            have HS3_ := (hb.cell (World.block_lt_of_cell? _ _ (hHeld.2.2.2.1))).trans (hHeld.2.2.2.1)
            have HS4_ := (hb.cell (World.block_lt_of_cell? _ _ (hHeld.2.2.2.2.1))).trans (hHeld.2.2.2.2.1)
            have HS5_ := (hb.cell (World.block_lt_of_cell? _ _ (hHeld.2.2.2.2.2))).trans (hHeld.2.2.2.2.2)
            clear hg_ hnew_
            (first | rw [← Ny111.out] at ho31 | (simp only [Int.reduceToNat] at ho31; rw [← Ny111.out] at ho31))
            replace HO_102000 := a0 (Kd.V_elder' HO_102000.out (Kd.R_base ho31) hb)
            replace HO108 := a0 (Kd.V_elder' HO108.out (Kd.R_base ho31) hb)
            have HO113 := a0 (Kd.R_lower (Kd.R_newM (M := fun k_ => (w.heap.size ≤ k_)) ho31 (below_size (by repeat (first | exact HB.out | apply below_alloc | apply pw_below_drewN | apply below_drew1 | refine below_set ?_ GE101.out | refine below_set ?_ GE102.out))) (fun k_ h_ => h_)) (below_size (by repeat (first | exact HB.out | apply below_alloc | apply pw_below_drewN | apply below_drew1 | refine below_set ?_ GE101.out | refine below_set ?_ GE102.out))))
            replace BK101 := a0 (bB hb BK101.out)
            replace BK102 := a0 (bB hb BK102.out)
            replace HB := a0 (below_step (by repeat (first | exact HB.out | apply below_alloc | apply pw_below_drewN | apply below_drew1 | refine below_set ?_ GE101.out | refine below_set ?_ GE102.out)) hb)
            clear hb ho31
            obtain ⟨Ao32, co32, eo32⟩ := Kd.R_slice HO113.out
            (first | subst eo32 | (injection eo32 with f1_ f2_ f3_; have f4_ := f1_.symm; have f5_ := f3_.symm; clear f1_ f2_ f3_; subst f4_; subst f5_))
            refine hK.out _ _ ⟨(blk_cell BK101.out 0).trans rfl, (blk_cell BK101.out 1).trans rfl, HS2_, HS3_, HS4_, HS5_⟩ (fun hHeld => ?_)
            clear hK K
            refine norm_ (a' := ?_) ?_ ?_; rotate_left; (show Act.put _ (some 39) _ = _; simp only [Act.put, List.setIfInBounds_toArray, List.set_cons_zero, List.set_cons_succ, i64_w, i32_w]; rfl)
            refine one_ (i := 17) (N := some 40) (ba 19 262143) rfl rfl (one_of HT_.out (by kernel_rfl)) (by decide) (fun K hK => ?_)
            refine gR Try.func34 (by kernel_rfl) #[.slice (some ad109) y104.length c0_0, .slice Ao32 y111.length co32] (by rfl) rfl rfl rfl rfl ?_
            with_reducible refine (dactylref04_Join.calls _ _ y104 _ _ y111 t114 _ ?side1 ?side2 ?side3 ?side4 A21.out).mono ?_
            (case side1 => repeat (first | exact (Kd.V_reads' HO108.out).2.2 | (with_reducible refine Kd.C_alloc ?_ _) | (with_reducible refine Kd.C_drewN ?_ _) | (with_reducible refine Kd.C_drew ?_)))
            (case side2 => exact (Kd.V_reads' HO108.out).2.1)
            (case side3 => repeat (first | exact (Kd.R_reads' HO113.out).2.2 | (with_reducible refine Kd.C_alloc ?_ _) | (with_reducible refine Kd.C_drewN ?_ _) | (with_reducible refine Kd.C_drew ?_)))
            (case side4 => exact (Kd.R_reads' HO113.out).2.1)
            rintro e w33 ⟨v115, rfl, ho0, hb⟩
            have HS2_ := (hb.cell (World.block_lt_of_cell? _ _ (hHeld.2.2.1))).trans (hHeld.2.2.1)
            have HS3_ := (hb.cell (World.block_lt_of_cell? _ _ (hHeld.2.2.2.1))).trans (hHeld.2.2.2.1)
            have HS4_ := (hb.cell (World.block_lt_of_cell? _ _ (hHeld.2.2.2.2.1))).trans (hHeld.2.2.2.2.1)
            have HS5_ := (hb.cell (World.block_lt_of_cell? _ _ (hHeld.2.2.2.2.2))).trans (hHeld.2.2.2.2.2)
            refine ⟨_, rfl, ?_⟩
            replace HO_102000 := a0 (Kd.V_elder' HO_102000.out (Kd.R_base ho0) hb)
            replace HO108 := a0 (Kd.V_elder' HO108.out (Kd.R_base ho0) hb)
            have HO116 := a0 (Kd.R_lower (Kd.R_new' (Kd.R_newM (M := fun k_ => (w.heap.size ≤ k_)) ho0 (below_size (by repeat (first | exact HB.out | apply below_alloc | apply pw_below_drewN | apply below_drew1 | refine below_set ?_ GE101.out | refine below_set ?_ GE102.out))) (fun k_ h_ => h_)) (Kd.R_lt HO113.out)) (below_size (by repeat (first | exact HB.out | apply below_alloc | apply pw_below_drewN | apply below_drew1 | refine below_set ?_ GE101.out | refine below_set ?_ GE102.out))))
            replace HO113 := a0 (Kd.R_elder' HO113.out (Kd.R_base ho0) hb)
            replace BK101 := a0 (bB hb BK101.out)
            replace BK102 := a0 (bB hb BK102.out)
            replace HB := a0 (below_step (by repeat (first | exact HB.out | apply below_alloc | apply pw_below_drewN | apply below_drew1 | refine below_set ?_ GE101.out | refine below_set ?_ GE102.out)) hb)
            (try clear hb)
            (try clear hb2)
            (try clear hk)
            (try clear hi)
            (try clear ho0)
            refine hK.out _ _ ⟨(blk_cell BK101.out 0).trans rfl, (blk_cell BK101.out 1).trans rfl, HS2_, HS3_, HS4_, HS5_⟩ (fun hHeld => ?_)
            clear hK K
            refine norm_ (a' := ?_) ?_ ?_; rotate_left; (show Act.put _ (some 40) _ = _; simp only [Act.put, List.setIfInBounds_toArray, List.set_cons_zero, List.set_cons_succ, i64_w, i32_w]; rfl)
            refine pS 18 5 (v := ?_) (a' := ?_) (ba 19 524287) HT_ (by kernel_rfl) rfl rfl (fun _ _ _ h => h) (by rfl) ?_ ?_ ?_; rotate_left 2; (intro w'; go_simp; with_reducible rfl); (simp only [Act.put, List.setIfInBounds_toArray, List.set_cons_zero, List.set_cons_succ, i64_w, i32_w]; rfl)
            refine done_ (done_of HT_.out (by kernel_rfl)) ?_
            obtain ⟨hcz34_0, hcz34_1, hfz34_0, hfz34_1⟩ := c2 BK101.out
            have q35 : ((ji22) : Int) ≤ ((l0_0.length : Int) : Int) := of_decide_eq_true (by first | (with_reducible assumption) | assumption)
            obtain ⟨i035, hi035, _, hsz35, _⟩ := info_parts info47
            have hroom35 : l0_0.length ≤ c0_0 := (Kd.V_reads' HO_102000.out).2.1
            have hC35 : Kd.F k47 _ _ (some ad109) l0_0.length l0_0 := (Kd.V_at (base := w.heap.size) HO_102000.out).2.2
            have q035 : (0 : Int) ≤ ((ji22) : Int) := of_decide_eq_true (by first | (with_reducible assumption) | assumption)
            have hcut35 := cut_from (P := Try.prog) 22 47 .i64 Try.underlying22 hi035 2 hsz35 (some ad109) l0_0.length c0_0 (ji22) q035 q35
            have hr35 := Kd.F_cut (m := ((ji22) : Int).toNat) (c := c0_0) hC35 (by omega) hroom35
            obtain ⟨A35, hA35⟩ : ∃ A1, A1 = (if c0_0 = ((ji22) : Int).toNat then (some ad109) else ((some ad109) : Option Addr).map (·.add (((ji22) : Int).toNat * 2))) := ⟨_, rfl⟩
            obtain ⟨c35, hc35⟩ : ∃ c1, c1 = c0_0 - ((ji22) : Int).toNat := ⟨_, rfl⟩
            have hy35 : y117.length = l0_0.length - ((ji22) : Int).toNat := (by rw [Ny117.out, List.length_drop] <;> omega)
            rw [show (l0_0).drop ((ji22) : Int).toNat = y117 from Ny117.out.symm] at hr35
            replace hr35 : Kd.F k47 _ _ A35 y117.length y117 := (by rw [hA35]; exact hr35)
            rw [← hy35, ← hA35, ← hc35] at hcut35
            have HO121 := Aside0.mk (show Kd.V k47 47 _ w.heap.size _ (.slice A35 y117.length c35) y117 from Kd.V_mk (by rw [hy35, hc35]; exact Nat.sub_le_sub_right hroom35 _) hr35)
            have HC121 := Aside0.mk (show y117.length ≤ c35 from by rw [hy35, hc35]; exact Nat.sub_le_sub_right hroom35 _)
            clear hr35 hC35 hroom35 hi035 hsz35 hc35
            have KY35 := Aside0.mk hy35
            have KA35 := Aside0.mk hA35
            clear hy35 hA35
            replace q35 := eq_true q35
            try go_wp2_with (first | ((with_reducible refine gate_builtin (b := .append) (xs := #[.tmp 41, .tmp 46]) rfl ?_); (try (refine gate_guard (by rfl) ?_; dsimp only)); at_builtin; refine Kd.R_append_rows k47 (w0 := w) w.heap.size rfl (.tmp 41) (.tmp 46) 22 47 (.agg #[(.int .i64 0), (.int .i64 0)]) 16 rfl Try.underlying22 info47 rfl (by decide) (by omega) v115 t114 y117 _ _ _ (fun k_ => (w.heap.size ≤ k_) ∧ some k_ ≠ (.slice Ao32 y111.length co32 : Value).ownBlock) (fun _ => False) rfl rfl ?aO ?aR (fun _ _ h => h) (fun _ h => h.elim) ?aF ?aB ?aS ?aL ?_; (case aR => repeat (first | exact (Kd.V_reads' HO121.out).2.2 | (with_reducible refine Kd.C_alloc ?_ _) | (with_reducible refine Kd.C_drewN ?_ _) | (with_reducible refine Kd.C_drew ?_))); (case aB => exact (by repeat (first | exact HB.out | apply below_alloc | apply pw_below_drewN | apply below_drew1 | refine below_set ?_ GE101.out | refine below_set ?_ GE102.out))); (case aF => exact (fun k_ hk => ⟨(Nat.le_trans (below_size (by repeat (first | exact HB.out | apply below_alloc | apply pw_below_drewN | apply below_drew1 | refine below_set ?_ GE101.out | refine below_set ?_ GE102.out))) hk), Kd.fresh' (Kd.R_lt HO113.out) k_ hk⟩)); (case aO => exact (Kd.R_mono HO116.out (fun _ hk => ⟨hk.1.1, hk.2⟩))); (case aS => exact (below_size (by repeat (first | exact HB.out | apply below_alloc | apply pw_below_drewN | apply below_drew1 | refine below_set ?_ GE101.out | refine below_set ?_ GE102.out)))); (case aL => have := LMc25.out; omega); intro v123 w36 ho hb hg hat; rw [← Ny122.out] at ho; have n0_ := Aside0.mk (Kd.V_afterv (ok := (fun k_ => (P0_0_ k_ ∨ w.heap.size ≤ k_) ∧ some k_ ≠ (.slice Ao32 y111.length co32 : Value).ownBlock ∧ k_ ≠ gb101 ∧ k_ ≠ gb102)) (Kd.V_mono HO_102000.out (fun _ hk => ⟨⟨hk.1.1.1, ⟨hk.1.2, ⟨hk.1.1.2.1, hk.1.1.2.2⟩⟩⟩, hk.2⟩)) hg hat); have n1_ := Aside0.mk (blk_grown (g := gb101) (o := .cells #[.slice (some ad109) l0_0.length c0_0, .int .i64 a0_1] 24 (0, 0)) BK101.out hg (Kd.R_ne HO116.out BK101.out (by decide))); have n2_ := Aside0.mk (blk_grown (g := gb102) (o := .cells #[.slice none 0 0, .int .i64 0] 24 (0, 0)) BK102.out hg (Kd.R_ne HO116.out BK102.out (by decide))); have n3_ := Aside0.mk (Kd.V_afterv (ok := (fun k_ => (P0_0_ k_ ∨ w.heap.size ≤ k_) ∧ some k_ ≠ (.slice Ao32 y111.length co32 : Value).ownBlock ∧ k_ ≠ gb101 ∧ k_ ≠ gb102)) (Kd.V_mono HO108.out (fun _ hk => ⟨⟨hk.1.1.1, ⟨hk.1.2, ⟨hk.1.1.2.1, hk.1.1.2.2⟩⟩⟩, hk.2⟩)) hg hat); have n4_ := Aside0.mk (Kd.R_after (ok := (fun k_ => (w.heap.size ≤ k_))) (Kd.R_mono HO113.out (fun _ hk => ⟨hk.1.1, hk.2⟩)) hg hat); have n5_ := Aside0.mk (Kd.V_afterv (ok := (fun k_ => (P0_0_ k_ ∨ w.heap.size ≤ k_) ∧ some k_ ≠ (.slice Ao32 y111.length co32 : Value).ownBlock ∧ k_ ≠ gb101 ∧ k_ ≠ gb102)) (Kd.V_mono HO121.out (fun _ hk => ⟨⟨hk.1.1.1, ⟨hk.1.2, ⟨hk.1.1.2.1, hk.1.1.2.2⟩⟩⟩, hk.2⟩)) hg hat); have n6_ := Aside0.mk (hb); have n7_ := Aside0.mk (ho); clear HO_102000; clear BK101; clear BK102; clear HO108; clear HO113; clear HO121; clear HB; clear HO116; have HO_102000 := n0_; have BK101 := n1_; have BK102 := n2_; have HO108 := n3_; have HO113 := n4_; have HO121 := n5_; have HB := n6_; have HO124 := n7_; clear n0_ n1_ n2_ n3_ n4_ n5_ n6_ n7_; clear ho hb hg hat; obtain ⟨Ao37, co37, eo37⟩ := Kd.R_slice HO124.out; subst eo37; obtain ⟨hcz38_0, hcz38_1, hfz38_0, hfz38_1⟩ := c2 BK102.out))
            refine bodyPost_ret (results_ct rfl _ _ gb102 24 #[.slice Ao37 y122.length co37, .int .i64 ji22] (0, 0) _ rfl (by refine blk_put (cs := #[.slice Ao37 y122.length co37, .int .i64 0]) ?_ 1 _ rfl; refine blk_put (cs := #[.slice none 0 0, .int .i64 0]) ?_ 0 _ rfl; exact BK102.out) Try.underlying24 rfl (by kernel_rfl)) rfl ?_
            exact ⟨_, by first | rfl | (simp [errW_none, errW_some] <;> rfl) | (simp only [← hji15, ← hji22]; first | rfl | (simp [errW_none, errW_some] <;> rfl)) | (simp [*, errW_none, errW_some] <;> rfl), Kd.V_mono (Kd.R_V (Kd.R_mono (Kd.R_far (p := ⟨gb102, 1, none⟩) (Kd.R_far (p := ⟨gb102, 0, none⟩) (Kd.R_types HO124.out BK102.out (by decide)) (fun _ hk => hk.2) (.slice Ao37 y122.length co37)) (fun _ hk => hk.2) (.int .i64 ji22)) (fun _ hk => hk.1.1))) (fun k_ hk => by first | exact ⟨(.inr (hk.1)), hk.2⟩ | exact (.inr (hk))), by repeat (first | exact HB.out | apply below_alloc | apply pw_below_drewN | apply below_drew1 | refine below_set ?_ GE101.out | refine below_set ?_ GE102.out)⟩
           ·rw [if_neg c25] at H
            exact absurd H (by simp)
          ·rw [if_neg c24] at H
           exact absurd H (by simp)
         ·rw [if_neg c23] at H
          exact absurd H (by simp)
        ·rw [if_neg c20] at H
         exact absurd H (by simp)
       ·rw [if_neg c19] at H
        exact absurd H (by simp)
      ·rw [if_neg c18] at H
       exact absurd H (by simp)
     ·rw [if_neg c17] at H
      exact absurd H (by simp)
    ·rw [if_neg c16] at H
     exact absurd H (by simp)

end Go.Proofs.Ytemoocoedibbpab.X

namespace Go.Proofs.Ytemoocoedibbpab.X
open Go.RowKit Go.Proofs.YtemoocoedibbpabW.PrintWords Go.Proofs.YtemoocoedibbpabW.PrintLast Go.Proofs.YtemoocoedibbpabW.PrintMore
attribute [local go_sem] max2_int min2_int max_two min_two max_three min_three max_four min_four
set_option linter.unusedVariables false
set_option linter.unusedSimpArgs false

/-! ### dactylref17_SwapWords: function 33 -/
def dactylref17_SwapWords.j0 : Nat → List (S47) → Int → Int → Int → Int → Bool → List (S47) → Int → Option ((List (S47)) × Int × Bool)
 | 0, _, _, _, _, _, _, _, _ => none
 | k + 1, x4, x5, x6, x7, x8, x46, x102000, x102001 => if x46 = true then (some (x102000, x102001, false)) else (if 0 ≤ x7 then (if x7 ≤ (x4.length : Int) then (if 0 ≤ x5 then (if x5 ≤ x6 then (if x6 ≤ (x4.length : Int) then ((dactylref04_Join.f (x4.take (x7 : Int).toNat) ((x4.take (x6 : Int).toNat).drop (x5 : Int).toNat)).bind fun t120 => (if 0 ≤ x8 then (if x8 ≤ x5 then (if x5 ≤ (x4.length : Int) then (if x7 ≤ x8 then (if x8 ≤ (x4.length : Int) then ((dactylref04_Join.f ((x4.take (x5 : Int).toNat).drop (x8 : Int).toNat) ((x4.take (x8 : Int).toNat).drop (x7 : Int).toNat)).bind fun t133 => ((dactylref04_Join.f t120 t133).bind fun t136 => (if 0 ≤ x6 then ((some (x4.drop (x6 : Int).toNat : List (S47))).bind fun y139 => (if t136.length + y139.length < 8796093022208 then (some ((t136 ++ y139), x6, true)) else (none))) else (none)))) else (none)) else (none)) else (none)) else (none)) else (none))) else (none)) else (none)) else (none)) else (none)) else (none))
def dactylref17_SwapWords.f (k : Nat) (l0_0 : List (S47)) (a0_1 : Int) : Option ((List (S47)) × Int × Bool) := (dactylref05_Next.f k l0_0 a0_1).bind fun t103 => ((dactylref05_Back.f k l0_0 t103).bind fun t104 => ((dactylref05_Next.f k l0_0 t104).bind fun t105 => ((dactylref05_Back.f k l0_0 t104).bind fun t106 => ((dactylref05_Next.f k l0_0 t106).bind fun t107 => (if t106 ≥ t104 then (dactylref17_SwapWords.j0 k l0_0 t104 t105 t106 t107 true l0_0 a0_1) else (if t107 > t104 then (dactylref17_SwapWords.j0 k l0_0 t104 t105 t106 t107 true l0_0 a0_1) else ((dactylref05_At.f k l0_0 t106 false).bind fun t108 => (if t108 = 1 then ((dactylref05_At.f k l0_0 t104 false).bind fun t109 => (dactylref17_SwapWords.j0 k l0_0 t104 t105 t106 t107 (t109 != 1) l0_0 a0_1)) else (dactylref17_SwapWords.j0 k l0_0 t104 t105 t106 t107 true l0_0 a0_1)))))))))
theorem dactylref17_SwapWords.mono_l : ∀ k, (∀ y0 y1 y2 y3 y4 y5 y6 y7, LeO (dactylref17_SwapWords.j0 k y0 y1 y2 y3 y4 y5 y6 y7) (dactylref17_SwapWords.j0 (k + 1) y0 y1 y2 y3 y4 y5 y6 y7))
 | 0 => fun _ _ _ _ _ _ _ _ r h => by simp [dactylref17_SwapWords.j0] at h
 | k + 1 => by
  have ih0 := dactylref17_SwapWords.mono_l k
  ·intro y0 y1 y2 y3 y4 y5 y6 y7
   unfold dactylref17_SwapWords.j0
   repeat' first
   | (with_reducible exact ih0 _ _ _ _ _ _ _ _)
   | (with_reducible exact dactylref05_At.mono _ _ _ _)
   | (with_reducible exact dactylref05_Back.mono _ _ _)
   | (with_reducible exact dactylref05_Next.mono _ _ _)
   | (with_reducible exact LeO.refl _)
   | (with_reducible exact LeO.none _)
   | (with_reducible refine LeO.ite ?_ ?_)
   | (with_reducible refine LeO.bind ?_ (fun _ => ?_))
   | exact ih0 _ _ _ _ _ _ _ _
   | exact dactylref05_At.mono _ _ _ _
   | exact dactylref05_Back.mono _ _ _
   | exact dactylref05_Next.mono _ _ _
   | exact LeO.none _
   | refine LeO.ite ?_ ?_
   | refine LeO.bind ?_ (fun _ => ?_)
theorem dactylref17_SwapWords.mono : ∀ a0 a1 k, LeO (dactylref17_SwapWords.f k a0 a1) (dactylref17_SwapWords.f (k + 1) a0 a1) := by
 intro a0 a1 k
 have ih0 := dactylref17_SwapWords.mono_l k
 unfold dactylref17_SwapWords.f
 repeat' first
   | (with_reducible exact ih0 _ _ _ _ _ _ _ _)
   | (with_reducible exact dactylref05_At.mono _ _ _ _)
   | (with_reducible exact dactylref05_Back.mono _ _ _)
   | (with_reducible exact dactylref05_Next.mono _ _ _)
   | (with_reducible exact LeO.refl _)
   | (with_reducible exact LeO.none _)
   | (with_reducible refine LeO.ite ?_ ?_)
   | (with_reducible refine LeO.bind ?_ (fun _ => ?_))
   | exact ih0 _ _ _ _ _ _ _ _
   | exact dactylref05_At.mono _ _ _ _
   | exact dactylref05_Back.mono _ _ _
   | exact dactylref05_Next.mono _ _ _
   | exact LeO.none _
   | refine LeO.ite ?_ ?_
   | refine LeO.bind ?_ (fun _ => ?_)
def dactylref17_SwapWords.T8 : Bool × List (List Nat × List Nat) := (true, [([], []), ([], []), ([0, 1], [0, 1]), ([], []), ([], []), ([], []), ([3, 4, 5], [3, 4, 5]), ([2, 6], [2, 6]), ([], []), ([], []), ([], []), ([8, 9, 10], [8, 9, 10]), ([], []), ([], []), ([], []), ([12, 13, 14], [12, 13, 14]), ([11, 15, 7], [11, 15]), ([7, 16, 16], [7, 16]), ([17, 17, 0, 1, 2, 3, 4, 5, 6, 7, 8, 9, 10, 11, 12, 13, 14, 15, 16, 17], [17])])
def dactylref17_SwapWords.B8 : List Nat := [0, 0, 3, 0, 0, 0, 56, 127, 0, 0, 0, 1792, 0, 0, 0, 28672, 65535, 131071, 262143]
theorem dactylref17_SwapWords.tab8 : rtab .any (opsOf Try.f33 8) = dactylref17_SwapWords.T8 := by kernel_rfl
theorem dactylref17_SwapWords.bits8 : waitsOk dactylref17_SwapWords.T8.2 dactylref17_SwapWords.B8 = true := by kernel_rfl
set_option maxHeartbeats 8000000 in
set_option maxRecDepth 100000 in
theorem dactylref17_SwapWords.calls (k : Nat) (P0_0_ : Nat → Prop) (A0_0 : Option Addr) (c0_0 : Nat) (l0_0 : List (S47)) (a0_1 : Int) (r1 : List (S47)) (r2 : Int) (r3 : Bool) (w : World) (hs0_0 : Kd.V k47 47 w w.heap.size (fun k_ => P0_0_ k_) (.slice A0_0 l0_0.length c0_0) l0_0) (h : dactylref17_SwapWords.f k l0_0 a0_1 = some (r1, r2, r3)) :
  Calls Try.prog 33 #[.agg #[.slice A0_0 l0_0.length c0_0, .int .i64 a0_1]] w fun e w' => ∃ v0_ : Value, e = .returned (.tuple #[.agg #[v0_, .int .i64 r2], .bool r3]) ∧ Kd.V k47 47 w' w.heap.size (fun k_ => (P0_0_ k_ ∨ w.heap.size ≤ k_)) v0_ r1 ∧ Below w.heap.size w w' := by
 have hu24 := Try.underlying24
 have HO0_0 := Aside0.mk (show Kd.V k47 47 w w.heap.size (fun k_ => (P0_0_ k_ ∨ w.heap.size ≤ k_)) (.slice A0_0 l0_0.length c0_0) l0_0 from Kd.V_mono hs0_0 (fun k_ hk => .inl hk))
 have HB := Aside0.mk (Below.refl w.heap.size w)
 have H : ((dactylref05_Next.f k l0_0 a0_1).bind fun t103 => ((dactylref05_Back.f k l0_0 t103).bind fun t104 => ((dactylref05_Next.f k l0_0 t104).bind fun t105 => ((dactylref05_Back.f k l0_0 t104).bind fun t106 => ((dactylref05_Next.f k l0_0 t106).bind fun t107 => (if t106 ≥ t104 then (dactylref17_SwapWords.j0 k l0_0 t104 t105 t106 t107 true l0_0 a0_1) else (if t107 > t104 then (dactylref17_SwapWords.j0 k l0_0 t104 t105 t106 t107 true l0_0 a0_1) else ((dactylref05_At.f k l0_0 t106 false).bind fun t108 => (if t108 = 1 then ((dactylref05_At.f k l0_0 t104 false).bind fun t109 => (dactylref17_SwapWords.j0 k l0_0 t104 t105 t106 t107 (t109 != 1) l0_0 a0_1)) else (dactylref17_SwapWords.j0 k l0_0 t104 t105 t106 t107 true l0_0 a0_1)))))))))) = some (r1, r2, r3) := h
 clear h
 replace H := Option.bind_eq_some_iff.mp H
 obtain ⟨t103, A20, H⟩ := H
 try dsimp only at H
 have A2 := Aside0.mk A20
 clear A20
 replace H := Option.bind_eq_some_iff.mp H
 obtain ⟨t104, A30, H⟩ := H
 try dsimp only at H
 have A3 := Aside0.mk A30
 clear A30
 replace H := Option.bind_eq_some_iff.mp H
 obtain ⟨t105, A40, H⟩ := H
 try dsimp only at H
 have A4 := Aside0.mk A40
 clear A40
 replace H := Option.bind_eq_some_iff.mp H
 obtain ⟨t106, A50, H⟩ := H
 try dsimp only at H
 have A5 := Aside0.mk A50
 clear A50
 replace H := Option.bind_eq_some_iff.mp H
 obtain ⟨t107, A60, H⟩ := H
 try dsimp only at H
 have A6 := Aside0.mk A60
 clear A60
 have HC7 := Aside0.mk H
 clear H
 go_enter Try.func33, Try.ntmps33
 go_upto_region 6 with (first | ((with_reducible refine gate_dst (N := 1) rfl ?_); refine box_event ?hg (N := 1) ?hd (cs := #[.slice A0_0 l0_0.length c0_0, .int .i64 a0_1]) (t := 24) ?hr ?_; (case hd => rfl); (case hg => rfl); (case hr => first | (go_simp; done) | (go_simp; rfl)); intro gb101 hg w8 hbox hb; replace HO0_0 := a0 (Kd.V_below (Kd.V_elderB HO0_0.out gb101 (Nat.le_of_eq hg.symm)) hb); have BK101 := a0 (hbox); have GW101 := a0 ((by rw [hg]; exact (below_size HB.out) : w.heap.size ≤ gb101)); have GE101 := a0 ((by rw [hg]; exact (below_size HB.out) : w.heap.size ≤ gb101)); replace HB := a0 (below_step HB.out hb); clear hb hbox hg) | ((with_reducible refine gate_dst (N := 2) rfl ?_); refine box_event ?hg (N := 2) ?hd (cs := #[.slice none 0 0, .int .i64 0]) (t := 24) ?hr ?_; (case hd => rfl); (case hg => rfl); (case hr => first | (go_simp; done) | (go_simp; rfl)); intro gb102 hg w9 hbox hb; replace HO0_0 := a0 (Kd.V_below (Kd.V_elderB HO0_0.out gb102 (Nat.le_of_eq hg.symm)) hb); have BK102 := a0 (hbox); have GW102 := a0 ((by rw [hg]; exact (below_size HB.out) : w.heap.size ≤ gb102)); have GE102 := a0 ((by rw [hg]; exact (below_size HB.out) : w.heap.size ≤ gb102)); replace HB := a0 (below_step HB.out hb); have NB101_102 := a0 ((by rw [hg]; exact Nat.ne_of_lt (blk_lt BK101.out) : gb101 ≠ gb102)); have NB102_101 := a0 ((by rw [hg]; exact Nat.ne_of_gt (blk_lt BK101.out) : gb102 ≠ gb101)); replace BK101 := a0 (bB hb BK101.out); clear hb hbox hg; have hnb10 := NB101_102.out; have hnc10 := NB102_101.out; obtain ⟨hcz11_0, hcz11_1, hfz11_0, hfz11_1⟩ := c2 BK101.out) | ((with_reducible refine gate_callee (f := 75) rfl ?_); refine gL (some 16) Try.func75 (by kernel_rfl) #[.slice A0_0 l0_0.length c0_0, .int .i64 a0_1] rfl rfl rfl rfl rfl ?_; (with_reducible refine (dactylref05_Next.calls k _ _ l0_0 a0_1 t103 _ ?side1 ?side2 A2.out).mono ?_); (case side1 => repeat (first | exact (Kd.V_reads' HO0_0.out).2.2 | (with_reducible refine Kd.C_alloc ?_ _) | (with_reducible refine Kd.C_drewN ?_ _) | (with_reducible refine Kd.C_drew ?_))); (case side2 => exact (Kd.V_reads' HO0_0.out).2.1); rintro e w12 ⟨rfl, hb⟩; refine ⟨_, rfl, ?_⟩; replace HO0_0 := a0 (Kd.V_below HO0_0.out hb); replace BK101 := a0 (bB hb BK101.out); replace BK102 := a0 (bB hb BK102.out); replace HB := a0 (below_step HB.out hb); (try clear hb); (try clear hb2); (try clear hk); (try clear hi)) | ((with_reducible refine gate_callee (f := 74) rfl ?_); refine gL (some 17) Try.func74 (by kernel_rfl) #[.slice A0_0 l0_0.length c0_0, .int .i64 t103] rfl rfl rfl rfl rfl ?_; (with_reducible refine (dactylref05_Back.calls k _ _ l0_0 t103 t104 _ ?side1 ?side2 A3.out).mono ?_); (case side1 => repeat (first | exact (Kd.V_reads' HO0_0.out).2.2 | (with_reducible refine Kd.C_alloc ?_ _) | (with_reducible refine Kd.C_drewN ?_ _) | (with_reducible refine Kd.C_drew ?_))); (case side2 => exact (Kd.V_reads' HO0_0.out).2.1); rintro e w13 ⟨rfl, hb⟩; refine ⟨_, rfl, ?_⟩; replace HO0_0 := a0 (Kd.V_below HO0_0.out hb); replace BK101 := a0 (bB hb BK101.out); replace BK102 := a0 (bB hb BK102.out); replace HB := a0 (below_step HB.out hb); (try clear hb); (try clear hb2); (try clear hk); (try clear hi)) | ((with_reducible refine gate_callee (f := 75) rfl ?_); refine gL (some 20) Try.func75 (by kernel_rfl) #[.slice A0_0 l0_0.length c0_0, .int .i64 t104] rfl rfl rfl rfl rfl ?_; (with_reducible refine (dactylref05_Next.calls k _ _ l0_0 t104 t105 _ ?side1 ?side2 A4.out).mono ?_); (case side1 => repeat (first | exact (Kd.V_reads' HO0_0.out).2.2 | (with_reducible refine Kd.C_alloc ?_ _) | (with_reducible refine Kd.C_drewN ?_ _) | (with_reducible refine Kd.C_drew ?_))); (case side2 => exact (Kd.V_reads' HO0_0.out).2.1); rintro e w14 ⟨rfl, hb⟩; refine ⟨_, rfl, ?_⟩; replace HO0_0 := a0 (Kd.V_below HO0_0.out hb); replace BK101 := a0 (bB hb BK101.out); replace BK102 := a0 (bB hb BK102.out); replace HB := a0 (below_step HB.out hb); (try clear hb); (try clear hb2); (try clear hk); (try clear hi)) | ((with_reducible refine gate_callee (f := 74) rfl ?_); refine gL (some 23) Try.func74 (by kernel_rfl) #[.slice A0_0 l0_0.length c0_0, .int .i64 t104] rfl rfl rfl rfl rfl ?_; (with_reducible refine (dactylref05_Back.calls k _ _ l0_0 t104 t106 _ ?side1 ?side2 A5.out).mono ?_); (case side1 => repeat (first | exact (Kd.V_reads' HO0_0.out).2.2 | (with_reducible refine Kd.C_alloc ?_ _) | (with_reducible refine Kd.C_drewN ?_ _) | (with_reducible refine Kd.C_drew ?_))); (case side2 => exact (Kd.V_reads' HO0_0.out).2.1); rintro e w15 ⟨rfl, hb⟩; refine ⟨_, rfl, ?_⟩; replace HO0_0 := a0 (Kd.V_below HO0_0.out hb); replace BK101 := a0 (bB hb BK101.out); replace BK102 := a0 (bB hb BK102.out); replace HB := a0 (below_step HB.out hb); (try clear hb); (try clear hb2); (try clear hk); (try clear hi)) | ((with_reducible refine gate_callee (f := 75) rfl ?_); refine gL (some 26) Try.func75 (by kernel_rfl) #[.slice A0_0 l0_0.length c0_0, .int .i64 t106] rfl rfl rfl rfl rfl ?_; (with_reducible refine (dactylref05_Next.calls k _ _ l0_0 t106 t107 _ ?side1 ?side2 A6.out).mono ?_); (case side1 => repeat (first | exact (Kd.V_reads' HO0_0.out).2.2 | (with_reducible refine Kd.C_alloc ?_ _) | (with_reducible refine Kd.C_drewN ?_ _) | (with_reducible refine Kd.C_drew ?_))); (case side2 => exact (Kd.V_reads' HO0_0.out).2.1); rintro e w16 ⟨rfl, hb⟩; refine ⟨_, rfl, ?_⟩; replace HO0_0 := a0 (Kd.V_below HO0_0.out hb); replace BK101 := a0 (bB hb BK101.out); replace BK102 := a0 (bB hb BK102.out); replace HB := a0 (below_step HB.out hb); (try clear hb); (try clear hb2); (try clear hk); (try clear hi)))
 (try simp only [Act.put, List.setIfInBounds_toArray, List.set_cons_zero, List.set_cons_succ])
 go_cut [46] (fun v46 wc => ∃ (kq : Nat) (x46_6 : Bool), v46 = .bool x46_6 ∧ Aside0 (dactylref17_SwapWords.j0 kq l0_0 t104 t105 t106 t107 x46_6 l0_0 a0_1 = some (r1, r2, r3)) ∧ Aside0 (kq ≤ k) ∧ Aside0 (Kd.V k47 47 wc w.heap.size (fun k_ => (P0_0_ k_ ∨ w.heap.size ≤ k_) ∧ k_ ≠ gb101 ∧ k_ ≠ gb102) (.slice A0_0 l0_0.length c0_0) l0_0) ∧ Aside0 (Kd.V k47 47 wc w.heap.size (fun k_ => (P0_0_ k_ ∨ w.heap.size ≤ k_) ∧ k_ ≠ gb101 ∧ k_ ≠ gb102) (.slice A0_0 l0_0.length c0_0) l0_0) ∧ Aside0 (wc.heap[gb101]? = some (.cells #[(.slice A0_0 l0_0.length c0_0), .int .i64 a0_1] 24 (0, 0))) ∧ Aside0 (wc.heap[gb102]? = some (.cells #[(.slice none 0 0), .int .i64 0] 24 (0, 0))) ∧ Aside0 (Below w.heap.size w wc))
 case first =>
  have H := HC7.out
  clear HC7
  by_cases c17 : t106 ≥ t104
  ·rw [if_pos c17] at H
   have c17b0 : decide (t104 ≤ t106) = true := decide_eq_true c17
   clear c17
   (first | rw [c17b0] | (simp only [i64_w, i32_w]; rw [c17b0]) | skip)
   have H' := Aside0.mk H
   clear H
   go_wp2
   go_meet
   case rel => exact ⟨_, (true), (by first | rfl | (simp; done) | (simp [*]; done)), H', ⟨by first | omega | exact Nat.le_refl _⟩, ⟨by exact Kd.V_mono HO0_0.out (fun _ hk => ⟨hk.1.1, ⟨hk.1.2, hk.2⟩⟩)⟩, ⟨by exact Kd.V_mono HO0_0.out (fun _ hk => ⟨hk.1.1, ⟨hk.1.2, hk.2⟩⟩)⟩, ⟨by exact BK101.out⟩, ⟨by exact BK102.out⟩, ⟨by repeat (first | (with_reducible first | exact HB.out | apply below_alloc | apply pw_below_drewN | apply below_drew1 | refine below_set ?_ GE101.out | refine below_set ?_ GE102.out) | exact HB.out)⟩⟩
  ·rw [if_neg c17] at H
   have c17b0 : decide (t104 ≤ t106) = false := decide_eq_false c17
   clear c17
   (first | rw [c17b0] | (simp only [i64_w, i32_w]; rw [c17b0]) | skip)
   by_cases c18 : t107 > t104
   ·rw [if_pos c18] at H
    have c18b0 : decide (t104 < t107) = true := decide_eq_true c18
    clear c18
    have H' := Aside0.mk H
    clear H
    go_wp2
    go_meet
    case rel => exact ⟨_, (true), (by first | rfl | (simp; done) | (simp [*]; done)), H', ⟨by first | omega | exact Nat.le_refl _⟩, ⟨by exact Kd.V_mono HO0_0.out (fun _ hk => ⟨hk.1.1, ⟨hk.1.2, hk.2⟩⟩)⟩, ⟨by exact Kd.V_mono HO0_0.out (fun _ hk => ⟨hk.1.1, ⟨hk.1.2, hk.2⟩⟩)⟩, ⟨by exact BK101.out⟩, ⟨by exact BK102.out⟩, ⟨by repeat (first | (with_reducible first | exact HB.out | apply below_alloc | apply pw_below_drewN | apply below_drew1 | refine below_set ?_ GE101.out | refine below_set ?_ GE102.out) | exact HB.out)⟩⟩
   ·rw [if_neg c18] at H
    have c18b0 : decide (t104 < t107) = false := decide_eq_false c18
    clear c18
    replace H := Option.bind_eq_some_iff.mp H
    obtain ⟨t108, A190, H⟩ := H
    try dsimp only at H
    have A19 := Aside0.mk A190
    clear A190
    by_cases c20 : t108 = 1
    ·rw [if_pos c20] at H
     have c20b0 : (t108 == 1) = true := beq_iff_eq.mpr c20
     have c20b1 : (t108 != 1) = false := bne_eq_false_iff_eq.mpr c20
     clear c20
     replace H := Option.bind_eq_some_iff.mp H
     obtain ⟨t109, A210, H⟩ := H
     try dsimp only at H
     have A21 := Aside0.mk A210
     clear A210
     have H' := Aside0.mk H
     clear H
     go_wp2_with (first | (go_at_call 76; (with_reducible refine (dactylref05_At.calls k _ _ l0_0 t106 false t108 _ ?side1 ?side2 A19.out).mono ?_); (case side1 => repeat (first | exact (Kd.V_reads' HO0_0.out).2.2 | (with_reducible refine Kd.C_alloc ?_ _) | (with_reducible refine Kd.C_drewN ?_ _) | (with_reducible refine Kd.C_drew ?_))); (case side2 => exact (Kd.V_reads' HO0_0.out).2.1); rintro e w22 ⟨rfl, hb⟩; replace HO0_0 := a0 (Kd.V_below HO0_0.out hb); replace BK101 := a0 (bB hb BK101.out); replace BK102 := a0 (bB hb BK102.out); replace HB := a0 (below_step HB.out hb); (try clear hb); (try clear hb2); (try clear hk); (try clear hi)) | (go_at_call 76; (with_reducible refine (dactylref05_At.calls k _ _ l0_0 t104 false t109 _ ?side1 ?side2 A21.out).mono ?_); (case side1 => repeat (first | exact (Kd.V_reads' HO0_0.out).2.2 | (with_reducible refine Kd.C_alloc ?_ _) | (with_reducible refine Kd.C_drewN ?_ _) | (with_reducible refine Kd.C_drew ?_))); (case side2 => exact (Kd.V_reads' HO0_0.out).2.1); rintro e w23 ⟨rfl, hb⟩; replace HO0_0 := a0 (Kd.V_below HO0_0.out hb); replace BK101 := a0 (bB hb BK101.out); replace BK102 := a0 (bB hb BK102.out); replace HB := a0 (below_step HB.out hb); (try clear hb); (try clear hb2); (try clear hk); (try clear hi)))
     go_meet
     case rel => exact ⟨_, ((t109 != 1)), (by first | rfl | (simp; done) | (simp [*]; done)), H', ⟨by first | omega | exact Nat.le_refl _⟩, ⟨by exact Kd.V_mono HO0_0.out (fun _ hk => ⟨hk.1.1, ⟨hk.1.2, hk.2⟩⟩)⟩, ⟨by exact Kd.V_mono HO0_0.out (fun _ hk => ⟨hk.1.1, ⟨hk.1.2, hk.2⟩⟩)⟩, ⟨by exact BK101.out⟩, ⟨by exact BK102.out⟩, ⟨by repeat (first | (with_reducible first | exact HB.out | apply below_alloc | apply pw_below_drewN | apply below_drew1 | refine below_set ?_ GE101.out | refine below_set ?_ GE102.out) | exact HB.out)⟩⟩
    ·rw [if_neg c20] at H
     have c20b0 : (t108 == 1) = false := beq_eq_false_iff_ne.mpr c20
     have c20b1 : (t108 != 1) = true := bne_iff_ne.mpr c20
     have H' := Aside0.mk H
     clear H
     go_wp2_with (first | (go_at_call 76; (with_reducible refine (dactylref05_At.calls k _ _ l0_0 t106 false t108 _ ?side1 ?side2 A19.out).mono ?_); (case side1 => repeat (first | exact (Kd.V_reads' HO0_0.out).2.2 | (with_reducible refine Kd.C_alloc ?_ _) | (with_reducible refine Kd.C_drewN ?_ _) | (with_reducible refine Kd.C_drew ?_))); (case side2 => exact (Kd.V_reads' HO0_0.out).2.1); rintro e w24 ⟨rfl, hb⟩; replace HO0_0 := a0 (Kd.V_below HO0_0.out hb); replace BK101 := a0 (bB hb BK101.out); replace BK102 := a0 (bB hb BK102.out); replace HB := a0 (below_step HB.out hb); (try clear hb); (try clear hb2); (try clear hk); (try clear hi)))
     go_meet
     case rel => exact ⟨_, (true), (by first | rfl | (simp; done) | (simp [*]; done)), H', ⟨by first | omega | exact Nat.le_refl _⟩, ⟨by exact Kd.V_mono HO0_0.out (fun _ hk => ⟨hk.1.1, ⟨hk.1.2, hk.2⟩⟩)⟩, ⟨by exact Kd.V_mono HO0_0.out (fun _ hk => ⟨hk.1.1, ⟨hk.1.2, hk.2⟩⟩)⟩, ⟨by exact BK101.out⟩, ⟨by exact BK102.out⟩, ⟨by repeat (first | (with_reducible first | exact HB.out | apply below_alloc | apply pw_below_drewN | apply below_drew1 | refine below_set ?_ GE101.out | refine below_set ?_ GE102.out) | exact HB.out)⟩⟩
 case rest =>
  clear HC7
  try clear c1
  try clear c2
  try clear p2
  try clear c3
  try clear c7
  try clear c10
  try clear c17
  try clear c17b0
  try clear c18
  try clear c18b0
  try clear c20
  try clear c20b0
  try clear c20b1
  try clear hcz11_0
  try clear hcz11_1
  try clear hfz11_0
  try clear hfz11_1
  obtain ⟨kq, x46_6, rfl, HA, HJ6, HO_4, HO_102000, BK101, BK102, HB⟩ := hcut
  cases kq with
  | zero => exact absurd HA.out (by simp [dactylref17_SwapWords.j0])
  | succ kj6 =>
   have H := HA.out
   clear HA
   simp only [dactylref17_SwapWords.j0] at H
   by_cases c25 : x46_6 = true
   ·subst c25
    have H1 : (some (l0_0, a0_1, false)) = some (r1, r2, r3) := by rw [if_pos rfl] at H; exact H
    clear H
    have H := H1
    clear H1
    simp only [Option.some.injEq, Prod.mk.injEq] at H
    obtain ⟨rfl, rfl, rfl⟩ := H
    have hnb26 := NB101_102.out
    have hnc26 := NB102_101.out
    have hcz27_0 : wc.cell? ⟨gb101, 0, none⟩ = some (.slice A0_0 l0_0.length c0_0) := (blk_cell BK101.out 0).trans rfl
    have hcz27_1 : wc.cell? ⟨gb101, 1, none⟩ = some (.int .i64 a0_1) := (blk_cell BK101.out 1).trans rfl
    have hfz27_0 := blk_frozen BK101.out 0
    have hfz27_1 := blk_frozen BK101.out 1
    obtain ⟨hcz28_0, hcz28_1, hfz28_0, hfz28_1⟩ := c2 BK102.out
    go_wp2
    refine bodyPost_ret (results_ct rfl _ _ gb102 24 #[.slice A0_0 l0_0.length c0_0, .int .i64 a0_1] (0, 0) _ rfl (by refine blk_put (cs := #[.slice A0_0 l0_0.length c0_0, .int .i64 0]) ?_ 1 _ rfl; refine blk_put (cs := #[.slice none 0 0, .int .i64 0]) ?_ 0 _ rfl; exact BK102.out) Try.underlying24 rfl (by kernel_rfl)) rfl ?_
    exact ⟨_, by first | rfl | (simp [errW_none, errW_some] <;> rfl) | (simp [*, errW_none, errW_some] <;> rfl), by exact Kd.V_mono (Kd.V_far (p := ⟨gb102, 1, none⟩) (Kd.V_far (p := ⟨gb102, 0, none⟩) (Kd.V_mono HO_102000.out (fun k_ hk => (⟨hk, hk.2.2⟩ : _ ∧ k_ ≠ gb102))) (fun _ hk => hk.2) (.slice A0_0 l0_0.length c0_0)) (fun _ hk => hk.2) (.int .i64 a0_1)) (fun _ hk => hk.1.1), by repeat (first | (with_reducible first | exact HB.out | apply below_alloc | apply pw_below_drewN | apply below_drew1 | refine below_set ?_ GE101.out | refine below_set ?_ GE102.out) | exact HB.out)⟩
   ·replace c25 := Bool.eq_false_iff.mpr c25
    subst c25
    have H1 : (if 0 ≤ t106 then (if t106 ≤ (l0_0.length : Int) then (if 0 ≤ t104 then (if t104 ≤ t105 then (if t105 ≤ (l0_0.length : Int) then ((dactylref04_Join.f (l0_0.take (t106 : Int).toNat) ((l0_0.take (t105 : Int).toNat).drop (t104 : Int).toNat)).bind fun t120 => (if 0 ≤ t107 then (if t107 ≤ t104 then (if t104 ≤ (l0_0.length : Int) then (if t106 ≤ t107 then (if t107 ≤ (l0_0.length : Int) then ((dactylref04_Join.f ((l0_0.take (t104 : Int).toNat).drop (t107 : Int).toNat) ((l0_0.take (t107 : Int).toNat).drop (t106 : Int).toNat)).bind fun t133 => ((dactylref04_Join.f t120 t133).bind fun t136 => (if 0 ≤ t105 then ((some (l0_0.drop (t105 : Int).toNat : List (S47))).bind fun y139 => (if t136.length + y139.length < 8796093022208 then (some ((t136 ++ y139), t105, true)) else (none))) else (none)))) else (none)) else (none)) else (none)) else (none)) else (none))) else (none)) else (none)) else (none)) else (none)) else (none)) = some (r1, r2, r3) := by rw [if_neg (show ¬ (false = true) by decide)] at H; exact H
    clear H
    have H := H1
    clear H1
    by_cases c29 : 0 ≤ t106
    ·rw [if_pos c29] at H
     have c29b0 := eq_true c29
     have c29b1 : decide (0 ≤ t106) = true := decide_eq_true c29
     clear c29
     by_cases c30 : t106 ≤ (l0_0.length : Int)
     ·rw [if_pos c30] at H
      have c30b0 := eq_true c30
      have c30b1 : decide (t106 ≤ (l0_0.length : Int)) = true := decide_eq_true c30
      clear c30
      obtain ⟨y110, hy110⟩ : ∃ y_ : List (S47), y_ = (l0_0.take (t106 : Int).toNat) := ⟨_, rfl⟩
      replace H : (if 0 ≤ t104 then (if t104 ≤ t105 then (if t105 ≤ (l0_0.length : Int) then ((dactylref04_Join.f y110 ((l0_0.take (t105 : Int).toNat).drop (t104 : Int).toNat)).bind fun t120 => (if 0 ≤ t107 then (if t107 ≤ t104 then (if t104 ≤ (l0_0.length : Int) then (if t106 ≤ t107 then (if t107 ≤ (l0_0.length : Int) then ((dactylref04_Join.f ((l0_0.take (t104 : Int).toNat).drop (t107 : Int).toNat) ((l0_0.take (t107 : Int).toNat).drop (t106 : Int).toNat)).bind fun t133 => ((dactylref04_Join.f t120 t133).bind fun t136 => (if 0 ≤ t105 then ((some (l0_0.drop (t105 : Int).toNat : List (S47))).bind fun y139 => (if t136.length + y139.length < 8796093022208 then (some ((t136 ++ y139), t105, true)) else (none))) else (none)))) else (none)) else (none)) else (none)) else (none)) else (none))) else (none)) else (none)) else (none)) = some (r1, r2, r3) := by first | (rw [hy110]; with_reducible exact H) | (have H2_ := (Option.bind_some _ _).symm.trans H; rw [hy110]; with_reducible exact H2_) | (have H2_ := (Option.bind_some _ _).symm.trans H; with_reducible exact H2_) | with_reducible exact H | (rw [hy110]; exact H) | exact H
      have Ny110 := Aside0.mk hy110
      clear hy110
      by_cases c31 : 0 ≤ t104
      ·rw [if_pos c31] at H
       have c31b0 := eq_true c31
       have c31b1 : decide (0 ≤ t104) = true := decide_eq_true c31
       clear c31
       by_cases c32 : t104 ≤ t105
       ·rw [if_pos c32] at H
        have c32b0 := eq_true c32
        have c32b1 : decide (t104 ≤ t105) = true := decide_eq_true c32
        clear c32
        by_cases c33 : t105 ≤ (l0_0.length : Int)
        ·rw [if_pos c33] at H
         have c33b0 := eq_true c33
         have c33b1 : decide (t105 ≤ (l0_0.length : Int)) = true := decide_eq_true c33
         clear c33
         obtain ⟨y115, hy115⟩ : ∃ y_ : List (S47), y_ = ((l0_0.take (t105 : Int).toNat).drop (t104 : Int).toNat) := ⟨_, rfl⟩
         replace H : ((dactylref04_Join.f y110 y115).bind fun t120 => (if 0 ≤ t107 then (if t107 ≤ t104 then (if t104 ≤ (l0_0.length : Int) then (if t106 ≤ t107 then (if t107 ≤ (l0_0.length : Int) then ((dactylref04_Join.f ((l0_0.take (t104 : Int).toNat).drop (t107 : Int).toNat) ((l0_0.take (t107 : Int).toNat).drop (t106 : Int).toNat)).bind fun t133 => ((dactylref04_Join.f t120 t133).bind fun t136 => (if 0 ≤ t105 then ((some (l0_0.drop (t105 : Int).toNat : List (S47))).bind fun y139 => (if t136.length + y139.length < 8796093022208 then (some ((t136 ++ y139), t105, true)) else (none))) else (none)))) else (none)) else (none)) else (none)) else (none)) else (none))) = some (r1, r2, r3) := by first | (rw [hy115]; with_reducible exact H) | (have H2_ := (Option.bind_some _ _).symm.trans H; rw [hy115]; with_reducible exact H2_) | (have H2_ := (Option.bind_some _ _).symm.trans H; with_reducible exact H2_) | with_reducible exact H | (rw [hy115]; exact H) | exact H
         have Ny115 := Aside0.mk hy115
         clear hy115
         replace H := Option.bind_eq_some_iff.mp H
         obtain ⟨t120, A340, H⟩ := H
         try dsimp only at H
         have A34 := Aside0.mk A340
         clear A340
         by_cases c35 : 0 ≤ t107
         ·rw [if_pos c35] at H
          have c35b0 := eq_true c35
          have c35b1 : decide (0 ≤ t107) = true := decide_eq_true c35
          clear c35
          by_cases c36 : t107 ≤ t104
          ·rw [if_pos c36] at H
           have c36b0 := eq_true c36
           have c36b1 : decide (t107 ≤ t104) = true := decide_eq_true c36
           clear c36
           by_cases c37 : t104 ≤ (l0_0.length : Int)
           ·rw [if_pos c37] at H
            have c37b0 := eq_true c37
            have c37b1 : decide (t104 ≤ (l0_0.length : Int)) = true := decide_eq_true c37
            clear c37
            obtain ⟨y123, hy123⟩ : ∃ y_ : List (S47), y_ = ((l0_0.take (t104 : Int).toNat).drop (t107 : Int).toNat) := ⟨_, rfl⟩
            replace H : (if t106 ≤ t107 then (if t107 ≤ (l0_0.length : Int) then ((dactylref04_Join.f y123 ((l0_0.take (t107 : Int).toNat).drop (t106 : Int).toNat)).bind fun t133 => ((dactylref04_Join.f t120 t133).bind fun t136 => (if 0 ≤ t105 then ((some (l0_0.drop (t105 : Int).toNat : List (S47))).bind fun y139 => (if t136.length + y139.length < 8796093022208 then (some ((t136 ++ y139), t105, true)) else (none))) else (none)))) else (none)) else (none)) = some (r1, r2, r3) := by first | (rw [hy123]; with_reducible exact H) | (have H2_ := (Option.bind_some _ _).symm.trans H; rw [hy123]; with_reducible exact H2_) | (have H2_ := (Option.bind_some _ _).symm.trans H; with_reducible exact H2_) | with_reducible exact H | (rw [hy123]; exact H) | exact H
            have Ny123 := Aside0.mk hy123
            clear hy123
            have c38b0 := eq_true (of_decide_eq_true (by first | (with_reducible assumption) | assumption) : 0 ≤ t106)
            by_cases c39 : t106 ≤ t107
            ·rw [if_pos c39] at H
             have c39b0 := eq_true c39
             have c39b1 : decide (t106 ≤ t107) = true := decide_eq_true c39
             clear c39
             by_cases c40 : t107 ≤ (l0_0.length : Int)
             ·rw [if_pos c40] at H
              have c40b0 := eq_true c40
              have c40b1 : decide (t107 ≤ (l0_0.length : Int)) = true := decide_eq_true c40
              clear c40
              obtain ⟨y128, hy128⟩ : ∃ y_ : List (S47), y_ = ((l0_0.take (t107 : Int).toNat).drop (t106 : Int).toNat) := ⟨_, rfl⟩
              replace H : ((dactylref04_Join.f y123 y128).bind fun t133 => ((dactylref04_Join.f t120 t133).bind fun t136 => (if 0 ≤ t105 then ((some (l0_0.drop (t105 : Int).toNat : List (S47))).bind fun y139 => (if t136.length + y139.length < 8796093022208 then (some ((t136 ++ y139), t105, true)) else (none))) else (none)))) = some (r1, r2, r3) := by first | (rw [hy128]; with_reducible exact H) | (have H2_ := (Option.bind_some _ _).symm.trans H; rw [hy128]; with_reducible exact H2_) | (have H2_ := (Option.bind_some _ _).symm.trans H; with_reducible exact H2_) | with_reducible exact H | (rw [hy128]; exact H) | exact H
              have Ny128 := Aside0.mk hy128
              clear hy128
              replace H := Option.bind_eq_some_iff.mp H
              obtain ⟨t133, A410, H⟩ := H
              try dsimp only at H
              have A41 := Aside0.mk A410
              clear A410
              replace H := Option.bind_eq_some_iff.mp H
              obtain ⟨t136, A420, H⟩ := H
              try dsimp only at H
              have A42 := Aside0.mk A420
              clear A420
              by_cases c43 : 0 ≤ t105
              ·rw [if_pos c43] at H
               have c43b0 := eq_true c43
               have c43b1 : decide (0 ≤ t105) = true := decide_eq_true c43
               clear c43
               have c44b0 := eq_true (of_decide_eq_true (by first | (with_reducible assumption) | assumption) : t105 ≤ (l0_0.length : Int))
               obtain ⟨y139, hy139⟩ : ∃ y_ : List (S47), y_ = (l0_0.drop (t105 : Int).toNat) := ⟨_, rfl⟩
               replace H : (if t136.length + y139.length < 8796093022208 then (some ((t136 ++ y139), t105, true)) else (none)) = some (r1, r2, r3) := by first | (rw [hy139]; with_reducible exact H) | (have H2_ := (Option.bind_some _ _).symm.trans H; rw [hy139]; with_reducible exact H2_) | (have H2_ := (Option.bind_some _ _).symm.trans H; with_reducible exact H2_) | with_reducible exact H | (rw [hy139]; exact H) | exact H
               have Ny139 := Aside0.mk hy139
               clear hy139
               by_cases c45 : t136.length + y139.length < 8796093022208
               ·rw [if_pos c45] at H
                have LMc45 := Aside0.mk c45
                clear c45
                obtain ⟨y144, hy144⟩ : ∃ y_ : List (S47), y_ = (t136 ++ y139) := ⟨_, rfl⟩
                replace H : (some (y144, t105, true)) = some (r1, r2, r3) := by first | (rw [hy144]; with_reducible exact H) | (have H2_ := (Option.bind_some _ _).symm.trans H; rw [hy144]; with_reducible exact H2_) | (have H2_ := (Option.bind_some _ _).symm.trans H; with_reducible exact H2_) | with_reducible exact H | (rw [hy144]; exact H) | exact H
                have Ny144 := Aside0.mk hy144
                clear hy144
                simp only [Option.some.injEq, Prod.mk.injEq] at H
                obtain ⟨rfl, rfl, rfl⟩ := H
                try go_wp2
                replace HO_4 := a0 (Kd.V_drew HO_4.out)
                replace HO_102000 := a0 (Kd.V_drew HO_102000.out)
                replace BK101 := a0 (blk_drew BK101.out)
                replace BK102 := a0 (blk_drew BK102.out)
                replace HB := a0 (below_drew1 HB.out)
                have q47 : (t106 : Int) ≤ ((l0_0.length : Int) : Int) := of_decide_eq_true (by first | (with_reducible assumption) | assumption)
                obtain ⟨i047, hi047, _, hsz47, _⟩ := info_parts info47
                have hroom47 : l0_0.length ≤ c0_0 := (Kd.V_reads' HO_4.out).2.1
                have hC47 : Kd.F k47 _ _ A0_0 l0_0.length l0_0 := (Kd.V_at (base := w.heap.size) HO_4.out).2.2
                have hcut47 := cut_to (P := Try.prog) 22 47 .i64 Try.underlying22 hi047 A0_0 l0_0.length c0_0 t106 (of_decide_eq_true (by first | (with_reducible assumption) | assumption)) q47 hroom47
                have hr47 := Kd.F_take (m := (t106 : Int).toNat) hC47 (by omega)
                have hy47 : y110.length = (t106 : Int).toNat := (by rw [Ny110.out, List.length_take]; omega)
                rw [← Ny110.out] at hr47
                rw [← hy47] at hcut47
                have HO114 := Aside0.mk (show Kd.V k47 47 _ w.heap.size _ (.slice A0_0 y110.length c0_0) y110 from Kd.V_mk (by omega) hr47)
                have HC114 := Aside0.mk (show y110.length ≤ c0_0 from by omega)
                clear hr47 hC47 hroom47 hi047 hsz47
                have KY47 := Aside0.mk hy47
                clear hy47
                replace q47 := eq_true q47
                have q48 : (t105 : Int) ≤ ((l0_0.length : Int) : Int) := of_decide_eq_true (by first | (with_reducible assumption) | assumption)
                obtain ⟨i048, hi048, _, hsz48, _⟩ := info_parts info47
                have hroom48 : l0_0.length ≤ c0_0 := (Kd.V_reads' HO_4.out).2.1
                have hC48 : Kd.F k47 _ _ A0_0 l0_0.length l0_0 := (Kd.V_at (base := w.heap.size) HO_4.out).2.2
                have ql48 : (t104 : Int) ≤ (t105 : Int) := of_decide_eq_true (by first | (with_reducible assumption) | assumption)
                have q048 : (0 : Int) ≤ (t104 : Int) := of_decide_eq_true (by first | (with_reducible assumption) | assumption)
                have hcut48 := cut_mid (P := Try.prog) 22 47 .i64 .i64 Try.underlying22 hi048 2 hsz48 A0_0 l0_0.length c0_0 t104 t105 q048 ql48 q48 hroom48
                have hr48 := Kd.F_mid (lo := (t104 : Int).toNat) (hi := (t105 : Int).toNat) (c := c0_0) hC48 (by omega) (by omega) hroom48
                obtain ⟨A48, hA48⟩ : ∃ A1, A1 = (if c0_0 = (t104 : Int).toNat then A0_0 else (A0_0 : Option Addr).map (·.add ((t104 : Int).toNat * 2))) := ⟨_, rfl⟩
                obtain ⟨c48, hc48⟩ : ∃ c1, c1 = c0_0 - (t104 : Int).toNat := ⟨_, rfl⟩
                have hy48 : y115.length = (t105 : Int).toNat - (t104 : Int).toNat := (by rw [Ny115.out, List.length_drop, List.length_take] <;> omega)
                rw [show ((l0_0).take (t105 : Int).toNat).drop (t104 : Int).toNat = y115 from Ny115.out.symm] at hr48
                replace hr48 : Kd.F k47 _ _ A48 y115.length y115 := (by rw [hA48]; exact hr48)
                rw [← hy48, ← hA48, ← hc48] at hcut48
                have HO119 := Aside0.mk (show Kd.V k47 47 _ w.heap.size _ (.slice A48 y115.length c48) y115 from Kd.V_mk (by rw [hy48, hc48]; exact Nat.sub_le_sub_right (Nat.le_trans (by omega) hroom48) _) hr48)
                have HC119 := Aside0.mk (show y115.length ≤ c48 from by rw [hy48, hc48]; exact Nat.sub_le_sub_right (Nat.le_trans (by omega) hroom48) _)
                clear hr48 hC48 hroom48 hi048 hsz48 hc48
                have KY48 := Aside0.mk hy48
                have KA48 := Aside0.mk hA48
                clear hy48 hA48
                replace q48 := eq_true q48
                have q49 : (t104 : Int) ≤ ((l0_0.length : Int) : Int) := of_decide_eq_true (by first | (with_reducible assumption) | assumption)
                obtain ⟨i049, hi049, _, hsz49, _⟩ := info_parts info47
                have hroom49 : l0_0.length ≤ c0_0 := (Kd.V_reads' HO_4.out).2.1
                have hC49 : Kd.F k47 _ _ A0_0 l0_0.length l0_0 := (Kd.V_at (base := w.heap.size) HO_4.out).2.2
                have ql49 : (t107 : Int) ≤ (t104 : Int) := of_decide_eq_true (by first | (with_reducible assumption) | assumption)
                have q049 : (0 : Int) ≤ (t107 : Int) := of_decide_eq_true (by first | (with_reducible assumption) | assumption)
                have hcut49 := cut_mid (P := Try.prog) 22 47 .i64 .i64 Try.underlying22 hi049 2 hsz49 A0_0 l0_0.length c0_0 t107 t104 q049 ql49 q49 hroom49
                have hr49 := Kd.F_mid (lo := (t107 : Int).toNat) (hi := (t104 : Int).toNat) (c := c0_0) hC49 (by omega) (by omega) hroom49
                obtain ⟨A49, hA49⟩ : ∃ A1, A1 = (if c0_0 = (t107 : Int).toNat then A0_0 else (A0_0 : Option Addr).map (·.add ((t107 : Int).toNat * 2))) := ⟨_, rfl⟩
                obtain ⟨c49, hc49⟩ : ∃ c1, c1 = c0_0 - (t107 : Int).toNat := ⟨_, rfl⟩
                have hy49 : y123.length = (t104 : Int).toNat - (t107 : Int).toNat := (by rw [Ny123.out, List.length_drop, List.length_take] <;> omega)
                rw [show ((l0_0).take (t104 : Int).toNat).drop (t107 : Int).toNat = y123 from Ny123.out.symm] at hr49
                replace hr49 : Kd.F k47 _ _ A49 y123.length y123 := (by rw [hA49]; exact hr49)
                rw [← hy49, ← hA49, ← hc49] at hcut49
                have HO127 := Aside0.mk (show Kd.V k47 47 _ w.heap.size _ (.slice A49 y123.length c49) y123 from Kd.V_mk (by rw [hy49, hc49]; exact Nat.sub_le_sub_right (Nat.le_trans (by omega) hroom49) _) hr49)
                have HC127 := Aside0.mk (show y123.length ≤ c49 from by rw [hy49, hc49]; exact Nat.sub_le_sub_right (Nat.le_trans (by omega) hroom49) _)
                clear hr49 hC49 hroom49 hi049 hsz49 hc49
                have KY49 := Aside0.mk hy49
                have KA49 := Aside0.mk hA49
                clear hy49 hA49
                replace q49 := eq_true q49
                have q50 : (t107 : Int) ≤ ((l0_0.length : Int) : Int) := of_decide_eq_true (by first | (with_reducible assumption) | assumption)
                obtain ⟨i050, hi050, _, hsz50, _⟩ := info_parts info47
                have hroom50 : l0_0.length ≤ c0_0 := (Kd.V_reads' HO_4.out).2.1
                have hC50 : Kd.F k47 _ _ A0_0 l0_0.length l0_0 := (Kd.V_at (base := w.heap.size) HO_4.out).2.2
                have ql50 : (t106 : Int) ≤ (t107 : Int) := of_decide_eq_true (by first | (with_reducible assumption) | assumption)
                have q050 : (0 : Int) ≤ (t106 : Int) := of_decide_eq_true (by first | (with_reducible assumption) | assumption)
                have hcut50 := cut_mid (P := Try.prog) 22 47 .i64 .i64 Try.underlying22 hi050 2 hsz50 A0_0 l0_0.length c0_0 t106 t107 q050 ql50 q50 hroom50
                have hr50 := Kd.F_mid (lo := (t106 : Int).toNat) (hi := (t107 : Int).toNat) (c := c0_0) hC50 (by omega) (by omega) hroom50
                obtain ⟨A50, hA50⟩ : ∃ A1, A1 = (if c0_0 = (t106 : Int).toNat then A0_0 else (A0_0 : Option Addr).map (·.add ((t106 : Int).toNat * 2))) := ⟨_, rfl⟩
                obtain ⟨c50, hc50⟩ : ∃ c1, c1 = c0_0 - (t106 : Int).toNat := ⟨_, rfl⟩
                have hy50 : y128.length = (t107 : Int).toNat - (t106 : Int).toNat := (by rw [Ny128.out, List.length_drop, List.length_take] <;> omega)
                rw [show ((l0_0).take (t107 : Int).toNat).drop (t106 : Int).toNat = y128 from Ny128.out.symm] at hr50
                replace hr50 : Kd.F k47 _ _ A50 y128.length y128 := (by rw [hA50]; exact hr50)
                rw [← hy50, ← hA50, ← hc50] at hcut50
                have HO132 := Aside0.mk (show Kd.V k47 47 _ w.heap.size _ (.slice A50 y128.length c50) y128 from Kd.V_mk (by rw [hy50, hc50]; exact Nat.sub_le_sub_right (Nat.le_trans (by omega) hroom50) _) hr50)
                have HC132 := Aside0.mk (show y128.length ≤ c50 from by rw [hy50, hc50]; exact Nat.sub_le_sub_right (Nat.le_trans (by omega) hroom50) _)
                clear hr50 hC50 hroom50 hi050 hsz50 hc50
                have KY50 := Aside0.mk hy50
                have KA50 := Aside0.mk hA50
                clear hy50 hA50
                replace q50 := eq_true q50
                refine start_ (n := 19) (S := fun w' => True) (ds := []) (ba 19 0) (by kernel_rfl) rfl rfl trivial (fun hHeld => ?_); refine with_tabW dactylref17_SwapWords.tab8 dactylref17_SwapWords.bits8 (fun HT_ HW_ => ?_)
                generalize wc.drew = w46 at HO_4 HO_102000 BK101 BK102 HB HO114 HO119 HO127 HO132 hHeld ⊢
                refine pS 0 48 (v := ?_) (a' := ?_) (ba 19 1) HT_ (by kernel_rfl) rfl rfl (fun _ _ _ h => h) (by rfl) ?_ ?_ ?_; rotate_left 2; (intro w'; go_simp; with_reducible rfl); (simp only [Act.put, List.setIfInBounds_toArray, List.set_cons_zero, List.set_cons_succ, i64_w, i32_w]; rfl)
                refine pS 1 49 (v := ?_) (a' := ?_) (ba 19 3) HT_ (by kernel_rfl) rfl rfl (fun _ _ _ h => h) (by rfl) ?_ ?_ ?_; rotate_left 2; (intro w'; go_simp; with_reducible rfl); (simp only [Act.put, List.setIfInBounds_toArray, List.set_cons_zero, List.set_cons_succ, i64_w, i32_w]; rfl)
                refine pS 2 50 (v := ?_) (a' := ?_) (ba 19 7) HT_ (by kernel_rfl) rfl rfl (fun _ _ _ h => h) (by rfl) ?_ ?_ ?_; rotate_left 2; (intro w'; go_simp; with_reducible rfl); (simp only [Act.put, List.setIfInBounds_toArray, List.set_cons_zero, List.set_cons_succ, i64_w, i32_w]; rfl)
                refine pS 3 51 (v := ?_) (a' := ?_) (ba 19 15) HT_ (by kernel_rfl) rfl rfl (fun _ _ _ h => h) (by rfl) ?_ ?_ ?_; rotate_left 2; (intro w'; go_simp; with_reducible rfl); (simp only [Act.put, List.setIfInBounds_toArray, List.set_cons_zero, List.set_cons_succ, i64_w, i32_w]; rfl)
                refine pS 4 52 (v := ?_) (a' := ?_) (ba 19 31) HT_ (by kernel_rfl) rfl rfl (fun _ _ _ h => h) (by rfl) ?_ ?_ ?_; rotate_left 2; (intro w'; go_simp; with_reducible rfl); (simp only [Act.put, List.setIfInBounds_toArray, List.set_cons_zero, List.set_cons_succ, i64_w, i32_w]; rfl)
                refine pS 5 53 (v := ?_) (a' := ?_) (ba 19 63) HT_ (by kernel_rfl) rfl rfl (fun _ _ _ h => h) (by rfl) ?_ ?_ ?_; rotate_left 2; (intro w'; go_simp; with_reducible rfl); (simp only [Act.put, List.setIfInBounds_toArray, List.set_cons_zero, List.set_cons_succ, i64_w, i32_w]; rfl)
                refine pS 6 54 (v := ?_) (a' := ?_) (ba 19 127) HT_ (by kernel_rfl) rfl rfl (fun _ _ _ h => h) (by rfl) ?_ ?_ ?_; rotate_left 2; (intro w'; go_simp; with_reducible rfl); (simp only [Act.put, List.setIfInBounds_toArray, List.set_cons_zero, List.set_cons_succ, i64_w, i32_w]; rfl)
                refine pS 8 56 (v := ?_) (a' := ?_) (ba 19 383) HT_ (by kernel_rfl) rfl rfl (fun _ _ _ h => h) (by rfl) ?_ ?_ ?_; rotate_left 2; (intro w'; go_simp; with_reducible rfl); (simp only [Act.put, List.setIfInBounds_toArray, List.set_cons_zero, List.set_cons_succ, i64_w, i32_w]; rfl)
                refine pS 9 57 (v := ?_) (a' := ?_) (ba 19 895) HT_ (by kernel_rfl) rfl rfl (fun _ _ _ h => h) (by rfl) ?_ ?_ ?_; rotate_left 2; (intro w'; go_simp; with_reducible rfl); (simp only [Act.put, List.setIfInBounds_toArray, List.set_cons_zero, List.set_cons_succ, i64_w, i32_w]; rfl)
                refine pS 10 58 (v := ?_) (a' := ?_) (ba 19 1919) HT_ (by kernel_rfl) rfl rfl (fun _ _ _ h => h) (by rfl) ?_ ?_ ?_; rotate_left 2; (intro w'; go_simp; with_reducible rfl); (simp only [Act.put, List.setIfInBounds_toArray, List.set_cons_zero, List.set_cons_succ, i64_w, i32_w]; rfl)
                refine pS 11 59 (v := ?_) (a' := ?_) (ba 19 3967) HT_ (by kernel_rfl) rfl rfl (fun _ _ _ h => h) (by rfl) ?_ ?_ ?_; rotate_left 2; (intro w'; go_simp; with_reducible rfl); (simp only [Act.put, List.setIfInBounds_toArray, List.set_cons_zero, List.set_cons_succ, i64_w, i32_w]; rfl)
                refine pS 12 60 (v := ?_) (a' := ?_) (ba 19 8063) HT_ (by kernel_rfl) rfl rfl (fun _ _ _ h => h) (by rfl) ?_ ?_ ?_; rotate_left 2; (intro w'; go_simp; with_reducible rfl); (simp only [Act.put, List.setIfInBounds_toArray, List.set_cons_zero, List.set_cons_succ, i64_w, i32_w]; rfl)
                refine pS 13 61 (v := ?_) (a' := ?_) (ba 19 16255) HT_ (by kernel_rfl) rfl rfl (fun _ _ _ h => h) (by rfl) ?_ ?_ ?_; rotate_left 2; (intro w'; go_simp; with_reducible rfl); (simp only [Act.put, List.setIfInBounds_toArray, List.set_cons_zero, List.set_cons_succ, i64_w, i32_w]; rfl)
                refine pS 14 62 (v := ?_) (a' := ?_) (ba 19 32639) HT_ (by kernel_rfl) rfl rfl (fun _ _ _ h => h) (by rfl) ?_ ?_ ?_; rotate_left 2; (intro w'; go_simp; with_reducible rfl); (simp only [Act.put, List.setIfInBounds_toArray, List.set_cons_zero, List.set_cons_succ, i64_w, i32_w]; rfl)
                refine pS 15 63 (v := ?_) (a' := ?_) (ba 19 65407) HT_ (by kernel_rfl) rfl rfl (fun _ _ _ h => h) (by rfl) ?_ ?_ ?_; rotate_left 2; (intro w'; go_simp; with_reducible rfl); (simp only [Act.put, List.setIfInBounds_toArray, List.set_cons_zero, List.set_cons_succ, i64_w, i32_w]; rfl)
                refine one_ (i := 7) (N := some 55) (ba 19 65535) rfl rfl (one_of HT_.out (by kernel_rfl)) (by decide) (fun K hK => ?_)
                refine gR Try.func34 (by kernel_rfl) #[.slice A0_0 y110.length c0_0, .slice A48 y115.length c48] (by rfl) rfl rfl rfl rfl ?_
                with_reducible refine (dactylref04_Join.calls _ _ y110 _ _ y115 t120 _ ?side1 ?side2 ?side3 ?side4 A34.out).mono ?_
                (case side1 => repeat (first | exact (Kd.V_reads' HO114.out).2.2 | (with_reducible refine Kd.C_alloc ?_ _) | (with_reducible refine Kd.C_drewN ?_ _) | (with_reducible refine Kd.C_drew ?_)))
                (case side2 => exact (Kd.V_reads' HO114.out).2.1)
                (case side3 => repeat (first | exact (Kd.V_reads' HO119.out).2.2 | (with_reducible refine Kd.C_alloc ?_ _) | (with_reducible refine Kd.C_drewN ?_ _) | (with_reducible refine Kd.C_drew ?_)))
                (case side4 => exact (Kd.V_reads' HO119.out).2.1)
                rintro e w51 ⟨v121, rfl, ho0, hb⟩
                refine ⟨_, rfl, ?_⟩
                replace HO_4 := a0 (Kd.V_elder' HO_4.out (Kd.R_base ho0) hb)
                replace HO_102000 := a0 (Kd.V_elder' HO_102000.out (Kd.R_base ho0) hb)
                replace HO114 := a0 (Kd.V_elder' HO114.out (Kd.R_base ho0) hb)
                replace HO119 := a0 (Kd.V_elder' HO119.out (Kd.R_base ho0) hb)
                replace HO127 := a0 (Kd.V_elder' HO127.out (Kd.R_base ho0) hb)
                replace HO132 := a0 (Kd.V_elder' HO132.out (Kd.R_base ho0) hb)
                have HO122 := a0 (Kd.R_lower (Kd.R_newM (M := fun k_ => (w.heap.size ≤ k_)) ho0 (below_size HB.out) (fun k_ h_ => h_)) (below_size HB.out))
                replace BK101 := a0 (bB hb BK101.out)
                replace BK102 := a0 (bB hb BK102.out)
                replace HB := a0 (below_step HB.out hb)
                (try clear hb)
                (try clear hb2)
                (try clear hk)
                (try clear hi)
                (try clear ho0)
                refine hK.out _ _ trivial (fun hHeld => ?_)
                clear hK K
                refine norm_ (a' := ?_) ?_ ?_; rotate_left; (show Act.put _ (some 55) _ = _; simp only [Act.put, List.setIfInBounds_toArray, List.set_cons_zero, List.set_cons_succ, i64_w, i32_w]; rfl)
                refine one_ (i := 16) (N := some 64) (ba 19 131071) rfl rfl (one_of HT_.out (by kernel_rfl)) (by decide) (fun K hK => ?_)
                refine gR Try.func34 (by kernel_rfl) #[.slice A49 y123.length c49, .slice A50 y128.length c50] (by rfl) rfl rfl rfl rfl ?_
                with_reducible refine (dactylref04_Join.calls _ _ y123 _ _ y128 t133 _ ?side1 ?side2 ?side3 ?side4 A41.out).mono ?_
                (case side1 => repeat (first | exact (Kd.V_reads' HO127.out).2.2 | (with_reducible refine Kd.C_alloc ?_ _) | (with_reducible refine Kd.C_drewN ?_ _) | (with_reducible refine Kd.C_drew ?_)))
                (case side2 => exact (Kd.V_reads' HO127.out).2.1)
                (case side3 => repeat (first | exact (Kd.V_reads' HO132.out).2.2 | (with_reducible refine Kd.C_alloc ?_ _) | (with_reducible refine Kd.C_drewN ?_ _) | (with_reducible refine Kd.C_drew ?_)))
                (case side4 => exact (Kd.V_reads' HO132.out).2.1)
                rintro e w52 ⟨v134, rfl, ho0, hb⟩
                refine ⟨_, rfl, ?_⟩
                replace HO_4 := a0 (Kd.V_elder' HO_4.out (Kd.R_base ho0) hb)
                replace HO_102000 := a0 (Kd.V_elder' HO_102000.out (Kd.R_base ho0) hb)
                replace HO114 := a0 (Kd.V_elder' HO114.out (Kd.R_base ho0) hb)
                replace HO119 := a0 (Kd.V_elder' HO119.out (Kd.R_base ho0) hb)
                replace HO127 := a0 (Kd.V_elder' HO127.out (Kd.R_base ho0) hb)
                replace HO132 := a0 (Kd.V_elder' HO132.out (Kd.R_base ho0) hb)
                have HO135 := a0 (Kd.R_lower (Kd.R_new' (Kd.R_newM (M := fun k_ => (w.heap.size ≤ k_)) ho0 (below_size HB.out) (fun k_ h_ => h_)) (Kd.R_lt HO122.out)) (below_size HB.out))
                replace HO122 := a0 (Kd.R_elder' HO122.out (Kd.R_base ho0) hb)
                replace BK101 := a0 (bB hb BK101.out)
                replace BK102 := a0 (bB hb BK102.out)
                replace HB := a0 (below_step HB.out hb)
                (try clear hb)
                (try clear hb2)
                (try clear hk)
                (try clear hi)
                (try clear ho0)
                obtain ⟨Ao53, co53, eo53⟩ := Kd.R_slice HO122.out
                (first | subst eo53 | (injection eo53 with f1_ f2_ f3_; have f4_ := f1_.symm; have f5_ := f3_.symm; clear f1_ f2_ f3_; subst f4_; subst f5_))
                obtain ⟨Ao54, co54, eo54⟩ := Kd.R_slice HO135.out
                (first | subst eo54 | (injection eo54 with f1_ f2_ f3_; have f4_ := f1_.symm; have f5_ := f3_.symm; clear f1_ f2_ f3_; subst f4_; subst f5_))
                refine hK.out _ _ trivial (fun hHeld => ?_)
                clear hK K
                refine norm_ (a' := ?_) ?_ ?_; rotate_left; (show Act.put _ (some 64) _ = _; simp only [Act.put, List.setIfInBounds_toArray, List.set_cons_zero, List.set_cons_succ, i64_w, i32_w]; rfl)
                refine one_ (i := 17) (N := some 65) (ba 19 262143) rfl rfl (one_of HT_.out (by kernel_rfl)) (by decide) (fun K hK => ?_)
                refine gR Try.func34 (by kernel_rfl) #[.slice Ao53 t120.length co53, .slice Ao54 t133.length co54] (by rfl) rfl rfl rfl rfl ?_
                with_reducible refine (dactylref04_Join.calls _ _ t120 _ _ t133 t136 _ ?side1 ?side2 ?side3 ?side4 A42.out).mono ?_
                (case side1 => repeat (first | exact (Kd.R_reads' HO122.out).2.2 | (with_reducible refine Kd.C_alloc ?_ _) | (with_reducible refine Kd.C_drewN ?_ _) | (with_reducible refine Kd.C_drew ?_)))
                (case side2 => exact (Kd.R_reads' HO122.out).2.1)
                (case side3 => repeat (first | exact (Kd.R_reads' HO135.out).2.2 | (with_reducible refine Kd.C_alloc ?_ _) | (with_reducible refine Kd.C_drewN ?_ _) | (with_reducible refine Kd.C_drew ?_)))
                (case side4 => exact (Kd.R_reads' HO135.out).2.1)
                rintro e w55 ⟨v137, rfl, ho0, hb⟩
                refine ⟨_, rfl, ?_⟩
                replace HO_4 := a0 (Kd.V_elder' HO_4.out (Kd.R_base ho0) hb)
                replace HO_102000 := a0 (Kd.V_elder' HO_102000.out (Kd.R_base ho0) hb)
                replace HO114 := a0 (Kd.V_elder' HO114.out (Kd.R_base ho0) hb)
                replace HO119 := a0 (Kd.V_elder' HO119.out (Kd.R_base ho0) hb)
                replace HO127 := a0 (Kd.V_elder' HO127.out (Kd.R_base ho0) hb)
                replace HO132 := a0 (Kd.V_elder' HO132.out (Kd.R_base ho0) hb)
                have HO138 := a0 (Kd.R_lower (Kd.R_new' (Kd.R_new' (Kd.R_newM (M := fun k_ => (w.heap.size ≤ k_)) ho0 (below_size HB.out) (fun k_ h_ => h_)) (Kd.R_lt HO122.out)) (Kd.R_lt HO135.out)) (below_size HB.out))
                replace HO122 := a0 (Kd.R_elder' HO122.out (Kd.R_base ho0) hb)
                replace HO135 := a0 (Kd.R_elder' HO135.out (Kd.R_base ho0) hb)
                replace BK101 := a0 (bB hb BK101.out)
                replace BK102 := a0 (bB hb BK102.out)
                replace HB := a0 (below_step HB.out hb)
                (try clear hb)
                (try clear hb2)
                (try clear hk)
                (try clear hi)
                (try clear ho0)
                refine hK.out _ _ trivial (fun hHeld => ?_)
                clear hK K
                refine norm_ (a' := ?_) ?_ ?_; rotate_left; (show Act.put _ (some 65) _ = _; simp only [Act.put, List.setIfInBounds_toArray, List.set_cons_zero, List.set_cons_succ, i64_w, i32_w]; rfl)
                refine pS 18 9 (v := ?_) (a' := ?_) (ba 19 524287) HT_ (by kernel_rfl) rfl rfl (fun _ _ _ h => h) (by rfl) ?_ ?_ ?_; rotate_left 2; (intro w'; go_simp; with_reducible rfl); (simp only [Act.put, List.setIfInBounds_toArray, List.set_cons_zero, List.set_cons_succ, i64_w, i32_w]; rfl)
                refine done_ (done_of HT_.out (by kernel_rfl)) ?_
                have q56 : (t105 : Int) ≤ ((l0_0.length : Int) : Int) := of_decide_eq_true (by first | (with_reducible assumption) | assumption)
                obtain ⟨i056, hi056, _, hsz56, _⟩ := info_parts info47
                have hroom56 : l0_0.length ≤ c0_0 := (Kd.V_reads' HO_4.out).2.1
                have hC56 : Kd.F k47 _ _ A0_0 l0_0.length l0_0 := (Kd.V_at (base := w.heap.size) HO_4.out).2.2
                have q056 : (0 : Int) ≤ (t105 : Int) := of_decide_eq_true (by first | (with_reducible assumption) | assumption)
                have hcut56 := cut_from (P := Try.prog) 22 47 .i64 Try.underlying22 hi056 2 hsz56 A0_0 l0_0.length c0_0 t105 q056 q56
                have hr56 := Kd.F_cut (m := (t105 : Int).toNat) (c := c0_0) hC56 (by omega) hroom56
                obtain ⟨A56, hA56⟩ : ∃ A1, A1 = (if c0_0 = (t105 : Int).toNat then A0_0 else (A0_0 : Option Addr).map (·.add ((t105 : Int).toNat * 2))) := ⟨_, rfl⟩
                obtain ⟨c56, hc56⟩ : ∃ c1, c1 = c0_0 - (t105 : Int).toNat := ⟨_, rfl⟩
                have hy56 : y139.length = l0_0.length - (t105 : Int).toNat := (by rw [Ny139.out, List.length_drop] <;> omega)
                rw [show (l0_0).drop (t105 : Int).toNat = y139 from Ny139.out.symm] at hr56
                replace hr56 : Kd.F k47 _ _ A56 y139.length y139 := (by rw [hA56]; exact hr56)
                rw [← hy56, ← hA56, ← hc56] at hcut56
                have HO143 := Aside0.mk (show Kd.V k47 47 _ w.heap.size _ (.slice A56 y139.length c56) y139 from Kd.V_mk (by rw [hy56, hc56]; exact Nat.sub_le_sub_right hroom56 _) hr56)
                have HC143 := Aside0.mk (show y139.length ≤ c56 from by rw [hy56, hc56]; exact Nat.sub_le_sub_right hroom56 _)
                clear hr56 hC56 hroom56 hi056 hsz56 hc56
                have KY56 := Aside0.mk hy56
                have KA56 := Aside0.mk hA56
                clear hy56 hA56
                replace q56 := eq_true q56
                try go_wp2_with (first | ((with_reducible refine gate_builtin (b := .append) (xs := #[.tmp 66, .tmp 69]) rfl ?_); at_builtin; refine Kd.R_append_rows k47 (w0 := w) w.heap.size rfl (.tmp 66) (.tmp 69) 22 47 (.agg #[(.int .i64 0), (.int .i64 0)]) 16 rfl Try.underlying22 info47 rfl (by decide) (by omega) v137 t136 y139 _ _ _ (fun k_ => (w.heap.size ≤ k_) ∧ some k_ ≠ (.slice Ao53 t120.length co53 : Value).ownBlock ∧ some k_ ≠ (.slice Ao54 t133.length co54 : Value).ownBlock) (fun _ => False) rfl rfl ?aO ?aR (fun _ _ h => h) (fun _ h => h.elim) ?aF ?aB ?aS ?aL ?_; (case aR => repeat (first | exact (Kd.V_reads' HO143.out).2.2 | (with_reducible refine Kd.C_alloc ?_ _) | (with_reducible refine Kd.C_drewN ?_ _) | (with_reducible refine Kd.C_drew ?_))); (case aB => exact HB.out); (case aF => exact (fun k_ hk => ⟨(Nat.le_trans (below_size HB.out) hk), Kd.fresh' (Kd.R_lt HO122.out) k_ hk, Kd.fresh' (Kd.R_lt HO135.out) k_ hk⟩)); (case aO => exact (Kd.R_mono HO138.out (fun _ hk => ⟨hk.1.1.1, ⟨hk.1.2, hk.2⟩⟩))); (case aS => exact (below_size HB.out)); (case aL => have := LMc45.out; omega); intro v145 w57 ho hb hg hat; rw [← Ny144.out] at ho; have n0_ := Aside0.mk (Kd.V_afterv (ok := (fun k_ => (P0_0_ k_ ∨ w.heap.size ≤ k_) ∧ some k_ ≠ (.slice Ao53 t120.length co53 : Value).ownBlock ∧ some k_ ≠ (.slice Ao54 t133.length co54 : Value).ownBlock ∧ k_ ≠ gb101 ∧ k_ ≠ gb102)) (Kd.V_mono HO_4.out (fun _ hk => ⟨⟨hk.1.1.1.1, ⟨hk.1.1.2, ⟨hk.1.2, ⟨hk.1.1.1.2.1, hk.1.1.1.2.2⟩⟩⟩⟩, hk.2⟩)) hg hat); have n1_ := Aside0.mk (Kd.V_afterv (ok := (fun k_ => (P0_0_ k_ ∨ w.heap.size ≤ k_) ∧ some k_ ≠ (.slice Ao53 t120.length co53 : Value).ownBlock ∧ some k_ ≠ (.slice Ao54 t133.length co54 : Value).ownBlock ∧ k_ ≠ gb101 ∧ k_ ≠ gb102)) (Kd.V_mono HO_102000.out (fun _ hk => ⟨⟨hk.1.1.1.1, ⟨hk.1.1.2, ⟨hk.1.2, ⟨hk.1.1.1.2.1, hk.1.1.1.2.2⟩⟩⟩⟩, hk.2⟩)) hg hat); have n2_ := Aside0.mk (blk_grown (g := gb101) (o := .cells #[.slice A0_0 l0_0.length c0_0, .int .i64 a0_1] 24 (0, 0)) BK101.out hg (Kd.R_ne HO138.out BK101.out (by decide))); have n3_ := Aside0.mk (blk_grown (g := gb102) (o := .cells #[.slice none 0 0, .int .i64 0] 24 (0, 0)) BK102.out hg (Kd.R_ne HO138.out BK102.out (by decide))); have n4_ := Aside0.mk (Kd.V_afterv (ok := (fun k_ => (P0_0_ k_ ∨ w.heap.size ≤ k_) ∧ some k_ ≠ (.slice Ao53 t120.length co53 : Value).ownBlock ∧ some k_ ≠ (.slice Ao54 t133.length co54 : Value).ownBlock ∧ k_ ≠ gb101 ∧ k_ ≠ gb102)) (Kd.V_mono HO114.out (fun _ hk => ⟨⟨hk.1.1.1.1, ⟨hk.1.1.2, ⟨hk.1.2, ⟨hk.1.1.1.2.1, hk.1.1.1.2.2⟩⟩⟩⟩, hk.2⟩)) hg hat); have n5_ := Aside0.mk (Kd.V_afterv (ok := (fun k_ => (P0_0_ k_ ∨ w.heap.size ≤ k_) ∧ some k_ ≠ (.slice Ao53 t120.length co53 : Value).ownBlock ∧ some k_ ≠ (.slice Ao54 t133.length co54 : Value).ownBlock ∧ k_ ≠ gb101 ∧ k_ ≠ gb102)) (Kd.V_mono HO119.out (fun _ hk => ⟨⟨hk.1.1.1.1, ⟨hk.1.1.2, ⟨hk.1.2, ⟨hk.1.1.1.2.1, hk.1.1.1.2.2⟩⟩⟩⟩, hk.2⟩)) hg hat); have n6_ := Aside0.mk (Kd.V_afterv (ok := (fun k_ => (P0_0_ k_ ∨ w.heap.size ≤ k_) ∧ some k_ ≠ (.slice Ao53 t120.length co53 : Value).ownBlock ∧ some k_ ≠ (.slice Ao54 t133.length co54 : Value).ownBlock ∧ k_ ≠ gb101 ∧ k_ ≠ gb102)) (Kd.V_mono HO127.out (fun _ hk => ⟨⟨hk.1.1.1.1, ⟨hk.1.1.2, ⟨hk.1.2, ⟨hk.1.1.1.2.1, hk.1.1.1.2.2⟩⟩⟩⟩, hk.2⟩)) hg hat); have n7_ := Aside0.mk (Kd.V_afterv (ok := (fun k_ => (P0_0_ k_ ∨ w.heap.size ≤ k_) ∧ some k_ ≠ (.slice Ao53 t120.length co53 : Value).ownBlock ∧ some k_ ≠ (.slice Ao54 t133.length co54 : Value).ownBlock ∧ k_ ≠ gb101 ∧ k_ ≠ gb102)) (Kd.V_mono HO132.out (fun _ hk => ⟨⟨hk.1.1.1.1, ⟨hk.1.1.2, ⟨hk.1.2, ⟨hk.1.1.1.2.1, hk.1.1.1.2.2⟩⟩⟩⟩, hk.2⟩)) hg hat); have n8_ := Aside0.mk (Kd.R_after (ok := (fun k_ => (w.heap.size ≤ k_) ∧ some k_ ≠ (.slice Ao54 t133.length co54 : Value).ownBlock)) (Kd.R_mono HO122.out (fun _ hk => ⟨⟨hk.1.1.1, hk.1.2⟩, hk.2⟩)) hg hat); have n9_ := Aside0.mk (Kd.R_after (ok := (fun k_ => (w.heap.size ≤ k_) ∧ some k_ ≠ (.slice Ao53 t120.length co53 : Value).ownBlock)) (Kd.R_mono HO135.out (fun _ hk => ⟨⟨hk.1.1.1, hk.1.2⟩, hk.2⟩)) hg hat); have n10_ := Aside0.mk (Kd.V_afterv (ok := (fun k_ => (P0_0_ k_ ∨ w.heap.size ≤ k_) ∧ some k_ ≠ (.slice Ao53 t120.length co53 : Value).ownBlock ∧ some k_ ≠ (.slice Ao54 t133.length co54 : Value).ownBlock ∧ k_ ≠ gb101 ∧ k_ ≠ gb102)) (Kd.V_mono HO143.out (fun _ hk => ⟨⟨hk.1.1.1.1, ⟨hk.1.1.2, ⟨hk.1.2, ⟨hk.1.1.1.2.1, hk.1.1.1.2.2⟩⟩⟩⟩, hk.2⟩)) hg hat); have n11_ := Aside0.mk (hb); have n12_ := Aside0.mk (ho); clear HO_4; clear HO_102000; clear BK101; clear BK102; clear HO114; clear HO119; clear HO127; clear HO132; clear HO122; clear HO135; clear HO143; clear HB; clear HO138; have HO_4 := n0_; have HO_102000 := n1_; have BK101 := n2_; have BK102 := n3_; have HO114 := n4_; have HO119 := n5_; have HO127 := n6_; have HO132 := n7_; have HO122 := n8_; have HO135 := n9_; have HO143 := n10_; have HB := n11_; have HO146 := n12_; clear n0_ n1_ n2_ n3_ n4_ n5_ n6_ n7_ n8_ n9_ n10_ n11_ n12_; clear ho hb hg hat; obtain ⟨Ao58, co58, eo58⟩ := Kd.R_slice HO146.out; subst eo58; have hnb59 := NB102_101.out; have hnc59 := NB101_102.out; obtain ⟨hcz60_0, hcz60_1, hfz60_0, hfz60_1⟩ := c2 BK102.out))
                refine bodyPost_ret (results_ct rfl _ _ gb102 24 #[.slice Ao58 y144.length co58, .int .i64 t105] (0, 0) _ rfl (by refine blk_put (cs := #[.slice Ao58 y144.length co58, .int .i64 0]) ?_ 1 _ rfl; refine blk_put (cs := #[.slice none 0 0, .int .i64 0]) ?_ 0 _ rfl; exact BK102.out) Try.underlying24 rfl (by kernel_rfl)) rfl ?_
                exact ⟨_, by first | rfl | (simp [errW_none, errW_some] <;> rfl) | (simp [*, errW_none, errW_some] <;> rfl), Kd.V_mono (Kd.R_V (Kd.R_mono (Kd.R_far (p := ⟨gb102, 1, none⟩) (Kd.R_far (p := ⟨gb102, 0, none⟩) (Kd.R_types HO146.out BK102.out (by decide)) (fun _ hk => hk.2) (.slice Ao58 y144.length co58)) (fun _ hk => hk.2) (.int .i64 t105)) (fun _ hk => hk.1.1))) (fun k_ hk => by first | exact ⟨(.inr (hk.1)), hk.2⟩ | exact (.inr (hk))), by repeat (first | (with_reducible first | exact HB.out | apply below_alloc | apply pw_below_drewN | apply below_drew1 | refine below_set ?_ GE101.out | refine below_set ?_ GE102.out) | exact HB.out)⟩
               ·rw [if_neg c45] at H
                exact absurd H (by simp)
              ·rw [if_neg c43] at H
               exact absurd H (by simp)
             ·rw [if_neg c40] at H
              exact absurd H (by simp)
            ·rw [if_neg c39] at H
             exact absurd H (by simp)
           ·rw [if_neg c37] at H
            exact absurd H (by simp)
          ·rw [if_neg c36] at H
           exact absurd H (by simp)
         ·rw [if_neg c35] at H
          exact absurd H (by simp)
        ·rw [if_neg c33] at H
         exact absurd H (by simp)
       ·rw [if_neg c32] at H
        exact absurd H (by simp)
      ·rw [if_neg c31] at H
       exact absurd H (by simp)
     ·rw [if_neg c30] at H
      exact absurd H (by simp)
    ·rw [if_neg c29] at H
     exact absurd H (by simp)

end Go.Proofs.Ytemoocoedibbpab.X

namespace Go.Proofs.Ytemoocoedibbpab.X
open Go.RowKit Go.Proofs.YtemoocoedibbpabW.PrintWords Go.Proofs.YtemoocoedibbpabW.PrintLast Go.Proofs.YtemoocoedibbpabW.PrintMore
attribute [local go_sem] max2_int min2_int max_two min_two max_three min_three max_four min_four
set_option linter.unusedVariables false
set_option linter.unusedSimpArgs false

def mayB (l : List S47) (a : Int) : Bool := decide (0 ≤ a) && decide (a ≤ l.length) && allB l
theorem May_f (l : List S47) (a : Int) (hl : l.length ≤ 100000) (k : Nat) (hk : l.length < k) : dactylref17_May.f k l a = some (mayB l a) := by
  unfold dactylref17_May.f mayB
  rw [ref_AllS_f l (by omega) k hk]
  by_cases h1 : a ≥ 0
  · by_cases h2 : a ≤ l.length
    · simp [h1, h2]
    · simp [h1, h2]
  · simp [h1]
theorem Right17_f (l : List S47) (a : Int) : line_Right.f l a = some (mayB l a) := by
  unfold line_Right.f mayB
  rw [sign_Check_f]
  by_cases h1 : a ≥ 0
  · by_cases h2 : a ≤ l.length
    · cases allB l <;> simp [h1, h2]
    · simp [h1, h2]
  · simp [h1]
theorem ref_SameS_f (l m : List S47) (hl : l.length ≤ 100000) (k : Nat) (hk : l.length < k) : dactylref04_Same.f k l m = some (decide (l = m)) := by
  unfold dactylref04_Same.f
  by_cases e : l.length = m.length
  · rw [if_pos (by omega)]
    obtain ⟨b, hb, hiff⟩ := scan_all (fun k i => dactylref04_Same.l0 k l m i) l.length (fun i => decide (rd_T47 l i = rd_T47 m i)) (by omega) (fun k => by simp [dactylref04_Same.l0]) (fun k i hi => by
      simp only [dactylref04_Same.l0]
      rw [if_pos (by omega), if_pos (by omega), if_pos (by omega)]
      generalize rd_T47 l (i : Int) = x
      generalize rd_T47 m (i : Int) = y
      obtain ⟨x0, x1⟩ := x
      obtain ⟨y0, y1⟩ := y
      by_cases c0 : x0 = y0
      · by_cases c1 : x1 = y1
        · simp [c0, c1]
        · simp [c0, c1]
      · simp [c0]) l.length k 0 (by omega) hk
    rw [show dactylref04_Same.l0 k l m 0 = some b from hb]
    congr 1
    rw [Bool.eq_iff_iff, hiff, decide_eq_true_eq]
    constructor
    · intro h
      refine List.ext_getElem e (fun i h1 h2 => ?_)
      have := of_decide_eq_true (h i (by omega) h1)
      rwa [rd_sign l i h1, rd_sign m i h2] at this
    · rintro rfl j _ _
      simp
  · rw [if_neg (by omega)]
    congr 1
    symm
    rw [decide_eq_false_iff_not]
    rintro rfl
    exact e rfl
theorem ref_SameL_f (l m : List S47) (a b : Int) (hl : l.length ≤ 100000) (k : Nat) (hk : l.length < k) : dactylref16_Same.f k l a m b = some (decide (a = b) && decide (l = m)) := by
  unfold dactylref16_Same.f
  rw [ref_SameS_f l m hl k hk]
  by_cases h : a = b <;> simp [h]
theorem Join_f (l m : List S47) (h : l.length + m.length ≤ 1000000) : dactylref04_Join.f l m = some (l ++ m) := by
  unfold dactylref04_Join.f
  simp only [Option.bind_some, List.nil_append, List.length_nil]
  rw [if_pos (by omega), if_pos (by omega)]
theorem swapL_eq (l : List S47) (j : Nat) (h : j + 1 < l.length) : swapL l ((j + 1 : Nat) : Int) = l.take j ++ [rd_T47 l ((j + 1 : Nat) : Int), rd_T47 l (j : Int)] ++ l.drop (j + 2) := by
  unfold swapL
  have e1 : (((j + 1 : Nat) : Int) - 1).toNat = j := by omega
  have e2 : (((j + 1 : Nat) : Int)).toNat = j + 1 := by omega
  have e3 : ((j + 1 : Nat) : Int) - 1 = (j : Int) := by omega
  rw [e1, e2, e3]
  refine List.ext_getElem (by simp; omega) (fun i h1 h2 => ?_)
  rw [List.getElem_set, List.getElem_set]
  by_cases c1 : j + 1 = i
  · subst c1
    rw [if_pos rfl, List.getElem_append_left (by simp; omega), List.getElem_append_right (by simp; omega)]
    simp [show min j l.length = j by omega]
  · rw [if_neg c1]
    by_cases c2 : j = i
    · subst c2
      rw [if_pos rfl, List.getElem_append_left (by simp; omega), List.getElem_append_right (by simp; omega)]
      simp [show min j l.length = j by omega]
    · rw [if_neg c2]
      by_cases c3 : i < j
      · rw [List.getElem_append_left (by simp; omega), List.getElem_append_left (by simp; omega), List.getElem_take]
      · rw [List.getElem_append_right (by simp; omega), List.getElem_drop]
        congr 1
        simp
        omega
theorem line_Swap_f (l : List S47) (a : Int) (hl : l.length ≤ 100000) (hm : mayB l a = true) : line_Swap.f l a = some (if a = 0 ∨ l.length < 2 then (l, a, false) else (swapL l (swI l.length a), swI l.length a + 1, true)) := by
  unfold line_Swap.f
  rw [if_pos (by omega), Right17_f, Option.bind_some, if_pos hm]
  by_cases h1 : a = 0
  · simp [h1]
  · by_cases h2 : l.length < 2
    · simp [h1, h2]
    · simp [h1, h2]
theorem ref_Swap_f (l : List S47) (a : Int) (hl : l.length ≤ 100000) (hm : mayB l a = true) (k : Nat) (hk : 1 ≤ k) : dactylref17_Swap.f k l a = some (if a = 0 ∨ l.length < 2 then (l, a, false) else (swapL l (swI l.length a), swI l.length a + 1, true)) := by
  obtain ⟨k, rfl⟩ : ∃ m, k = m + 1 := ⟨k - 1, by omega⟩
  have hm2 : 0 ≤ a ∧ a ≤ l.length := by
    unfold mayB at hm
    simp only [Bool.and_eq_true, decide_eq_true_eq] at hm
    exact hm.1
  unfold dactylref17_Swap.f
  by_cases h1 : a = 0
  · rw [if_pos h1, if_pos (Or.inl h1)]
    simp [dactylref17_Swap.j0]
  · rw [if_neg h1]
    by_cases h2 : l.length < 2
    · rw [if_pos (Or.inr h2), decide_eq_true (show (l.length : Int) < 2 by omega)]
      simp [dactylref17_Swap.j0]
    · rw [if_neg (by omega), decide_eq_false (show ¬ (l.length : Int) < 2 by omega)]
      simp only [dactylref17_Swap.j0]
      rw [if_neg (by decide), w64 (x := (l.length : Int) - 1) (by omega) (by omega), Low_f, Option.bind_some]
      have e : (if (l.length : Int) - 1 < a then (l.length : Int) - 1 else a) = swI l.length a := rfl
      rw [e]
      have hs : 1 ≤ swI l.length a ∧ swI l.length a < l.length := by unfold swI; split <;> omega
      generalize swI l.length a = i at hs
      obtain ⟨j, rfl⟩ : ∃ j : Nat, i = ((j + 1 : Nat) : Int) := ⟨(i - 1).toNat, by omega⟩
      rw [w64 (x := ((j + 1 : Nat) : Int) - 1) (by omega) (by omega), w64 (x := ((j + 1 : Nat) : Int) + 1) (by omega) (by omega), if_pos (by omega), if_pos (by omega), if_pos (by omega), if_pos (by omega), if_pos (by omega)]
      have e1 : (((j + 1 : Nat) : Int) - 1).toNat = j := by omega
      have e2 : (((j + 1 : Nat) : Int) + 1).toNat = j + 2 := by omega
      have e3 : ((j + 1 : Nat) : Int) - 1 = (j : Int) := by omega
      rw [Join_f _ _ (by simp; omega), Option.bind_some, if_pos (by omega), if_pos (by omega), Option.bind_some, if_pos (by simp; omega), swapL_eq l j (by omega), e1, e2, e3]
/-- Two words change places, if they are there. -/
def swapW (l : List S47) (a : Int) : List S47 × Int × Bool :=
  let s2 := backV l (nextV l a); let e2 := nextV l s2; let s1 := backV l s2; let e1 := nextV l s1
  if s1 ≥ s2 ∨ e1 > s2 ∨ kindV (rd_T47 l s1).f0 ≠ 1 ∨ kindV (rd_T47 l s2).f0 ≠ 1 then (l, a, false)
  else (l.take s1.toNat ++ ((l.take e2.toNat).drop s2.toNat ++ ((l.take s2.toNat).drop e1.toNat ++ ((l.take e1.toNat).drop s1.toNat ++ l.drop e2.toNat))), e2, true)
theorem line_SwapWords_f (l : List S47) (a : Int) (hl : l.length ≤ 100000) (hm : mayB l a = true) (k : Nat) (hk : 3 ≤ k) : line_SwapWords.f k l a = some (swapW l a) := by
  obtain ⟨k, rfl⟩ : ∃ m, k = m + 1 := ⟨k - 1, by omega⟩
  have rs2 := backV_range l (nextV l a)
  have rp2 := pl_range (nextV l a) l.length
  have re2 := nextV_range l (backV l (nextV l a))
  have rs1 := backV_range l (backV l (nextV l a))
  have re1 := nextV_range l (backV l (backV l (nextV l a)))
  unfold line_SwapWords.f swapW
  rw [word_Next_f l a hl, Option.bind_some, word_Back_f l _ hl, Option.bind_some, word_Next_f l _ hl, Option.bind_some, word_Back_f l _ hl, Option.bind_some, word_Next_f l _ hl, Option.bind_some, Right17_f, Option.bind_some, if_pos hm]
  dsimp only
  generalize hs2 : backV l (nextV l a) = s2 at *
  generalize nextV l s2 = e2 at *
  generalize hs1 : backV l s2 = s1 at *
  generalize nextV l s1 = e1 at *
  have p2 : pl s2 l.length = s2 := by unfold pl; (repeat' split) <;> omega
  have p1 : pl s1 l.length = s1 := by rw [p2] at rs1; unfold pl; (repeat' split) <;> omega
  rw [p2] at re2 rs1
  rw [p1] at re1
  have hj : ∀ b, line_SwapWords.j0 (k + 1) l s2 e2 s1 e1 true l a = b → line_SwapWords.j0 (k + 1) l s2 e2 s1 e1 true l a = b := fun _ h => h
  have hno : line_SwapWords.j0 (k + 1) l s2 e2 s1 e1 true l a = some (l, a, false) := by
    simp only [line_SwapWords.j0, if_true]
    unfold line_copied.f Clone_Sign.f
    rw [if_pos (by omega), Option.bind_some, Option.bind_some]
  by_cases c1 : s1 ≥ s2
  · rw [if_pos c1, if_pos (Or.inl c1), hno]
  · rw [if_neg c1]
    by_cases c2 : e1 > s2
    · rw [if_pos c2, if_pos (Or.inr (Or.inl c2)), hno]
    · rw [if_neg c2, if_pos (by omega), if_pos (by omega), word_Kind_f _ _ (by omega), Option.bind_some]
      by_cases c3 : kindV (rd_T47 l s1).f0 = 1
      · rw [if_pos c3, if_pos (by omega), if_pos (by omega), word_Kind_f _ _ (by omega), Option.bind_some]
        by_cases c4 : kindV (rd_T47 l s2).f0 = 1
        · rw [if_neg (by omega), c4]
          simp only [line_SwapWords.j0]
          rw [if_neg (by decide), if_pos (by omega), if_pos (by omega), if_pos (by omega), if_pos (by omega), if_pos (by omega), if_pos (by omega), if_pos (by omega), if_pos (by omega), if_pos (by omega), if_pos (by omega), if_pos (by omega)]
          unfold Concat_Sign.f
          simp only [List.flatten_cons, List.flatten_nil, List.append_nil]
          rw [if_pos (by simp; omega), Option.bind_some]
        · rw [if_pos (Or.inr (Or.inr (Or.inr c4))), show (kindV (rd_T47 l s2).f0 != 1) = true from bne_iff_ne.mpr c4, hno]
      · rw [if_neg c3, if_pos (Or.inr (Or.inr (Or.inl c3))), hno]
theorem ref_SwapWords_f (l : List S47) (a : Int) (hl : l.length ≤ 100000) (k : Nat) (hk : l.length + 70 < k) : dactylref17_SwapWords.f k l a = some (swapW l a) := by
  obtain ⟨k, rfl⟩ : ∃ m, k = m + 1 := ⟨k - 1, by omega⟩
  have rs2 := backV_range l (nextV l a)
  have rp2 := pl_range (nextV l a) l.length
  have re2 := nextV_range l (backV l (nextV l a))
  have rs1 := backV_range l (backV l (nextV l a))
  have re1 := nextV_range l (backV l (backV l (nextV l a)))
  unfold dactylref17_SwapWords.f swapW
  rw [ref_Next_f l a hl _ (by omega), word_Next_f l a hl, Option.bind_some, ref_Back_f l _ hl _ (by omega), word_Back_f l _ hl, Option.bind_some, ref_Next_f l _ hl _ (by omega), word_Next_f l _ hl, Option.bind_some, ref_Back_f l _ hl _ (by omega), word_Back_f l _ hl, Option.bind_some, ref_Next_f l _ hl _ (by omega), word_Next_f l _ hl, Option.bind_some]
  dsimp only
  generalize hs2 : backV l (nextV l a) = s2 at *
  generalize nextV l s2 = e2 at *
  generalize hs1 : backV l s2 = s1 at *
  generalize nextV l s1 = e1 at *
  have p2 : pl s2 l.length = s2 := by unfold pl; (repeat' split) <;> omega
  have p1 : pl s1 l.length = s1 := by rw [p2] at rs1; unfold pl; (repeat' split) <;> omega
  rw [p2] at re2 rs1
  rw [p1] at re1
  have hno : dactylref17_SwapWords.j0 (k + 1) l s2 e2 s1 e1 true l a = some (l, a, false) := by
    simp only [dactylref17_SwapWords.j0, if_true]
  by_cases c1 : s1 ≥ s2
  · rw [if_pos c1, if_pos (Or.inl c1), hno]
  · rw [if_neg c1]
    by_cases c2 : e1 > s2
    · rw [if_pos c2, if_pos (Or.inr (Or.inl c2)), hno]
    · have r1 : rAt l s1 = kindV (rd_T47 l s1).f0 := by unfold rAt; rw [if_neg (by omega), if_neg (by omega)]
      have r2 : rAt l s2 = kindV (rd_T47 l s2).f0 := by unfold rAt; rw [if_neg (by omega), if_neg (by omega)]
      rw [if_neg c2, ref_At_f l _ _ (by omega), Option.bind_some, r1]
      by_cases c3 : kindV (rd_T47 l s1).f0 = 1
      · rw [if_pos c3, ref_At_f l _ _ (by omega), Option.bind_some, r2]
        by_cases c4 : kindV (rd_T47 l s2).f0 = 1
        · rw [if_neg (by omega), c4]
          simp only [dactylref17_SwapWords.j0]
          rw [if_neg (by decide), if_pos (by omega), if_pos (by omega), if_pos (by omega), if_pos (by omega), if_pos (by omega), Join_f _ _ (by simp; omega), Option.bind_some, if_pos (by omega), if_pos (by omega), if_pos (by omega), if_pos (by omega), if_pos (by omega), Join_f _ _ (by simp; omega), Option.bind_some, Join_f _ _ (by simp; omega), Option.bind_some, if_pos (by omega), Option.bind_some, if_pos (by simp; omega)]
          simp only [List.append_assoc]
        · rw [if_pos (Or.inr (Or.inr (Or.inr c4))), show (kindV (rd_T47 l s2).f0 != 1) = true from bne_iff_ne.mpr c4, hno]
      · rw [if_neg c3, if_pos (Or.inr (Or.inr (Or.inl c3))), hno]

end Go.Proofs.Ytemoocoedibbpab.X

namespace Go.Proofs.Ytemoocoedibbpab.X
open Go.RowKit Go.Proofs.YtemoocoedibbpabW.PrintWords Go.Proofs.YtemoocoedibbpabW.PrintLast Go.Proofs.YtemoocoedibbpabW.PrintMore
attribute [local go_sem] max2_int min2_int max_two min_two max_three min_three max_four min_four
set_option linter.unusedVariables false
set_option linter.unusedSimpArgs false

theorem places_f (l : List S47) (a x y : Int) : line_places.f l a x y = some (if pl y l.length < pl x l.length then pl y l.length else pl x l.length, if pl x l.length < pl y l.length then pl y l.length else pl x l.length) := rfl
def loP (n : Nat) (x y : Int) : Int := if pl y n < pl x n then pl y n else pl x n
def hiP (n : Nat) (x y : Int) : Int := if pl x n < pl y n then pl y n else pl x n
theorem loP_range (n : Nat) (x y : Int) : 0 ≤ loP n x y ∧ loP n x y ≤ hiP n x y ∧ hiP n x y ≤ n := by
  have := pl_range x n
  have := pl_range y n
  unfold loP hiP
  (repeat' split) <;> omega
theorem pl_in (a : Int) (n : Nat) (h0 : 0 ≤ a) (h1 : a ≤ n) : pl a n = a := by unfold pl; (repeat' split) <;> omega
theorem Concat_f (ls : List (List S47)) (h : ls.flatten.length ≤ 1000000) : Concat_Sign.f ls = some ls.flatten := by unfold Concat_Sign.f; rw [if_pos (by omega)]
theorem Clone_f (l : List S47) (h : l.length ≤ 1000000) : Clone_Sign.f l = some l := by unfold Clone_Sign.f; rw [if_pos (by omega)]
theorem line_Cut_f (l : List S47) (a x y : Int) (hl : l.length ≤ 100000) (k : Nat) (hk : 1 ≤ k) : ∃ z, line_Cut.f k l a x y = some (l.take (loP l.length x y).toNat ++ l.drop (hiP l.length x y).toNat, z, (l.take (hiP l.length x y).toNat).drop (loP l.length x y).toNat) := by
  obtain ⟨k, rfl⟩ : ∃ m, k = m + 1 := ⟨k - 1, by omega⟩
  obtain ⟨h0, h1, h2⟩ := loP_range l.length x y
  unfold line_Cut.f
  rw [show line_places.f l a x y = some (loP l.length x y, hiP l.length x y) from rfl, Option.bind_some, show line_places.f l a a (l.length : Int) = some (loP l.length a l.length, hiP l.length a l.length) from rfl, Option.bind_some]
  dsimp only
  generalize loP l.length x y = f at *
  generalize hiP l.length x y = t at *
  have hj : ∀ z, line_Cut.j0 (k + 1) f t z l a = some (l.take f.toNat ++ l.drop t.toNat, z, (l.take t.toNat).drop f.toNat) := fun z => by
    simp only [line_Cut.j0]
    rw [if_pos h0, if_pos (by omega), if_pos (by omega), if_pos h2, Concat_f _ (by simp; omega), Option.bind_some, if_pos h1, Clone_f _ (by simp; omega), Option.bind_some]
    simp
  simp only [hj]
  (repeat' split) <;> exact ⟨_, rfl⟩
theorem line_Insert_f (l : List S47) (a : Int) (s : List S47) (hl : l.length ≤ 100000) (hs : s.length ≤ 100000) (h0 : 0 ≤ a) (h1 : a ≤ l.length) : line_Insert.f l a s = some (l.take a.toNat ++ (s ++ l.drop a.toNat), a + s.length) := by
  unfold line_Insert.f
  have e : line_places.f l a a (l.length : Int) = some (a, (l.length : Int)) := by
    rw [places_f, pl_in a l.length h0 h1, pl_in (l.length : Int) l.length (by omega) (by omega)]
    congr 2
    · split <;> omega
    · split <;> omega
  rw [e, Option.bind_some, if_pos h0, if_pos h1, Concat_f _ (by simp; omega), Option.bind_some, w64 (by omega) (by omega)]
  simp
def upL (v : Int) : Int := if 97 ≤ v ∧ v ≤ 122 then v - 32 else v
theorem Letter_up_f (v : Int) (k : Nat) (hk : 1 ≤ k) : dactylref17_Letter.f k v true = some (upL v) := by
  obtain ⟨k, rfl⟩ : ∃ m, k = m + 1 := ⟨k - 1, by omega⟩
  unfold dactylref17_Letter.f upL
  simp only [dactylref17_Letter.j0, if_true]
  by_cases h1 : v ≥ 97
  · by_cases h2 : v ≤ 122
    · rw [if_pos h1, if_pos (decide_eq_true h2), if_pos ⟨h1, h2⟩, w64 (by omega) (by omega)]
    · rw [if_pos h1, if_neg (by simpa using h2), if_neg (by omega)]
  · rw [if_neg h1, if_neg (by decide), if_neg (by omega)]
theorem great_up (v : Int) : upL (greatT v) = upL v := by
  unfold greatT line_great.f upL
  by_cases h1 : v ≥ 97
  · by_cases h2 : v ≤ 122
    · rw [if_pos h1, if_pos h2, Option.getD_some, w64 (by omega) (by omega), if_neg (by omega), if_pos (by omega)]
    · rw [if_pos h1, if_neg h2, Option.getD_some]
  · rw [if_neg h1, Option.getD_some]
theorem small_up (v : Int) : upL (smallT v) = upL v := by
  unfold smallT line_small.f upL
  by_cases h1 : v ≥ 65
  · by_cases h2 : v ≤ 90
    · rw [if_pos h1, if_pos h2, Option.getD_some, w64 (by omega) (by omega), if_pos (by omega), if_neg (by omega)]; omega
    · rw [if_pos h1, if_neg h2, Option.getD_some]
  · rw [if_neg h1, Option.getD_some]
theorem caseV_up (l : List S47) (how i : Int) : upL (caseV l how i) = upL (rd_T47 l i).f0 := by
  unfold caseV
  (repeat' split) <;> first | exact great_up _ | exact small_up _ | rfl
theorem caseL_same (l : List S47) (how f : Int) (h0 : 0 ≤ f) (n : Nat) (hn : f + n ≤ l.length) (i : Nat) (hi : i < l.length) :
    (rd_T47 (caseL l how f n) i).f1 = (rd_T47 l i).f1 ∧ upL (rd_T47 (caseL l how f n) i).f0 = upL (rd_T47 l i).f0 := by
  induction n generalizing i with
  | zero => exact ⟨rfl, rfl⟩
  | succ n ih =>
    have hlen := caseL_len l how f n
    have hlen1 := caseL_len l how f (n + 1)
    obtain ⟨j, hj⟩ : ∃ j : Nat, f + n = (j : Int) := ⟨(f + n).toNat, by omega⟩
    rw [rd_sign _ i (by omega)]
    have hjl : j < l.length := by omega
    have e : (caseL l how f (n + 1))[i]'(by omega) = if j = i then ⟨caseV l how (j : Int), (rd_T47 (caseL l how f n) (j : Int)).f1⟩ else (caseL l how f n)[i]'(by omega) := by
      have : caseL l how f (n + 1) = (caseL l how f n).set j ⟨caseV l how (j : Int), (rd_T47 (caseL l how f n) (j : Int)).f1⟩ := by
        show (caseL l how f n).set (f + n).toNat ⟨caseV l how (f + n), (rd_T47 (caseL l how f n) (f + n)).f1⟩ = _
        rw [hj]
        rfl
      simp only [this, List.getElem_set]
    rw [e]
    by_cases c : j = i
    · subst c
      rw [if_pos rfl]
      exact ⟨(ih (by omega) j hjl).1, caseV_up l how j⟩
    · rw [if_neg c]
      have := ih (by omega) i hi
      rwa [rd_sign _ i (by omega)] at this
theorem line_Case_f (l : List S47) (a x how : Int) (hl : l.length ≤ 100000) : ∃ u z, line_Case.f l a x how = some (u, z) ∧ u.length = l.length ∧ ∀ i : Nat, i < l.length → (rd_T47 u i).f1 = (rd_T47 l i).f1 ∧ upL (rd_T47 u i).f0 = upL (rd_T47 l i).f0 := by
  obtain ⟨h0, h1, h2⟩ := loP_range l.length a x
  unfold line_Case.f
  rw [show line_places.f l a a x = some (loP l.length a x, hiP l.length a x) from rfl, Option.bind_some, if_pos (by omega)]
  exact ⟨_, _, rfl, caseL_len _ _ _ _, fun i hi => caseL_same l how _ h0 _ (by omega) i hi⟩

end Go.Proofs.Ytemoocoedibbpab.X

namespace Go.Proofs.Ytemoocoedibbpab.X
open Go.RowKit Go.Proofs.YtemoocoedibbpabW.PrintWords Go.Proofs.YtemoocoedibbpabW.PrintLast Go.Proofs.YtemoocoedibbpabW.PrintMore
attribute [local go_sem] max2_int min2_int max_two min_two max_three min_three max_four min_four
set_option linter.unusedVariables false
set_option linter.unusedSimpArgs false

theorem Back_l0 (l u y t : List S47) (a c z : Int) (hl : l.length ≤ 100) (hm : mayB l a = true) (hu : u.length = l.length) (hs : ∀ i : Nat, i < l.length → (rd_T47 u i).f1 = (rd_T47 l i).f1 ∧ upL (rd_T47 u i).f0 = upL (rd_T47 l i).f0) (hy : y = l) (ht : t = l) :
    ∀ (d k i : Nat), d + i = l.length → d + 300 < k → dactyllaw17_LineBack.l0 k (i : Int) l a t a y c u z = some true := by
  subst hy
  subst ht
  have aw : dactyllaw17_awake.f = some true := rfl
  intro d
  induction d with
  | zero =>
    intro k i h1 h2
    obtain ⟨k, rfl⟩ : ∃ m, k = m + 1 := ⟨k - 1, by omega⟩
    simp only [dactyllaw17_LineBack.l0]
    rw [if_neg (by omega), line_Swap_f _ a (by omega) hm, Option.bind_some, line_SwapWords_f _ a (by omega) hm k (by omega), Option.bind_some, aw, Option.bind_some, if_pos rfl, show dactylref04_SameB.f k t t = some (decide (t = t)) from ref_SameS_f _ _ (by omega) k (by omega), Option.bind_some, if_pos (by simp), ref_SameL_f _ _ _ _ (by omega) k (by omega)]
    simp
  | succ d ih =>
    intro k i h1 h2
    obtain ⟨k, rfl⟩ : ∃ m, k = m + 1 := ⟨k - 1, by omega⟩
    have hi := ih k (i + 1) (by omega) (by omega)
    have e1 : wrap64 ((i : Int) + 1) = ((i + 1 : Nat) : Int) := by rw [w64 (by omega) (by omega)]; omega
    obtain ⟨q1, q2⟩ := hs i (by omega)
    simp only [dactyllaw17_LineBack.l0]
    rw [if_pos (by omega), if_pos (by omega), if_pos (by omega), if_pos (by omega), if_pos q1, show ∀ v, dactylref17_LetterB.f k v true = some (upL v) from fun v => Letter_up_f v k (by omega), Option.bind_some, show ∀ v, dactylref17_LetterB.f k v true = some (upL v) from fun v => Letter_up_f v k (by omega), Option.bind_some, if_pos q2, e1, hi]
theorem Pure_LineBack : dactyllaw17_LineBack.Pure := by
  intro l a q0 q1 q2 _ _
  refine ⟨1001, ?_⟩
  have aw : dactyllaw17_awake.f = some true := rfl
  have no : dactyllaw17_LineBack.j0 1001 true l a q0 q1 q2 = some true := by
    simp only [dactyllaw17_LineBack.j0, if_true]
    rw [aw, Option.bind_some]
  unfold dactyllaw17_LineBack.f
  rw [show dactyllaw17_Light.f l a = some (decide ((l.length : Int) ≤ 100)) from rfl, Option.bind_some]
  by_cases h : (l.length : Int) ≤ 100
  · rw [if_pos (decide_eq_true h), May_f l a (by omega) 1001 (by omega), Option.bind_some]
    cases hm : mayB l a with
    | false => exact no
    | true =>
      show dactyllaw17_LineBack.j0 1001 false l a q0 q1 q2 = some true
      obtain ⟨z, hz⟩ := line_Cut_f l a q0 q1 (by omega) 1000 (by omega)
      obtain ⟨u, e, hc, hu, hs⟩ := line_Case_f l a q0 q2 (by omega)
      obtain ⟨r0, r1, r2⟩ := loP_range l.length q0 q1
      have hp : ∀ x, dactylref16_PlaceB.f (l.length : Int) x = some (pl x l.length) := fun x => ref_Place16_f l.length x
      simp only [dactyllaw17_LineBack.j0]
      rw [if_neg (by decide), Join_f l [] (by simp; omega), Option.bind_some, hz, Option.bind_some, hp, Option.bind_some, hp, Option.bind_some, show dactylref01_LowB.f (pl q0 l.length) (pl q1 l.length) = some (loP l.length q0 q1) from Low_f _ _, Option.bind_some]
      dsimp only
      generalize loP l.length q0 q1 = f at *
      generalize hiP l.length q0 q1 = t at *
      rw [line_Insert_f _ f _ (by simp; omega) (by simp; omega) r0 (by simp; omega), Option.bind_some, hc, Option.bind_some]
      refine Back_l0 l u _ _ a _ e (by omega) hm hu hs ?_ (List.append_nil l) l.length 1000 0 (by omega) (by omega)
      have e1 : (l.take f.toNat ++ l.drop t.toNat).take f.toNat = l.take f.toNat := by rw [List.take_append_of_le_length (by simp; omega), List.take_take]; simp
      have e2 : (l.take f.toNat ++ l.drop t.toNat).drop f.toNat = l.drop t.toNat := by
        have hlen : (l.take f.toNat).length = f.toNat := by simp; omega
        conv => lhs; rw [← hlen]
        rw [show (List.take (l.take f.toNat).length l) = l.take f.toNat by rw [hlen]]
        exact List.drop_left
      rw [e1, e2]
      have e3 : (l.take t.toNat).drop f.toNat ++ l.drop t.toNat = l.drop f.toNat := by
        conv => rhs; rw [← List.take_append_drop t.toNat l, List.drop_append_of_le_length (by simp; omega)]
      rw [e3, List.take_append_drop]
  · rw [if_neg (by simpa using h)]
    exact no

end Go.Proofs.Ytemoocoedibbpab.X
