/- Written by a program of this session (wip/tools/hp.py, pack.py) and by this session: what the law ViewText reaches, function by function: a Lean function with the same answers, and the proof that the machine's call gives them. No condition but the ones the theorems state. -/
import Derived.Test.YtemoocoedibbpaaQViewText2
namespace Go.Proofs.Ytemoocoedibbpaa.X
open Go.RowKit Go.Proofs.YtemoocoedibbpaaW.PrintWords Go.Proofs.YtemoocoedibbpaaW.PrintLast Go.Proofs.YtemoocoedibbpaaW.PrintMore
attribute [local go_sem] max2_int min2_int max_two min_two max_three min_three max_four min_four
set_option linter.unusedVariables false
set_option linter.unusedSimpArgs false

/-! ### dactylref03_Of: function 71 -/
def dactylref03_Of.f (k : Nat) (a0 : Int) : Option (Int) := (dactylref02_Right.f a0).bind fun t101 => (if t101 = true then (if a0 > 1114111 then (some 12) else ((dactylref03_odd.f k a0).bind fun t102 => (if t102 > 0 then (some t102) else ((dactylref03_Skeleton.f k a0).bind fun t103 => (if t103 = a0 then ((dactylref03_within.f k a0 (([4352, 4447, 8986, 8987, 11904, 12287, 12289, 12350, 12353, 13311, 13312, 19903, 19968, 42191, 43360, 43391, 44032, 55203, 63744, 64255, 65072, 65135, 65280, 65376, 65504, 65510, 127744, 128591, 128640, 128767, 129280, 129535, 131072, 262141] : List Int))).bind fun t107 => (if t107 = true then (some 2) else (some 1))) else (some 3)))))) else (some 0))
theorem dactylref03_Of.mono : ∀ a0 k, LeO (dactylref03_Of.f k a0) (dactylref03_Of.f (k + 1) a0) := by
  intro a0 k
  unfold dactylref03_Of.f
  repeat' first
      | (with_reducible exact dactylref03_Skeleton.mono _ _)
      | (with_reducible exact dactylref03_odd.mono _ _)
      | (with_reducible exact dactylref03_within.mono _ _ _)
      | (with_reducible exact LeO.refl _)
      | (with_reducible exact LeO.none _)
      | (with_reducible refine LeO.ite ?_ ?_)
      | (with_reducible refine LeO.bind ?_ (fun _ => ?_))
      | exact dactylref03_Skeleton.mono _ _
      | exact dactylref03_odd.mono _ _
      | exact dactylref03_within.mono _ _ _
      | exact LeO.none _
      | refine LeO.ite ?_ ?_
      | refine LeO.bind ?_ (fun _ => ?_)
set_option maxHeartbeats 8000000 in
set_option maxRecDepth 100000 in
theorem dactylref03_Of.calls (k : Nat) (a0 : Int) (r : Int) (w : World) (h : dactylref03_Of.f k a0 = some r) :
    Calls Try.prog 71 #[.int .i64 a0] w fun e w' => e = .returned (.int .i64 r) ∧ Below w.heap.size w w' := by
  have HB := Aside0.mk (Below.refl w.heap.size w)
  have H : ((dactylref02_Right.f a0).bind fun t101 => (if t101 = true then (if a0 > 1114111 then (some 12) else ((dactylref03_odd.f k a0).bind fun t102 => (if t102 > 0 then (some t102) else ((dactylref03_Skeleton.f k a0).bind fun t103 => (if t103 = a0 then ((dactylref03_within.f k a0 (([4352, 4447, 8986, 8987, 11904, 12287, 12289, 12350, 12353, 13311, 13312, 19903, 19968, 42191, 43360, 43391, 44032, 55203, 63744, 64255, 65072, 65135, 65280, 65376, 65504, 65510, 127744, 128591, 128640, 128767, 129280, 129535, 131072, 262141] : List Int))).bind fun t107 => (if t107 = true then (some 2) else (some 1))) else (some 3)))))) else (some 0))) = some r := h
  clear h
  replace H := Option.bind_eq_some_iff.mp H
  obtain ⟨t101, A20, H⟩ := H
  replace H : (if t101 = true then (if a0 > 1114111 then (some 12) else ((dactylref03_odd.f k a0).bind fun t102 => (if t102 > 0 then (some t102) else ((dactylref03_Skeleton.f k a0).bind fun t103 => (if t103 = a0 then ((dactylref03_within.f k a0 (([4352, 4447, 8986, 8987, 11904, 12287, 12289, 12350, 12353, 13311, 13312, 19903, 19968, 42191, 43360, 43391, 44032, 55203, 63744, 64255, 65072, 65135, 65280, 65376, 65504, 65510, 127744, 128591, 128640, 128767, 129280, 129535, 131072, 262141] : List Int))).bind fun t107 => (if t107 = true then (some 2) else (some 1))) else (some 3)))))) else (some 0)) = some r := H
  have A2 := Aside0.mk A20
  clear A20
  by_cases c3 : t101 = true
  · subst c3
    have H1 : (if a0 > 1114111 then (some 12) else ((dactylref03_odd.f k a0).bind fun t102 => (if t102 > 0 then (some t102) else ((dactylref03_Skeleton.f k a0).bind fun t103 => (if t103 = a0 then ((dactylref03_within.f k a0 (([4352, 4447, 8986, 8987, 11904, 12287, 12289, 12350, 12353, 13311, 13312, 19903, 19968, 42191, 43360, 43391, 44032, 55203, 63744, 64255, 65072, 65135, 65280, 65376, 65504, 65510, 127744, 128591, 128640, 128767, 129280, 129535, 131072, 262141] : List Int))).bind fun t107 => (if t107 = true then (some 2) else (some 1))) else (some 3)))))) = some r := by rw [if_pos rfl] at H; exact H
    clear H
    have H := H1
    clear H1
    by_cases c4 : a0 > 1114111
    · rw [if_pos c4] at H
      have c4b0 : decide (1114111 < a0) = true := decide_eq_true c4
      clear c4
      obtain rfl := Option.some.inj H
      go_enter Try.func71, Try.ntmps71
      go_wp2_with (first | ((with_reducible refine gate_callee (f := 97) rfl ?_); refine goesL_ (some 5) rfl rfl Try.func97 (by kernel_rfl) rfl #[.int .i64 a0] rfl (by (try simp only [List.map_toArray, List.map_cons, List.map_nil]); first | done | rfl | (simp only [List.length_drop, List.length_take]; rfl)) ?_; (with_reducible refine (dactylref02_Right.calls a0 true _ A2.out).mono ?_); rintro e w' ⟨rfl, ⟨nd, rfl⟩⟩; refine ⟨_, rfl, ?_⟩))
      go_ret
      exact ⟨by first | rfl | (simp [errW_none, errW_some] <;> rfl) | (simp [*, errW_none, errW_some] <;> rfl), by repeat (first | (with_reducible first | exact HB.out | apply below_alloc | apply pw_below_drewN | apply below_drew1) | exact HB.out)⟩
    · rw [if_neg c4] at H
      have c4b0 : decide (1114111 < a0) = false := decide_eq_false c4
      clear c4
      replace H := Option.bind_eq_some_iff.mp H
      obtain ⟨t102, A50, H⟩ := H
      replace H : (if t102 > 0 then (some t102) else ((dactylref03_Skeleton.f k a0).bind fun t103 => (if t103 = a0 then ((dactylref03_within.f k a0 (([4352, 4447, 8986, 8987, 11904, 12287, 12289, 12350, 12353, 13311, 13312, 19903, 19968, 42191, 43360, 43391, 44032, 55203, 63744, 64255, 65072, 65135, 65280, 65376, 65504, 65510, 127744, 128591, 128640, 128767, 129280, 129535, 131072, 262141] : List Int))).bind fun t107 => (if t107 = true then (some 2) else (some 1))) else (some 3)))) = some r := H
      have A5 := Aside0.mk A50
      clear A50
      by_cases c6 : t102 > 0
      · rw [if_pos c6] at H
        have c6b0 : decide (0 < t102) = true := decide_eq_true c6
        clear c6
        obtain rfl := Option.some.inj H
        go_enter Try.func71, Try.ntmps71
        go_wp2_with (first | ((with_reducible refine gate_callee (f := 97) rfl ?_); refine goesL_ (some 5) rfl rfl Try.func97 (by kernel_rfl) rfl #[.int .i64 a0] rfl (by (try simp only [List.map_toArray, List.map_cons, List.map_nil]); first | done | rfl | (simp only [List.length_drop, List.length_take]; rfl)) ?_; (with_reducible refine (dactylref02_Right.calls a0 true _ A2.out).mono ?_); rintro e w' ⟨rfl, ⟨nd, rfl⟩⟩; refine ⟨_, rfl, ?_⟩) | ((with_reducible refine gate_callee (f := 114) rfl ?_); refine goesL_ (some 10) rfl rfl Try.func114 (by kernel_rfl) rfl #[.int .i64 a0] rfl (by (try simp only [List.map_toArray, List.map_cons, List.map_nil]); first | done | rfl | (simp only [List.length_drop, List.length_take]; rfl)) ?_; (with_reducible refine (dactylref03_odd.calls k a0 t102 _ A5.out).mono ?_); rintro e w7 ⟨rfl, hb⟩; refine ⟨_, rfl, ?_⟩; have n0_ := Aside0.mk (below_step (by repeat (first | (with_reducible first | exact HB.out | apply below_alloc | apply pw_below_drewN | apply below_drew1) | exact HB.out)) hb); clear HB; have HB := n0_; clear n0_; (try clear hb); (try clear hb2); (try clear hk); (try clear hi)))
        go_ret
        exact ⟨by first | rfl | (simp [errW_none, errW_some] <;> rfl) | (simp [*, errW_none, errW_some] <;> rfl), by repeat (first | (with_reducible first | exact HB.out | apply below_alloc | apply pw_below_drewN | apply below_drew1) | exact HB.out)⟩
      · rw [if_neg c6] at H
        have c6b0 : decide (0 < t102) = false := decide_eq_false c6
        clear c6
        replace H := Option.bind_eq_some_iff.mp H
        obtain ⟨t103, A80, H⟩ := H
        replace H : (if t103 = a0 then ((dactylref03_within.f k a0 (([4352, 4447, 8986, 8987, 11904, 12287, 12289, 12350, 12353, 13311, 13312, 19903, 19968, 42191, 43360, 43391, 44032, 55203, 63744, 64255, 65072, 65135, 65280, 65376, 65504, 65510, 127744, 128591, 128640, 128767, 129280, 129535, 131072, 262141] : List Int))).bind fun t107 => (if t107 = true then (some 2) else (some 1))) else (some 3)) = some r := H
        have A8 := Aside0.mk A80
        clear A80
        by_cases c9 : t103 = a0
        · rw [if_pos c9] at H
          have c9b0 : (t103 == a0) = true := beq_iff_eq.mpr c9
          have c9b1 : (t103 != a0) = false := bne_eq_false_iff_eq.mpr c9
          clear c9
          obtain ⟨y104, hy104⟩ : ∃ y_ : List Int, y_ = (([4352, 4447, 8986, 8987, 11904, 12287, 12289, 12350, 12353, 13311, 13312, 19903, 19968, 42191, 43360, 43391, 44032, 55203, 63744, 64255, 65072, 65135, 65280, 65376, 65504, 65510, 127744, 128591, 128640, 128767, 129280, 129535, 131072, 262141] : List Int)) := ⟨_, rfl⟩
          replace H : ((dactylref03_within.f k a0 y104).bind fun t107 => (if t107 = true then (some 2) else (some 1))) = some r := by first | (rw [hy104]; with_reducible exact H) | (have H2_ := (Option.bind_some _ _).symm.trans H; rw [hy104]; with_reducible exact H2_) | (have H2_ := (Option.bind_some _ _).symm.trans H; with_reducible exact H2_) | with_reducible exact H | (rw [hy104]; exact H) | exact H
          have Ny104 := Aside0.mk hy104
          clear hy104
          replace H := Option.bind_eq_some_iff.mp H
          obtain ⟨t107, A100, H⟩ := H
          replace H : (if t107 = true then (some 2) else (some 1)) = some r := H
          have A10 := Aside0.mk A100
          clear A100
          by_cases c11 : t107 = true
          · subst c11
            have H1 : (some 2) = some r := by rw [if_pos rfl] at H; exact H
            clear H
            have H := H1
            clear H1
            obtain rfl := Option.some.inj H
            go_enter Try.func71, Try.ntmps71
            go_wp2_with (first | ((with_reducible refine gate_callee (f := 97) rfl ?_); refine goesL_ (some 5) rfl rfl Try.func97 (by kernel_rfl) rfl #[.int .i64 a0] rfl (by (try simp only [List.map_toArray, List.map_cons, List.map_nil]); first | done | rfl | (simp only [List.length_drop, List.length_take]; rfl)) ?_; (with_reducible refine (dactylref02_Right.calls a0 true _ A2.out).mono ?_); rintro e w' ⟨rfl, ⟨nd, rfl⟩⟩; refine ⟨_, rfl, ?_⟩) | ((with_reducible refine gate_callee (f := 114) rfl ?_); refine goesL_ (some 10) rfl rfl Try.func114 (by kernel_rfl) rfl #[.int .i64 a0] rfl (by (try simp only [List.map_toArray, List.map_cons, List.map_nil]); first | done | rfl | (simp only [List.length_drop, List.length_take]; rfl)) ?_; (with_reducible refine (dactylref03_odd.calls k a0 t102 _ A5.out).mono ?_); rintro e w12 ⟨rfl, hb⟩; refine ⟨_, rfl, ?_⟩; have n0_ := Aside0.mk (below_step (by repeat (first | (with_reducible first | exact HB.out | apply below_alloc | apply pw_below_drewN | apply below_drew1) | exact HB.out)) hb); clear HB; have HB := n0_; clear n0_; (try clear hb); (try clear hb2); (try clear hk); (try clear hi)) | ((with_reducible refine gate_callee (f := 115) rfl ?_); refine goesL_ (some 15) rfl rfl Try.func115 (by kernel_rfl) rfl #[.int .i64 a0] rfl (by (try simp only [List.map_toArray, List.map_cons, List.map_nil]); first | done | rfl | (simp only [List.length_drop, List.length_take]; rfl)) ?_; (with_reducible refine (dactylref03_Skeleton.calls k a0 t103 _ A8.out).mono ?_); rintro e w13 ⟨rfl, hb⟩; refine ⟨_, rfl, ?_⟩; have n0_ := Aside0.mk (below_step (by repeat (first | (with_reducible first | exact HB.out | apply below_alloc | apply pw_below_drewN | apply below_drew1) | exact HB.out)) hb); clear HB; have HB := n0_; clear n0_; (try clear hb); (try clear hb2); (try clear hk); (try clear hi)) | ((with_reducible refine gate_dst (N := 19) rfl ?_); refine Kd.R_lit (Kd.int .i64) _ 3 ?hg (N := 19) ?hd (xs := ([4352, 4447, 8986, 8987, 11904, 12287, 12289, 12350, 12353, 13311, 13312, 19903, 19968, 42191, 43360, 43391, 44032, 55203, 63744, 64255, 65072, 65135, 65280, 65376, 65504, 65510, 127744, 128591, 128640, 128767, 129280, 129535, 131072, 262141] : List Int)) (inner := [.int .i64 4352, .int .i64 4447, .int .i64 8986, .int .i64 8987, .int .i64 11904, .int .i64 12287, .int .i64 12289, .int .i64 12350, .int .i64 12353, .int .i64 13311, .int .i64 13312, .int .i64 19903, .int .i64 19968, .int .i64 42191, .int .i64 43360, .int .i64 43391, .int .i64 44032, .int .i64 55203, .int .i64 63744, .int .i64 64255, .int .i64 65072, .int .i64 65135, .int .i64 65280, .int .i64 65376, .int .i64 65504, .int .i64 65510, .int .i64 127744, .int .i64 128591, .int .i64 128640, .int .i64 128767, .int .i64 129280, .int .i64 129535, .int .i64 131072, .int .i64 262141]) (ok := fun _ => True) (okp := fun _ => True) ?hr ?hp (fun _ hk => hk) trivial (Below.refl _ _) (Nat.le_refl _) (by simp) ?_; (case hd => rfl); (case hg => rfl); (case hr => first | (go_simp; done) | (go_simp; rfl)); (case hp => exact (Reps.one (show Kd.M (Kd.int .i64) _ _ _ 4352 [.int .i64 4352] from rfl) (Reps.one (show Kd.M (Kd.int .i64) _ _ _ 4447 [.int .i64 4447] from rfl) (Reps.one (show Kd.M (Kd.int .i64) _ _ _ 8986 [.int .i64 8986] from rfl) (Reps.one (show Kd.M (Kd.int .i64) _ _ _ 8987 [.int .i64 8987] from rfl) (Reps.one (show Kd.M (Kd.int .i64) _ _ _ 11904 [.int .i64 11904] from rfl) (Reps.one (show Kd.M (Kd.int .i64) _ _ _ 12287 [.int .i64 12287] from rfl) (Reps.one (show Kd.M (Kd.int .i64) _ _ _ 12289 [.int .i64 12289] from rfl) (Reps.one (show Kd.M (Kd.int .i64) _ _ _ 12350 [.int .i64 12350] from rfl) (Reps.one (show Kd.M (Kd.int .i64) _ _ _ 12353 [.int .i64 12353] from rfl) (Reps.one (show Kd.M (Kd.int .i64) _ _ _ 13311 [.int .i64 13311] from rfl) (Reps.one (show Kd.M (Kd.int .i64) _ _ _ 13312 [.int .i64 13312] from rfl) (Reps.one (show Kd.M (Kd.int .i64) _ _ _ 19903 [.int .i64 19903] from rfl) (Reps.one (show Kd.M (Kd.int .i64) _ _ _ 19968 [.int .i64 19968] from rfl) (Reps.one (show Kd.M (Kd.int .i64) _ _ _ 42191 [.int .i64 42191] from rfl) (Reps.one (show Kd.M (Kd.int .i64) _ _ _ 43360 [.int .i64 43360] from rfl) (Reps.one (show Kd.M (Kd.int .i64) _ _ _ 43391 [.int .i64 43391] from rfl) (Reps.one (show Kd.M (Kd.int .i64) _ _ _ 44032 [.int .i64 44032] from rfl) (Reps.one (show Kd.M (Kd.int .i64) _ _ _ 55203 [.int .i64 55203] from rfl) (Reps.one (show Kd.M (Kd.int .i64) _ _ _ 63744 [.int .i64 63744] from rfl) (Reps.one (show Kd.M (Kd.int .i64) _ _ _ 64255 [.int .i64 64255] from rfl) (Reps.one (show Kd.M (Kd.int .i64) _ _ _ 65072 [.int .i64 65072] from rfl) (Reps.one (show Kd.M (Kd.int .i64) _ _ _ 65135 [.int .i64 65135] from rfl) (Reps.one (show Kd.M (Kd.int .i64) _ _ _ 65280 [.int .i64 65280] from rfl) (Reps.one (show Kd.M (Kd.int .i64) _ _ _ 65376 [.int .i64 65376] from rfl) (Reps.one (show Kd.M (Kd.int .i64) _ _ _ 65504 [.int .i64 65504] from rfl) (Reps.one (show Kd.M (Kd.int .i64) _ _ _ 65510 [.int .i64 65510] from rfl) (Reps.one (show Kd.M (Kd.int .i64) _ _ _ 127744 [.int .i64 127744] from rfl) (Reps.one (show Kd.M (Kd.int .i64) _ _ _ 128591 [.int .i64 128591] from rfl) (Reps.one (show Kd.M (Kd.int .i64) _ _ _ 128640 [.int .i64 128640] from rfl) (Reps.one (show Kd.M (Kd.int .i64) _ _ _ 128767 [.int .i64 128767] from rfl) (Reps.one (show Kd.M (Kd.int .i64) _ _ _ 129280 [.int .i64 129280] from rfl) (Reps.one (show Kd.M (Kd.int .i64) _ _ _ 129535 [.int .i64 129535] from rfl) (Reps.one (show Kd.M (Kd.int .i64) _ _ _ 131072 [.int .i64 131072] from rfl) (Reps.one (show Kd.M (Kd.int .i64) _ _ _ 262141 [.int .i64 262141] from rfl) (Reps.none _ _)))))))))))))))))))))))))))))))))))); intro v105 w14 ho15 hb hg_ hnew_; clear hg_ hnew_; (first | rw [← Ny104.out] at ho15 | (simp only [Int.reduceToNat] at ho15; rw [← Ny104.out] at ho15)); have n0_ := Aside0.mk (Kd.R_lower ho15 (below_size (by repeat (first | (with_reducible first | exact HB.out | apply below_alloc | apply pw_below_drewN | apply below_drew1) | exact HB.out)))); have n1_ := Aside0.mk (below_step (by repeat (first | (with_reducible first | exact HB.out | apply below_alloc | apply pw_below_drewN | apply below_drew1) | exact HB.out)) hb); clear HB; have HO106 := n0_; have HB := n1_; clear n0_ n1_; clear hb ho15; obtain ⟨Ao16, co16, eo16⟩ := Kd.R_slice HO106.out; subst eo16) | ((with_reducible refine gate_callee (f := 116) rfl ?_); refine goesL_ (some 20) rfl rfl Try.func116 (by kernel_rfl) rfl #[.int .i64 a0, .slice Ao16 y104.length co16] rfl (by (try simp only [List.map_toArray, List.map_cons, List.map_nil]); first | done | rfl | (simp only [List.length_drop, List.length_take]; rfl)) ?_; (with_reducible refine (dactylref03_within.calls k a0 _ _ y104 true _ ?side1 ?side2 A10.out).mono ?_); (case side1 => repeat (first | exact (Kd.R_reads' HO106.out).2.2 | (with_reducible refine Kd.C_alloc ?_ _) | (with_reducible refine Kd.C_drewN ?_ _) | (with_reducible refine Kd.C_drew ?_))); (case side2 => exact (Kd.R_reads' HO106.out).2.1); rintro e w' ⟨rfl, ⟨nd, rfl⟩⟩; refine ⟨_, rfl, ?_⟩))
            go_ret
            exact ⟨by first | rfl | (simp [errW_none, errW_some] <;> rfl) | (simp [*, errW_none, errW_some] <;> rfl), by repeat (first | (with_reducible first | exact HB.out | apply below_alloc | apply pw_below_drewN | apply below_drew1) | exact HB.out)⟩
          · replace c11 := Bool.eq_false_iff.mpr c11
            subst c11
            have H1 : (some 1) = some r := by rw [if_neg (show ¬ (false = true) by decide)] at H; exact H
            clear H
            have H := H1
            clear H1
            obtain rfl := Option.some.inj H
            go_enter Try.func71, Try.ntmps71
            go_wp2_with (first | ((with_reducible refine gate_callee (f := 97) rfl ?_); refine goesL_ (some 5) rfl rfl Try.func97 (by kernel_rfl) rfl #[.int .i64 a0] rfl (by (try simp only [List.map_toArray, List.map_cons, List.map_nil]); first | done | rfl | (simp only [List.length_drop, List.length_take]; rfl)) ?_; (with_reducible refine (dactylref02_Right.calls a0 true _ A2.out).mono ?_); rintro e w' ⟨rfl, ⟨nd, rfl⟩⟩; refine ⟨_, rfl, ?_⟩) | ((with_reducible refine gate_callee (f := 114) rfl ?_); refine goesL_ (some 10) rfl rfl Try.func114 (by kernel_rfl) rfl #[.int .i64 a0] rfl (by (try simp only [List.map_toArray, List.map_cons, List.map_nil]); first | done | rfl | (simp only [List.length_drop, List.length_take]; rfl)) ?_; (with_reducible refine (dactylref03_odd.calls k a0 t102 _ A5.out).mono ?_); rintro e w17 ⟨rfl, hb⟩; refine ⟨_, rfl, ?_⟩; have n0_ := Aside0.mk (below_step (by repeat (first | (with_reducible first | exact HB.out | apply below_alloc | apply pw_below_drewN | apply below_drew1) | exact HB.out)) hb); clear HB; have HB := n0_; clear n0_; (try clear hb); (try clear hb2); (try clear hk); (try clear hi)) | ((with_reducible refine gate_callee (f := 115) rfl ?_); refine goesL_ (some 15) rfl rfl Try.func115 (by kernel_rfl) rfl #[.int .i64 a0] rfl (by (try simp only [List.map_toArray, List.map_cons, List.map_nil]); first | done | rfl | (simp only [List.length_drop, List.length_take]; rfl)) ?_; (with_reducible refine (dactylref03_Skeleton.calls k a0 t103 _ A8.out).mono ?_); rintro e w18 ⟨rfl, hb⟩; refine ⟨_, rfl, ?_⟩; have n0_ := Aside0.mk (below_step (by repeat (first | (with_reducible first | exact HB.out | apply below_alloc | apply pw_below_drewN | apply below_drew1) | exact HB.out)) hb); clear HB; have HB := n0_; clear n0_; (try clear hb); (try clear hb2); (try clear hk); (try clear hi)) | ((with_reducible refine gate_dst (N := 19) rfl ?_); refine Kd.R_lit (Kd.int .i64) _ 3 ?hg (N := 19) ?hd (xs := ([4352, 4447, 8986, 8987, 11904, 12287, 12289, 12350, 12353, 13311, 13312, 19903, 19968, 42191, 43360, 43391, 44032, 55203, 63744, 64255, 65072, 65135, 65280, 65376, 65504, 65510, 127744, 128591, 128640, 128767, 129280, 129535, 131072, 262141] : List Int)) (inner := [.int .i64 4352, .int .i64 4447, .int .i64 8986, .int .i64 8987, .int .i64 11904, .int .i64 12287, .int .i64 12289, .int .i64 12350, .int .i64 12353, .int .i64 13311, .int .i64 13312, .int .i64 19903, .int .i64 19968, .int .i64 42191, .int .i64 43360, .int .i64 43391, .int .i64 44032, .int .i64 55203, .int .i64 63744, .int .i64 64255, .int .i64 65072, .int .i64 65135, .int .i64 65280, .int .i64 65376, .int .i64 65504, .int .i64 65510, .int .i64 127744, .int .i64 128591, .int .i64 128640, .int .i64 128767, .int .i64 129280, .int .i64 129535, .int .i64 131072, .int .i64 262141]) (ok := fun _ => True) (okp := fun _ => True) ?hr ?hp (fun _ hk => hk) trivial (Below.refl _ _) (Nat.le_refl _) (by simp) ?_; (case hd => rfl); (case hg => rfl); (case hr => first | (go_simp; done) | (go_simp; rfl)); (case hp => exact (Reps.one (show Kd.M (Kd.int .i64) _ _ _ 4352 [.int .i64 4352] from rfl) (Reps.one (show Kd.M (Kd.int .i64) _ _ _ 4447 [.int .i64 4447] from rfl) (Reps.one (show Kd.M (Kd.int .i64) _ _ _ 8986 [.int .i64 8986] from rfl) (Reps.one (show Kd.M (Kd.int .i64) _ _ _ 8987 [.int .i64 8987] from rfl) (Reps.one (show Kd.M (Kd.int .i64) _ _ _ 11904 [.int .i64 11904] from rfl) (Reps.one (show Kd.M (Kd.int .i64) _ _ _ 12287 [.int .i64 12287] from rfl) (Reps.one (show Kd.M (Kd.int .i64) _ _ _ 12289 [.int .i64 12289] from rfl) (Reps.one (show Kd.M (Kd.int .i64) _ _ _ 12350 [.int .i64 12350] from rfl) (Reps.one (show Kd.M (Kd.int .i64) _ _ _ 12353 [.int .i64 12353] from rfl) (Reps.one (show Kd.M (Kd.int .i64) _ _ _ 13311 [.int .i64 13311] from rfl) (Reps.one (show Kd.M (Kd.int .i64) _ _ _ 13312 [.int .i64 13312] from rfl) (Reps.one (show Kd.M (Kd.int .i64) _ _ _ 19903 [.int .i64 19903] from rfl) (Reps.one (show Kd.M (Kd.int .i64) _ _ _ 19968 [.int .i64 19968] from rfl) (Reps.one (show Kd.M (Kd.int .i64) _ _ _ 42191 [.int .i64 42191] from rfl) (Reps.one (show Kd.M (Kd.int .i64) _ _ _ 43360 [.int .i64 43360] from rfl) (Reps.one (show Kd.M (Kd.int .i64) _ _ _ 43391 [.int .i64 43391] from rfl) (Reps.one (show Kd.M (Kd.int .i64) _ _ _ 44032 [.int .i64 44032] from rfl) (Reps.one (show Kd.M (Kd.int .i64) _ _ _ 55203 [.int .i64 55203] from rfl) (Reps.one (show Kd.M (Kd.int .i64) _ _ _ 63744 [.int .i64 63744] from rfl) (Reps.one (show Kd.M (Kd.int .i64) _ _ _ 64255 [.int .i64 64255] from rfl) (Reps.one (show Kd.M (Kd.int .i64) _ _ _ 65072 [.int .i64 65072] from rfl) (Reps.one (show Kd.M (Kd.int .i64) _ _ _ 65135 [.int .i64 65135] from rfl) (Reps.one (show Kd.M (Kd.int .i64) _ _ _ 65280 [.int .i64 65280] from rfl) (Reps.one (show Kd.M (Kd.int .i64) _ _ _ 65376 [.int .i64 65376] from rfl) (Reps.one (show Kd.M (Kd.int .i64) _ _ _ 65504 [.int .i64 65504] from rfl) (Reps.one (show Kd.M (Kd.int .i64) _ _ _ 65510 [.int .i64 65510] from rfl) (Reps.one (show Kd.M (Kd.int .i64) _ _ _ 127744 [.int .i64 127744] from rfl) (Reps.one (show Kd.M (Kd.int .i64) _ _ _ 128591 [.int .i64 128591] from rfl) (Reps.one (show Kd.M (Kd.int .i64) _ _ _ 128640 [.int .i64 128640] from rfl) (Reps.one (show Kd.M (Kd.int .i64) _ _ _ 128767 [.int .i64 128767] from rfl) (Reps.one (show Kd.M (Kd.int .i64) _ _ _ 129280 [.int .i64 129280] from rfl) (Reps.one (show Kd.M (Kd.int .i64) _ _ _ 129535 [.int .i64 129535] from rfl) (Reps.one (show Kd.M (Kd.int .i64) _ _ _ 131072 [.int .i64 131072] from rfl) (Reps.one (show Kd.M (Kd.int .i64) _ _ _ 262141 [.int .i64 262141] from rfl) (Reps.none _ _)))))))))))))))))))))))))))))))))))); intro v105 w19 ho20 hb hg_ hnew_; clear hg_ hnew_; (first | rw [← Ny104.out] at ho20 | (simp only [Int.reduceToNat] at ho20; rw [← Ny104.out] at ho20)); have n0_ := Aside0.mk (Kd.R_lower ho20 (below_size (by repeat (first | (with_reducible first | exact HB.out | apply below_alloc | apply pw_below_drewN | apply below_drew1) | exact HB.out)))); have n1_ := Aside0.mk (below_step (by repeat (first | (with_reducible first | exact HB.out | apply below_alloc | apply pw_below_drewN | apply below_drew1) | exact HB.out)) hb); clear HB; have HO106 := n0_; have HB := n1_; clear n0_ n1_; clear hb ho20; obtain ⟨Ao21, co21, eo21⟩ := Kd.R_slice HO106.out; subst eo21) | ((with_reducible refine gate_callee (f := 116) rfl ?_); refine goesL_ (some 20) rfl rfl Try.func116 (by kernel_rfl) rfl #[.int .i64 a0, .slice Ao21 y104.length co21] rfl (by (try simp only [List.map_toArray, List.map_cons, List.map_nil]); first | done | rfl | (simp only [List.length_drop, List.length_take]; rfl)) ?_; (with_reducible refine (dactylref03_within.calls k a0 _ _ y104 false _ ?side1 ?side2 A10.out).mono ?_); (case side1 => repeat (first | exact (Kd.R_reads' HO106.out).2.2 | (with_reducible refine Kd.C_alloc ?_ _) | (with_reducible refine Kd.C_drewN ?_ _) | (with_reducible refine Kd.C_drew ?_))); (case side2 => exact (Kd.R_reads' HO106.out).2.1); rintro e w' ⟨rfl, ⟨nd, rfl⟩⟩; refine ⟨_, rfl, ?_⟩))
            go_ret
            exact ⟨by first | rfl | (simp [errW_none, errW_some] <;> rfl) | (simp [*, errW_none, errW_some] <;> rfl), by repeat (first | (with_reducible first | exact HB.out | apply below_alloc | apply pw_below_drewN | apply below_drew1) | exact HB.out)⟩
        · rw [if_neg c9] at H
          have c9b0 : (t103 == a0) = false := beq_eq_false_iff_ne.mpr c9
          have c9b1 : (t103 != a0) = true := bne_iff_ne.mpr c9
          obtain rfl := Option.some.inj H
          go_enter Try.func71, Try.ntmps71
          go_wp2_with (first | ((with_reducible refine gate_callee (f := 97) rfl ?_); refine goesL_ (some 5) rfl rfl Try.func97 (by kernel_rfl) rfl #[.int .i64 a0] rfl (by (try simp only [List.map_toArray, List.map_cons, List.map_nil]); first | done | rfl | (simp only [List.length_drop, List.length_take]; rfl)) ?_; (with_reducible refine (dactylref02_Right.calls a0 true _ A2.out).mono ?_); rintro e w' ⟨rfl, ⟨nd, rfl⟩⟩; refine ⟨_, rfl, ?_⟩) | ((with_reducible refine gate_callee (f := 114) rfl ?_); refine goesL_ (some 10) rfl rfl Try.func114 (by kernel_rfl) rfl #[.int .i64 a0] rfl (by (try simp only [List.map_toArray, List.map_cons, List.map_nil]); first | done | rfl | (simp only [List.length_drop, List.length_take]; rfl)) ?_; (with_reducible refine (dactylref03_odd.calls k a0 t102 _ A5.out).mono ?_); rintro e w22 ⟨rfl, hb⟩; refine ⟨_, rfl, ?_⟩; have n0_ := Aside0.mk (below_step (by repeat (first | (with_reducible first | exact HB.out | apply below_alloc | apply pw_below_drewN | apply below_drew1) | exact HB.out)) hb); clear HB; have HB := n0_; clear n0_; (try clear hb); (try clear hb2); (try clear hk); (try clear hi)) | ((with_reducible refine gate_callee (f := 115) rfl ?_); refine goesL_ (some 15) rfl rfl Try.func115 (by kernel_rfl) rfl #[.int .i64 a0] rfl (by (try simp only [List.map_toArray, List.map_cons, List.map_nil]); first | done | rfl | (simp only [List.length_drop, List.length_take]; rfl)) ?_; (with_reducible refine (dactylref03_Skeleton.calls k a0 t103 _ A8.out).mono ?_); rintro e w23 ⟨rfl, hb⟩; refine ⟨_, rfl, ?_⟩; have n0_ := Aside0.mk (below_step (by repeat (first | (with_reducible first | exact HB.out | apply below_alloc | apply pw_below_drewN | apply below_drew1) | exact HB.out)) hb); clear HB; have HB := n0_; clear n0_; (try clear hb); (try clear hb2); (try clear hk); (try clear hi)))
          go_ret
          exact ⟨by first | rfl | (simp [errW_none, errW_some] <;> rfl) | (simp [*, errW_none, errW_some] <;> rfl), by repeat (first | (with_reducible first | exact HB.out | apply below_alloc | apply pw_below_drewN | apply below_drew1) | exact HB.out)⟩
  · replace c3 := Bool.eq_false_iff.mpr c3
    subst c3
    have H1 : (some 0) = some r := by rw [if_neg (show ¬ (false = true) by decide)] at H; exact H
    clear H
    have H := H1
    clear H1
    obtain rfl := Option.some.inj H
    go_enter Try.func71, Try.ntmps71
    go_wp2_with (first | ((with_reducible refine gate_callee (f := 97) rfl ?_); refine goesL_ (some 5) rfl rfl Try.func97 (by kernel_rfl) rfl #[.int .i64 a0] rfl (by (try simp only [List.map_toArray, List.map_cons, List.map_nil]); first | done | rfl | (simp only [List.length_drop, List.length_take]; rfl)) ?_; (with_reducible refine (dactylref02_Right.calls a0 false _ A2.out).mono ?_); rintro e w' ⟨rfl, ⟨nd, rfl⟩⟩; refine ⟨_, rfl, ?_⟩))
    go_ret
    exact ⟨by first | rfl | (simp [errW_none, errW_some] <;> rfl) | (simp [*, errW_none, errW_some] <;> rfl), by repeat (first | (with_reducible first | exact HB.out | apply below_alloc | apply pw_below_drewN | apply below_drew1) | exact HB.out)⟩

end Go.Proofs.Ytemoocoedibbpaa.X

namespace Go.Proofs.Ytemoocoedibbpaa.X
open Go.RowKit Go.Proofs.YtemoocoedibbpaaW.PrintWords Go.Proofs.YtemoocoedibbpaaW.PrintLast Go.Proofs.YtemoocoedibbpaaW.PrintMore
attribute [local go_sem] max2_int min2_int max_two min_two max_three min_three max_four min_four
set_option linter.unusedVariables false
set_option linter.unusedSimpArgs false

/-! ### dactylref02_Bytes: function 91 -/
def dactylref02_Bytes.f (a0 : Int) : Option (ByteArray) := if a0 < 128 then (some (strOfNums (([(a0) % 256] : List Int)))) else (if a0 < 2048 then (some (strOfNums (([(wrap64 (192 + (wrap64 (Int.tdiv a0 64)))) % 256, (wrap64 (128 + (Int.tmod a0 64))) % 256] : List Int)))) else (if a0 < 65536 then (some (strOfNums (([(wrap64 (224 + (wrap64 (Int.tdiv a0 4096)))) % 256, (wrap64 (128 + (Int.tmod (wrap64 (Int.tdiv a0 64)) 64))) % 256, (wrap64 (128 + (Int.tmod a0 64))) % 256] : List Int)))) else (if a0 ≤ 1114111 then (some (strOfNums (([(wrap64 (240 + (wrap64 (Int.tdiv a0 262144)))) % 256, (wrap64 (128 + (Int.tmod (wrap64 (Int.tdiv a0 4096)) 64))) % 256, (wrap64 (128 + (Int.tmod (wrap64 (Int.tdiv a0 64)) 64))) % 256, (wrap64 (128 + (Int.tmod a0 64))) % 256] : List Int)))) else (some (strOfNums (([(wrap64 (a0 - 1114112)) % 256] : List Int)))))))
set_option maxHeartbeats 8000000 in
set_option maxRecDepth 100000 in
theorem dactylref02_Bytes.calls (a0 : Int) (r : ByteArray) (w : World) (h : dactylref02_Bytes.f a0 = some r) :
    Calls Try.prog 91 #[.int .i64 a0] w fun e w' => e = .returned (.string r) ∧ Below w.heap.size w w' := by
  have HB := Aside0.mk (Below.refl w.heap.size w)
  have H : (if a0 < 128 then (some (strOfNums (([(a0) % 256] : List Int)))) else (if a0 < 2048 then (some (strOfNums (([(wrap64 (192 + (wrap64 (Int.tdiv a0 64)))) % 256, (wrap64 (128 + (Int.tmod a0 64))) % 256] : List Int)))) else (if a0 < 65536 then (some (strOfNums (([(wrap64 (224 + (wrap64 (Int.tdiv a0 4096)))) % 256, (wrap64 (128 + (Int.tmod (wrap64 (Int.tdiv a0 64)) 64))) % 256, (wrap64 (128 + (Int.tmod a0 64))) % 256] : List Int)))) else (if a0 ≤ 1114111 then (some (strOfNums (([(wrap64 (240 + (wrap64 (Int.tdiv a0 262144)))) % 256, (wrap64 (128 + (Int.tmod (wrap64 (Int.tdiv a0 4096)) 64))) % 256, (wrap64 (128 + (Int.tmod (wrap64 (Int.tdiv a0 64)) 64))) % 256, (wrap64 (128 + (Int.tmod a0 64))) % 256] : List Int)))) else (some (strOfNums (([(wrap64 (a0 - 1114112)) % 256] : List Int)))))))) = some r := h
  clear h
  by_cases c2 : a0 < 128
  · rw [if_pos c2] at H
    have c2b0 : decide (a0 < 128) = true := decide_eq_true c2
    clear c2
    obtain ⟨y101, hy101⟩ : ∃ y_ : List Int, y_ = (([(a0) % 256] : List Int)) := ⟨_, rfl⟩
    replace H : (some (strOfNums y101)) = some r := by first | (rw [hy101]; with_reducible exact H) | (have H2_ := (Option.bind_some _ _).symm.trans H; rw [hy101]; with_reducible exact H2_) | (have H2_ := (Option.bind_some _ _).symm.trans H; with_reducible exact H2_) | with_reducible exact H | (rw [hy101]; exact H) | exact H
    have Ny101 := Aside0.mk hy101
    clear hy101
    obtain rfl := Option.some.inj H
    go_enter Try.func91, Try.ntmps91
    go_wp2_with (first | ((with_reducible refine gate_dst (N := 7) rfl ?_); refine Kd.R_lit (Kd.int .u8) _ 5 ?hg (N := 7) ?hd (xs := ([(a0) % 256] : List Int)) (inner := [.int .u8 ((a0) % 256)]) (ok := fun _ => True) (okp := fun _ => True) ?hr ?hp (fun _ hk => hk) trivial (Below.refl _ _) (Nat.le_refl _) (by simp) ?_; (case hd => rfl); (case hg => rfl); (case hr => first | (go_simp; done) | (go_simp; rfl)); (case hp => exact (Reps.one (show Kd.M (Kd.int .u8) _ _ _ ((a0) % 256) [.int .u8 ((a0) % 256)] from rfl) (Reps.none _ _))); intro v102 w3 ho4 hb hg_ hnew_; clear hg_ hnew_; (first | rw [← Ny101.out] at ho4 | (simp only [Int.reduceToNat] at ho4; rw [← Ny101.out] at ho4)); have n0_ := Aside0.mk (Kd.R_lower ho4 (below_size (by repeat (first | (with_reducible first | exact HB.out | apply below_alloc | apply pw_below_drewN | apply below_drew1) | exact HB.out)))); have n1_ := Aside0.mk (below_step (by repeat (first | (with_reducible first | exact HB.out | apply below_alloc | apply pw_below_drewN | apply below_drew1) | exact HB.out)) hb); clear HB; have HO103 := n0_; have HB := n1_; clear n0_ n1_; clear hb ho4; have hcv5 := own_string (P := Try.prog) Try.underlying108 Try.underlying5 Try.underlying9 (Kd.own_of_R HO103.out)))
    go_ret
    exact ⟨by first | rfl | (simp [errW_none, errW_some] <;> rfl) | (simp [*, errW_none, errW_some] <;> rfl), by repeat (first | (with_reducible first | exact HB.out | apply below_alloc | apply pw_below_drewN | apply below_drew1) | exact HB.out)⟩
  · rw [if_neg c2] at H
    have c2b0 : decide (a0 < 128) = false := decide_eq_false c2
    clear c2
    by_cases c6 : a0 < 2048
    · rw [if_pos c6] at H
      have c6b0 : decide (a0 < 2048) = true := decide_eq_true c6
      clear c6
      obtain ⟨y104, hy104⟩ : ∃ y_ : List Int, y_ = (([(wrap64 (192 + (wrap64 (Int.tdiv a0 64)))) % 256, (wrap64 (128 + (Int.tmod a0 64))) % 256] : List Int)) := ⟨_, rfl⟩
      replace H : (some (strOfNums y104)) = some r := by first | (rw [hy104]; with_reducible exact H) | (have H2_ := (Option.bind_some _ _).symm.trans H; rw [hy104]; with_reducible exact H2_) | (have H2_ := (Option.bind_some _ _).symm.trans H; with_reducible exact H2_) | with_reducible exact H | (rw [hy104]; exact H) | exact H
      have Ny104 := Aside0.mk hy104
      clear hy104
      obtain rfl := Option.some.inj H
      go_enter Try.func91, Try.ntmps91
      go_wp2_with (first | ((with_reducible refine gate_dst (N := 19) rfl ?_); refine Kd.R_lit (Kd.int .u8) _ 5 ?hg (N := 19) ?hd (xs := ([(wrap64 (192 + (wrap64 (Int.tdiv a0 64)))) % 256, (wrap64 (128 + (Int.tmod a0 64))) % 256] : List Int)) (inner := [.int .u8 ((wrap64 (192 + (wrap64 (Int.tdiv a0 64)))) % 256), .int .u8 ((wrap64 (128 + (Int.tmod a0 64))) % 256)]) (ok := fun _ => True) (okp := fun _ => True) ?hr ?hp (fun _ hk => hk) trivial (Below.refl _ _) (Nat.le_refl _) (by simp) ?_; (case hd => rfl); (case hg => rfl); (case hr => first | (go_simp; done) | (go_simp; rfl)); (case hp => exact (Reps.one (show Kd.M (Kd.int .u8) _ _ _ ((wrap64 (192 + (wrap64 (Int.tdiv a0 64)))) % 256) [.int .u8 ((wrap64 (192 + (wrap64 (Int.tdiv a0 64)))) % 256)] from rfl) (Reps.one (show Kd.M (Kd.int .u8) _ _ _ ((wrap64 (128 + (Int.tmod a0 64))) % 256) [.int .u8 ((wrap64 (128 + (Int.tmod a0 64))) % 256)] from rfl) (Reps.none _ _)))); intro v105 w7 ho8 hb hg_ hnew_; clear hg_ hnew_; (first | rw [← Ny104.out] at ho8 | (simp only [Int.reduceToNat] at ho8; rw [← Ny104.out] at ho8)); have n0_ := Aside0.mk (Kd.R_lower ho8 (below_size (by repeat (first | (with_reducible first | exact HB.out | apply below_alloc | apply pw_below_drewN | apply below_drew1) | exact HB.out)))); have n1_ := Aside0.mk (below_step (by repeat (first | (with_reducible first | exact HB.out | apply below_alloc | apply pw_below_drewN | apply below_drew1) | exact HB.out)) hb); clear HB; have HO106 := n0_; have HB := n1_; clear n0_ n1_; clear hb ho8; have hcv9 := own_string (P := Try.prog) Try.underlying108 Try.underlying5 Try.underlying9 (Kd.own_of_R HO106.out)))
      go_ret
      exact ⟨by first | rfl | (simp [errW_none, errW_some] <;> rfl) | (simp [*, errW_none, errW_some] <;> rfl), by repeat (first | (with_reducible first | exact HB.out | apply below_alloc | apply pw_below_drewN | apply below_drew1) | exact HB.out)⟩
    · rw [if_neg c6] at H
      have c6b0 : decide (a0 < 2048) = false := decide_eq_false c6
      clear c6
      by_cases c10 : a0 < 65536
      · rw [if_pos c10] at H
        have c10b0 : decide (a0 < 65536) = true := decide_eq_true c10
        clear c10
        obtain ⟨y107, hy107⟩ : ∃ y_ : List Int, y_ = (([(wrap64 (224 + (wrap64 (Int.tdiv a0 4096)))) % 256, (wrap64 (128 + (Int.tmod (wrap64 (Int.tdiv a0 64)) 64))) % 256, (wrap64 (128 + (Int.tmod a0 64))) % 256] : List Int)) := ⟨_, rfl⟩
        replace H : (some (strOfNums y107)) = some r := by first | (rw [hy107]; with_reducible exact H) | (have H2_ := (Option.bind_some _ _).symm.trans H; rw [hy107]; with_reducible exact H2_) | (have H2_ := (Option.bind_some _ _).symm.trans H; with_reducible exact H2_) | with_reducible exact H | (rw [hy107]; exact H) | exact H
        have Ny107 := Aside0.mk hy107
        clear hy107
        obtain rfl := Option.some.inj H
        go_enter Try.func91, Try.ntmps91
        go_wp2_with (first | ((with_reducible refine gate_dst (N := 36) rfl ?_); refine Kd.R_lit (Kd.int .u8) _ 5 ?hg (N := 36) ?hd (xs := ([(wrap64 (224 + (wrap64 (Int.tdiv a0 4096)))) % 256, (wrap64 (128 + (Int.tmod (wrap64 (Int.tdiv a0 64)) 64))) % 256, (wrap64 (128 + (Int.tmod a0 64))) % 256] : List Int)) (inner := [.int .u8 ((wrap64 (224 + (wrap64 (Int.tdiv a0 4096)))) % 256), .int .u8 ((wrap64 (128 + (Int.tmod (wrap64 (Int.tdiv a0 64)) 64))) % 256), .int .u8 ((wrap64 (128 + (Int.tmod a0 64))) % 256)]) (ok := fun _ => True) (okp := fun _ => True) ?hr ?hp (fun _ hk => hk) trivial (Below.refl _ _) (Nat.le_refl _) (by simp) ?_; (case hd => rfl); (case hg => rfl); (case hr => first | (go_simp; done) | (go_simp; rfl)); (case hp => exact (Reps.one (show Kd.M (Kd.int .u8) _ _ _ ((wrap64 (224 + (wrap64 (Int.tdiv a0 4096)))) % 256) [.int .u8 ((wrap64 (224 + (wrap64 (Int.tdiv a0 4096)))) % 256)] from rfl) (Reps.one (show Kd.M (Kd.int .u8) _ _ _ ((wrap64 (128 + (Int.tmod (wrap64 (Int.tdiv a0 64)) 64))) % 256) [.int .u8 ((wrap64 (128 + (Int.tmod (wrap64 (Int.tdiv a0 64)) 64))) % 256)] from rfl) (Reps.one (show Kd.M (Kd.int .u8) _ _ _ ((wrap64 (128 + (Int.tmod a0 64))) % 256) [.int .u8 ((wrap64 (128 + (Int.tmod a0 64))) % 256)] from rfl) (Reps.none _ _))))); intro v108 w11 ho12 hb hg_ hnew_; clear hg_ hnew_; (first | rw [← Ny107.out] at ho12 | (simp only [Int.reduceToNat] at ho12; rw [← Ny107.out] at ho12)); have n0_ := Aside0.mk (Kd.R_lower ho12 (below_size (by repeat (first | (with_reducible first | exact HB.out | apply below_alloc | apply pw_below_drewN | apply below_drew1) | exact HB.out)))); have n1_ := Aside0.mk (below_step (by repeat (first | (with_reducible first | exact HB.out | apply below_alloc | apply pw_below_drewN | apply below_drew1) | exact HB.out)) hb); clear HB; have HO109 := n0_; have HB := n1_; clear n0_ n1_; clear hb ho12; have hcv13 := own_string (P := Try.prog) Try.underlying108 Try.underlying5 Try.underlying9 (Kd.own_of_R HO109.out)))
        go_ret
        exact ⟨by first | rfl | (simp [errW_none, errW_some] <;> rfl) | (simp [*, errW_none, errW_some] <;> rfl), by repeat (first | (with_reducible first | exact HB.out | apply below_alloc | apply pw_below_drewN | apply below_drew1) | exact HB.out)⟩
      · rw [if_neg c10] at H
        have c10b0 : decide (a0 < 65536) = false := decide_eq_false c10
        clear c10
        by_cases c14 : a0 ≤ 1114111
        · rw [if_pos c14] at H
          have c14b0 : decide (a0 ≤ 1114111) = true := decide_eq_true c14
          clear c14
          obtain ⟨y110, hy110⟩ : ∃ y_ : List Int, y_ = (([(wrap64 (240 + (wrap64 (Int.tdiv a0 262144)))) % 256, (wrap64 (128 + (Int.tmod (wrap64 (Int.tdiv a0 4096)) 64))) % 256, (wrap64 (128 + (Int.tmod (wrap64 (Int.tdiv a0 64)) 64))) % 256, (wrap64 (128 + (Int.tmod a0 64))) % 256] : List Int)) := ⟨_, rfl⟩
          replace H : (some (strOfNums y110)) = some r := by first | (rw [hy110]; with_reducible exact H) | (have H2_ := (Option.bind_some _ _).symm.trans H; rw [hy110]; with_reducible exact H2_) | (have H2_ := (Option.bind_some _ _).symm.trans H; with_reducible exact H2_) | with_reducible exact H | (rw [hy110]; exact H) | exact H
          have Ny110 := Aside0.mk hy110
          clear hy110
          obtain rfl := Option.some.inj H
          go_enter Try.func91, Try.ntmps91
          go_wp2_with (first | ((with_reducible refine gate_dst (N := 58) rfl ?_); refine Kd.R_lit (Kd.int .u8) _ 5 ?hg (N := 58) ?hd (xs := ([(wrap64 (240 + (wrap64 (Int.tdiv a0 262144)))) % 256, (wrap64 (128 + (Int.tmod (wrap64 (Int.tdiv a0 4096)) 64))) % 256, (wrap64 (128 + (Int.tmod (wrap64 (Int.tdiv a0 64)) 64))) % 256, (wrap64 (128 + (Int.tmod a0 64))) % 256] : List Int)) (inner := [.int .u8 ((wrap64 (240 + (wrap64 (Int.tdiv a0 262144)))) % 256), .int .u8 ((wrap64 (128 + (Int.tmod (wrap64 (Int.tdiv a0 4096)) 64))) % 256), .int .u8 ((wrap64 (128 + (Int.tmod (wrap64 (Int.tdiv a0 64)) 64))) % 256), .int .u8 ((wrap64 (128 + (Int.tmod a0 64))) % 256)]) (ok := fun _ => True) (okp := fun _ => True) ?hr ?hp (fun _ hk => hk) trivial (Below.refl _ _) (Nat.le_refl _) (by simp) ?_; (case hd => rfl); (case hg => rfl); (case hr => first | (go_simp; done) | (go_simp; rfl)); (case hp => exact (Reps.one (show Kd.M (Kd.int .u8) _ _ _ ((wrap64 (240 + (wrap64 (Int.tdiv a0 262144)))) % 256) [.int .u8 ((wrap64 (240 + (wrap64 (Int.tdiv a0 262144)))) % 256)] from rfl) (Reps.one (show Kd.M (Kd.int .u8) _ _ _ ((wrap64 (128 + (Int.tmod (wrap64 (Int.tdiv a0 4096)) 64))) % 256) [.int .u8 ((wrap64 (128 + (Int.tmod (wrap64 (Int.tdiv a0 4096)) 64))) % 256)] from rfl) (Reps.one (show Kd.M (Kd.int .u8) _ _ _ ((wrap64 (128 + (Int.tmod (wrap64 (Int.tdiv a0 64)) 64))) % 256) [.int .u8 ((wrap64 (128 + (Int.tmod (wrap64 (Int.tdiv a0 64)) 64))) % 256)] from rfl) (Reps.one (show Kd.M (Kd.int .u8) _ _ _ ((wrap64 (128 + (Int.tmod a0 64))) % 256) [.int .u8 ((wrap64 (128 + (Int.tmod a0 64))) % 256)] from rfl) (Reps.none _ _)))))); intro v111 w15 ho16 hb hg_ hnew_; clear hg_ hnew_; (first | rw [← Ny110.out] at ho16 | (simp only [Int.reduceToNat] at ho16; rw [← Ny110.out] at ho16)); have n0_ := Aside0.mk (Kd.R_lower ho16 (below_size (by repeat (first | (with_reducible first | exact HB.out | apply below_alloc | apply pw_below_drewN | apply below_drew1) | exact HB.out)))); have n1_ := Aside0.mk (below_step (by repeat (first | (with_reducible first | exact HB.out | apply below_alloc | apply pw_below_drewN | apply below_drew1) | exact HB.out)) hb); clear HB; have HO112 := n0_; have HB := n1_; clear n0_ n1_; clear hb ho16; have hcv17 := own_string (P := Try.prog) Try.underlying108 Try.underlying5 Try.underlying9 (Kd.own_of_R HO112.out)))
          go_ret
          exact ⟨by first | rfl | (simp [errW_none, errW_some] <;> rfl) | (simp [*, errW_none, errW_some] <;> rfl), by repeat (first | (with_reducible first | exact HB.out | apply below_alloc | apply pw_below_drewN | apply below_drew1) | exact HB.out)⟩
        · rw [if_neg c14] at H
          have c14b0 : decide (a0 ≤ 1114111) = false := decide_eq_false c14
          clear c14
          obtain ⟨y113, hy113⟩ : ∃ y_ : List Int, y_ = (([(wrap64 (a0 - 1114112)) % 256] : List Int)) := ⟨_, rfl⟩
          replace H : (some (strOfNums y113)) = some r := by first | (rw [hy113]; with_reducible exact H) | (have H2_ := (Option.bind_some _ _).symm.trans H; rw [hy113]; with_reducible exact H2_) | (have H2_ := (Option.bind_some _ _).symm.trans H; with_reducible exact H2_) | with_reducible exact H | (rw [hy113]; exact H) | exact H
          have Ny113 := Aside0.mk hy113
          clear hy113
          obtain rfl := Option.some.inj H
          go_enter Try.func91, Try.ntmps91
          go_wp2_with (first | ((with_reducible refine gate_dst (N := 63) rfl ?_); refine Kd.R_lit (Kd.int .u8) _ 5 ?hg (N := 63) ?hd (xs := ([(wrap64 (a0 - 1114112)) % 256] : List Int)) (inner := [.int .u8 ((wrap64 (a0 - 1114112)) % 256)]) (ok := fun _ => True) (okp := fun _ => True) ?hr ?hp (fun _ hk => hk) trivial (Below.refl _ _) (Nat.le_refl _) (by simp) ?_; (case hd => rfl); (case hg => rfl); (case hr => first | (go_simp; done) | (go_simp; rfl)); (case hp => exact (Reps.one (show Kd.M (Kd.int .u8) _ _ _ ((wrap64 (a0 - 1114112)) % 256) [.int .u8 ((wrap64 (a0 - 1114112)) % 256)] from rfl) (Reps.none _ _))); intro v114 w18 ho19 hb hg_ hnew_; clear hg_ hnew_; (first | rw [← Ny113.out] at ho19 | (simp only [Int.reduceToNat] at ho19; rw [← Ny113.out] at ho19)); have n0_ := Aside0.mk (Kd.R_lower ho19 (below_size (by repeat (first | (with_reducible first | exact HB.out | apply below_alloc | apply pw_below_drewN | apply below_drew1) | exact HB.out)))); have n1_ := Aside0.mk (below_step (by repeat (first | (with_reducible first | exact HB.out | apply below_alloc | apply pw_below_drewN | apply below_drew1) | exact HB.out)) hb); clear HB; have HO115 := n0_; have HB := n1_; clear n0_ n1_; clear hb ho19; have hcv20 := own_string (P := Try.prog) Try.underlying108 Try.underlying5 Try.underlying9 (Kd.own_of_R HO115.out)))
          go_ret
          exact ⟨by first | rfl | (simp [errW_none, errW_some] <;> rfl) | (simp [*, errW_none, errW_some] <;> rfl), by repeat (first | (with_reducible first | exact HB.out | apply below_alloc | apply pw_below_drewN | apply below_drew1) | exact HB.out)⟩

end Go.Proofs.Ytemoocoedibbpaa.X

namespace Go.Proofs.Ytemoocoedibbpaa.X
open Go.RowKit Go.Proofs.YtemoocoedibbpaaW.PrintWords Go.Proofs.YtemoocoedibbpaaW.PrintLast Go.Proofs.YtemoocoedibbpaaW.PrintMore
attribute [local go_sem] max2_int min2_int max_two min_two max_three min_three max_four min_four
set_option linter.unusedVariables false
set_option linter.unusedSimpArgs false

/-! ### dactylref01_Digit: function 122 -/
def dactylref01_Digit.f (a0 : Int) : Option (ByteArray) := if 0 ≤ a0 then (if a0 ≤ (wrap64 (a0 + 1)) then (if (wrap64 (a0 + 1)) ≤ 16 then (some ((⟨#[48, 49, 50, 51, 52, 53, 54, 55, 56, 57, 65, 66, 67, 68, 69, 70]⟩ : ByteArray).extract (a0 : Int).toNat ((wrap64 (a0 + 1)) : Int).toNat)) else (none)) else (none)) else (none)
set_option maxHeartbeats 8000000 in
set_option maxRecDepth 100000 in
theorem dactylref01_Digit.calls (a0 : Int) (r : ByteArray) (w : World) (h : dactylref01_Digit.f a0 = some r) :
    Calls Try.prog 122 #[.int .i64 a0] w fun e w' => e = .returned (.string r) ∧ Drawn0 w w' := by
  have H : (if 0 ≤ a0 then (if a0 ≤ (wrap64 (a0 + 1)) then (if (wrap64 (a0 + 1)) ≤ 16 then (some ((⟨#[48, 49, 50, 51, 52, 53, 54, 55, 56, 57, 65, 66, 67, 68, 69, 70]⟩ : ByteArray).extract (a0 : Int).toNat ((wrap64 (a0 + 1)) : Int).toNat)) else (none)) else (none)) else (none)) = some r := h
  clear h
  by_cases c2 : 0 ≤ a0
  · rw [if_pos c2] at H
    have c2b0 := eq_true c2
    have c2b1 : decide (0 ≤ a0) = true := decide_eq_true c2
    clear c2
    by_cases c3 : a0 ≤ (wrap64 (a0 + 1))
    · rw [if_pos c3] at H
      have c3b0 := eq_true c3
      have c3b1 : decide (a0 ≤ (wrap64 (a0 + 1))) = true := decide_eq_true c3
      by_cases c4 : (wrap64 (a0 + 1)) ≤ 16
      · rw [if_pos c4] at H
        have c4b0 := eq_true c4
        have c4b1 : decide ((wrap64 (a0 + 1)) ≤ 16) = true := decide_eq_true c4
        obtain rfl := Option.some.inj H
        go_enter Try.func122, Try.ntmps122
        go_wp2
        go_ret
        exact ⟨by first | rfl | (simp; done) | (simp [*]; done), by repeat (first | exact Drawn0.refl _ | apply Drawn0.step)⟩
      · rw [if_neg c4] at H
        exact absurd H (by simp)
    · rw [if_neg c3] at H
      exact absurd H (by simp)
  · rw [if_neg c2] at H
    exact absurd H (by simp)

end Go.Proofs.Ytemoocoedibbpaa.X

namespace Go.Proofs.Ytemoocoedibbpaa.X
open Go.RowKit Go.Proofs.YtemoocoedibbpaaW.PrintWords Go.Proofs.YtemoocoedibbpaaW.PrintLast Go.Proofs.YtemoocoedibbpaaW.PrintMore
attribute [local go_sem] max2_int min2_int max_two min_two max_three min_three max_four min_four
set_option linter.unusedVariables false
set_option linter.unusedSimpArgs false

/-! ### dactylref01_Hex: function 92 -/
mutual
def dactylref01_Hex.j0 : Nat → Int → Int → Bool → Option (ByteArray)
  | 0, _, _, _ => none
  | k + 1, x0, x1, x10 => if x10 = true then ((dactylref01_Digit.f x0).bind fun t101 => (some t101)) else ((dactylref01_Hex.f k (wrap64 (Int.tdiv x0 16)) (wrap64 (x1 - 1))).bind fun t102 => ((dactylref01_Digit.f (Int.tmod x0 16)).bind fun t103 => (if t102.size + t103.size ≤ 9223372036854775807 then (some (t102 ++ t103)) else (none))))
def dactylref01_Hex.f : Nat → Int → Int → Option (ByteArray)
  | 0, _, _ => none
  | k + 1, a0, a1 => if a0 < 16 then (dactylref01_Hex.j0 k a0 a1 (decide (a1 ≤ 1))) else (dactylref01_Hex.j0 k a0 a1 false)
end
theorem dactylref01_Hex.mono_l : ∀ k, (∀ y0 y1, LeO (dactylref01_Hex.f k y0 y1) (dactylref01_Hex.f (k + 1) y0 y1)) ∧ (∀ y0 y1 y2, LeO (dactylref01_Hex.j0 k y0 y1 y2) (dactylref01_Hex.j0 (k + 1) y0 y1 y2))
  | 0 => ⟨fun _ _ r h => by simp [dactylref01_Hex.f] at h, fun _ _ _ r h => by simp [dactylref01_Hex.j0] at h⟩
  | k + 1 => by
    obtain ⟨ih0, ih1⟩ := dactylref01_Hex.mono_l k
    refine ⟨?_, ?_⟩
    · intro y0 y1
      unfold dactylref01_Hex.f
      repeat' first
      | (with_reducible exact ih0 _ _)
      | (with_reducible exact ih1 _ _ _)
      | (with_reducible exact LeO.refl _)
      | (with_reducible exact LeO.none _)
      | (with_reducible refine LeO.ite ?_ ?_)
      | (with_reducible refine LeO.bind ?_ (fun _ => ?_))
      | exact ih0 _ _
      | exact ih1 _ _ _
      | exact LeO.none _
      | refine LeO.ite ?_ ?_
      | refine LeO.bind ?_ (fun _ => ?_)
    · intro y0 y1 y2
      unfold dactylref01_Hex.j0
      repeat' first
      | (with_reducible exact ih0 _ _)
      | (with_reducible exact ih1 _ _ _)
      | (with_reducible exact LeO.refl _)
      | (with_reducible exact LeO.none _)
      | (with_reducible refine LeO.ite ?_ ?_)
      | (with_reducible refine LeO.bind ?_ (fun _ => ?_))
      | exact ih0 _ _
      | exact ih1 _ _ _
      | exact LeO.none _
      | refine LeO.ite ?_ ?_
      | refine LeO.bind ?_ (fun _ => ?_)
theorem dactylref01_Hex.mono : ∀ a0 a1 k, LeO (dactylref01_Hex.f k a0 a1) (dactylref01_Hex.f (k + 1) a0 a1) := by
  intro a0 a1 k
  obtain ⟨ih0, ih1⟩ := dactylref01_Hex.mono_l k
  exact ih0 a0 a1
set_option maxHeartbeats 8000000 in
set_option maxRecDepth 100000 in
theorem dactylref01_Hex.calls (k : Nat) : ∀ (a0 : Int) (a1 : Int) (r : ByteArray) (w : World) (h : dactylref01_Hex.f k a0 a1 = some r),
    Calls Try.prog 92 #[.int .i64 a0, .int .i64 a1] w fun e w' => e = .returned (.string r) ∧ Drawn0 w w' := by
  induction k using Nat.strongRecOn with
  | _ k ih =>
  intro a0 a1 r w h
  cases k with
  | zero => exact absurd h (by simp [dactylref01_Hex.f])
  | succ k =>
  simp only [dactylref01_Hex.f] at h
  have H : (if a0 < 16 then (dactylref01_Hex.j0 k a0 a1 (decide (a1 ≤ 1))) else (dactylref01_Hex.j0 k a0 a1 false)) = some r := h
  clear h
  have HC3 := Aside0.mk H
  clear H
  go_enter Try.func92, Try.ntmps92
  go_upto_region 1 with (fail)
  go_cut [10] (fun v10 wc => ∃ (kq : Nat) (x10_2 : Bool), v10 = .bool x10_2 ∧ Aside0 (dactylref01_Hex.j0 kq a0 a1 x10_2 = some r) ∧ Aside0 (kq ≤ k) ∧ Drawn0 w wc)
  case first =>
    have H := HC3.out
    clear HC3
    by_cases c4 : a0 < 16
    · rw [if_pos c4] at H
      have c4b0 : decide (a0 < 16) = true := decide_eq_true c4
      clear c4
      (first | rw [c4b0] | (simp only [i64_w, i32_w]; rw [c4b0]) | skip)
      have H' := Aside0.mk H
      clear H
      go_wp2
      go_meet
      case rel => exact ⟨_, (decide (a1 ≤ 1)), (by first | rfl | (simp; done) | (simp [*]; done)), H', ⟨by first | omega | exact Nat.le_refl _⟩, by repeat (first | exact Drawn0.refl _ | apply Drawn0.step)⟩
    · rw [if_neg c4] at H
      have c4b0 : decide (a0 < 16) = false := decide_eq_false c4
      clear c4
      (first | rw [c4b0] | (simp only [i64_w, i32_w]; rw [c4b0]) | skip)
      have H' := Aside0.mk H
      clear H
      go_wp2
      go_meet
      case rel => exact ⟨_, (false), (by first | rfl | (simp; done) | (simp [*]; done)), H', ⟨by first | omega | exact Nat.le_refl _⟩, by repeat (first | exact Drawn0.refl _ | apply Drawn0.step)⟩
  case rest =>
    clear HC3
    try clear p2
    try clear c4
    try clear c4b0
    obtain ⟨kq, x10_2, rfl, HA, HJ2, ⟨mc2, rfl⟩⟩ := hcut
    cases kq with
    | zero => exact absurd HA.out (by simp [dactylref01_Hex.j0])
    | succ kj2 =>
      have H := HA.out
      clear HA
      simp only [dactylref01_Hex.j0] at H
      by_cases c5 : x10_2 = true
      · subst c5
        have H1 : ((dactylref01_Digit.f a0).bind fun t101 => (some t101)) = some r := by rw [if_pos rfl] at H; exact H
        clear H
        have H := H1
        clear H1
        replace H := Option.bind_eq_some_iff.mp H
        obtain ⟨t101, A60, H⟩ := H
        replace H : (some t101) = some r := H
        have A6 := Aside0.mk A60
        clear A60
        obtain rfl := Option.some.inj H
        go_wp2_with (first | ((with_reducible refine gate_callee (f := 122) rfl ?_); refine goesL_ (some 12) rfl rfl Try.func122 (by kernel_rfl) rfl #[.int .i64 a0] rfl (by (try simp only [List.map_toArray, List.map_cons, List.map_nil]); first | done | rfl | (simp only [List.length_drop, List.length_take]; rfl)) ?_; (with_reducible refine (dactylref01_Digit.calls a0 t101 _ A6.out).mono ?_); rintro e w' ⟨rfl, ⟨nd, rfl⟩⟩; refine ⟨_, rfl, ?_⟩))
        go_ret
        exact ⟨by first | rfl | (simp; done) | (simp [*]; done), by repeat (first | exact Drawn0.refl _ | apply Drawn0.step)⟩
      · replace c5 := Bool.eq_false_iff.mpr c5
        subst c5
        have H1 : ((dactylref01_Hex.f kj2 (wrap64 (Int.tdiv a0 16)) (wrap64 (a1 - 1))).bind fun t102 => ((dactylref01_Digit.f (Int.tmod a0 16)).bind fun t103 => (if t102.size + t103.size ≤ 9223372036854775807 then (some (t102 ++ t103)) else (none)))) = some r := by rw [if_neg (show ¬ (false = true) by decide)] at H; exact H
        clear H
        have H := H1
        clear H1
        replace H := Option.bind_eq_some_iff.mp H
        obtain ⟨t102, A70, H⟩ := H
        replace H : ((dactylref01_Digit.f (Int.tmod a0 16)).bind fun t103 => (if t102.size + t103.size ≤ 9223372036854775807 then (some (t102 ++ t103)) else (none))) = some r := H
        have A7 := Aside0.mk A70
        clear A70
        replace H := Option.bind_eq_some_iff.mp H
        obtain ⟨t103, A80, H⟩ := H
        replace H : (if t102.size + t103.size ≤ 9223372036854775807 then (some (t102 ++ t103)) else (none)) = some r := H
        have A8 := Aside0.mk A80
        clear A80
        by_cases c9 : t102.size + t103.size ≤ 9223372036854775807
        · rw [if_pos c9] at H
          have c9b0 := eq_true c9
          have c9b1 : decide (t102.size + t103.size ≤ 9223372036854775807) = true := decide_eq_true c9
          try have c9b2 : (9223372036854775807 < t102.size + t103.size) = False := eq_false (Nat.not_lt.2 c9)
          obtain rfl := Option.some.inj H
          go_wp2_with (first | ((with_reducible refine gate_callee (f := 92) rfl ?_); refine goesL_ (some 17) rfl rfl Try.func92 (by kernel_rfl) rfl #[.int .i64 (wrap64 (Int.tdiv a0 16)), .int .i64 (wrap64 (a1 - 1))] rfl (by (try simp only [List.map_toArray, List.map_cons, List.map_nil]); first | done | rfl | (simp only [List.length_drop, List.length_take]; rfl)) ?_; (with_reducible refine (ih kj2 (by have := HJ2.out; omega) (wrap64 (Int.tdiv a0 16)) (wrap64 (a1 - 1)) t102 _ A7.out).mono ?_); rintro e w' ⟨rfl, ⟨nd, rfl⟩⟩; refine ⟨_, rfl, ?_⟩) | ((with_reducible refine gate_callee (f := 122) rfl ?_); refine goesL_ (some 20) rfl rfl Try.func122 (by kernel_rfl) rfl #[.int .i64 (Int.tmod a0 16)] rfl (by (try simp only [List.map_toArray, List.map_cons, List.map_nil]); first | done | rfl | (simp only [List.length_drop, List.length_take]; rfl)) ?_; (with_reducible refine (dactylref01_Digit.calls (Int.tmod a0 16) t103 _ A8.out).mono ?_); rintro e w' ⟨rfl, ⟨nd, rfl⟩⟩; refine ⟨_, rfl, ?_⟩))
          go_ret
          exact ⟨by first | rfl | (simp; done) | (simp [*]; done), by repeat (first | exact Drawn0.refl _ | apply Drawn0.step)⟩
        · rw [if_neg c9] at H
          exact absurd H (by simp)

end Go.Proofs.Ytemoocoedibbpaa.X

namespace Go.Proofs.Ytemoocoedibbpaa.X
open Go.RowKit Go.Proofs.YtemoocoedibbpaaW.PrintWords Go.Proofs.YtemoocoedibbpaaW.PrintLast Go.Proofs.YtemoocoedibbpaaW.PrintMore
attribute [local go_sem] max2_int min2_int max_two min_two max_three min_three max_four min_four
set_option linter.unusedVariables false
set_option linter.unusedSimpArgs false

/-! ### dactylref06_Text: function 48 -/
def dactylref06_Text.f (k : Nat) (a0 : Int) : Option (ByteArray) := (dactylref03_Of.f k a0).bind fun t101 => (if t101 = 0 then (some (⟨#[]⟩ : ByteArray)) else (if t101 ≤ 3 then ((dactylref02_Bytes.f a0).bind fun t102 => (some t102)) else (if t101 = 4 then ((some (([(wrap64 (a0 + 64)) % 256] : List Int) : List Int)).bind fun y103 => (if 1 + (strOfNums y103).size ≤ 9223372036854775807 then (some ((⟨#[94]⟩ : ByteArray) ++ (strOfNums y103))) else (none))) else (if t101 = 5 then (some (⟨#[94, 63]⟩ : ByteArray)) else (if t101 = 12 then ((dactylref01_Hex.f k (wrap64 (a0 - 1114112)) 2).bind fun t106 => (if 2 + t106.size ≤ 9223372036854775807 then (some ((⟨#[92, 120]⟩ : ByteArray) ++ t106)) else (none))) else ((dactylref01_Hex.f k a0 4).bind fun t107 => (if 3 + t107.size ≤ 9223372036854775807 then (if 3 + t107.size + 1 ≤ 9223372036854775807 then (some (((⟨#[60, 85, 43]⟩ : ByteArray) ++ t107) ++ (⟨#[62]⟩ : ByteArray))) else (none)) else (none))))))))
theorem dactylref06_Text.mono : ∀ a0 k, LeO (dactylref06_Text.f k a0) (dactylref06_Text.f (k + 1) a0) := by
  intro a0 k
  unfold dactylref06_Text.f
  repeat' first
      | (with_reducible exact dactylref01_Hex.mono _ _ _)
      | (with_reducible exact dactylref03_Of.mono _ _)
      | (with_reducible exact LeO.refl _)
      | (with_reducible exact LeO.none _)
      | (with_reducible refine LeO.ite ?_ ?_)
      | (with_reducible refine LeO.bind ?_ (fun _ => ?_))
      | exact dactylref01_Hex.mono _ _ _
      | exact dactylref03_Of.mono _ _
      | exact LeO.none _
      | refine LeO.ite ?_ ?_
      | refine LeO.bind ?_ (fun _ => ?_)
set_option maxHeartbeats 8000000 in
set_option maxRecDepth 100000 in
theorem dactylref06_Text.calls (k : Nat) (a0 : Int) (r : ByteArray) (w : World) (h : dactylref06_Text.f k a0 = some r) :
    Calls Try.prog 48 #[.int .i64 a0] w fun e w' => e = .returned (.string r) ∧ Below w.heap.size w w' := by
  have HB := Aside0.mk (Below.refl w.heap.size w)
  have H : ((dactylref03_Of.f k a0).bind fun t101 => (if t101 = 0 then (some (⟨#[]⟩ : ByteArray)) else (if t101 ≤ 3 then ((dactylref02_Bytes.f a0).bind fun t102 => (some t102)) else (if t101 = 4 then ((some (([(wrap64 (a0 + 64)) % 256] : List Int) : List Int)).bind fun y103 => (if 1 + (strOfNums y103).size ≤ 9223372036854775807 then (some ((⟨#[94]⟩ : ByteArray) ++ (strOfNums y103))) else (none))) else (if t101 = 5 then (some (⟨#[94, 63]⟩ : ByteArray)) else (if t101 = 12 then ((dactylref01_Hex.f k (wrap64 (a0 - 1114112)) 2).bind fun t106 => (if 2 + t106.size ≤ 9223372036854775807 then (some ((⟨#[92, 120]⟩ : ByteArray) ++ t106)) else (none))) else ((dactylref01_Hex.f k a0 4).bind fun t107 => (if 3 + t107.size ≤ 9223372036854775807 then (if 3 + t107.size + 1 ≤ 9223372036854775807 then (some (((⟨#[60, 85, 43]⟩ : ByteArray) ++ t107) ++ (⟨#[62]⟩ : ByteArray))) else (none)) else (none))))))))) = some r := h
  clear h
  replace H := Option.bind_eq_some_iff.mp H
  obtain ⟨t101, A20, H⟩ := H
  replace H : (if t101 = 0 then (some (⟨#[]⟩ : ByteArray)) else (if t101 ≤ 3 then ((dactylref02_Bytes.f a0).bind fun t102 => (some t102)) else (if t101 = 4 then ((some (([(wrap64 (a0 + 64)) % 256] : List Int) : List Int)).bind fun y103 => (if 1 + (strOfNums y103).size ≤ 9223372036854775807 then (some ((⟨#[94]⟩ : ByteArray) ++ (strOfNums y103))) else (none))) else (if t101 = 5 then (some (⟨#[94, 63]⟩ : ByteArray)) else (if t101 = 12 then ((dactylref01_Hex.f k (wrap64 (a0 - 1114112)) 2).bind fun t106 => (if 2 + t106.size ≤ 9223372036854775807 then (some ((⟨#[92, 120]⟩ : ByteArray) ++ t106)) else (none))) else ((dactylref01_Hex.f k a0 4).bind fun t107 => (if 3 + t107.size ≤ 9223372036854775807 then (if 3 + t107.size + 1 ≤ 9223372036854775807 then (some (((⟨#[60, 85, 43]⟩ : ByteArray) ++ t107) ++ (⟨#[62]⟩ : ByteArray))) else (none)) else (none)))))))) = some r := H
  have A2 := Aside0.mk A20
  clear A20
  by_cases c3 : t101 = 0
  · rw [if_pos c3] at H
    have c3b0 : (t101 == 0) = true := beq_iff_eq.mpr c3
    have c3b1 : (t101 != 0) = false := bne_eq_false_iff_eq.mpr c3
    clear c3
    obtain rfl := Option.some.inj H
    go_enter Try.func48, Try.ntmps48
    go_wp2_with (first | ((with_reducible refine gate_callee (f := 71) rfl ?_); refine goesL_ (some 5) rfl rfl Try.func71 (by kernel_rfl) rfl #[.int .i64 a0] rfl (by (try simp only [List.map_toArray, List.map_cons, List.map_nil]); first | done | rfl | (simp only [List.length_drop, List.length_take]; rfl)) ?_; (with_reducible refine (dactylref03_Of.calls k a0 t101 _ A2.out).mono ?_); rintro e w4 ⟨rfl, hb⟩; refine ⟨_, rfl, ?_⟩; have n0_ := Aside0.mk (below_step (by repeat (first | (with_reducible first | exact HB.out | apply below_alloc | apply pw_below_drewN | apply below_drew1) | exact HB.out)) hb); clear HB; have HB := n0_; clear n0_; (try clear hb); (try clear hb2); (try clear hk); (try clear hi)))
    go_ret
    exact ⟨by first | rfl | (simp [errW_none, errW_some] <;> rfl) | (simp [*, errW_none, errW_some] <;> rfl), by repeat (first | (with_reducible first | exact HB.out | apply below_alloc | apply pw_below_drewN | apply below_drew1) | exact HB.out)⟩
  · rw [if_neg c3] at H
    have c3b0 : (t101 == 0) = false := beq_eq_false_iff_ne.mpr c3
    have c3b1 : (t101 != 0) = true := bne_iff_ne.mpr c3
    by_cases c5 : t101 ≤ 3
    · rw [if_pos c5] at H
      have c5b0 : decide (t101 ≤ 3) = true := decide_eq_true c5
      clear c5
      replace H := Option.bind_eq_some_iff.mp H
      obtain ⟨t102, A60, H⟩ := H
      replace H : (some t102) = some r := H
      have A6 := Aside0.mk A60
      clear A60
      obtain rfl := Option.some.inj H
      go_enter Try.func48, Try.ntmps48
      go_wp2_with (first | ((with_reducible refine gate_callee (f := 71) rfl ?_); refine goesL_ (some 5) rfl rfl Try.func71 (by kernel_rfl) rfl #[.int .i64 a0] rfl (by (try simp only [List.map_toArray, List.map_cons, List.map_nil]); first | done | rfl | (simp only [List.length_drop, List.length_take]; rfl)) ?_; (with_reducible refine (dactylref03_Of.calls k a0 t101 _ A2.out).mono ?_); rintro e w7 ⟨rfl, hb⟩; refine ⟨_, rfl, ?_⟩; have n0_ := Aside0.mk (below_step (by repeat (first | (with_reducible first | exact HB.out | apply below_alloc | apply pw_below_drewN | apply below_drew1) | exact HB.out)) hb); clear HB; have HB := n0_; clear n0_; (try clear hb); (try clear hb2); (try clear hk); (try clear hi)) | ((with_reducible refine gate_callee (f := 91) rfl ?_); refine goesL_ (some 11) rfl rfl Try.func91 (by kernel_rfl) rfl #[.int .i64 a0] rfl (by (try simp only [List.map_toArray, List.map_cons, List.map_nil]); first | done | rfl | (simp only [List.length_drop, List.length_take]; rfl)) ?_; (with_reducible refine (dactylref02_Bytes.calls a0 t102 _ A6.out).mono ?_); rintro e w8 ⟨rfl, hb⟩; refine ⟨_, rfl, ?_⟩; have n0_ := Aside0.mk (below_step (by repeat (first | (with_reducible first | exact HB.out | apply below_alloc | apply pw_below_drewN | apply below_drew1) | exact HB.out)) hb); clear HB; have HB := n0_; clear n0_; (try clear hb); (try clear hb2); (try clear hk); (try clear hi)))
      go_ret
      exact ⟨by first | rfl | (simp [errW_none, errW_some] <;> rfl) | (simp [*, errW_none, errW_some] <;> rfl), by repeat (first | (with_reducible first | exact HB.out | apply below_alloc | apply pw_below_drewN | apply below_drew1) | exact HB.out)⟩
    · rw [if_neg c5] at H
      have c5b0 : decide (t101 ≤ 3) = false := decide_eq_false c5
      clear c5
      by_cases c9 : t101 = 4
      · rw [if_pos c9] at H
        have c9b0 : (t101 == 4) = true := beq_iff_eq.mpr c9
        have c9b1 : (t101 != 4) = false := bne_eq_false_iff_eq.mpr c9
        clear c9
        obtain ⟨y103, hy103⟩ : ∃ y_ : List Int, y_ = (([(wrap64 (a0 + 64)) % 256] : List Int)) := ⟨_, rfl⟩
        replace H : (if 1 + (strOfNums y103).size ≤ 9223372036854775807 then (some ((⟨#[94]⟩ : ByteArray) ++ (strOfNums y103))) else (none)) = some r := by first | (rw [hy103]; with_reducible exact H) | (have H2_ := (Option.bind_some _ _).symm.trans H; rw [hy103]; with_reducible exact H2_) | (have H2_ := (Option.bind_some _ _).symm.trans H; with_reducible exact H2_) | with_reducible exact H | (rw [hy103]; exact H) | exact H
        have Ny103 := Aside0.mk hy103
        clear hy103
        by_cases c10 : 1 + (strOfNums y103).size ≤ 9223372036854775807
        · rw [if_pos c10] at H
          have c10b0 := eq_true c10
          have c10b1 : decide (1 + (strOfNums y103).size ≤ 9223372036854775807) = true := decide_eq_true c10
          try have c10b2 : (9223372036854775807 < 1 + (strOfNums y103).size) = False := eq_false (Nat.not_lt.2 c10)
          obtain rfl := Option.some.inj H
          go_enter Try.func48, Try.ntmps48
          go_wp2_with (first | ((with_reducible refine gate_callee (f := 71) rfl ?_); refine goesL_ (some 5) rfl rfl Try.func71 (by kernel_rfl) rfl #[.int .i64 a0] rfl (by (try simp only [List.map_toArray, List.map_cons, List.map_nil]); first | done | rfl | (simp only [List.length_drop, List.length_take]; rfl)) ?_; (with_reducible refine (dactylref03_Of.calls k a0 t101 _ A2.out).mono ?_); rintro e w11 ⟨rfl, hb⟩; refine ⟨_, rfl, ?_⟩; have n0_ := Aside0.mk (below_step (by repeat (first | (with_reducible first | exact HB.out | apply below_alloc | apply pw_below_drewN | apply below_drew1) | exact HB.out)) hb); clear HB; have HB := n0_; clear n0_; (try clear hb); (try clear hb2); (try clear hk); (try clear hi)) | ((with_reducible refine gate_dst (N := 17) rfl ?_); refine Kd.R_lit (Kd.int .u8) _ 5 ?hg (N := 17) ?hd (xs := ([(wrap64 (a0 + 64)) % 256] : List Int)) (inner := [.int .u8 ((wrap64 (a0 + 64)) % 256)]) (ok := fun _ => True) (okp := fun _ => True) ?hr ?hp (fun _ hk => hk) trivial (Below.refl _ _) (Nat.le_refl _) (by simp) ?_; (case hd => rfl); (case hg => rfl); (case hr => first | (go_simp; done) | (go_simp; rfl)); (case hp => exact (Reps.one (show Kd.M (Kd.int .u8) _ _ _ ((wrap64 (a0 + 64)) % 256) [.int .u8 ((wrap64 (a0 + 64)) % 256)] from rfl) (Reps.none _ _))); intro v104 w12 ho13 hb hg_ hnew_; clear hg_ hnew_; (first | rw [← Ny103.out] at ho13 | (simp only [Int.reduceToNat] at ho13; rw [← Ny103.out] at ho13)); have n0_ := Aside0.mk (Kd.R_lower ho13 (below_size (by repeat (first | (with_reducible first | exact HB.out | apply below_alloc | apply pw_below_drewN | apply below_drew1) | exact HB.out)))); have n1_ := Aside0.mk (below_step (by repeat (first | (with_reducible first | exact HB.out | apply below_alloc | apply pw_below_drewN | apply below_drew1) | exact HB.out)) hb); clear HB; have HO105 := n0_; have HB := n1_; clear n0_ n1_; clear hb ho13; have hcv14 := own_string (P := Try.prog) Try.underlying108 Try.underlying5 Try.underlying9 (Kd.own_of_R HO105.out)))
          go_ret
          exact ⟨by first | rfl | (simp [errW_none, errW_some] <;> rfl) | (simp [*, errW_none, errW_some] <;> rfl), by repeat (first | (with_reducible first | exact HB.out | apply below_alloc | apply pw_below_drewN | apply below_drew1) | exact HB.out)⟩
        · rw [if_neg c10] at H
          exact absurd H (by simp)
      · rw [if_neg c9] at H
        have c9b0 : (t101 == 4) = false := beq_eq_false_iff_ne.mpr c9
        have c9b1 : (t101 != 4) = true := bne_iff_ne.mpr c9
        by_cases c15 : t101 = 5
        · rw [if_pos c15] at H
          have c15b0 : (t101 == 5) = true := beq_iff_eq.mpr c15
          have c15b1 : (t101 != 5) = false := bne_eq_false_iff_eq.mpr c15
          clear c15
          obtain rfl := Option.some.inj H
          go_enter Try.func48, Try.ntmps48
          go_wp2_with (first | ((with_reducible refine gate_callee (f := 71) rfl ?_); refine goesL_ (some 5) rfl rfl Try.func71 (by kernel_rfl) rfl #[.int .i64 a0] rfl (by (try simp only [List.map_toArray, List.map_cons, List.map_nil]); first | done | rfl | (simp only [List.length_drop, List.length_take]; rfl)) ?_; (with_reducible refine (dactylref03_Of.calls k a0 t101 _ A2.out).mono ?_); rintro e w16 ⟨rfl, hb⟩; refine ⟨_, rfl, ?_⟩; have n0_ := Aside0.mk (below_step (by repeat (first | (with_reducible first | exact HB.out | apply below_alloc | apply pw_below_drewN | apply below_drew1) | exact HB.out)) hb); clear HB; have HB := n0_; clear n0_; (try clear hb); (try clear hb2); (try clear hk); (try clear hi)))
          go_ret
          exact ⟨by first | rfl | (simp [errW_none, errW_some] <;> rfl) | (simp [*, errW_none, errW_some] <;> rfl), by repeat (first | (with_reducible first | exact HB.out | apply below_alloc | apply pw_below_drewN | apply below_drew1) | exact HB.out)⟩
        · rw [if_neg c15] at H
          have c15b0 : (t101 == 5) = false := beq_eq_false_iff_ne.mpr c15
          have c15b1 : (t101 != 5) = true := bne_iff_ne.mpr c15
          by_cases c17 : t101 = 12
          · rw [if_pos c17] at H
            have c17b0 : (t101 == 12) = true := beq_iff_eq.mpr c17
            have c17b1 : (t101 != 12) = false := bne_eq_false_iff_eq.mpr c17
            clear c17
            replace H := Option.bind_eq_some_iff.mp H
            obtain ⟨t106, A180, H⟩ := H
            replace H : (if 2 + t106.size ≤ 9223372036854775807 then (some ((⟨#[92, 120]⟩ : ByteArray) ++ t106)) else (none)) = some r := H
            have A18 := Aside0.mk A180
            clear A180
            by_cases c19 : 2 + t106.size ≤ 9223372036854775807
            · rw [if_pos c19] at H
              have c19b0 := eq_true c19
              have c19b1 : decide (2 + t106.size ≤ 9223372036854775807) = true := decide_eq_true c19
              try have c19b2 : (9223372036854775807 < 2 + t106.size) = False := eq_false (Nat.not_lt.2 c19)
              obtain rfl := Option.some.inj H
              go_enter Try.func48, Try.ntmps48
              go_wp2_with (first | ((with_reducible refine gate_callee (f := 71) rfl ?_); refine goesL_ (some 5) rfl rfl Try.func71 (by kernel_rfl) rfl #[.int .i64 a0] rfl (by (try simp only [List.map_toArray, List.map_cons, List.map_nil]); first | done | rfl | (simp only [List.length_drop, List.length_take]; rfl)) ?_; (with_reducible refine (dactylref03_Of.calls k a0 t101 _ A2.out).mono ?_); rintro e w20 ⟨rfl, hb⟩; refine ⟨_, rfl, ?_⟩; have n0_ := Aside0.mk (below_step (by repeat (first | (with_reducible first | exact HB.out | apply below_alloc | apply pw_below_drewN | apply below_drew1) | exact HB.out)) hb); clear HB; have HB := n0_; clear n0_; (try clear hb); (try clear hb2); (try clear hk); (try clear hi)) | ((with_reducible refine gate_callee (f := 92) rfl ?_); refine goesL_ (some 26) rfl rfl Try.func92 (by kernel_rfl) rfl #[.int .i64 (wrap64 (a0 - 1114112)), .int .i64 2] rfl (by (try simp only [List.map_toArray, List.map_cons, List.map_nil]); first | done | rfl | (simp only [List.length_drop, List.length_take]; rfl)) ?_; (with_reducible refine (dactylref01_Hex.calls k (wrap64 (a0 - 1114112)) 2 t106 _ A18.out).mono ?_); rintro e w' ⟨rfl, ⟨nd, rfl⟩⟩; refine ⟨_, rfl, ?_⟩))
              go_ret
              exact ⟨by first | rfl | (simp [errW_none, errW_some] <;> rfl) | (simp [*, errW_none, errW_some] <;> rfl), by repeat (first | (with_reducible first | exact HB.out | apply below_alloc | apply pw_below_drewN | apply below_drew1) | exact HB.out)⟩
            · rw [if_neg c19] at H
              exact absurd H (by simp)
          · rw [if_neg c17] at H
            have c17b0 : (t101 == 12) = false := beq_eq_false_iff_ne.mpr c17
            have c17b1 : (t101 != 12) = true := bne_iff_ne.mpr c17
            replace H := Option.bind_eq_some_iff.mp H
            obtain ⟨t107, A210, H⟩ := H
            replace H : (if 3 + t107.size ≤ 9223372036854775807 then (if 3 + t107.size + 1 ≤ 9223372036854775807 then (some (((⟨#[60, 85, 43]⟩ : ByteArray) ++ t107) ++ (⟨#[62]⟩ : ByteArray))) else (none)) else (none)) = some r := H
            have A21 := Aside0.mk A210
            clear A210
            by_cases c22 : 3 + t107.size ≤ 9223372036854775807
            · rw [if_pos c22] at H
              have c22b0 := eq_true c22
              have c22b1 : decide (3 + t107.size ≤ 9223372036854775807) = true := decide_eq_true c22
              try have c22b2 : (9223372036854775807 < 3 + t107.size) = False := eq_false (Nat.not_lt.2 c22)
              by_cases c23 : 3 + t107.size + 1 ≤ 9223372036854775807
              · rw [if_pos c23] at H
                have c23b0 := eq_true c23
                have c23b1 : decide (3 + t107.size + 1 ≤ 9223372036854775807) = true := decide_eq_true c23
                try have c23b2 : (9223372036854775807 < 3 + t107.size + 1) = False := eq_false (Nat.not_lt.2 c23)
                obtain rfl := Option.some.inj H
                go_enter Try.func48, Try.ntmps48
                go_wp2_with (first | ((with_reducible refine gate_callee (f := 71) rfl ?_); refine goesL_ (some 5) rfl rfl Try.func71 (by kernel_rfl) rfl #[.int .i64 a0] rfl (by (try simp only [List.map_toArray, List.map_cons, List.map_nil]); first | done | rfl | (simp only [List.length_drop, List.length_take]; rfl)) ?_; (with_reducible refine (dactylref03_Of.calls k a0 t101 _ A2.out).mono ?_); rintro e w24 ⟨rfl, hb⟩; refine ⟨_, rfl, ?_⟩; have n0_ := Aside0.mk (below_step (by repeat (first | (with_reducible first | exact HB.out | apply below_alloc | apply pw_below_drewN | apply below_drew1) | exact HB.out)) hb); clear HB; have HB := n0_; clear n0_; (try clear hb); (try clear hb2); (try clear hk); (try clear hi)) | ((with_reducible refine gate_callee (f := 92) rfl ?_); refine goesL_ (some 29) rfl rfl Try.func92 (by kernel_rfl) rfl #[.int .i64 a0, .int .i64 4] rfl (by (try simp only [List.map_toArray, List.map_cons, List.map_nil]); first | done | rfl | (simp only [List.length_drop, List.length_take]; rfl)) ?_; (with_reducible refine (dactylref01_Hex.calls k a0 4 t107 _ A21.out).mono ?_); rintro e w' ⟨rfl, ⟨nd, rfl⟩⟩; refine ⟨_, rfl, ?_⟩))
                go_ret
                exact ⟨by first | rfl | (simp [errW_none, errW_some] <;> rfl) | (simp [*, errW_none, errW_some] <;> rfl), by repeat (first | (with_reducible first | exact HB.out | apply below_alloc | apply pw_below_drewN | apply below_drew1) | exact HB.out)⟩
              · rw [if_neg c23] at H
                exact absurd H (by simp)
            · rw [if_neg c22] at H
              exact absurd H (by simp)

end Go.Proofs.Ytemoocoedibbpaa.X

namespace Go.Proofs.Ytemoocoedibbpaa.X
open Go.RowKit Go.Proofs.YtemoocoedibbpaaW.PrintWords Go.Proofs.YtemoocoedibbpaaW.PrintLast Go.Proofs.YtemoocoedibbpaaW.PrintMore
attribute [local go_sem] max2_int min2_int max_two min_two max_three min_three max_four min_four
set_option linter.unusedVariables false
set_option linter.unusedSimpArgs false

/-! ### dactyllaw07_ViewText: function 9 -/
mutual
def dactyllaw07_ViewText.j0 : Nat → List (S45) → List (S45) → Bool → Option (Bool)
  | 0, _, _, _ => none
  | k + 1, x0, x1, x27 => if x27 = true then ((dactyllaw07_awake.f).bind fun t103 => (some t103)) else ((view_Of.f k x0 x1).bind fun bt104 => ((dactylref04_Join.f x0 x1).bind fun t108 => (dactyllaw07_ViewText.l0 k bt104.1 bt104.2 (⟨#[]⟩ : ByteArray) t108 0)))
def dactyllaw07_ViewText.l0 : Nat → List (S93) → Int → ByteArray → List (S45) → Int → Option (Bool)
  | 0, _, _, _, _, _ => none
  | k + 1, x5, x6, x7, x8, x9 => if x9 < (x8.length : Int) then (if 0 ≤ x9 then ((dactylref06_Text.f k ((rd_T45 x8 x9).f0)).bind fun t112 => (if x7.size + t112.size ≤ 9223372036854775807 then (dactyllaw07_ViewText.l0 k x5 x6 (x7 ++ t112) x8 (wrap64 (x9 + 1))) else (none))) else (none)) else ((dactyllaw07_awake.f).bind fun t113 => (if t113 = true then (if x6 = 0 then ((view_Text.f k x5).bind fun t114 => (some (t114.toList == x7.toList))) else (some false)) else (some false)))
end
def dactyllaw07_ViewText.f (k : Nat) (l0 : List (S45)) (l1 : List (S45)) : Option (Bool) := if (l0.length : Int) > 30 then (dactyllaw07_ViewText.j0 k l0 l1 true) else (if (l1.length : Int) > 60 then (dactyllaw07_ViewText.j0 k l0 l1 true) else ((dactylref04_All.f k l0).bind fun t101 => (if t101 = true then ((dactylref04_All.f k l1).bind fun t102 => (dactyllaw07_ViewText.j0 k l0 l1 (!t102))) else (dactyllaw07_ViewText.j0 k l0 l1 true))))
theorem dactyllaw07_ViewText.mono_l : ∀ k, (∀ y0 y1 y2, LeO (dactyllaw07_ViewText.j0 k y0 y1 y2) (dactyllaw07_ViewText.j0 (k + 1) y0 y1 y2)) ∧ (∀ y0 y1 y2 y3 y4, LeO (dactyllaw07_ViewText.l0 k y0 y1 y2 y3 y4) (dactyllaw07_ViewText.l0 (k + 1) y0 y1 y2 y3 y4))
  | 0 => ⟨fun _ _ _ r h => by simp [dactyllaw07_ViewText.j0] at h, fun _ _ _ _ _ r h => by simp [dactyllaw07_ViewText.l0] at h⟩
  | k + 1 => by
    obtain ⟨ih0, ih1⟩ := dactyllaw07_ViewText.mono_l k
    refine ⟨?_, ?_⟩
    · intro y0 y1 y2
      unfold dactyllaw07_ViewText.j0
      repeat' first
      | (with_reducible exact ih0 _ _ _)
      | (with_reducible exact ih1 _ _ _ _ _)
      | (with_reducible exact dactylref04_All.mono _ _)
      | (with_reducible exact dactylref06_Text.mono _ _)
      | (with_reducible exact view_Of.mono _ _ _)
      | (with_reducible exact view_Text.mono _ _)
      | (with_reducible exact LeO.refl _)
      | (with_reducible exact LeO.none _)
      | (with_reducible refine LeO.ite ?_ ?_)
      | (with_reducible refine LeO.bind ?_ (fun _ => ?_))
      | exact ih0 _ _ _
      | exact ih1 _ _ _ _ _
      | exact dactylref04_All.mono _ _
      | exact dactylref06_Text.mono _ _
      | exact view_Of.mono _ _ _
      | exact view_Text.mono _ _
      | exact LeO.none _
      | refine LeO.ite ?_ ?_
      | refine LeO.bind ?_ (fun _ => ?_)
    · intro y0 y1 y2 y3 y4
      unfold dactyllaw07_ViewText.l0
      repeat' first
      | (with_reducible exact ih0 _ _ _)
      | (with_reducible exact ih1 _ _ _ _ _)
      | (with_reducible exact dactylref04_All.mono _ _)
      | (with_reducible exact dactylref06_Text.mono _ _)
      | (with_reducible exact view_Of.mono _ _ _)
      | (with_reducible exact view_Text.mono _ _)
      | (with_reducible exact LeO.refl _)
      | (with_reducible exact LeO.none _)
      | (with_reducible refine LeO.ite ?_ ?_)
      | (with_reducible refine LeO.bind ?_ (fun _ => ?_))
      | exact ih0 _ _ _
      | exact ih1 _ _ _ _ _
      | exact dactylref04_All.mono _ _
      | exact dactylref06_Text.mono _ _
      | exact view_Of.mono _ _ _
      | exact view_Text.mono _ _
      | exact LeO.none _
      | refine LeO.ite ?_ ?_
      | refine LeO.bind ?_ (fun _ => ?_)
theorem dactyllaw07_ViewText.mono : ∀ a0 a1 k, LeO (dactyllaw07_ViewText.f k a0 a1) (dactyllaw07_ViewText.f (k + 1) a0 a1) := by
  intro a0 a1 k
  obtain ⟨ih0, ih1⟩ := dactyllaw07_ViewText.mono_l k
  unfold dactyllaw07_ViewText.f
  repeat' first
      | (with_reducible exact ih0 _ _ _)
      | (with_reducible exact ih1 _ _ _ _ _)
      | (with_reducible exact dactylref04_All.mono _ _)
      | (with_reducible exact dactylref06_Text.mono _ _)
      | (with_reducible exact view_Of.mono _ _ _)
      | (with_reducible exact view_Text.mono _ _)
      | (with_reducible exact LeO.refl _)
      | (with_reducible exact LeO.none _)
      | (with_reducible refine LeO.ite ?_ ?_)
      | (with_reducible refine LeO.bind ?_ (fun _ => ?_))
      | exact ih0 _ _ _
      | exact ih1 _ _ _ _ _
      | exact dactylref04_All.mono _ _
      | exact dactylref06_Text.mono _ _
      | exact view_Of.mono _ _ _
      | exact view_Text.mono _ _
      | exact LeO.none _
      | refine LeO.ite ?_ ?_
      | refine LeO.bind ?_ (fun _ => ?_)
set_option maxHeartbeats 8000000 in
set_option maxRecDepth 100000 in
theorem dactyllaw07_ViewText.calls (k : Nat) (A0 : Option Addr) (c0 : Nat) (l0 : List (S45)) (A1 : Option Addr) (c1 : Nat) (l1 : List (S45)) (r : Bool) (w : World) (hr0 : Kd.C k45 w A0 l0.length l0) (hc0 : l0.length ≤ c0) (hr1 : Kd.C k45 w A1 l1.length l1) (hc1 : l1.length ≤ c1) (hr_ : r = true) (h : dactyllaw07_ViewText.f k l0 l1 = some r) :
    Calls Try.prog 9 #[.slice A0 l0.length c0, .slice A1 l1.length c1] w fun e w' => e = .returned (.bool r) ∧ Below w.heap.size w w' := by
  have HR_ := Aside0.mk hr_
  clear hr_
  have HR0 := Aside0.mk hr0
  have HC0 := Aside0.mk hc0
  clear hr0 hc0
  have HR1 := Aside0.mk hr1
  have HC1 := Aside0.mk hc1
  clear hr1 hc1
  have HB := Aside0.mk (Below.refl w.heap.size w)
  have H : (if (l0.length : Int) > 30 then (dactyllaw07_ViewText.j0 k l0 l1 true) else (if (l1.length : Int) > 60 then (dactyllaw07_ViewText.j0 k l0 l1 true) else ((dactylref04_All.f k l0).bind fun t101 => (if t101 = true then ((dactylref04_All.f k l1).bind fun t102 => (dactyllaw07_ViewText.j0 k l0 l1 (!t102))) else (dactyllaw07_ViewText.j0 k l0 l1 true))))) = some r := h
  clear h
  have HC3 := Aside0.mk H
  clear H
  go_enter Try.func9, Try.ntmps9
  go_upto_region 1 with (fail)
  go_cut [27] (fun v27 wc => ∃ (kq : Nat) (x27_2 : Bool), v27 = .bool x27_2 ∧ Aside0 (dactyllaw07_ViewText.j0 kq l0 l1 x27_2 = some r) ∧ Aside0 (kq ≤ k) ∧ Aside0 (Below w.heap.size w wc))
  case first =>
    have H := HC3.out
    clear HC3
    by_cases c4 : (l0.length : Int) > 30
    · rw [if_pos c4] at H
      have c4b0 : decide (30 < (l0.length : Int)) = true := decide_eq_true c4
      have c4b1 : decide (30 < l0.length) = true := decide_eq_true (by omega)
      clear c4
      (first | rw [c4b0] | (simp only [i64_w, i32_w]; rw [c4b0]) | skip)
      have H' := Aside0.mk H
      clear H
      go_wp2
      go_meet
      case rel => exact ⟨_, (true), (by first | rfl | (simp; done) | (simp [*]; done)), H', ⟨by first | omega | exact Nat.le_refl _⟩, ⟨by repeat (first | (with_reducible first | exact HB.out | apply below_alloc | apply pw_below_drewN | apply below_drew1) | exact HB.out)⟩⟩
    · rw [if_neg c4] at H
      have c4b0 : decide (30 < (l0.length : Int)) = false := decide_eq_false c4
      have c4b1 : decide (30 < l0.length) = false := decide_eq_false (by omega)
      clear c4
      (first | rw [c4b0] | (simp only [i64_w, i32_w]; rw [c4b0]) | skip)
      by_cases c5 : (l1.length : Int) > 60
      · rw [if_pos c5] at H
        have c5b0 : decide (60 < (l1.length : Int)) = true := decide_eq_true c5
        have c5b1 : decide (60 < l1.length) = true := decide_eq_true (by omega)
        clear c5
        have H' := Aside0.mk H
        clear H
        go_wp2
        go_meet
        case rel => exact ⟨_, (true), (by first | rfl | (simp; done) | (simp [*]; done)), H', ⟨by first | omega | exact Nat.le_refl _⟩, ⟨by repeat (first | (with_reducible first | exact HB.out | apply below_alloc | apply pw_below_drewN | apply below_drew1) | exact HB.out)⟩⟩
      · rw [if_neg c5] at H
        have c5b0 : decide (60 < (l1.length : Int)) = false := decide_eq_false c5
        have c5b1 : decide (60 < l1.length) = false := decide_eq_false (by omega)
        clear c5
        replace H := Option.bind_eq_some_iff.mp H
        obtain ⟨t101, A60, H⟩ := H
        replace H : (if t101 = true then ((dactylref04_All.f k l1).bind fun t102 => (dactyllaw07_ViewText.j0 k l0 l1 (!t102))) else (dactyllaw07_ViewText.j0 k l0 l1 true)) = some r := H
        have A6 := Aside0.mk A60
        clear A60
        by_cases c7 : t101 = true
        · subst c7
          have H1 : ((dactylref04_All.f k l1).bind fun t102 => (dactyllaw07_ViewText.j0 k l0 l1 (!t102))) = some r := by rw [if_pos rfl] at H; exact H
          clear H
          have H := H1
          clear H1
          replace H := Option.bind_eq_some_iff.mp H
          obtain ⟨t102, A80, H⟩ := H
          replace H : (dactyllaw07_ViewText.j0 k l0 l1 (!t102)) = some r := H
          have A8 := Aside0.mk A80
          clear A80
          have H' := Aside0.mk H
          clear H
          go_wp2_with (first | (go_at_call 17; (with_reducible refine (dactylref04_All.calls k _ _ l0 true _ ?side1 ?side2 A6.out).mono ?_); (case side1 => repeat (first | exact (Kd.C_below HR0.out HB.out) | (with_reducible refine Kd.C_alloc ?_ _) | (with_reducible refine Kd.C_drewN ?_ _) | (with_reducible refine Kd.C_drew ?_))); (case side2 => exact HC0.out); rintro e w9 ⟨rfl, hb⟩; have n0_ := Aside0.mk (below_step (by repeat (first | (with_reducible first | exact HB.out | apply below_alloc | apply pw_below_drewN | apply below_drew1) | exact HB.out)) hb); clear HB; have HB := n0_; clear n0_; (try clear hb); (try clear hb2); (try clear hk); (try clear hi)) | (go_at_call 17; (with_reducible refine (dactylref04_All.calls k _ _ l1 t102 _ ?side1 ?side2 A8.out).mono ?_); (case side1 => repeat (first | exact (Kd.C_below HR1.out HB.out) | (with_reducible refine Kd.C_alloc ?_ _) | (with_reducible refine Kd.C_drewN ?_ _) | (with_reducible refine Kd.C_drew ?_))); (case side2 => exact HC1.out); rintro e w10 ⟨rfl, hb⟩; have n0_ := Aside0.mk (below_step (by repeat (first | (with_reducible first | exact HB.out | apply below_alloc | apply pw_below_drewN | apply below_drew1) | exact HB.out)) hb); clear HB; have HB := n0_; clear n0_; (try clear hb); (try clear hb2); (try clear hk); (try clear hi)))
          go_meet
          case rel => exact ⟨_, (!t102), (by first | rfl | (simp; done) | (simp [*]; done)), H', ⟨by first | omega | exact Nat.le_refl _⟩, ⟨by repeat (first | (with_reducible first | exact HB.out | apply below_alloc | apply pw_below_drewN | apply below_drew1) | exact HB.out)⟩⟩
        · replace c7 := Bool.eq_false_iff.mpr c7
          subst c7
          have H1 : (dactyllaw07_ViewText.j0 k l0 l1 true) = some r := by rw [if_neg (show ¬ (false = true) by decide)] at H; exact H
          clear H
          have H := H1
          clear H1
          have H' := Aside0.mk H
          clear H
          go_wp2_with (first | (go_at_call 17; (with_reducible refine (dactylref04_All.calls k _ _ l0 false _ ?side1 ?side2 A6.out).mono ?_); (case side1 => repeat (first | exact (Kd.C_below HR0.out HB.out) | (with_reducible refine Kd.C_alloc ?_ _) | (with_reducible refine Kd.C_drewN ?_ _) | (with_reducible refine Kd.C_drew ?_))); (case side2 => exact HC0.out); rintro e w11 ⟨rfl, hb⟩; have n0_ := Aside0.mk (below_step (by repeat (first | (with_reducible first | exact HB.out | apply below_alloc | apply pw_below_drewN | apply below_drew1) | exact HB.out)) hb); clear HB; have HB := n0_; clear n0_; (try clear hb); (try clear hb2); (try clear hk); (try clear hi)))
          go_meet
          case rel => exact ⟨_, (true), (by first | rfl | (simp; done) | (simp [*]; done)), H', ⟨by first | omega | exact Nat.le_refl _⟩, ⟨by repeat (first | (with_reducible first | exact HB.out | apply below_alloc | apply pw_below_drewN | apply below_drew1) | exact HB.out)⟩⟩
  case rest =>
    clear HC3
    try clear c1
    try clear p2
    try clear c4
    try clear c4b0
    try clear c4b1
    try clear c5
    try clear c5b0
    try clear c5b1
    try clear c7
    try clear c9
    obtain ⟨kq, x27_2, rfl, HA, HJ2, HB⟩ := hcut
    cases kq with
    | zero => exact absurd HA.out (by simp [dactyllaw07_ViewText.j0])
    | succ kj2 =>
      have H := HA.out
      clear HA
      simp only [dactyllaw07_ViewText.j0] at H
      by_cases c12 : x27_2 = true
      · subst c12
        have H1 : ((dactyllaw07_awake.f).bind fun t103 => (some t103)) = some r := by rw [if_pos rfl] at H; exact H
        clear H
        have H := H1
        clear H1
        replace H := Option.bind_eq_some_iff.mp H
        obtain ⟨t103, A130, H⟩ := H
        replace H : (some t103) = some r := H
        have A13 := Aside0.mk A130
        clear A130
        obtain rfl := Option.some.inj H
        go_wp2_with (first | ((with_reducible refine gate_callee (f := 41) rfl ?_); refine goesL_ (some 28) rfl rfl Try.func41 (by kernel_rfl) rfl #[] rfl (by (try simp only [List.map_toArray, List.map_cons, List.map_nil]); first | done | rfl | (simp only [List.length_drop, List.length_take]; rfl)) ?_; (with_reducible refine (dactyllaw07_awake.calls  t103 _ A13.out).mono ?_); rintro e w14 ⟨rfl, hb⟩; refine ⟨_, rfl, ?_⟩; have n0_ := Aside0.mk (below_step (by repeat (first | (with_reducible first | exact HB.out | apply below_alloc | apply pw_below_drewN | apply below_drew1) | exact HB.out)) hb); clear HB; have HB := n0_; clear n0_; (try clear hb); (try clear hb2); (try clear hk); (try clear hi)))
        go_ret
        exact ⟨by first | rfl | (simp [errW_none, errW_some] <;> rfl) | (simp [*, errW_none, errW_some] <;> rfl), by repeat (first | (with_reducible first | exact HB.out | apply below_alloc | apply pw_below_drewN | apply below_drew1) | exact HB.out)⟩
      · replace c12 := Bool.eq_false_iff.mpr c12
        subst c12
        have H1 : ((view_Of.f kj2 l0 l1).bind fun bt104 => ((dactylref04_Join.f l0 l1).bind fun t108 => (dactyllaw07_ViewText.l0 kj2 bt104.1 bt104.2 (⟨#[]⟩ : ByteArray) t108 0))) = some r := by rw [if_neg (show ¬ (false = true) by decide)] at H; exact H
        clear H
        have H := H1
        clear H1
        replace H := Option.bind_eq_some_iff.mp H
        obtain ⟨⟨t104, t105⟩, A150, H⟩ := H
        replace H : ((dactylref04_Join.f l0 l1).bind fun t108 => (dactyllaw07_ViewText.l0 kj2 t104 t105 (⟨#[]⟩ : ByteArray) t108 0)) = some r := H
        have A15 := Aside0.mk A150
        clear A150
        replace H := Option.bind_eq_some_iff.mp H
        obtain ⟨t108, A160, H⟩ := H
        replace H : (dactyllaw07_ViewText.l0 kj2 t104 t105 (⟨#[]⟩ : ByteArray) t108 0) = some r := H
        have A16 := Aside0.mk A160
        clear A160
        have H' := Aside0.mk H
        clear H
        go_wp2_with (first | ((with_reducible refine gate_callee (f := 42) rfl ?_); refine goesL_ (some 32) rfl rfl Try.func42 (by kernel_rfl) rfl #[.slice A0 l0.length c0, .slice A1 l1.length c1] rfl (by (try simp only [List.map_toArray, List.map_cons, List.map_nil]); first | done | rfl | (simp only [List.length_drop, List.length_take]; rfl)) ?_; (with_reducible refine (view_Of.calls kj2 _ _ l0 _ _ l1 t104 t105 _ ?side1 ?side2 ?side3 ?side4 A15.out).mono ?_); (case side1 => repeat (first | exact (Kd.C_below HR0.out HB.out) | (with_reducible refine Kd.C_alloc ?_ _) | (with_reducible refine Kd.C_drewN ?_ _) | (with_reducible refine Kd.C_drew ?_))); (case side2 => exact HC0.out); (case side3 => repeat (first | exact (Kd.C_below HR1.out HB.out) | (with_reducible refine Kd.C_alloc ?_ _) | (with_reducible refine Kd.C_drewN ?_ _) | (with_reducible refine Kd.C_drew ?_))); (case side4 => exact HC1.out); rintro e w17 ⟨v106, rfl, ho0, hb⟩; refine ⟨_, rfl, ?_⟩; have n0_ := Aside0.mk (Kd.R_lower ho0 (below_size (by repeat (first | (with_reducible first | exact HB.out | apply below_alloc | apply pw_below_drewN | apply below_drew1) | exact HB.out)))); have n1_ := Aside0.mk (below_step (by repeat (first | (with_reducible first | exact HB.out | apply below_alloc | apply pw_below_drewN | apply below_drew1) | exact HB.out)) hb); clear HB; have HO107 := n0_; have HB := n1_; clear n0_ n1_; (try clear hb); (try clear hb2); (try clear hk); (try clear hi); (try clear ho0)) | ((with_reducible refine gate_callee (f := 47) rfl ?_); refine goesL_ (some 37) rfl rfl Try.func47 (by kernel_rfl) rfl #[.slice A0 l0.length c0, .slice A1 l1.length c1] rfl (by (try simp only [List.map_toArray, List.map_cons, List.map_nil]); first | done | rfl | (simp only [List.length_drop, List.length_take]; rfl)) ?_; (with_reducible refine (dactylref04_Join.calls _ _ l0 _ _ l1 t108 _ ?side1 ?side2 ?side3 ?side4 A16.out).mono ?_); (case side1 => repeat (first | exact (Kd.C_below HR0.out HB.out) | (with_reducible refine Kd.C_alloc ?_ _) | (with_reducible refine Kd.C_drewN ?_ _) | (with_reducible refine Kd.C_drew ?_))); (case side2 => exact HC0.out); (case side3 => repeat (first | exact (Kd.C_below HR1.out HB.out) | (with_reducible refine Kd.C_alloc ?_ _) | (with_reducible refine Kd.C_drewN ?_ _) | (with_reducible refine Kd.C_drew ?_))); (case side4 => exact HC1.out); rintro e w18 ⟨v109, rfl, ho0, hb⟩; refine ⟨_, rfl, ?_⟩; have n0_ := Aside0.mk (Kd.R_below (by (with_reducible repeat (first | apply Kd.R_alloc | apply Kd.R_drewN | apply Kd.R_drew)); exact HO107.out) hb); have n1_ := Aside0.mk (Kd.R_lower ho0 (below_size (by repeat (first | (with_reducible first | exact HB.out | apply below_alloc | apply pw_below_drewN | apply below_drew1) | exact HB.out)))); have n2_ := Aside0.mk (below_step (by repeat (first | (with_reducible first | exact HB.out | apply below_alloc | apply pw_below_drewN | apply below_drew1) | exact HB.out)) hb); clear HO107; clear HB; have HO107 := n0_; have HO110 := n1_; have HB := n2_; clear n0_ n1_ n2_; (try clear hb); (try clear hb2); (try clear hk); (try clear hi); (try clear ho0)))
        go_loopg [7, 9] kj2 (fun kq v7 v9 w' => ∃ (x7_2 : ByteArray) (x9_2 : Int), v7 = .string x7_2 ∧ v9 = .int .i64 x9_2 ∧ Aside0 (dactyllaw07_ViewText.l0 kq t104 t105 x7_2 t108 x9_2 = some r) ∧ Aside0 (kq ≤ kj2) ∧ Aside0 (Kd.R k93 93 w' w.heap.size (fun _ => True) v106 t104) ∧ Aside0 (Kd.R k45 45 w' w.heap.size (fun _ => True) v109 t108) ∧ Aside0 (Below w.heap.size w w'))
        case atStart => exact ⟨((⟨#[]⟩ : ByteArray)), (0), (by first | rfl | (simp; done) | (simp [*]; done)), (by first | rfl | (simp; done) | (simp [*]; done)), H', ⟨Nat.le_refl _⟩, ⟨by (with_reducible repeat (first | apply Kd.R_alloc | apply Kd.R_drewN | apply Kd.R_drew)); exact HO107.out⟩, ⟨by (with_reducible repeat (first | apply Kd.R_alloc | apply Kd.R_drewN | apply Kd.R_drew)); exact HO110.out⟩, ⟨by repeat (first | (with_reducible first | exact HB.out | apply below_alloc | apply pw_below_drewN | apply below_drew1) | exact HB.out)⟩⟩
        case round =>
          clear H'
          try clear c1
          try clear p2
          try clear c4
          try clear c4b0
          try clear c4b1
          try clear c5
          try clear c5b0
          try clear c5b1
          try clear c7
          try clear c9
          try clear c12
          try clear p2
          obtain ⟨x7_2, x9_2, rfl, rfl, HA, HK2, HO_5, HO_8, HB⟩ := hrel
          cases gk with
          | zero => exact absurd HA.out (by simp [dactyllaw07_ViewText.l0])
          | succ k2 =>
            have H := HA.out
            clear HA
            simp only [dactyllaw07_ViewText.l0] at H
            by_cases c19 : x9_2 < (t108.length : Int)
            · rw [if_pos c19] at H
              have c19b0 : decide (x9_2 < (t108.length : Int)) = true := decide_eq_true c19
              clear c19
              by_cases c20 : 0 ≤ x9_2
              · rw [if_pos c20] at H
                have c20b0 : decide (0 ≤ x9_2) = true := decide_eq_true c20
                clear c20
                replace H := Option.bind_eq_some_iff.mp H
                obtain ⟨t112, A210, H⟩ := H
                replace H : (if x7_2.size + t112.size ≤ 9223372036854775807 then (dactyllaw07_ViewText.l0 k2 t104 t105 (x7_2 ++ t112) t108 (wrap64 (x9_2 + 1))) else (none)) = some r := H
                have A21 := Aside0.mk A210
                clear A210
                by_cases c22 : x7_2.size + t112.size ≤ 9223372036854775807
                · rw [if_pos c22] at H
                  have c22b0 := eq_true c22
                  have c22b1 : decide (x7_2.size + t112.size ≤ 9223372036854775807) = true := decide_eq_true c22
                  try have c22b2 : (9223372036854775807 < x7_2.size + t112.size) = False := eq_false (Nat.not_lt.2 c22)
                  have H' := Aside0.mk H
                  clear H
                  obtain ⟨Ao23, co23, eo23⟩ := Kd.R_slice HO_8.out
                  subst eo23
                  have p111 : 0 ≤ (x9_2 : Int) := of_decide_eq_true (by first | (with_reducible assumption) | assumption)
                  have q111 : x9_2 < (t108.length : Int) := of_decide_eq_true (by first | (with_reducible assumption) | assumption)
                  obtain ⟨ad111, e111, hx111_0, hx111_1⟩ := at_T45 (Kd.R_reads' HO_8.out).2.2 x9_2 p111 q111
                  cases e111
                  replace p111 := eq_true p111
                  replace q111 := eq_true q111
                  go_wp2_with (first | ((with_reducible refine gate_callee (f := 48) rfl ?_); refine goesL_ (some 50) rfl rfl Try.func48 (by kernel_rfl) rfl #[.int .i64 ((rd_T45 t108 x9_2).f0)] rfl (by (try simp only [List.map_toArray, List.map_cons, List.map_nil]); first | done | rfl | (simp only [List.length_drop, List.length_take]; rfl)) ?_; (with_reducible refine (dactylref06_Text.calls k2 ((rd_T45 t108 x9_2).f0) t112 _ A21.out).mono ?_); rintro e w24 ⟨rfl, hb⟩; refine ⟨_, rfl, ?_⟩; have n0_ := Aside0.mk (Kd.R_below (by (with_reducible repeat (first | apply Kd.R_alloc | apply Kd.R_drewN | apply Kd.R_drew)); exact HO_5.out) hb); have n1_ := Aside0.mk (Kd.R_below (by (with_reducible repeat (first | apply Kd.R_alloc | apply Kd.R_drewN | apply Kd.R_drew)); exact HO_8.out) hb); have n2_ := Aside0.mk (below_step (by repeat (first | (with_reducible first | exact HB.out | apply below_alloc | apply pw_below_drewN | apply below_drew1) | exact HB.out)) hb); clear HO_5; clear HO_8; clear HB; have HO_5 := n0_; have HO_8 := n1_; have HB := n2_; clear n0_ n1_ n2_; (try clear hb); (try clear hb2); (try clear hk); (try clear hi)))
                  go_roundg k2
                  case measure => have := HJ2.out; have := HK2.out; omega
                  case rel => exact ⟨(x7_2 ++ t112), (wrap64 (x9_2 + 1)), (by first | rfl | (simp; done) | (simp [*]; done)), (by first | rfl | (simp; done) | (simp [*]; done)), H', ⟨by have := HJ2.out; have := HK2.out; omega⟩, ⟨by (with_reducible repeat (first | apply Kd.R_alloc | apply Kd.R_drewN | apply Kd.R_drew)); exact HO_5.out⟩, ⟨by (with_reducible repeat (first | apply Kd.R_alloc | apply Kd.R_drewN | apply Kd.R_drew)); exact HO_8.out⟩, ⟨by repeat (first | (with_reducible first | exact HB.out | apply below_alloc | apply pw_below_drewN | apply below_drew1) | exact HB.out)⟩⟩
                · rw [if_neg c22] at H
                  exact absurd H (by simp)
              · rw [if_neg c20] at H
                exact absurd H (by simp)
            · rw [if_neg c19] at H
              have c19b0 : decide (x9_2 < (t108.length : Int)) = false := decide_eq_false c19
              clear c19
              replace H := Option.bind_eq_some_iff.mp H
              obtain ⟨t113, A250, H⟩ := H
              replace H : (if t113 = true then (if t105 = 0 then ((view_Text.f k2 t104).bind fun t114 => (some (t114.toList == x7_2.toList))) else (some false)) else (some false)) = some r := H
              have A25 := Aside0.mk A250
              clear A250
              by_cases c26 : t113 = true
              · subst c26
                have H1 : (if t105 = 0 then ((view_Text.f k2 t104).bind fun t114 => (some (t114.toList == x7_2.toList))) else (some false)) = some r := by rw [if_pos rfl] at H; exact H
                clear H
                have H := H1
                clear H1
                by_cases c27 : t105 = 0
                · rw [if_pos c27] at H
                  have c27b0 : (t105 == 0) = true := beq_iff_eq.mpr c27
                  have c27b1 : (t105 != 0) = false := bne_eq_false_iff_eq.mpr c27
                  clear c27
                  replace H := Option.bind_eq_some_iff.mp H
                  obtain ⟨t114, A280, H⟩ := H
                  replace H : (some (t114.toList == x7_2.toList)) = some r := H
                  have A28 := Aside0.mk A280
                  clear A280
                  obtain rfl := Option.some.inj H
                  obtain ⟨Ao29, co29, eo29⟩ := Kd.R_slice HO_8.out
                  subst eo29
                  go_wp2_with (first | ((with_reducible refine gate_callee (f := 41) rfl ?_); refine goesL_ (some 52) rfl rfl Try.func41 (by kernel_rfl) rfl #[] rfl (by (try simp only [List.map_toArray, List.map_cons, List.map_nil]); first | done | rfl | (simp only [List.length_drop, List.length_take]; rfl)) ?_; (with_reducible refine (dactyllaw07_awake.calls  true _ A25.out).mono ?_); rintro e w30 ⟨rfl, hb⟩; refine ⟨_, rfl, ?_⟩; have n0_ := Aside0.mk (Kd.R_below (by (with_reducible repeat (first | apply Kd.R_alloc | apply Kd.R_drewN | apply Kd.R_drew)); exact HO_5.out) hb); have n1_ := Aside0.mk (Kd.R_below (by (with_reducible repeat (first | apply Kd.R_alloc | apply Kd.R_drewN | apply Kd.R_drew)); exact HO_8.out) hb); have n2_ := Aside0.mk (below_step (by repeat (first | (with_reducible first | exact HB.out | apply below_alloc | apply pw_below_drewN | apply below_drew1) | exact HB.out)) hb); clear HO_5; clear HO_8; clear HB; have HO_5 := n0_; have HO_8 := n1_; have HB := n2_; clear n0_ n1_ n2_; (try clear hb); (try clear hb2); (try clear hk); (try clear hi); obtain ⟨Ao31, co31, eo31⟩ := Kd.R_slice HO_5.out; subst eo31) | (go_at_call 49; (with_reducible refine (view_Text.calls k2 _ _ t104 t114 _ ?side1 ?side2 A28.out).mono ?_); (case side1 => repeat (first | exact (Kd.R_reads' HO_5.out).2.2 | (with_reducible refine Kd.C_alloc ?_ _) | (with_reducible refine Kd.C_drewN ?_ _) | (with_reducible refine Kd.C_drew ?_))); (case side2 => exact (Kd.R_reads' HO_5.out).2.1); rintro e w32 ⟨rfl, hb⟩; have n0_ := Aside0.mk (Kd.R_below (by (with_reducible repeat (first | apply Kd.R_alloc | apply Kd.R_drewN | apply Kd.R_drew)); exact HO_5.out) hb); have n1_ := Aside0.mk (Kd.R_below (by (with_reducible repeat (first | apply Kd.R_alloc | apply Kd.R_drewN | apply Kd.R_drew)); exact HO_8.out) hb); have n2_ := Aside0.mk (below_step (by repeat (first | (with_reducible first | exact HB.out | apply below_alloc | apply pw_below_drewN | apply below_drew1) | exact HB.out)) hb); clear HO_5; clear HO_8; clear HB; have HO_5 := n0_; have HO_8 := n1_; have HB := n2_; clear n0_ n1_ n2_; (try clear hb); (try clear hb2); (try clear hk); (try clear hi)))
                  go_ret
                  exact ⟨by first | rfl | (simp [errW_none, errW_some] <;> rfl) | (simp [*, errW_none, errW_some] <;> rfl), by repeat (first | (with_reducible first | exact HB.out | apply below_alloc | apply pw_below_drewN | apply below_drew1) | exact HB.out)⟩
                · rw [if_neg c27] at H
                  have c27b0 : (t105 == 0) = false := beq_eq_false_iff_ne.mpr c27
                  have c27b1 : (t105 != 0) = true := bne_iff_ne.mpr c27
                  obtain rfl := Option.some.inj H
                  exact absurd HR_.out (by decide)
              · replace c26 := Bool.eq_false_iff.mpr c26
                subst c26
                have H1 : (some false) = some r := by rw [if_neg (show ¬ (false = true) by decide)] at H; exact H
                clear H
                have H := H1
                clear H1
                obtain rfl := Option.some.inj H
                exact absurd HR_.out (by decide)

end Go.Proofs.Ytemoocoedibbpaa.X

namespace Go.Proofs.Ytemoocoedibbpaa.X
open Go.RowKit Go.Proofs.YtemoocoedibbpaaW.PrintWords Go.Proofs.YtemoocoedibbpaaW.PrintLast Go.Proofs.YtemoocoedibbpaaW.PrintMore
attribute [local go_sem] max2_int min2_int max_two min_two max_three min_three max_four min_four
set_option linter.unusedVariables false
set_option linter.unusedSimpArgs false

/-- Whatever reads as a value of the type t is told by the kind d, with what W says of it. -/
def OpK (t : TypeId) {α : Type} (d : Kd α) (W : α → Prop) : Prop :=
  ∀ (H : Type) (enc : TypeId × Value → H) (w : World) (fuel : Nat) (cs : List Value) (x : DataW H × List MemPlace), DataW.trod enc Try.prog w 0 (fun _ => true) true fuel t cs = some x → ∃ y : α, d.K w y cs ∧ W y
theorem OpK.int {t : TypeId} {k : IntKind} (ht : Try.prog.underlying t = some (.int k)) : OpK t (Kd.int k) (fun x => (Lit.int k x).wf = true) := by
  intro H enc w fuel cs x h
  obtain ⟨n, rfl, rfl, hw⟩ := DataW.trod_int ht h
  exact ⟨n, rfl, hw⟩
theorem OpK.bool {t : TypeId} (ht : Try.prog.underlying t = some .bool) : OpK t Kd.bool (fun _ => True) := by
  intro H enc w fuel cs x h
  obtain ⟨n, rfl, rfl⟩ := DataW.trod_bool ht h
  exact ⟨n, rfl, trivial⟩
theorem OpK.string {t : TypeId} (ht : Try.prog.underlying t = some .string) : OpK t Kd.string (fun s => s.size ≤ maxLen) := by
  intro H enc w fuel cs x h
  obtain ⟨n, rfl, rfl, hw⟩ := DataW.trod_string ht h
  exact ⟨n, rfl, hw⟩
theorem opk_list {α : Type} {R : Nat → α → Prop} (n : Nat) (h : ∀ i, i < n → ∃ y, R i y) : ∃ ys : List α, ys.length = n ∧ ∀ i, (hi : i < ys.length) → R i ys[i] := by
  induction n with
  | zero => exact ⟨[], rfl, fun i hi => absurd hi (Nat.not_lt_zero _)⟩
  | succ n ih =>
    obtain ⟨ys, hl, hy⟩ := ih (fun i hi => h i (by omega))
    obtain ⟨y, hy'⟩ := h n (by omega)
    refine ⟨ys ++ [y], by simp [hl], fun i hi => ?_⟩
    by_cases e : i < ys.length
    · rw [List.getElem_append_left e]; exact hy i e
    · have : i = n := by simp at hi; omega
      subst this
      rw [List.getElem_append_right (by omega)]
      simpa [hl] using hy'
theorem OpK.slice {t e : TypeId} {α : Type} {d : Kd α} {W : α → Prop} (ht : Try.prog.underlying t = some (.slice e)) (hc : Try.prog.cellsOf e = d.sz) (he : OpK e d W) :
    OpK t (Kd.slice e d) (fun l => l.length ≤ maxLen ∧ ∀ x ∈ l, W x) := by
  intro H enc w fuel cs x h
  rcases Go.Deep.open_slice ht h with ⟨rfl, rfl⟩ | ⟨a, len, cap, m, n, D, Pl, rfl, hb, hl, hm, hmm, hx, hi⟩
  · exact ⟨[], ⟨none, 0, rfl, Nat.le_refl _, Kd.C_nil d w⟩, by simp, by simp⟩
  · have hmlen : len ≤ m := by rw [hmm]; simp; omega
    obtain ⟨ys, hlen, hy⟩ := opk_list (R := fun i (y : α) => ∃ c, c.length = d.sz ∧ d.K w y c ∧ (∀ j u, c[j]? = some u → w.cell? (a.add (i * d.sz + j)) = some u) ∧ W y) len (fun i hlt => by
      obtain ⟨cs', hcs, htr⟩ := hi i (by omega)
      obtain ⟨y, hk, hW⟩ := he H enc w n cs' _ htr
      obtain ⟨_, hcl, hat⟩ := World.cells?_some hcs
      refine ⟨y, cs', d.K_len hk, hk, fun j u hu => ?_, hW⟩
      have hj : j < cs'.length := (List.getElem?_eq_some_iff.1 hu).1
      have := hat j (by omega)
      rw [hc] at this
      rw [← Go.Deep.add_add, this, hu])
    subst hlen
    refine ⟨ys, ⟨some a, cap, rfl, hl, ⟨rfl, by unfold maxLen at hm; omega, fun _ => ⟨a, rfl, fun j p hp => ?_⟩⟩⟩, by omega, fun x hx => ?_⟩
    · obtain ⟨hj, rfl⟩ := List.getElem?_eq_some_iff.1 hp
      obtain ⟨c, h1, h2, h3, _⟩ := hy j hj
      exact ⟨c, h1, h2, h3⟩
    · obtain ⟨i, hi', rfl⟩ := List.mem_iff_getElem.1 hx
      obtain ⟨c, _, _, _, h4⟩ := hy i hi'
      exact h4
theorem struct_open {t : TypeId} {fs : Array Field} {H : Type} {enc : TypeId × Value → H} {w : World} {fuel : Nat} {cs : List Value} {x : DataW H × List MemPlace} (ht : Try.prog.underlying t = some (.struct fs)) (h : DataW.trod enc Try.prog w 0 (fun _ => true) true fuel t cs = some x) :
    cs.length = Try.prog.cellsOf t ∧ ∃ n, ∀ (i : Nat) (f : Field), fs[i]? = some f → ∃ z, DataW.trod enc Try.prog w 0 (fun _ => true) true n f.type ((cs.drop f.offset).take (Try.prog.cellsOf f.type)) = some z := by
  obtain ⟨xs, n, _, _, hcl, hlen, hg⟩ := DataW.trod_struct ht h
  refine ⟨hcl, n, fun i f hf => ?_⟩
  have hi : i < fs.size := (Array.getElem?_eq_some_iff.1 hf).1
  have := hg i f hf
  rw [List.getElem?_eq_getElem (by omega)] at this
  exact ⟨_, this⟩
theorem len_cons {α : Type} {l : List α} {n : Nat} (h : l.length = n + 1) : ∃ a m, l = a :: m ∧ m.length = n := by
  cases l with
  | nil => simp at h
  | cons a m => exact ⟨a, m, rfl, by simpa using h⟩

end Go.Proofs.Ytemoocoedibbpaa.X

namespace Go.Proofs.Ytemoocoedibbpaa.X
open Go.RowKit Go.Proofs.YtemoocoedibbpaaW.PrintWords Go.Proofs.YtemoocoedibbpaaW.PrintLast Go.Proofs.YtemoocoedibbpaaW.PrintMore
attribute [local go_sem] max2_int min2_int max_two min_two max_three min_three max_four min_four
set_option linter.unusedVariables false
set_option linter.unusedSimpArgs false

def W45 (x : S45) : Prop := (fun x => (Lit.int .i64 x).wf = true) x.f0 ∧ (fun x => (Lit.int .i64 x).wf = true) x.f1
set_option maxRecDepth 100000 in
theorem opk_45 : OpK 45 k45 W45 := by
  intro H enc w fuel cs x h
  obtain ⟨hcl, n, hg⟩ := struct_open Try.underlying45 h
  have hC : Try.prog.cellsOf 45 = 2 := by kernel_rfl
  rw [hC] at hcl
  obtain ⟨c0_, t0_, rfl, h0_⟩ := len_cons hcl
  obtain ⟨c1_, t1_, rfl, h1_⟩ := len_cons h0_
  obtain rfl := List.eq_nil_of_length_eq_zero h1_
  obtain ⟨z0, g0⟩ := hg 0 _ rfl
  obtain ⟨y0, hy0, w0⟩ := (OpK.int Try.underlying3) H enc w n [c0_] z0 g0
  obtain ⟨z1, g1⟩ := hg 1 _ rfl
  obtain ⟨y1, hy1, w1⟩ := (OpK.int Try.underlying3) H enc w n [c1_] z1 g1
  exact ⟨⟨y0, y1⟩, ⟨[c0_], [c1_], rfl, hy0, hy1⟩, ⟨w0, w1⟩⟩
end Go.Proofs.Ytemoocoedibbpaa.X

namespace Go.Proofs.Ytemoocoedibbpaa.X
open Go.RowKit Go.Proofs.YtemoocoedibbpaaW.PrintWords Go.Proofs.YtemoocoedibbpaaW.PrintLast Go.Proofs.YtemoocoedibbpaaW.PrintMore
attribute [local go_sem] max2_int min2_int max_two min_two max_three min_three max_four min_four
set_option linter.unusedVariables false
set_option linter.unusedSimpArgs false

def dactyllaw07_ViewText.Pure : Prop := ∀ (l0 : List (S45)) (l1 : List (S45)), (fun l => l.length ≤ maxLen ∧ ∀ x ∈ l, W45 x) l0 → (fun l => l.length ≤ maxLen ∧ ∀ x ∈ l, W45 x) l1 → ∃ k, dactyllaw07_ViewText.f k l0 l1 = some true
end Go.Proofs.Ytemoocoedibbpaa.X

namespace Go.Proofs.Ytemoocoedibbpaa.X
open Go.RowKit Go.Proofs.YtemoocoedibbpaaW.PrintWords Go.Proofs.YtemoocoedibbpaaW.PrintLast Go.Proofs.YtemoocoedibbpaaW.PrintMore
attribute [local go_sem] max2_int min2_int max_two min_two max_three min_three max_four min_four
set_option linter.unusedVariables false
set_option linter.unusedSimpArgs false

theorem w64 {x : Int} (h0 : -9223372036854775808 ≤ x) (h1 : x ≤ 9223372036854775807) : wrap64 x = x := by unfold wrap64; omega
theorem Ev.all {α : Type} {g : Nat → Option α} {r : α} (K : Nat) (h : ∀ k, K ≤ k → g k = some r) : Ev g r := ⟨K, h⟩
theorem Ev.ite {α : Type} {c : Prop} [Decidable c] {g f : Nat → Option α} {r : α} (h1 : c → Ev g r) (h2 : ¬ c → Ev f r) : Ev (fun k => if c then g k else f k) r := by
  by_cases h : c
  · simp only [if_pos h]; exact h1 h
  · simp only [if_neg h]; exact h2 h
theorem Ev.bind1 {α β : Type} {a : α} {o : Option α} {f : Nat → α → Option β} {r : β} (h : o = some a) (k : Ev (fun n => f n a) r) : Ev (fun n => o.bind (f n)) r := by subst h; exact k
/-! ### pairs of a table -/
def withinB (v : Int) : List Int → Bool
  | a :: b :: r => (decide (a ≤ v) && decide (v ≤ b)) || withinB v r
  | _ => false
theorem within_l0 (v : Int) (l : List Int) (hl : l.length ≤ 1000) : ∀ (d k i : Nat), 2 * d + i = l.length → d < k → dactylref03_within.l0 k v l (i : Int) = some (withinB v (l.drop i)) := by
  intro d
  induction d with
  | zero =>
    intro k i h1 h2
    obtain ⟨k, rfl⟩ : ∃ m, k = m + 1 := ⟨k - 1, by omega⟩
    simp only [dactylref03_within.l0]
    rw [w64 (by omega) (by omega), if_neg (by omega), List.drop_of_length_le (by omega)]
    rfl
  | succ d ih =>
    intro k i h1 h2
    obtain ⟨k, rfl⟩ : ∃ m, k = m + 1 := ⟨k - 1, by omega⟩
    have hi := ih k (i + 2) (by omega) (by omega)
    have e1 : wrap64 ((i : Int) + 1) = ((i + 1 : Nat) : Int) := by rw [w64 (by omega) (by omega)]; omega
    have e2 : wrap64 ((i : Int) + 2) = ((i + 2 : Nat) : Int) := by rw [w64 (by omega) (by omega)]; omega
    have ed : l.drop i = l[i] :: l[i + 1] :: l.drop (i + 2) := by rw [List.drop_eq_getElem_cons (by omega), List.drop_eq_getElem_cons (by omega)]
    have r0 : rd l (i : Int) = l[i] := by simp [rd, List.getD, show i < l.length by omega]
    have r1 : rd l ((i + 1 : Nat) : Int) = l[i + 1] := by simp only [rd, Int.toNat_natCast]; simp [List.getD, show i + 1 < l.length by omega]
    simp only [dactylref03_within.l0]
    rw [e1, e2, if_pos (by omega), if_pos (by omega), if_pos (by omega), r0, r1, hi, ed]
    by_cases c1 : v ≥ l[i]
    · rw [if_pos c1, if_pos (by omega)]
      by_cases c2 : v ≤ l[i + 1]
      · rw [if_pos c2]; simp [withinB, c1, c2]
      · rw [if_neg c2]; simp [withinB, c2]
    · rw [if_neg c1]; simp [withinB, c1]
theorem within_f (v : Int) (l : List Int) (d : Nat) (hd : 2 * d = l.length) (hl : l.length ≤ 1000) (k : Nat) (hk : d < k) : dactylref03_within.f k v l = some (withinB v l) := by
  have := within_l0 v l hl d k 0 (by omega) hk
  simpa [dactylref03_within.f] using this
/-! ### break points -/
def flo (B : List Int) (v : Int) : Int := (B.filter (fun b => decide (b ≤ v))).foldl max (-1)
theorem foldl_max (l : List Int) (a : Int) : a ≤ l.foldl max a ∧ (∀ b ∈ l, b ≤ l.foldl max a) ∧ (l.foldl max a = a ∨ l.foldl max a ∈ l) := by
  induction l generalizing a with
  | nil => simp
  | cons x l ih =>
    obtain ⟨h1, h2, h3⟩ := ih (max a x)
    simp only [List.foldl_cons]
    refine ⟨by omega, fun b hb => ?_, ?_⟩
    · rcases List.mem_cons.1 hb with rfl | hb
      · omega
      · exact h2 b hb
    · rcases h3 with h3 | h3
      · rw [h3]
        by_cases h : a ≤ x
        · right; rw [Int.max_eq_right h]; exact List.mem_cons_self
        · left; omega
      · exact .inr (List.mem_cons_of_mem _ h3)
theorem flo_le (B : List Int) (v : Int) (hv : -1 ≤ v) : flo B v ≤ v := by
  rcases (foldl_max (B.filter (fun b => decide (b ≤ v))) (-1)).2.2 with h | h
  · unfold flo; omega
  · have := (List.mem_filter.1 h).2
    simpa [flo] using this
theorem flo_iff (B : List Int) (v : Int) (hv : -1 ≤ v) (a : Int) (ha : a ∈ B) : a ≤ v ↔ a ≤ flo B v :=
  ⟨fun h => (foldl_max (B.filter (fun b => decide (b ≤ v))) (-1)).2.1 a (List.mem_filter.2 ⟨ha, by simpa using h⟩), fun h => by have := flo_le B v hv; omega⟩
theorem flo_mem (B : List Int) (v : Int) (hv : 0 ≤ v) (h0 : 0 ∈ B) : flo B v ∈ B := by
  rcases (foldl_max (B.filter (fun b => decide (b ≤ v))) (-1)).2.2 with h | h
  · have := (flo_iff B v (by omega) 0 h0).1 hv
    unfold flo at this
    omega
  · exact (List.mem_filter.1 h).1
def okL (B : List Int) : List Int → Bool
  | a :: b :: r => B.contains a && B.contains (b + 1) && okL B r
  | _ => true
theorem withinB_flo (B : List Int) (v : Int) (hv : 0 ≤ v) (l : List Int) (h : okL B l = true) : withinB v l = withinB (flo B v) l := by
  induction l using okL.induct with
  | case1 a b r ih =>
    simp only [okL, Bool.and_eq_true, List.contains_iff_mem] at h
    obtain ⟨⟨h1, h2⟩, h3⟩ := h
    have e1 := flo_iff B v (by omega) a h1
    have e2 := flo_iff B v (by omega) (b + 1) h2
    simp only [withinB, ih h3]
    congr 2
    · exact decide_eq_decide.mpr e1
    · exact decide_eq_decide.mpr (by omega)
  | case2 l hl => rw [withinB.eq_2 _ _ hl, withinB.eq_2 _ _ hl]
/-! ### the program's class, as one total function -/
def rightB (v : Int) : Bool := decide (0 ≤ v ∧ v < 55296 ∨ 57343 < v ∧ v ≤ 1114111) || decide (1114240 ≤ v ∧ v ≤ 1114367)
theorem utf_point_f (v : Int) : utf_point.f v = some (decide (0 ≤ v ∧ v < 55296 ∨ 57343 < v ∧ v ≤ 1114111)) := by
  unfold utf_point.f
  by_cases h1 : v ≥ 0
  · rw [if_pos h1]
    by_cases h2 : v ≤ 1114111
    · rw [if_pos h2]
      by_cases h3 : v < 55296
      · rw [if_pos h3]; congr 1; exact (decide_eq_true (by omega)).symm
      · rw [if_neg h3]; congr 1; exact decide_eq_decide.mpr (by omega)
    · rw [if_neg h2]; congr 1; exact (decide_eq_false (by omega)).symm
  · rw [if_neg h1]; congr 1; exact (decide_eq_false (by omega)).symm
theorem utf_Right_f (v : Int) : utf_Right.f v = some (rightB v) := by
  unfold utf_Right.f
  rw [utf_point_f, Option.bind_some]
  unfold rightB
  by_cases h : (0 ≤ v ∧ v < 55296 ∨ 57343 < v ∧ v ≤ 1114111)
  · rw [decide_eq_true h]; simp
  · rw [decide_eq_false h]
    simp only [Bool.false_or, if_neg (show ¬ (false = true) by decide)]
    by_cases h2 : v ≥ 1114240
    · rw [if_pos h2]; congr 1; exact decide_eq_decide.mpr (by omega)
    · rw [if_neg h2]; congr 1; exact (decide_eq_false (by omega)).symm
theorem ref_Right_f (v : Int) : dactylref02_Right.f v = some (rightB v) := by
  unfold dactylref02_Right.f rightB
  repeat' split
  all_goals (congr 1; simp only [Bool.or_eq_true, decide_eq_true_eq, eq_comm (a := true), ← Bool.decide_or]; first | omega | (exact decide_eq_decide.mpr (by omega)) | (simp; omega))
def clsIn (v : Int) (l : List S138) : Int := if idxP (inP v) l < 0 then 0 else (rd_T138 l (idxP (inP v) l)).f2
def spansL : List S138 := (class_spans.f).getD []
def widesL : List S138 := (class_wides.f).getD []
theorem class_in_f (v : Int) (l : List S138) : class_in.f v l = some (clsIn v l) := rfl
def skel (v : Int) : Int := if idxP (lookP v) looksL < 0 then v else (rd_T144 looksL (idxP (lookP v) looksL)).f1
def cls (v : Int) : Int := if rightB v = true then (if v > 1114111 then 12 else if 31 < v ∧ v < 127 then 1 else if clsIn v spansL = 0 then (if skel v = v then (if clsIn v widesL = 0 then 1 else clsIn v widesL) else 3) else clsIn v spansL) else 0
theorem class_Of_f (v : Int) (k : Nat) (hk : 1 ≤ k) : class_Of.f k v = some (cls v) := by
  obtain ⟨k, rfl⟩ : ∃ m, k = m + 1 := ⟨k - 1, by omega⟩
  have hj : class_Of.j0 (k + 1) v = some (if clsIn v spansL = 0 then (if skel v = v then (if clsIn v widesL = 0 then 1 else clsIn v widesL) else 3) else clsIn v spansL) := by
    simp only [class_Of.j0]
    rw [show class_spans.f = some spansL from rfl, Option.bind_some, class_in_f, Option.bind_some, show class_Skeleton.f v = some (skel v) from rfl, Option.bind_some, show class_wides.f = some widesL from rfl, Option.bind_some, class_in_f, Option.bind_some]
    by_cases h1 : clsIn v spansL = 0
    · rw [if_pos h1, if_pos h1]
      by_cases h2 : skel v = v
      · rw [if_pos h2, if_pos h2]; split <;> rfl
      · rw [if_neg h2, if_neg h2]
    · rw [if_neg h1, if_neg h1]
  unfold class_Of.f cls
  rw [utf_Right_f, Option.bind_some, hj]
  by_cases h1 : rightB v = true
  · rw [if_pos h1, if_pos h1]
    by_cases h2 : v > 1114111
    · rw [if_pos h2, if_pos h2]
    · rw [if_neg h2, if_neg h2]
      by_cases h3 : v > 31
      · rw [if_pos h3]
        by_cases h4 : v < 127
        · rw [if_pos h4, if_pos ⟨h3, h4⟩]
        · rw [if_neg h4, if_neg (show ¬ (31 < v ∧ v < 127) by omega)]
      · rw [if_neg h3, if_neg (show ¬ (31 < v ∧ v < 127) by omega)]
  · rw [if_neg h1, if_neg h1]
/-! ### the reference's -/
theorem skel_l0 (v : Int) (l : List S144) (xs : List Int) (s : ByteArray) (hx : xs = l.map (·.f0)) (hs : s.size = l.length) (hb : ∀ i, (h : i < l.length) → bt s (i : Int) = (l[i]).f1) (hl : l.length ≤ 1000) :
    ∀ (d k i : Nat), d + i = l.length → d < k → dactylref03_Skeleton.l0 k v xs s (i : Int) = some (if idxP (lookP v) (l.drop i) < 0 then v else (rd_T144 (l.drop i) (idxP (lookP v) (l.drop i))).f1) := by
  have hxl : xs.length = l.length := by rw [hx, List.length_map]
  intro d
  induction d with
  | zero =>
    intro k i h1 h2
    obtain ⟨k, rfl⟩ : ∃ m, k = m + 1 := ⟨k - 1, by omega⟩
    simp only [dactylref03_Skeleton.l0]
    rw [if_neg (by omega), List.drop_of_length_le (by omega)]
    rfl
  | succ d ih =>
    intro k i h1 h2
    obtain ⟨k, rfl⟩ : ∃ m, k = m + 1 := ⟨k - 1, by omega⟩
    have hi := ih k (i + 1) (by omega) (by omega)
    have e1 : wrap64 ((i : Int) + 1) = ((i + 1 : Nat) : Int) := by rw [w64 (by omega) (by omega)]; omega
    have ed : l.drop i = l[i] :: l.drop (i + 1) := by rw [List.drop_eq_getElem_cons (by omega)]
    have r0 : rd xs (i : Int) = (l[i]).f0 := by subst hx; simp [rd, List.getD, show i < l.length by omega]
    simp only [dactylref03_Skeleton.l0]
    rw [if_pos (by omega), if_pos (by omega), r0, e1, hi, ed]
    by_cases c : (l[i]).f0 = v
    · rw [if_pos c, if_pos (by omega), hb i (by omega)]
      have : lookP v l[i] = true := by simp [lookP, c]
      simp only [idxP, this, if_true]
      rw [if_neg (by omega)]
      have hr : -9223372036854775808 ≤ (l[i]).f1 ∧ (l[i]).f1 ≤ 9223372036854775807 := by rw [← hb i (by omega)]; have := bt_range s (i : Int); omega
      rw [w64 hr.1 hr.2]
      rfl
    · rw [if_neg c]
      have hp : lookP v l[i] = false := by simp [lookP, c]
      have hg := idxP_ge (lookP v) (l.drop (i + 1))
      simp only [idxP, hp]
      by_cases h : idxP (lookP v) (l.drop (i + 1)) < 0
      · simp [h]
      · simp only [if_neg h, Bool.false_eq_true, if_false]
        rw [if_neg (by omega)]
        congr 2
        simp only [rd_T144, List.getD]
        rw [show (idxP (lookP v) (l.drop (i + 1)) + 1).toNat = (idxP (lookP v) (l.drop (i + 1))).toNat + 1 by omega, List.getElem?_cons_succ]
theorem ref_Skeleton_f (v : Int) (k : Nat) (hk : 52 ≤ k) : dactylref03_Skeleton.f k v = some (skel v) := by
  unfold dactylref03_Skeleton.f
  have := skel_l0 v looksL ([913, 914, 917, 918, 919, 921, 922, 924, 925, 927, 929, 932, 933, 935, 957, 959, 961, 1029, 1030, 1032, 1040, 1042, 1045, 1050, 1052, 1053, 1054, 1056, 1057, 1058, 1061, 1072, 1077, 1086, 1088, 1089, 1091, 1093, 1109, 1110, 1112, 1281, 1307, 1309, 894, 8208, 8722, 8260, 8725, 8228, 8218]) (⟨#[65, 66, 69, 90, 72, 73, 75, 77, 78, 79, 80, 84, 89, 88, 118, 111, 112, 83, 73, 74, 65, 66, 69, 75, 77, 72, 79, 80, 67, 84, 88, 97, 101, 111, 112, 99, 121, 120, 115, 105, 106, 100, 113, 119, 59, 45, 45, 47, 47, 46, 44]⟩ : ByteArray) (by decide +kernel) (by decide +kernel) (by decide +kernel) (by decide +kernel) 51 k 0 (by decide +kernel) (by omega)
  exact this
def oddB (v : Int) : Int := if v ≤ 31 then 4 else if v = 127 then 5 else if 128 ≤ v ∧ v ≤ 159 then 6 else
  if withinB v [160, 160, 5760, 5760, 8192, 8202, 8232, 8233, 8239, 8239, 8287, 8287, 12288, 12288] = true then 10 else
  if withinB v [173, 173, 6155, 6158, 8203, 8205, 8288, 8292, 65279, 65279, 65529, 65531] = true then 8 else
  if withinB v [1564, 1564, 8206, 8207, 8234, 8238, 8294, 8297] = true then 7 else
  if withinB v [768, 879, 1155, 1161, 1425, 1469, 1552, 1562, 1611, 1631, 1750, 1756, 6832, 6862, 7616, 7679, 8400, 8432, 12330, 12335, 12441, 12442, 65024, 65039, 65056, 65071] = true then 9 else
  if withinB v [57344, 63743, 64976, 65007, 65520, 65528, 65534, 65535, 131070, 131071, 262142, 1114111] = true then 11 else 0
def widesR : List Int := [4352, 4447, 8986, 8987, 11904, 12287, 12289, 12350, 12353, 13311, 13312, 19903, 19968, 42191, 43360, 43391, 44032, 55203, 63744, 64255, 65072, 65135, 65280, 65376, 65504, 65510, 127744, 128591, 128640, 128767, 129280, 129535, 131072, 262141]
theorem ref_odd_f (v : Int) (k : Nat) (hk : 52 ≤ k) : dactylref03_odd.f k v = some (oddB v) := by
  have hj : ∀ b : Bool, dactylref03_odd.j0 k v b = some (if b = true then 6 else
      if withinB v [160, 160, 5760, 5760, 8192, 8202, 8232, 8233, 8239, 8239, 8287, 8287, 12288, 12288] = true then 10 else
      if withinB v [173, 173, 6155, 6158, 8203, 8205, 8288, 8292, 65279, 65279, 65529, 65531] = true then 8 else
      if withinB v [1564, 1564, 8206, 8207, 8234, 8238, 8294, 8297] = true then 7 else
      if withinB v [768, 879, 1155, 1161, 1425, 1469, 1552, 1562, 1611, 1631, 1750, 1756, 6832, 6862, 7616, 7679, 8400, 8432, 12330, 12335, 12441, 12442, 65024, 65039, 65056, 65071] = true then 9 else
      if withinB v [57344, 63743, 64976, 65007, 65520, 65528, 65534, 65535, 131070, 131071, 262142, 1114111] = true then 11 else 0) := by
    obtain ⟨k, rfl⟩ : ∃ m, k = m + 1 := ⟨k - 1, by omega⟩
    intro b
    simp only [dactylref03_odd.j0]
    rw [within_f v _ 7 rfl (by decide) k (by omega), within_f v _ 6 rfl (by decide) k (by omega), within_f v _ 4 rfl (by decide) k (by omega), within_f v _ 13 rfl (by decide) k (by omega), within_f v _ 6 rfl (by decide) k (by omega)]
    simp only [Option.bind_some]
    repeat' (split <;> try rfl)
  unfold dactylref03_odd.f oddB
  rw [hj, hj]
  by_cases h1 : v ≤ 31
  · rw [if_pos h1, if_pos h1]
  · rw [if_neg h1, if_neg h1]
    by_cases h2 : v = 127
    · rw [if_pos h2, if_pos h2]
    · rw [if_neg h2, if_neg h2]
      by_cases h3 : v ≥ 128
      · rw [if_pos h3]
        by_cases h4 : v ≤ 159
        · rw [decide_eq_true h4, if_pos rfl, if_pos ⟨h3, h4⟩]
        · rw [decide_eq_false h4, if_neg (show ¬ (false = true) by decide), if_neg (show ¬ (128 ≤ v ∧ v ≤ 159) by omega)]
      · rw [if_neg h3, if_neg (show ¬ (false = true) by decide), if_neg (show ¬ (128 ≤ v ∧ v ≤ 159) by omega)]
/-- Where the classes change. -/
def brk : List Int := [0, 32, 127, 128, 160, 161, 173, 174, 768, 880, 1155, 1162, 1425, 1470, 1552, 1563, 1564, 1565, 1611, 1632, 1750, 1757, 4352, 4448, 5760, 5761, 6155, 6159, 6832, 6863, 7616, 7680, 8192, 8203, 8206, 8208, 8232, 8234, 8239, 8240, 8287, 8288, 8293, 8294, 8298, 8400, 8433, 8986, 8988, 11904, 12288, 12289, 12330, 12336, 12351, 12353, 12441, 12443, 13312, 19904, 19968, 42192, 43360, 43392, 44032, 55204, 57344, 63744, 64256, 64976, 65008, 65024, 65040, 65056, 65072, 65136, 65279, 65280, 65377, 65504, 65511, 65520, 65529, 65532, 65534, 65536, 127744, 128592, 128640, 128768, 129280, 129536, 131070, 131072, 262142, 1114112]
theorem idxP_congr {α : Type} (p q : α → Bool) (l : List α) (h : ∀ x ∈ l, p x = q x) : idxP p l = idxP q l := by
  induction l with
  | nil => rfl
  | cons x l ih => simp only [idxP, h x List.mem_cons_self, ih (fun y hy => h y (List.mem_cons_of_mem _ hy))]
theorem clsIn_flo (v : Int) (hv : 0 ≤ v) (l : List S138) (h : (l.all fun s => brk.contains s.f0 && brk.contains (s.f1 + 1)) = true) : clsIn v l = clsIn (flo brk v) l := by
  have : idxP (inP v) l = idxP (inP (flo brk v)) l := idxP_congr _ _ l (fun s hs => by
    have hb := List.all_eq_true.1 h s hs
    simp only [Bool.and_eq_true, List.contains_iff_mem] at hb
    have e1 := flo_iff brk v (by omega) s.f0 hb.1
    have e2 := flo_iff brk v (by omega) (s.f1 + 1) hb.2
    unfold inP
    congr 1
    · exact decide_eq_decide.mpr e1
    · exact decide_eq_decide.mpr (by omega))
  unfold clsIn
  rw [this]
theorem oddB_flo (v : Int) (hv : 0 ≤ v) : oddB v = oddB (flo brk v) := by
  have e1 := flo_iff brk v (by omega) 32 (by decide +kernel)
  have e2 := flo_iff brk v (by omega) 127 (by decide +kernel)
  have e3 := flo_iff brk v (by omega) 128 (by decide +kernel)
  have e4 := flo_iff brk v (by omega) 160 (by decide +kernel)
  unfold oddB
  rw [withinB_flo brk v hv _ (by decide +kernel), withinB_flo brk v hv [173, 173, 6155, 6158, 8203, 8205, 8288, 8292, 65279, 65279, 65529, 65531] (by decide +kernel), withinB_flo brk v hv [1564, 1564, 8206, 8207, 8234, 8238, 8294, 8297] (by decide +kernel), withinB_flo brk v hv [768, 879, 1155, 1161, 1425, 1469, 1552, 1562, 1611, 1631, 1750, 1756, 6832, 6862, 7616, 7679, 8400, 8432, 12330, 12335, 12441, 12442, 65024, 65039, 65056, 65071] (by decide +kernel), withinB_flo brk v hv [57344, 63743, 64976, 65007, 65520, 65528, 65534, 65535, 131070, 131071, 262142, 1114111] (by decide +kernel)]
  by_cases h1 : v ≤ 31
  · rw [if_pos h1, if_pos (show flo brk v ≤ 31 by omega)]
  · rw [if_neg h1, if_neg (show ¬ flo brk v ≤ 31 by omega)]
    by_cases h2 : v = 127
    · rw [if_pos h2, if_pos (show flo brk v = 127 by omega)]
    · rw [if_neg h2, if_neg (show ¬ flo brk v = 127 by omega)]
      by_cases h3 : 128 ≤ v ∧ v ≤ 159
      · rw [if_pos h3, if_pos (show 128 ≤ flo brk v ∧ flo brk v ≤ 159 by omega)]
      · rw [if_neg h3, if_neg (show ¬ (128 ≤ flo brk v ∧ flo brk v ≤ 159) by omega)]
/-- The two tables say the same at the points where the classes change. -/
def sameAt (b : Int) : Bool := (decide (31 < b ∧ b < 127) || decide (clsIn b spansL = oddB b)) && (!decide (31 < b ∧ b < 127) || (decide (oddB b = 0) && !withinB b widesR)) && decide (clsIn b widesL = if withinB b widesR = true then 2 else 0)
theorem same_brk : (brk.all fun b => decide (b > 1114111) || sameAt b) = true := by decide +kernel
theorem same_all (v : Int) (h0 : 0 ≤ v) (h1 : v ≤ 1114111) : (¬ (31 < v ∧ v < 127) → clsIn v spansL = oddB v) ∧ ((31 < v ∧ v < 127) → oddB v = 0 ∧ withinB v widesR = false) ∧ clsIn v widesL = (if withinB v widesR = true then 2 else 0) := by
  have e1 := flo_iff brk v (by omega) 32 (by decide +kernel)
  have e2 := flo_iff brk v (by omega) 127 (by decide +kernel)
  have hm := flo_mem brk v h0 (by decide +kernel)
  have hle := flo_le brk v (by omega)
  rw [clsIn_flo v h0 spansL (by decide +kernel), clsIn_flo v h0 widesL (by decide +kernel), oddB_flo v h0, withinB_flo brk v h0 widesR (by decide +kernel)]
  have := List.all_eq_true.1 same_brk _ hm
  rw [decide_eq_false (show ¬ flo brk v > 1114111 by omega), Bool.false_or] at this
  unfold sameAt at this
  simp only [Bool.and_eq_true, Bool.or_eq_true, decide_eq_true_eq, Bool.not_eq_true'] at this
  obtain ⟨⟨h2, h3⟩, h4⟩ := this
  refine ⟨fun h => ?_, fun h => ?_, h4⟩
  · rcases h2 with h2 | h2
    · omega
    · exact h2
  · rcases h3 with h3 | h3
    · have := of_decide_eq_false h3; omega
    · exact h3
theorem skel_low (v : Int) (h : v < 894) : skel v = v := by
  have : idxP (lookP v) looksL = -1 := idxP_miss _ _ (fun j hj => by
    have hb : (looksL.all fun s => decide (894 ≤ s.f0)) = true := by decide +kernel
    have := List.all_eq_true.1 hb _ (List.getElem_mem hj)
    simp only [decide_eq_true_eq] at this
    simp only [lookP, beq_eq_false_iff_ne]
    omega)
  unfold skel
  rw [this, if_pos (by decide)]
theorem oddB_range (v : Int) : 0 ≤ oddB v := by unfold oddB; (repeat' split) <;> decide
theorem ref_Of_f (v : Int) (k : Nat) (hk : 52 ≤ k) : dactylref03_Of.f k v = some (cls v) := by
  unfold dactylref03_Of.f cls
  rw [ref_Right_f, Option.bind_some]
  by_cases h1 : rightB v = true
  · rw [if_pos h1, if_pos h1]
    by_cases h2 : v > 1114111
    · rw [if_pos h2, if_pos h2]
    · rw [if_neg h2, if_neg h2, ref_odd_f v k hk, Option.bind_some]
      have h0 : 0 ≤ v := by unfold rightB at h1; simp only [Bool.or_eq_true, decide_eq_true_eq] at h1; omega
      obtain ⟨s1, s2, s3⟩ := same_all v h0 (by omega)
      rw [ref_Skeleton_f v k hk, Option.bind_some, within_f v _ 17 rfl (by decide) k (by omega), Option.bind_some, show withinB v [4352, 4447, 8986, 8987, 11904, 12287, 12289, 12350, 12353, 13311, 13312, 19903, 19968, 42191, 43360, 43391, 44032, 55203, 63744, 64255, 65072, 65135, 65280, 65376, 65504, 65510, 127744, 128591, 128640, 128767, 129280, 129535, 131072, 262141] = withinB v widesR from rfl]
      by_cases h3 : 31 < v ∧ v < 127
      · obtain ⟨t1, t2⟩ := s2 h3
        rw [if_pos h3, t1, t2, skel_low v (by omega), if_neg (by decide), if_pos rfl, if_neg (by decide)]
      · rw [if_neg h3, s1 h3, s3]
        have := oddB_range v
        by_cases h4 : oddB v > 0
        · rw [if_pos h4, if_neg (show ¬ oddB v = 0 by omega)]
        · rw [if_neg h4, if_pos (show oddB v = 0 by omega)]
          by_cases h5 : skel v = v
          · rw [if_pos h5, if_pos h5]
            cases withinB v widesR <;> rfl
          · rw [if_neg h5, if_neg h5]
  · rw [if_neg h1, if_neg h1]

end Go.Proofs.Ytemoocoedibbpaa.X

namespace Go.Proofs.Ytemoocoedibbpaa.X
open Go.RowKit Go.Proofs.YtemoocoedibbpaaW.PrintWords Go.Proofs.YtemoocoedibbpaaW.PrintLast Go.Proofs.YtemoocoedibbpaaW.PrintMore
attribute [local go_sem] max2_int min2_int max_two min_two max_three min_three max_four min_four
set_option linter.unusedVariables false
set_option linter.unusedSimpArgs false

/-- The bytes of a value, as numbers. -/
def encL (v : Int) : List Int := if v < 128 then [v] else if v < 2048 then [192 + v / 64, 128 + v % 64] else if v < 65536 then [224 + v / 4096, 128 + v / 64 % 64, 128 + v % 64] else if v ≤ 1114111 then [240 + v / 262144, 128 + v / 4096 % 64, 128 + v / 64 % 64, 128 + v % 64] else [v - 1114112]
theorem encL_len (v : Int) : 1 ≤ (encL v).length ∧ (encL v).length ≤ 4 := by unfold encL; (repeat' split) <;> simp
theorem rightB_iff (v : Int) : rightB v = true ↔ (0 ≤ v ∧ v < 55296 ∨ 57343 < v ∧ v ≤ 1114111) ∨ (1114240 ≤ v ∧ v ≤ 1114367) := by unfold rightB; simp only [Bool.or_eq_true, decide_eq_true_eq]
theorem ref_Bytes_f (v : Int) (h0 : 0 ≤ v) (h1 : v ≤ 1114367) : dactylref02_Bytes.f v = some (strOfNums (encL v)) := by
  have t : ∀ n : Int, Int.tdiv v n = v / n := fun n => Int.tdiv_eq_ediv_of_nonneg h0
  have m : ∀ n : Int, Int.tmod v n = v % n := fun n => Int.tmod_eq_emod_of_nonneg h0
  have e64 : wrap64 (v / 64) = v / 64 := by unfold wrap64; omega
  have e4096 : wrap64 (v / 4096) = v / 4096 := by unfold wrap64; omega
  have e26 : wrap64 (v / 262144) = v / 262144 := by unfold wrap64; omega
  have m64 : Int.tmod (v / 64) 64 = v / 64 % 64 := Int.tmod_eq_emod_of_nonneg (by omega)
  have m4096 : Int.tmod (v / 4096) 64 = v / 4096 % 64 := Int.tmod_eq_emod_of_nonneg (by omega)
  unfold dactylref02_Bytes.f encL
  rw [t, t, t, m, e64, e4096, e26, m64, m4096]
  by_cases c1 : v < 128
  · rw [if_pos c1, if_pos c1, show v % 256 = v by omega]
  · rw [if_neg c1, if_neg c1]
    by_cases c2 : v < 2048
    · rw [if_pos c2, if_pos c2, show wrap64 (192 + v / 64) % 256 = 192 + v / 64 by unfold wrap64; omega, show wrap64 (128 + v % 64) % 256 = 128 + v % 64 by unfold wrap64; omega]
    · rw [if_neg c2, if_neg c2]
      by_cases c3 : v < 65536
      · rw [if_pos c3, if_pos c3, show wrap64 (224 + v / 4096) % 256 = 224 + v / 4096 by unfold wrap64; omega, show wrap64 (128 + v / 64 % 64) % 256 = 128 + v / 64 % 64 by unfold wrap64; omega, show wrap64 (128 + v % 64) % 256 = 128 + v % 64 by unfold wrap64; omega]
      · rw [if_neg c3, if_neg c3]
        by_cases c4 : v ≤ 1114111
        · rw [if_pos c4, if_pos c4, show wrap64 (240 + v / 262144) % 256 = 240 + v / 262144 by unfold wrap64; omega, show wrap64 (128 + v / 4096 % 64) % 256 = 128 + v / 4096 % 64 by unfold wrap64; omega, show wrap64 (128 + v / 64 % 64) % 256 = 128 + v / 64 % 64 by unfold wrap64; omega, show wrap64 (128 + v % 64) % 256 = 128 + v % 64 by unfold wrap64; omega]
        · rw [if_neg c4, if_neg c4, show wrap64 (v - 1114112) % 256 = v - 1114112 by unfold wrap64; omega]
theorem AppendRune_f (l : List Int) (v : Int) (h : 0 ≤ v ∧ v < 55296 ∨ 57343 < v ∧ v ≤ 1114111) (hl : l.length + 4 < 140737488355328) (k : Nat) (hk : 1 ≤ k) : utf8_AppendRune.f k l v = some (l ++ encL v) := by
  obtain ⟨k, rfl⟩ : ∃ m, k = m + 1 := ⟨k - 1, by omega⟩
  have e : v % 4294967296 = v := by omega
  unfold utf8_AppendRune.f utf8_appendRuneNonASCII.f encL
  simp only [utf8_appendRuneNonASCII.j0, e]
  by_cases c1 : v ≤ 127
  · rw [if_pos c1, if_pos (by omega), if_pos (show v < 128 by omega), show v % 256 = v by omega]
  · rw [if_neg c1, if_neg (show ¬ v < 128 by omega)]
    by_cases c2 : v ≤ 2047
    · rw [if_pos c2, if_pos (show v < 2048 by omega), show v / 64 % 256 = v / 64 by omega, u8_or192 _ (by omega) (by omega)]
      simp only [Option.bind_some, List.length_cons, List.length_nil]
      rw [if_pos (by omega)]; rfl
    · rw [if_neg c2, if_neg (show ¬ v < 2048 by omega)]
      have three : ∀ b : Bool, b = true → v < 65536 → ((if b = true then ((some (([Go.bits .or .u8 224 ((v / 4096) % 256), 128 + ((v / 64) % 64), 128 + (v % 64)] : List Int) : List Int)).bind fun y107 => (if l.length + y107.length < 140737488355328 then (some (l ++ y107)) else (none))) else none : Option (List Int)).bind fun t => some t) = some (l ++ [224 + v / 4096, 128 + v / 64 % 64, 128 + v % 64]) := by
        intro b hb hv
        subst hb
        rw [if_pos rfl, show v / 4096 % 256 = v / 4096 by omega, u8_or224 _ (by omega) (by omega)]
        simp only [Option.bind_some, List.length_cons, List.length_nil]
        rw [if_pos (by omega)]; rfl
      by_cases c3 : v < 55296
      · have := three true rfl (by omega)
        rw [if_pos rfl] at this
        rw [if_pos c3, decide_eq_true c3, if_pos rfl, if_pos (show v < 65536 by omega)]
        exact this
      · rw [if_neg c3, if_pos (show 57343 < v by omega)]
        by_cases c4 : v ≤ 65535
        · have := three true rfl (by omega)
          rw [if_pos rfl] at this
          rw [decide_eq_true c4, if_pos rfl, if_pos (show v < 65536 by omega)]
          exact this
        · rw [decide_eq_false c4, if_neg (show ¬ (false = true) by decide), if_pos (show v > 65535 by omega), if_pos (show v ≤ 1114111 by omega), if_neg (show ¬ v < 65536 by omega), if_pos (show v ≤ 1114111 by omega), show v / 262144 % 256 = v / 262144 by omega, u8_or240 _ (by omega) (by omega)]
          simp only [Option.bind_some, List.length_cons, List.length_nil]
          rw [if_pos (by omega)]; rfl
/-- The bytes of values, those that may not be left out. -/
def encAll (l : List Int) : List Int := l.flatMap fun v => if rightB v = true then encL v else []
theorem encAll_len (l : List Int) : (encAll l).length ≤ 4 * l.length := by
  induction l with
  | nil => simp [encAll]
  | cons v l ih =>
    have := (encL_len v).2
    simp only [encAll, List.flatMap_cons, List.length_append, List.length_cons] at ih ⊢
    split <;> simp at * <;> omega
theorem encAll_append (a b : List Int) : encAll (a ++ b) = encAll a ++ encAll b := by simp [encAll]
theorem encAll_cons (v : Int) (l : List Int) : encAll (v :: l) = (if rightB v = true then encL v else []) ++ encAll l := by simp [encAll]
theorem encAll_nil : encAll [] = [] := rfl
theorem Encode_l0 (l : List Int) (hl : 4 * l.length < 140737488350000) : ∀ (d k i : Nat) (acc : List Int), d + i = l.length → d + 1 < k → acc = encAll (l.take i) → utf_Encode.l0 k acc l (l.length : Int) (i : Int) = some (strOfNums (acc ++ encAll (l.drop i))) := by
  intro d
  induction d with
  | zero =>
    intro k i acc h1 h2 ha
    obtain ⟨k, rfl⟩ : ∃ m, k = m + 1 := ⟨k - 1, by omega⟩
    simp only [utf_Encode.l0]
    rw [if_neg (by omega), List.drop_of_length_le (by omega)]
    simp [encAll]
  | succ d ih =>
    intro k i acc h1 h2 ha
    obtain ⟨k, rfl⟩ : ∃ m, k = m + 1 := ⟨k - 1, by omega⟩
    have e1 : wrap64 ((i : Int) + 1) = ((i + 1 : Nat) : Int) := by rw [w64 (by omega) (by omega)]; omega
    have ed : l.drop i = l[i] :: l.drop (i + 1) := by rw [List.drop_eq_getElem_cons (by omega)]
    have et : l.take (i + 1) = l.take i ++ [l[i]] := by rw [List.take_succ_eq_append_getElem (by omega)]
    have r0 : rd l (i : Int) = l[i] := by simp [rd, List.getD, show i < l.length by omega]
    have hal : acc.length ≤ 4 * i := by rw [ha]; have := encAll_len (l.take i); rw [List.length_take] at this; omega
    have step : ∀ acc', acc' = encAll (l.take (i + 1)) → utf_Encode.l0 k acc' l (l.length : Int) ((i + 1 : Nat) : Int) = some (strOfNums (acc' ++ encAll (l.drop (i + 1)))) := fun acc' h => ih k (i + 1) acc' (by omega) (by omega) h
    simp only [utf_Encode.l0]
    rw [if_pos (by omega), if_pos (by omega), if_pos (by omega), r0, utf_point_f, Option.bind_some, e1]
    by_cases c1 : (0 ≤ l[i] ∧ l[i] < 55296 ∨ 57343 < l[i] ∧ l[i] ≤ 1114111)
    · have hr : rightB l[i] = true := (rightB_iff _).2 (.inl c1)
      have ha' : acc ++ encL l[i] = encAll (l.take (i + 1)) := by rw [et, ha, encAll_append, encAll_cons, if_pos hr, encAll_nil, List.append_nil]
      rw [decide_eq_true c1, if_pos rfl, show wrap32 l[i] = l[i] by unfold wrap32; omega, AppendRune_f acc l[i] c1 (by omega) k (by omega), Option.bind_some, step _ ha', ed, encAll_cons, if_pos hr, List.append_assoc]
    · rw [decide_eq_false c1, if_neg (show ¬ (false = true) by decide), utf_Right_f, Option.bind_some]
      by_cases c2 : rightB l[i] = true
      · have hv := (rightB_iff _).1 c2
        have he : encL l[i] = [l[i] - 1114112] := by unfold encL; rw [if_neg (by omega), if_neg (by omega), if_neg (by omega), if_neg (by omega)]
        have ha' : acc ++ [l[i] - 1114112] = encAll (l.take (i + 1)) := by rw [et, ha, ← he, encAll_append, encAll_cons, if_pos c2, encAll_nil, List.append_nil]
        rw [if_pos c2, if_pos (by omega), show wrap64 (l[i] - 1114112) % 256 = l[i] - 1114112 by unfold wrap64; omega, step _ ha', ed, encAll_cons, if_pos c2, he, List.append_assoc]
      · have ha' : acc = encAll (l.take (i + 1)) := by rw [et, ha, encAll_append, encAll_cons, if_neg c2, encAll_nil, List.append_nil, List.append_nil]
        rw [if_neg c2, step _ ha', ed, encAll_cons, if_neg c2, List.nil_append]
theorem utf_Encode_f (l : List Int) (hl : 4 * l.length < 140737488350000) (k : Nat) (hk : l.length + 1 < k) : utf_Encode.f k l = some (strOfNums (encAll l)) := by
  have := Encode_l0 l hl l.length k 0 [] (by omega) hk (by simp [encAll])
  simpa [utf_Encode.f] using this
/-! ### hex digits -/
def digB (x : Int) : ByteArray := digitsB.extract x.toNat (x + 1).toNat
theorem digB_size (x : Int) (h0 : 0 ≤ x) (h1 : x < 16) : (digB x).size = 1 := digit_size x h0 h1
theorem ba_assoc (a b c : ByteArray) : a ++ b ++ c = a ++ (b ++ c) := ByteArray.append_assoc
theorem e0size : (⟨#[]⟩ : ByteArray).size = 0 := rfl
theorem laid_acc (g : Nat) : ∀ (least u : Int) (s : ByteArray), 0 ≤ u → laidF g 16 least u s = laidF g 16 (least - s.size) u ⟨#[]⟩ ++ s := by
  induction g with
  | zero => intro least u s _; exact (ByteArray.empty_append (b := s)).symm
  | succ g ih =>
    intro least u s h0
    have hd := digB_size (u % 16) (by omega) (by omega)
    have hd' : digB (u % 16) = digitsB.extract (u % 16).toNat (u % 16 + 1).toNat := rfl
    simp only [laidF, ← hd', e0size]
    by_cases c : u > 0 ∨ (s.size : Int) < least
    · rw [if_pos c, if_pos (show u > 0 ∨ ((0 : Nat) : Int) < least - s.size by omega), ih least (u / 16) _ (by omega), ih (least - s.size) (u / 16) (digB (u % 16) ++ ⟨#[]⟩) (by omega)]
      rw [ByteArray.size_append, ByteArray.size_append, hd, e0size, ba_assoc, show digB (u % 16) ++ (⟨#[]⟩ : ByteArray) = digB (u % 16) from ByteArray.append_empty, show least - ((1 + s.size : Nat) : Int) = least - (s.size : Int) - ((1 + 0 : Nat) : Int) by omega]
    · rw [if_neg c, if_neg (show ¬ (u > 0 ∨ ((0 : Nat) : Int) < least - s.size) by omega)]
      exact (ByteArray.empty_append (b := s)).symm
theorem laid_size (g : Nat) : ∀ (least u : Int) (s : ByteArray), 0 ≤ u → (laidF g 16 least u s).size ≤ s.size + g := by
  induction g with
  | zero => intro least u s _; simp [laidF]
  | succ g ih =>
    intro least u s h0
    have hd := digB_size (u % 16) (by omega) (by omega)
    have hd' : digB (u % 16) = digitsB.extract (u % 16).toNat (u % 16 + 1).toNat := rfl
    simp only [laidF, ← hd']
    split
    · have := ih least (u / 16) (digB (u % 16) ++ s) (by omega)
      rw [ByteArray.size_append, hd] at this
      omega
    · omega
theorem laid_step (g : Nat) (least u : Int) (h0 : 0 ≤ u) (h : u > 0 ∨ 0 < least) : laidF (g + 1) 16 least u ⟨#[]⟩ = laidF g 16 (least - 1) (u / 16) ⟨#[]⟩ ++ digB (u % 16) := by
  have hd := digB_size (u % 16) (by omega) (by omega)
  have hd' : digB (u % 16) = digitsB.extract (u % 16).toNat (u % 16 + 1).toNat := rfl
  simp only [laidF, ← hd', e0size]
  rw [if_pos (show u > 0 ∨ ((0 : Nat) : Int) < least by omega), laid_acc g least (u / 16) _ (by omega), show digB (u % 16) ++ (⟨#[]⟩ : ByteArray) = digB (u % 16) from ByteArray.append_empty, hd]
  rfl
theorem laid_nil (g : Nat) (least : Int) (h : least ≤ 0) : laidF g 16 least 0 ⟨#[]⟩ = ⟨#[]⟩ := by
  cases g with
  | zero => rfl
  | succ g => simp only [laidF, e0size]; rw [if_neg (show ¬ ((0 : Int) > 0 ∨ ((0 : Nat) : Int) < least) by omega)]
theorem laid_01 (g : Nat) (u : Int) (h : 0 < u) : laidF g 16 0 u ⟨#[]⟩ = laidF g 16 1 u ⟨#[]⟩ := by
  cases g with
  | zero => rfl
  | succ g =>
    rw [laid_step g 0 u (by omega) (.inl h), laid_step g 1 u (by omega) (.inl h)]
    congr 1
    by_cases c : u / 16 = 0
    · rw [c, laid_nil g _ (by omega), laid_nil g _ (by omega)]
    · -- more digits: the least number counts no more
      have : ∀ (g : Nat) (a b v : Int), a ≤ 0 → b ≤ 0 → 0 ≤ v → laidF g 16 a v ⟨#[]⟩ = laidF g 16 b v ⟨#[]⟩ := by
        intro g
        induction g with
        | zero => intro a b v _ _ _; rfl
        | succ g ih =>
          intro a b v ha hb hv
          by_cases hz : v = 0
          · rw [hz, laid_nil _ _ ha, laid_nil _ _ hb]
          · rw [laid_step g a v hv (by omega), laid_step g b v hv (by omega), ih (a - 1) (b - 1) (v / 16) (by omega) (by omega) (by omega)]
      exact this g _ _ _ (by omega) (by omega) (by omega)
theorem Digit_f (x : Int) (h0 : 0 ≤ x) (h1 : x < 16) : dactylref01_Digit.f x = some (digB x) := by
  unfold dactylref01_Digit.f
  rw [show wrap64 (x + 1) = x + 1 by unfold wrap64; omega, if_pos h0, if_pos (by omega), if_pos (by omega)]
  rfl
/-- The reference's hex digits are the program's. -/
theorem ref_Hex_f : ∀ (g : Nat), g ≤ 16 → ∀ (k : Nat) (n least : Int), 0 ≤ n → n < 16 ^ g → least ≤ g → (g : Int) - 100 ≤ least → n ≤ 9223372036854775807 → 1 ≤ g → 2 * g ≤ k → dactylref01_Hex.f k n least = some (laidF g 16 (max least 1) n ⟨#[]⟩) := by
  intro g
  induction g with
  | zero => intro _ k n least _ _ _ _ _ h _; omega
  | succ g ih =>
    intro hg k n least h0 h1 h2 h2' h3 _ hk
    obtain ⟨k, rfl⟩ : ∃ m, k = m + 2 := ⟨k - 2, by omega⟩
    by_cases c : n < 16 ∧ least ≤ 1
    · simp only [dactylref01_Hex.f, dactylref01_Hex.j0]
      rw [if_pos c.1, decide_eq_true c.2, if_pos rfl, Digit_f n h0 c.1, Option.bind_some, show max least 1 = 1 by omega, laid_step g 1 n h0 (.inr (by omega)), show n / 16 = 0 by omega, show n % 16 = n by omega, laid_nil _ _ (by omega)]
      rfl
    · have hj : dactylref01_Hex.f (k + 2) n least = dactylref01_Hex.j0 (k + 1) n least false := by
        simp only [dactylref01_Hex.f]
        by_cases c1 : n < 16
        · rw [if_pos c1, decide_eq_false (show ¬ least ≤ 1 by omega)]
        · rw [if_neg c1]
      rw [hj]
      simp only [dactylref01_Hex.j0]
      rw [if_neg (show ¬ (false = true) by decide), Int.tdiv_eq_ediv_of_nonneg h0, Int.tmod_eq_emod_of_nonneg h0, show wrap64 (n / 16) = n / 16 by unfold wrap64; omega, show wrap64 (least - 1) = least - 1 by unfold wrap64; omega]
      rw [Int.pow_succ] at h1
      have hlt : n / 16 < 16 ^ g := Int.ediv_lt_of_lt_mul (by decide) h1
      have hg1 : 1 ≤ g := by
        rcases Nat.eq_zero_or_pos g with hz | hz
        · subst hz; simp at h1; omega
        · exact hz
      rw [ih (by omega) k (n / 16) (least - 1) (by omega) hlt (by omega) (by omega) (by omega) hg1 (by omega), Option.bind_some, Digit_f (n % 16) (by omega) (by omega), Option.bind_some]
      have hs := laid_size g (max (least - 1) 1) (n / 16) ⟨#[]⟩ (by omega)
      have hd := digB_size (n % 16) (by omega) (by omega)
      rw [e0size] at hs
      rw [if_pos (show (laidF g 16 (max (least - 1) 1) (n / 16) ⟨#[]⟩).size + (digB (n % 16)).size ≤ 9223372036854775807 by omega), laid_step g (max least 1) n h0 (.inr (by omega))]
      congr 2
      by_cases c2 : 2 ≤ least
      · rw [show max (least - 1) 1 = max least 1 - 1 by omega]
      · rw [show max (least - 1) 1 = 1 by omega, show max least 1 - 1 = 0 by omega]
        exact (laid_01 g (n / 16) (by omega)).symm
theorem laid_more (g : Nat) : ∀ (d : Nat) (least u : Int), 0 ≤ u → u < 16 ^ g → least ≤ g → laidF (g + d) 16 least u ⟨#[]⟩ = laidF g 16 least u ⟨#[]⟩ := by
  induction g with
  | zero =>
    intro d least u h0 h1 h2
    simp at h1 h2
    rw [show u = 0 by omega, laid_nil _ _ h2, laid_nil _ _ h2]
  | succ g ih =>
    intro d least u h0 h1 h2
    by_cases c : u > 0 ∨ 0 < least
    · rw [Int.pow_succ] at h1
      rw [show g + 1 + d = (g + d) + 1 by omega, laid_step _ least u h0 c, laid_step _ least u h0 c, ih d _ _ (by omega) (Int.ediv_lt_of_lt_mul (by decide) h1) (by omega)]
    · rw [show u = 0 by omega, laid_nil _ _ (by omega), laid_nil _ _ (by omega)]
theorem num_Hex_f (n least : Int) (h0 : 0 ≤ n) (h1 : n ≤ 9223372036854775807) (h2 : 1 ≤ least) (h3 : least ≤ 16) : num_Hex.f n least = some (laidF 16 16 least n ⟨#[]⟩) := by
  unfold num_Hex.f
  rw [if_neg (by omega), show mn (mx least 1) 16 = least by unfold mn mx; split <;> split <;> omega, IntWalk.u64_in _ (by omega)]
theorem ref_Hex (n least : Int) (h0 : 0 ≤ n) (h1 : n ≤ 9223372036854775807) (h2 : 1 ≤ least) (h3 : least ≤ 16) (k : Nat) (hk : 32 ≤ k) : dactylref01_Hex.f k n least = some (laidF 16 16 least n ⟨#[]⟩) := by
  rw [ref_Hex_f 16 (by omega) k n least h0 (by omega) (by omega) (by omega) h1 (by omega) (by omega), show max least 1 = least by omega]
/-! ### shown texts -/
theorem clsIn4 (v : Int) (h0 : 0 ≤ v) (h1 : v ≤ 1114111) (h2 : ¬ (31 < v ∧ v < 127)) (h : clsIn v spansL = 4) : v ≤ 31 := by
  rw [(same_all v h0 h1).1 h2] at h
  unfold oddB at h
  by_cases c : v ≤ 31
  · exact c
  · rw [if_neg c] at h
    exfalso
    (repeat' split at h) <;> omega
theorem clsIn_range (v : Int) (h0 : 0 ≤ v) (h1 : v ≤ 1114111) (h2 : ¬ (31 < v ∧ v < 127)) : clsIn v spansL = 0 ∨ (4 ≤ clsIn v spansL ∧ clsIn v spansL ≤ 11) := by
  rw [(same_all v h0 h1).1 h2]
  unfold oddB
  (repeat' split) <;> omega
/-- What a class says of a value. -/
theorem cls_says (v : Int) : (cls v = 0 ∧ rightB v = false) ∨ (rightB v = true ∧ 0 ≤ v ∧ v ≤ 1114111 ∧ (cls v = 1 ∨ cls v = 2 ∨ cls v = 3)) ∨ (rightB v = true ∧ 0 ≤ v ∧ v ≤ 31 ∧ cls v = 4) ∨ (rightB v = true ∧ 0 ≤ v ∧ v ≤ 1114111 ∧ 5 ≤ cls v ∧ cls v ≤ 11) ∨ (rightB v = true ∧ 1114240 ≤ v ∧ v ≤ 1114367 ∧ cls v = 12) := by
  unfold cls
  by_cases h1 : rightB v = true
  · have hr := (rightB_iff v).1 h1
    rw [if_pos h1, h1]
    by_cases h2 : v > 1114111
    · rw [if_pos h2]; right; right; right; right; exact ⟨rfl, by omega, by omega, rfl⟩
    · rw [if_neg h2]
      have h0 : 0 ≤ v := by omega
      by_cases h3 : 31 < v ∧ v < 127
      · rw [if_pos h3]; right; left; exact ⟨rfl, h0, by omega, .inl rfl⟩
      · rw [if_neg h3]
        rcases clsIn_range v h0 (by omega) h3 with h4 | h4
        · rw [if_pos h4]
          have hw := (same_all v h0 (by omega)).2.2
          right; left
          refine ⟨rfl, h0, by omega, ?_⟩
          rw [hw]
          (repeat' split) <;> omega
        · rw [if_neg (show ¬ clsIn v spansL = 0 by omega)]
          by_cases h5 : clsIn v spansL = 4
          · right; right; left; exact ⟨rfl, h0, clsIn4 v h0 (by omega) h3 h5, h5⟩
          · right; right; right; left; exact ⟨rfl, h0, by omega, by omega, by omega⟩
  · rw [if_neg h1]; left; exact ⟨rfl, by simpa using h1⟩
def txt (v : Int) : ByteArray := if cls v = 0 then ⟨#[]⟩ else if cls v ≤ 3 then strOfNums (encL v) else if cls v = 4 then (⟨#[94]⟩ : ByteArray) ++ strOfNums [v + 64] else if cls v = 5 then ⟨#[94, 63]⟩ else if cls v = 12 then (⟨#[92, 120]⟩ : ByteArray) ++ laidF 16 16 2 (v - 1114112) ⟨#[]⟩ else ((⟨#[60, 85, 43]⟩ : ByteArray) ++ laidF 16 16 4 v ⟨#[]⟩) ++ ⟨#[62]⟩
theorem strOfNums_size (l : List Int) : (strOfNums l).size = l.length := by simp [strOfNums, ByteArray.size]
theorem txt_size (v : Int) : (txt v).size ≤ 25 := by
  have hl := (encL_len v).2
  have h2 : ∀ a b : Int, 0 ≤ b → (laidF 16 16 a b ⟨#[]⟩).size ≤ 16 := fun a b hb => by have := laid_size 16 a b ⟨#[]⟩ hb; rw [e0size] at this; omega
  have s1 : (⟨#[94]⟩ : ByteArray).size = 1 := rfl
  have s2 : (⟨#[92, 120]⟩ : ByteArray).size = 2 := rfl
  have s3 : (⟨#[60, 85, 43]⟩ : ByteArray).size = 3 := rfl
  have s4 : (⟨#[62]⟩ : ByteArray).size = 1 := rfl
  have s5 : (⟨#[94, 63]⟩ : ByteArray).size = 2 := rfl
  unfold txt
  rcases cls_says v with h | h | h | h | h
  · rw [if_pos h.1, e0size]; omega
  · rw [if_neg (by omega), if_pos (by omega), strOfNums_size]; omega
  · rw [if_neg (show ¬ cls v = 0 by omega), if_neg (show ¬ cls v ≤ 3 by omega), if_pos h.2.2.2, ByteArray.size_append, s1, strOfNums_size]; simp
  · have := h2 4 v (by omega)
    rw [if_neg (show ¬ cls v = 0 by omega), if_neg (show ¬ cls v ≤ 3 by omega), if_neg (show ¬ cls v = 4 by omega), if_neg (show ¬ cls v = 12 by omega)]
    split
    · rw [s5]; omega
    · rw [ByteArray.size_append, ByteArray.size_append, s3, s4]; omega
  · have := h2 2 (v - 1114112) (by omega)
    rw [if_neg (show ¬ cls v = 0 by omega), if_neg (show ¬ cls v ≤ 3 by omega), if_neg (show ¬ cls v = 4 by omega), if_neg (show ¬ cls v = 5 by omega), if_pos (show cls v = 12 by omega), ByteArray.size_append, s2]; omega
theorem Encode_one (v : Int) (h : rightB v = true) (k : Nat) (hk : 3 ≤ k) : utf_Encode.f k [v] = some (strOfNums (encL v)) := by
  rw [utf_Encode_f [v] (by simp) k (by simp; omega), encAll_cons, if_pos h, encAll_nil, List.append_nil]
theorem show_Text_f (v : Int) (k : Nat) (hk : 10 ≤ k) : show_Text.f k v = some (txt v) := by
  obtain ⟨k, rfl⟩ : ∃ m, k = m + 1 := ⟨k - 1, by omega⟩
  have hs := txt_size v
  unfold show_Text.f
  rw [class_Of_f v _ (by omega), Option.bind_some]
  simp only [show_Text.j0]
  unfold txt at hs ⊢
  rcases cls_says v with h | h | h | h | h
  · rw [if_pos h.1, if_pos h.1]
  · have hE := Encode_one v h.1 k (by omega)
    rw [if_neg (show ¬ cls v = 0 by omega), if_neg (show ¬ cls v = 0 by omega), if_pos (show cls v ≤ 3 by omega), hE]
    rcases h.2.2.2 with h' | h' | h' <;> simp [h']
  · have h4 := h.2.2.2
    have hr : rightB (v + 64) = true := (rightB_iff _).2 (by omega)
    rw [show wrap64 (v + 64) = v + 64 by unfold wrap64; omega, Encode_one (v + 64) hr k (by omega)]
    have he : encL (v + 64) = [v + 64] := by unfold encL; rw [if_pos (by omega)]
    rw [he]
    simp [h4, strOfNums_size]
  · have h5 : ¬ cls v = 1 ∧ ¬ cls v = 2 ∧ ¬ cls v = 3 ∧ ¬ cls v = 0 ∧ ¬ cls v ≤ 3 ∧ ¬ cls v = 4 ∧ ¬ cls v = 12 := by omega
    have hz := laid_size 16 4 v ⟨#[]⟩ h.2.1
    rw [e0size] at hz
    rw [num_Hex_f v 4 h.2.1 (by omega) (by omega) (by omega)]
    by_cases h6 : cls v = 5
    · simp [h6]
    · simp only [h5, h6, if_false, beq_iff_eq, Option.bind_some]
      rw [if_pos (by omega), if_pos (by omega)]
  · have h5 : ¬ cls v = 1 ∧ ¬ cls v = 2 ∧ ¬ cls v = 3 ∧ ¬ cls v = 0 ∧ ¬ cls v ≤ 3 ∧ ¬ cls v = 4 ∧ ¬ cls v = 5 := by omega
    have hz := laid_size 16 2 (v - 1114112) ⟨#[]⟩ (by omega)
    rw [e0size] at hz
    rw [show wrap64 (v - 1114112) = v - 1114112 by unfold wrap64; omega, num_Hex_f (v - 1114112) 2 (by omega) (by omega) (by omega) (by omega)]
    have h12 := h.2.2.2
    simp only [h5, if_false, beq_iff_eq, Option.bind_some]
    rw [if_pos h12, if_pos h12, if_pos (by omega)]
theorem ref_Text_f (v : Int) (k : Nat) (hk : 60 ≤ k) : dactylref06_Text.f k v = some (txt v) := by
  unfold dactylref06_Text.f txt
  rw [ref_Of_f v _ (by omega), Option.bind_some]
  rcases cls_says v with h | h | h | h | h
  · rw [if_pos h.1, if_pos h.1]
  · rw [if_neg (show ¬ cls v = 0 by omega), if_neg (show ¬ cls v = 0 by omega), if_pos (show cls v ≤ 3 by omega), if_pos (show cls v ≤ 3 by omega), ref_Bytes_f v h.2.1 (by omega)]; rfl
  · have h4 := h.2.2.2
    rw [show wrap64 (v + 64) % 256 = v + 64 by unfold wrap64; omega]
    simp [h4, strOfNums_size]
  · have h5 : ¬ cls v = 0 ∧ ¬ cls v ≤ 3 ∧ ¬ cls v = 4 ∧ ¬ cls v = 12 := by omega
    have hz := laid_size 16 4 v ⟨#[]⟩ h.2.1
    rw [e0size] at hz
    rw [ref_Hex v 4 h.2.1 (by omega) (by omega) (by omega) k (by omega)]
    by_cases h6 : cls v = 5
    · simp [h6]
    · simp only [h5, h6, if_false, Option.bind_some]
      rw [if_pos (by omega), if_pos (by omega)]
  · have h5 : ¬ cls v = 0 ∧ ¬ cls v ≤ 3 ∧ ¬ cls v = 4 ∧ ¬ cls v = 5 := by omega
    have hz := laid_size 16 2 (v - 1114112) ⟨#[]⟩ (by omega)
    rw [e0size] at hz
    rw [show wrap64 (v - 1114112) = v - 1114112 by unfold wrap64; omega, ref_Hex (v - 1114112) 2 (by omega) (by omega) (by omega) (by omega) k (by omega)]
    have h12 := h.2.2.2
    simp only [h5, if_false, Option.bind_some]
    rw [if_pos h12, if_pos h12, if_pos (by omega)]

end Go.Proofs.Ytemoocoedibbpaa.X

namespace Go.Proofs.Ytemoocoedibbpaa.X
open Go.RowKit Go.Proofs.YtemoocoedibbpaaW.PrintWords Go.Proofs.YtemoocoedibbpaaW.PrintLast Go.Proofs.YtemoocoedibbpaaW.PrintMore
attribute [local go_sem] max2_int min2_int max_two min_two max_three min_three max_four min_four
set_option linter.unusedVariables false
set_option linter.unusedSimpArgs false

/-! ### dactylref06_Looks: function 29 -/
mutual
def dactylref06_Looks.j0 : Nat → Int → Int → Int → Int → Option (Int)
  | 0, _, _, _, _ => none
  | k + 1, x3, x4, x102000, x102001 => if x102001 = 2 then (dactylref06_Looks.j1 k x3 x4 true) else (if x102001 = 3 then (dactylref06_Looks.j1 k x3 x4 true) else (dactylref06_Looks.j1 k x3 x4 (x102001 == 4)))
def dactylref06_Looks.j1 : Nat → Int → Int → Bool → Option (Int)
  | 0, _, _, _ => none
  | k + 1, x3, x4, x22 => if x22 = true then (if x4 = 3 then (some (wrap64 ((wrap64 (x3 + 2)) + 4))) else (some (wrap64 (x3 + 2)))) else (if x4 = 3 then (some (wrap64 (x3 + 4))) else (some x3))
end
def dactylref06_Looks.f (k : Nat) (a0_0 : Int) (a0_1 : Int) : Option (Int) := (dactylref03_Of.f k a0_0).bind fun t102 => (if t102 > 3 then (dactylref06_Looks.j0 k 1 t102 a0_0 a0_1) else (dactylref06_Looks.j0 k 0 t102 a0_0 a0_1))
theorem dactylref06_Looks.mono_l : ∀ k, (∀ y0 y1 y2 y3, LeO (dactylref06_Looks.j0 k y0 y1 y2 y3) (dactylref06_Looks.j0 (k + 1) y0 y1 y2 y3)) ∧ (∀ y0 y1 y2, LeO (dactylref06_Looks.j1 k y0 y1 y2) (dactylref06_Looks.j1 (k + 1) y0 y1 y2))
  | 0 => ⟨fun _ _ _ _ r h => by simp [dactylref06_Looks.j0] at h, fun _ _ _ r h => by simp [dactylref06_Looks.j1] at h⟩
  | k + 1 => by
    obtain ⟨ih0, ih1⟩ := dactylref06_Looks.mono_l k
    refine ⟨?_, ?_⟩
    · intro y0 y1 y2 y3
      unfold dactylref06_Looks.j0
      repeat' first
      | (with_reducible exact ih0 _ _ _ _)
      | (with_reducible exact ih1 _ _ _)
      | (with_reducible exact dactylref03_Of.mono _ _)
      | (with_reducible exact LeO.refl _)
      | (with_reducible exact LeO.none _)
      | (with_reducible refine LeO.ite ?_ ?_)
      | (with_reducible refine LeO.bind ?_ (fun _ => ?_))
      | exact ih0 _ _ _ _
      | exact ih1 _ _ _
      | exact dactylref03_Of.mono _ _
      | exact LeO.none _
      | refine LeO.ite ?_ ?_
      | refine LeO.bind ?_ (fun _ => ?_)
    · intro y0 y1 y2
      unfold dactylref06_Looks.j1
      repeat' first
      | (with_reducible exact ih0 _ _ _ _)
      | (with_reducible exact ih1 _ _ _)
      | (with_reducible exact dactylref03_Of.mono _ _)
      | (with_reducible exact LeO.refl _)
      | (with_reducible exact LeO.none _)
      | (with_reducible refine LeO.ite ?_ ?_)
      | (with_reducible refine LeO.bind ?_ (fun _ => ?_))
      | exact ih0 _ _ _ _
      | exact ih1 _ _ _
      | exact dactylref03_Of.mono _ _
      | exact LeO.none _
      | refine LeO.ite ?_ ?_
      | refine LeO.bind ?_ (fun _ => ?_)
theorem dactylref06_Looks.mono : ∀ a0 a1 k, LeO (dactylref06_Looks.f k a0 a1) (dactylref06_Looks.f (k + 1) a0 a1) := by
  intro a0 a1 k
  obtain ⟨ih0, ih1⟩ := dactylref06_Looks.mono_l k
  unfold dactylref06_Looks.f
  repeat' first
      | (with_reducible exact ih0 _ _ _ _)
      | (with_reducible exact ih1 _ _ _)
      | (with_reducible exact dactylref03_Of.mono _ _)
      | (with_reducible exact LeO.refl _)
      | (with_reducible exact LeO.none _)
      | (with_reducible refine LeO.ite ?_ ?_)
      | (with_reducible refine LeO.bind ?_ (fun _ => ?_))
      | exact ih0 _ _ _ _
      | exact ih1 _ _ _
      | exact dactylref03_Of.mono _ _
      | exact LeO.none _
      | refine LeO.ite ?_ ?_
      | refine LeO.bind ?_ (fun _ => ?_)
set_option maxHeartbeats 8000000 in
set_option maxRecDepth 100000 in
theorem dactylref06_Looks.calls (k : Nat) (a0_0 : Int) (a0_1 : Int) (r : Int) (w : World) (h : dactylref06_Looks.f k a0_0 a0_1 = some r) :
    Calls Try.prog 29 #[.agg #[.int .i64 a0_0, .int .i64 a0_1]] w fun e w' => e = .returned (.int .i64 r) ∧ Below w.heap.size w w' := by
  have hu45 := Try.underlying45
  have HB := Aside0.mk (Below.refl w.heap.size w)
  have H : ((dactylref03_Of.f k a0_0).bind fun t102 => (if t102 > 3 then (dactylref06_Looks.j0 k 1 t102 a0_0 a0_1) else (dactylref06_Looks.j0 k 0 t102 a0_0 a0_1))) = some r := h
  clear h
  replace H := Option.bind_eq_some_iff.mp H
  obtain ⟨t102, A20, H⟩ := H
  replace H : (if t102 > 3 then (dactylref06_Looks.j0 k 1 t102 a0_0 a0_1) else (dactylref06_Looks.j0 k 0 t102 a0_0 a0_1)) = some r := H
  have A2 := Aside0.mk A20
  clear A20
  have HC3 := Aside0.mk H
  clear H
  go_enter Try.func29, Try.ntmps29
  go_upto_if 9 with (first | ((with_reducible refine gate_dst (N := 1) rfl ?_); refine box_event ?hg (N := 1) ?hd (cs := #[.int .i64 a0_0, .int .i64 a0_1]) (t := 45) ?hr ?_; (case hd => rfl); (case hg => rfl); (case hr => first | (go_simp; done) | (go_simp; rfl)); intro gb101 hg w4 hbox hb; have n0_ := Aside0.mk (below_step (by repeat (first | (with_reducible first | exact HB.out | apply below_alloc | apply pw_below_drewN | apply below_drew1) | exact HB.out)) hb); have n1_ := Aside0.mk (hbox); have n2_ := Aside0.mk ((by rw [hg]; exact (below_size (by repeat (first | (with_reducible first | exact HB.out | apply below_alloc | apply pw_below_drewN | apply below_drew1) | exact HB.out))) : w.heap.size ≤ gb101)); have n3_ := Aside0.mk ((by rw [hg]; exact (below_size (by repeat (first | (with_reducible first | exact HB.out | apply below_alloc | apply pw_below_drewN | apply below_drew1) | exact HB.out))) : w.heap.size ≤ gb101)); clear HB; have HB := n0_; have BK101 := n1_; have GW101 := n2_; have GE101 := n3_; clear n0_ n1_ n2_ n3_; clear hb hbox hg; have hcz5_0 : w4.cell? ⟨gb101, 0, none⟩ = some (.int .i64 a0_0) := (blk_cell BK101.out 0).trans rfl; have hcz5_1 : w4.cell? ⟨gb101, 1, none⟩ = some (.int .i64 a0_1) := (blk_cell BK101.out 1).trans rfl; have hfz5_0 := blk_frozen BK101.out 0; have hfz5_1 := blk_frozen BK101.out 1) | ((with_reducible refine gate_callee (f := 71) rfl ?_); refine goesL_ (some 7) rfl rfl Try.func71 (by kernel_rfl) rfl #[.int .i64 a0_0] rfl (by (try simp only [List.map_toArray, List.map_cons, List.map_nil]); first | done | rfl | (simp only [List.length_drop, List.length_take]; rfl)) ?_; (with_reducible refine (dactylref03_Of.calls k a0_0 t102 _ A2.out).mono ?_); rintro e w6 ⟨rfl, hb⟩; refine ⟨_, rfl, ?_⟩; have n0_ := Aside0.mk (blk_below (g := gb101) (o := .cells #[.int .i64 a0_0, .int .i64 a0_1] 45 (0, 0)) (by (with_reducible repeat (first | refine blk_drewN ?_ _ | refine blk_drew ?_ | refine blk_alloc ?_ _)); exact BK101.out) hb); have n1_ := Aside0.mk (below_step (by repeat (first | (with_reducible first | exact HB.out | apply below_alloc | apply pw_below_drewN | apply below_drew1 | refine below_set ?_ GE101.out) | exact HB.out)) hb); clear BK101; clear HB; have BK101 := n0_; have HB := n1_; clear n0_ n1_; (try clear hb); (try clear hb2); (try clear hk); (try clear hi)))
  (try simp only [Act.put, List.setIfInBounds_toArray, List.set_cons_zero, List.set_cons_succ])
  go_cut [3] (fun v3 wc => ∃ (kq : Nat) (x3_2 : Int), v3 = .int .i64 x3_2 ∧ Aside0 (dactylref06_Looks.j0 kq x3_2 t102 a0_0 a0_1 = some r) ∧ Aside0 (kq ≤ k) ∧ Aside0 (wc.heap[gb101]? = some (.cells #[.int .i64 a0_0, .int .i64 a0_1] 45 (0, 0))) ∧ Aside0 (Below w.heap.size w wc))
  case first =>
    have H := HC3.out
    clear HC3
    by_cases c7 : t102 > 3
    · rw [if_pos c7] at H
      have c7b0 : decide (3 < t102) = true := decide_eq_true c7
      clear c7
      (first | rw [c7b0] | (simp only [i64_w, i32_w]; rw [c7b0]) | skip)
      have H' := Aside0.mk H
      clear H
      go_wp2
      go_meet
      case rel => exact ⟨_, (1), (by first | rfl | (simp; done) | (simp [*]; done)), H', ⟨by first | omega | exact Nat.le_refl _⟩, ⟨by (with_reducible repeat (first | refine blk_drewN ?_ _ | refine blk_drew ?_ | refine blk_alloc ?_ _)); exact BK101.out⟩, ⟨by repeat (first | (with_reducible first | exact HB.out | apply below_alloc | apply pw_below_drewN | apply below_drew1 | refine below_set ?_ GE101.out) | exact HB.out)⟩⟩
    · rw [if_neg c7] at H
      have c7b0 : decide (3 < t102) = false := decide_eq_false c7
      clear c7
      (first | rw [c7b0] | (simp only [i64_w, i32_w]; rw [c7b0]) | skip)
      have H' := Aside0.mk H
      clear H
      go_wp2
      go_meet
      case rel => exact ⟨_, (0), (by first | rfl | (simp; done) | (simp [*]; done)), H', ⟨by first | omega | exact Nat.le_refl _⟩, ⟨by (with_reducible repeat (first | refine blk_drewN ?_ _ | refine blk_drew ?_ | refine blk_alloc ?_ _)); exact BK101.out⟩, ⟨by repeat (first | (with_reducible first | exact HB.out | apply below_alloc | apply pw_below_drewN | apply below_drew1 | refine below_set ?_ GE101.out) | exact HB.out)⟩⟩
  case rest =>
    clear HC3
    try clear c2
    try clear p2
    try clear c7
    try clear c7b0
    try clear hcz5_0
    try clear hcz5_1
    try clear hfz5_0
    try clear hfz5_1
    obtain ⟨kq, x3_2, rfl, HA, HJ2, BK101, HB⟩ := hcut
    cases kq with
    | zero => exact absurd HA.out (by simp [dactylref06_Looks.j0])
    | succ kj2 =>
      have H := HA.out
      clear HA
      simp only [dactylref06_Looks.j0] at H
      have HC8 := Aside0.mk H
      clear H
      go_upto_region 5 with (fail)
      go_cut [22] (fun v22 wc => ∃ (kq : Nat) (x22_7 : Bool), v22 = .bool x22_7 ∧ Aside0 (dactylref06_Looks.j1 kq x3_2 t102 x22_7 = some r) ∧ Aside0 (kq ≤ kj2) ∧ Aside0 (wc.heap[gb101]? = some (.cells #[.int .i64 a0_0, .int .i64 a0_1] 45 (0, 0))) ∧ Aside0 (Below w.heap.size w wc))
      case first =>
        have H := HC8.out
        clear HC8
        by_cases c9 : a0_1 = 2
        · rw [if_pos c9] at H
          have c9b0 : (a0_1 == 2) = true := beq_iff_eq.mpr c9
          have c9b1 : (a0_1 != 2) = false := bne_eq_false_iff_eq.mpr c9
          clear c9
          (first | rw [c9b0] | (simp only [i64_w, i32_w]; rw [c9b0]) | skip)
          have H' := Aside0.mk H
          clear H
          have hcz10_0 : wc.cell? ⟨gb101, 0, none⟩ = some (.int .i64 a0_0) := (blk_cell BK101.out 0).trans rfl
          have hcz10_1 : wc.cell? ⟨gb101, 1, none⟩ = some (.int .i64 a0_1) := (blk_cell BK101.out 1).trans rfl
          have hfz10_0 := blk_frozen BK101.out 0
          have hfz10_1 := blk_frozen BK101.out 1
          go_wp2
          go_meet
          case rel => exact ⟨_, (true), (by first | rfl | (simp; done) | (simp [*]; done)), H', ⟨by have := HJ2.out; first | omega | exact Nat.le_refl _⟩, ⟨by (with_reducible repeat (first | refine blk_drewN ?_ _ | refine blk_drew ?_ | refine blk_alloc ?_ _)); exact BK101.out⟩, ⟨by repeat (first | (with_reducible first | exact HB.out | apply below_alloc | apply pw_below_drewN | apply below_drew1 | refine below_set ?_ GE101.out) | exact HB.out)⟩⟩
        · rw [if_neg c9] at H
          have c9b0 : (a0_1 == 2) = false := beq_eq_false_iff_ne.mpr c9
          have c9b1 : (a0_1 != 2) = true := bne_iff_ne.mpr c9
          (first | rw [c9b0] | (simp only [i64_w, i32_w]; rw [c9b0]) | skip)
          by_cases c11 : a0_1 = 3
          · rw [if_pos c11] at H
            have c11b0 : (a0_1 == 3) = true := beq_iff_eq.mpr c11
            have c11b1 : (a0_1 != 3) = false := bne_eq_false_iff_eq.mpr c11
            clear c11
            have H' := Aside0.mk H
            clear H
            have hcz12_0 : wc.cell? ⟨gb101, 0, none⟩ = some (.int .i64 a0_0) := (blk_cell BK101.out 0).trans rfl
            have hcz12_1 : wc.cell? ⟨gb101, 1, none⟩ = some (.int .i64 a0_1) := (blk_cell BK101.out 1).trans rfl
            have hfz12_0 := blk_frozen BK101.out 0
            have hfz12_1 := blk_frozen BK101.out 1
            go_wp2
            go_meet
            case rel => exact ⟨_, (true), (by first | rfl | (simp; done) | (simp [*]; done)), H', ⟨by have := HJ2.out; first | omega | exact Nat.le_refl _⟩, ⟨by (with_reducible repeat (first | refine blk_drewN ?_ _ | refine blk_drew ?_ | refine blk_alloc ?_ _)); exact BK101.out⟩, ⟨by repeat (first | (with_reducible first | exact HB.out | apply below_alloc | apply pw_below_drewN | apply below_drew1 | refine below_set ?_ GE101.out) | exact HB.out)⟩⟩
          · rw [if_neg c11] at H
            have c11b0 : (a0_1 == 3) = false := beq_eq_false_iff_ne.mpr c11
            have c11b1 : (a0_1 != 3) = true := bne_iff_ne.mpr c11
            have H' := Aside0.mk H
            clear H
            have hcz13_0 : wc.cell? ⟨gb101, 0, none⟩ = some (.int .i64 a0_0) := (blk_cell BK101.out 0).trans rfl
            have hcz13_1 : wc.cell? ⟨gb101, 1, none⟩ = some (.int .i64 a0_1) := (blk_cell BK101.out 1).trans rfl
            have hfz13_0 := blk_frozen BK101.out 0
            have hfz13_1 := blk_frozen BK101.out 1
            go_wp2
            go_meet
            case rel => exact ⟨_, ((a0_1 == 4)), (by first | rfl | (simp; done) | (simp [*]; done)), H', ⟨by have := HJ2.out; first | omega | exact Nat.le_refl _⟩, ⟨by (with_reducible repeat (first | refine blk_drewN ?_ _ | refine blk_drew ?_ | refine blk_alloc ?_ _)); exact BK101.out⟩, ⟨by repeat (first | (with_reducible first | exact HB.out | apply below_alloc | apply pw_below_drewN | apply below_drew1 | refine below_set ?_ GE101.out) | exact HB.out)⟩⟩
      case rest =>
        clear HC8
        try clear c1
        try clear c2
        try clear p2
        try clear c7
        try clear c7b0
        try clear c9
        try clear c9b0
        try clear c9b1
        try clear c11
        try clear c11b0
        try clear c11b1
        try clear hcz10_0
        try clear hcz10_1
        try clear hcz12_0
        try clear hcz12_1
        try clear hcz13_0
        try clear hcz13_1
        try clear hcz5_0
        try clear hcz5_1
        try clear hfz10_0
        try clear hfz10_1
        try clear hfz12_0
        try clear hfz12_1
        try clear hfz13_0
        try clear hfz13_1
        try clear hfz5_0
        try clear hfz5_1
        try clear p2
        obtain ⟨kq, x22_7, rfl, HA, HJ7, BK101, HB⟩ := hcut
        cases kq with
        | zero => exact absurd HA.out (by simp [dactylref06_Looks.j1])
        | succ kj7 =>
          have H := HA.out
          clear HA
          simp only [dactylref06_Looks.j1] at H
          by_cases c14 : x22_7 = true
          · subst c14
            have H1 : (if t102 = 3 then (some (wrap64 ((wrap64 (x3_2 + 2)) + 4))) else (some (wrap64 (x3_2 + 2)))) = some r := by rw [if_pos rfl] at H; exact H
            clear H
            have H := H1
            clear H1
            by_cases c15 : t102 = 3
            · rw [if_pos c15] at H
              have c15b0 : (t102 == 3) = true := beq_iff_eq.mpr c15
              have c15b1 : (t102 != 3) = false := bne_eq_false_iff_eq.mpr c15
              clear c15
              obtain rfl := Option.some.inj H
              go_wp2
              go_ret
              exact ⟨by first | rfl | (simp [errW_none, errW_some] <;> rfl) | (simp [*, errW_none, errW_some] <;> rfl), by repeat (first | (with_reducible first | exact HB.out | apply below_alloc | apply pw_below_drewN | apply below_drew1 | refine below_set ?_ GE101.out) | exact HB.out)⟩
            · rw [if_neg c15] at H
              have c15b0 : (t102 == 3) = false := beq_eq_false_iff_ne.mpr c15
              have c15b1 : (t102 != 3) = true := bne_iff_ne.mpr c15
              obtain rfl := Option.some.inj H
              go_wp2
              go_ret
              exact ⟨by first | rfl | (simp [errW_none, errW_some] <;> rfl) | (simp [*, errW_none, errW_some] <;> rfl), by repeat (first | (with_reducible first | exact HB.out | apply below_alloc | apply pw_below_drewN | apply below_drew1 | refine below_set ?_ GE101.out) | exact HB.out)⟩
          · replace c14 := Bool.eq_false_iff.mpr c14
            subst c14
            have H1 : (if t102 = 3 then (some (wrap64 (x3_2 + 4))) else (some x3_2)) = some r := by rw [if_neg (show ¬ (false = true) by decide)] at H; exact H
            clear H
            have H := H1
            clear H1
            by_cases c16 : t102 = 3
            · rw [if_pos c16] at H
              have c16b0 : (t102 == 3) = true := beq_iff_eq.mpr c16
              have c16b1 : (t102 != 3) = false := bne_eq_false_iff_eq.mpr c16
              clear c16
              obtain rfl := Option.some.inj H
              go_wp2
              go_ret
              exact ⟨by first | rfl | (simp [errW_none, errW_some] <;> rfl) | (simp [*, errW_none, errW_some] <;> rfl), by repeat (first | (with_reducible first | exact HB.out | apply below_alloc | apply pw_below_drewN | apply below_drew1 | refine below_set ?_ GE101.out) | exact HB.out)⟩
            · rw [if_neg c16] at H
              have c16b0 : (t102 == 3) = false := beq_eq_false_iff_ne.mpr c16
              have c16b1 : (t102 != 3) = true := bne_iff_ne.mpr c16
              obtain rfl := Option.some.inj H
              go_wp2
              go_ret
              exact ⟨by first | rfl | (simp [errW_none, errW_some] <;> rfl) | (simp [*, errW_none, errW_some] <;> rfl), by repeat (first | (with_reducible first | exact HB.out | apply below_alloc | apply pw_below_drewN | apply below_drew1 | refine below_set ?_ GE101.out) | exact HB.out)⟩

end Go.Proofs.Ytemoocoedibbpaa.X

namespace Go.Proofs.Ytemoocoedibbpaa.X
open Go.RowKit Go.Proofs.YtemoocoedibbpaaW.PrintWords Go.Proofs.YtemoocoedibbpaaW.PrintLast Go.Proofs.YtemoocoedibbpaaW.PrintMore
attribute [local go_sem] max2_int min2_int max_two min_two max_three min_three max_four min_four
set_option linter.unusedVariables false
set_option linter.unusedSimpArgs false

/-! ### dactylref06_Cells: function 26 -/
def dactylref06_Cells.l0 : Nat → Int → Int → ByteArray → List (S93) → Int → Int → Int → Option ((List (S93)))
  | 0, _, _, _, _, _, _, _ => none
  | k + 1, x1, x5, x8, x9, x10, x102000, x102001 => if x10 < (x8.size : Int) then (if 0 ≤ x10 then (if x9.length < 3518437208883 then (dactylref06_Cells.l0 k x1 x5 x8 (x9 ++ [(⟨wrap64 (bt x8 x10), x5, x1, x102000, x10⟩ : S93)]) (wrap64 (x10 + 1)) x102000 x102001) else (none)) else (none)) else (some x9)
def dactylref06_Cells.f (k : Nat) (a0_0 : Int) (a0_1 : Int) (a1 : Int) : Option ((List (S93))) := (dactylref06_Looks.f k a0_0 a0_1).bind fun t102 => ((dactylref03_Of.f k a0_0).bind fun t103 => (if t103 = 0 then (some ([] : List (S93))) else (if t103 ≤ 3 then ((some (([(⟨a0_0, t102, a1, a0_0, 0⟩ : S93)] : List (S93)) : List (S93))).bind fun y104 => (if t103 = 2 then (if y104.length < 3518437208883 then (some (y104 ++ [(⟨(-1), t102, a1, a0_0, 1⟩ : S93)])) else (none)) else (some y104))) else ((dactylref06_Text.f k a0_0).bind fun t110 => (dactylref06_Cells.l0 k a1 t102 t110 ([] : List (S93)) 0 a0_0 a0_1)))))
theorem dactylref06_Cells.mono_l : ∀ k, (∀ y0 y1 y2 y3 y4 y5 y6, LeO (dactylref06_Cells.l0 k y0 y1 y2 y3 y4 y5 y6) (dactylref06_Cells.l0 (k + 1) y0 y1 y2 y3 y4 y5 y6))
  | 0 => fun _ _ _ _ _ _ _ r h => by simp [dactylref06_Cells.l0] at h
  | k + 1 => by
    have ih0 := dactylref06_Cells.mono_l k
    · intro y0 y1 y2 y3 y4 y5 y6
      unfold dactylref06_Cells.l0
      repeat' first
      | (with_reducible exact ih0 _ _ _ _ _ _ _)
      | (with_reducible exact dactylref03_Of.mono _ _)
      | (with_reducible exact dactylref06_Looks.mono _ _ _)
      | (with_reducible exact dactylref06_Text.mono _ _)
      | (with_reducible exact LeO.refl _)
      | (with_reducible exact LeO.none _)
      | (with_reducible refine LeO.ite ?_ ?_)
      | (with_reducible refine LeO.bind ?_ (fun _ => ?_))
      | exact ih0 _ _ _ _ _ _ _
      | exact dactylref03_Of.mono _ _
      | exact dactylref06_Looks.mono _ _ _
      | exact dactylref06_Text.mono _ _
      | exact LeO.none _
      | refine LeO.ite ?_ ?_
      | refine LeO.bind ?_ (fun _ => ?_)
theorem dactylref06_Cells.mono : ∀ a0 a1 a2 k, LeO (dactylref06_Cells.f k a0 a1 a2) (dactylref06_Cells.f (k + 1) a0 a1 a2) := by
  intro a0 a1 a2 k
  have ih0 := dactylref06_Cells.mono_l k
  unfold dactylref06_Cells.f
  repeat' first
      | (with_reducible exact ih0 _ _ _ _ _ _ _)
      | (with_reducible exact dactylref03_Of.mono _ _)
      | (with_reducible exact dactylref06_Looks.mono _ _ _)
      | (with_reducible exact dactylref06_Text.mono _ _)
      | (with_reducible exact LeO.refl _)
      | (with_reducible exact LeO.none _)
      | (with_reducible refine LeO.ite ?_ ?_)
      | (with_reducible refine LeO.bind ?_ (fun _ => ?_))
      | exact ih0 _ _ _ _ _ _ _
      | exact dactylref03_Of.mono _ _
      | exact dactylref06_Looks.mono _ _ _
      | exact dactylref06_Text.mono _ _
      | exact LeO.none _
      | refine LeO.ite ?_ ?_
      | refine LeO.bind ?_ (fun _ => ?_)
def dactylref06_Cells.T15 : Bool × List (List Nat × List Nat) := (true, [([], []), ([], []), ([], []), ([1, 2], [1, 2]), ([3], [3]), ([], []), ([], []), ([], []), ([7], [7]), ([], []), ([4, 5, 6, 8, 9], [4, 5, 6, 8, 9]), ([10], [10]), ([0, 11], [0, 11]), ([12, 12, 0, 1, 2, 3, 4, 5, 6, 7, 8, 9, 10, 11, 12], [0, 12])])
def dactylref06_Cells.B15 : List Nat := [0, 0, 0, 6, 14, 0, 0, 0, 128, 0, 1022, 2046, 4095, 8191]
theorem dactylref06_Cells.tab15 : rtab .any (opsOf Try.f26 15) = dactylref06_Cells.T15 := by kernel_rfl
theorem dactylref06_Cells.bits15 : waitsOk dactylref06_Cells.T15.2 dactylref06_Cells.B15 = true := by kernel_rfl
set_option maxHeartbeats 8000000 in
set_option maxRecDepth 100000 in
theorem dactylref06_Cells.calls (k : Nat) (a0_0 : Int) (a0_1 : Int) (a1 : Int) (r : List (S93)) (w : World) (h : dactylref06_Cells.f k a0_0 a0_1 a1 = some r) :
    Calls Try.prog 26 #[.agg #[.int .i64 a0_0, .int .i64 a0_1], .int .i64 a1] w fun e w' => ∃ v0_ : Value, e = .returned (v0_) ∧ Kd.R k93 93 w' w.heap.size (fun _ => True) v0_ r ∧ Below w.heap.size w w' := by
  have hu45 := Try.underlying45
  have hu93 := Try.underlying93
  have HB := Aside0.mk (Below.refl w.heap.size w)
  have H : ((dactylref06_Looks.f k a0_0 a0_1).bind fun t102 => ((dactylref03_Of.f k a0_0).bind fun t103 => (if t103 = 0 then (some ([] : List (S93))) else (if t103 ≤ 3 then ((some (([(⟨a0_0, t102, a1, a0_0, 0⟩ : S93)] : List (S93)) : List (S93))).bind fun y104 => (if t103 = 2 then (if y104.length < 3518437208883 then (some (y104 ++ [(⟨(-1), t102, a1, a0_0, 1⟩ : S93)])) else (none)) else (some y104))) else ((dactylref06_Text.f k a0_0).bind fun t110 => (dactylref06_Cells.l0 k a1 t102 t110 ([] : List (S93)) 0 a0_0 a0_1)))))) = some r := h
  clear h
  replace H := Option.bind_eq_some_iff.mp H
  obtain ⟨t102, A30, H⟩ := H
  replace H : ((dactylref03_Of.f k a0_0).bind fun t103 => (if t103 = 0 then (some ([] : List (S93))) else (if t103 ≤ 3 then ((some (([(⟨a0_0, t102, a1, a0_0, 0⟩ : S93)] : List (S93)) : List (S93))).bind fun y104 => (if t103 = 2 then (if y104.length < 3518437208883 then (some (y104 ++ [(⟨(-1), t102, a1, a0_0, 1⟩ : S93)])) else (none)) else (some y104))) else ((dactylref06_Text.f k a0_0).bind fun t110 => (dactylref06_Cells.l0 k a1 t102 t110 ([] : List (S93)) 0 a0_0 a0_1))))) = some r := H
  have A3 := Aside0.mk A30
  clear A30
  replace H := Option.bind_eq_some_iff.mp H
  obtain ⟨t103, A40, H⟩ := H
  replace H : (if t103 = 0 then (some ([] : List (S93))) else (if t103 ≤ 3 then ((some (([(⟨a0_0, t102, a1, a0_0, 0⟩ : S93)] : List (S93)) : List (S93))).bind fun y104 => (if t103 = 2 then (if y104.length < 3518437208883 then (some (y104 ++ [(⟨(-1), t102, a1, a0_0, 1⟩ : S93)])) else (none)) else (some y104))) else ((dactylref06_Text.f k a0_0).bind fun t110 => (dactylref06_Cells.l0 k a1 t102 t110 ([] : List (S93)) 0 a0_0 a0_1)))) = some r := H
  have A4 := Aside0.mk A40
  clear A40
  by_cases c5 : t103 = 0
  · rw [if_pos c5] at H
    have c5b0 : (t103 == 0) = true := beq_iff_eq.mpr c5
    have c5b1 : (t103 != 0) = false := bne_eq_false_iff_eq.mpr c5
    clear c5
    obtain rfl := Option.some.inj H
    go_enter Try.func26, Try.ntmps26
    go_wp2_with (first | ((with_reducible refine gate_dst (N := 2) rfl ?_); refine box_event ?hg (N := 2) ?hd (cs := #[.int .i64 a0_0, .int .i64 a0_1]) (t := 45) ?hr ?_; (case hd => rfl); (case hg => rfl); (case hr => first | (go_simp; done) | (go_simp; rfl)); intro gb101 hg w6 hbox hb; have n0_ := Aside0.mk (below_step (by repeat (first | (with_reducible first | exact HB.out | apply below_alloc | apply pw_below_drewN | apply below_drew1) | exact HB.out)) hb); have n1_ := Aside0.mk (hbox); have n2_ := Aside0.mk ((by rw [hg]; exact (below_size (by repeat (first | (with_reducible first | exact HB.out | apply below_alloc | apply pw_below_drewN | apply below_drew1) | exact HB.out))) : w.heap.size ≤ gb101)); have n3_ := Aside0.mk ((by rw [hg]; exact (below_size (by repeat (first | (with_reducible first | exact HB.out | apply below_alloc | apply pw_below_drewN | apply below_drew1) | exact HB.out))) : w.heap.size ≤ gb101)); clear HB; have HB := n0_; have BK101 := n1_; have GW101 := n2_; have GE101 := n3_; clear n0_ n1_ n2_ n3_; clear hb hbox hg; have hcz7_0 : w6.cell? ⟨gb101, 0, none⟩ = some (.int .i64 a0_0) := (blk_cell BK101.out 0).trans rfl; have hcz7_1 : w6.cell? ⟨gb101, 1, none⟩ = some (.int .i64 a0_1) := (blk_cell BK101.out 1).trans rfl; have hfz7_0 := blk_frozen BK101.out 0; have hfz7_1 := blk_frozen BK101.out 1) | ((with_reducible refine gate_callee (f := 29) rfl ?_); refine goesL_ (some 12) rfl rfl Try.func29 (by kernel_rfl) rfl #[.agg #[.int .i64 a0_0, .int .i64 a0_1]] rfl (by (try simp only [List.map_toArray, List.map_cons, List.map_nil]); first | done | rfl | (simp only [List.length_drop, List.length_take]; rfl)) ?_; (with_reducible refine (dactylref06_Looks.calls k a0_0 a0_1 t102 _ A3.out).mono ?_); rintro e w8 ⟨rfl, hb⟩; refine ⟨_, rfl, ?_⟩; have n0_ := Aside0.mk (blk_below (g := gb101) (o := .cells #[.int .i64 a0_0, .int .i64 a0_1] 45 (0, 0)) (by (with_reducible repeat (first | refine blk_drewN ?_ _ | refine blk_drew ?_ | refine blk_alloc ?_ _)); exact BK101.out) hb); have n1_ := Aside0.mk (below_step (by repeat (first | (with_reducible first | exact HB.out | apply below_alloc | apply pw_below_drewN | apply below_drew1 | refine below_set ?_ GE101.out) | exact HB.out)) hb); clear BK101; clear HB; have BK101 := n0_; have HB := n1_; clear n0_ n1_; (try clear hb); (try clear hb2); (try clear hk); (try clear hi); have hcz9_0 : w8.cell? ⟨gb101, 0, none⟩ = some (.int .i64 a0_0) := (blk_cell BK101.out 0).trans rfl; have hcz9_1 : w8.cell? ⟨gb101, 1, none⟩ = some (.int .i64 a0_1) := (blk_cell BK101.out 1).trans rfl; have hfz9_0 := blk_frozen BK101.out 0; have hfz9_1 := blk_frozen BK101.out 1) | ((with_reducible refine gate_callee (f := 71) rfl ?_); refine goesL_ (some 15) rfl rfl Try.func71 (by kernel_rfl) rfl #[.int .i64 a0_0] rfl (by (try simp only [List.map_toArray, List.map_cons, List.map_nil]); first | done | rfl | (simp only [List.length_drop, List.length_take]; rfl)) ?_; (with_reducible refine (dactylref03_Of.calls k a0_0 t103 _ A4.out).mono ?_); rintro e w10 ⟨rfl, hb⟩; refine ⟨_, rfl, ?_⟩; have n0_ := Aside0.mk (blk_below (g := gb101) (o := .cells #[.int .i64 a0_0, .int .i64 a0_1] 45 (0, 0)) (by (with_reducible repeat (first | refine blk_drewN ?_ _ | refine blk_drew ?_ | refine blk_alloc ?_ _)); exact BK101.out) hb); have n1_ := Aside0.mk (below_step (by repeat (first | (with_reducible first | exact HB.out | apply below_alloc | apply pw_below_drewN | apply below_drew1 | refine below_set ?_ GE101.out) | exact HB.out)) hb); clear BK101; clear HB; have BK101 := n0_; have HB := n1_; clear n0_ n1_; (try clear hb); (try clear hb2); (try clear hk); (try clear hi)))
    go_ret
    exact ⟨_, by first | rfl | (simp [errW_none, errW_some] <;> rfl) | (simp [*, errW_none, errW_some] <;> rfl), by first | exact Kd.R_nil _ _ _ _ _ | exact Kd.N_nil _ _ _ _ _ | exact Kd.V_nil _ _ _ _ _ | exact Kd.Q_nil _ _ _ _ _ | exact Kd.S_nil _ _ _ _ _, by repeat (first | (with_reducible first | exact HB.out | apply below_alloc | apply pw_below_drewN | apply below_drew1 | refine below_set ?_ GE101.out) | exact HB.out)⟩
  · rw [if_neg c5] at H
    have c5b0 : (t103 == 0) = false := beq_eq_false_iff_ne.mpr c5
    have c5b1 : (t103 != 0) = true := bne_iff_ne.mpr c5
    by_cases c11 : t103 ≤ 3
    · rw [if_pos c11] at H
      have c11b0 : decide (t103 ≤ 3) = true := decide_eq_true c11
      clear c11
      obtain ⟨y104, hy104⟩ : ∃ y_ : List (S93), y_ = (([(⟨a0_0, t102, a1, a0_0, 0⟩ : S93)] : List (S93))) := ⟨_, rfl⟩
      replace H : (if t103 = 2 then (if y104.length < 3518437208883 then (some (y104 ++ [(⟨(-1), t102, a1, a0_0, 1⟩ : S93)])) else (none)) else (some y104)) = some r := by first | (rw [hy104]; with_reducible exact H) | (have H2_ := (Option.bind_some _ _).symm.trans H; rw [hy104]; with_reducible exact H2_) | (have H2_ := (Option.bind_some _ _).symm.trans H; with_reducible exact H2_) | with_reducible exact H | (rw [hy104]; exact H) | exact H
      have Ny104 := Aside0.mk hy104
      clear hy104
      by_cases c12 : t103 = 2
      · rw [if_pos c12] at H
        have c12b0 : (t103 == 2) = true := beq_iff_eq.mpr c12
        have c12b1 : (t103 != 2) = false := bne_eq_false_iff_eq.mpr c12
        clear c12
        by_cases c13 : y104.length < 3518437208883
        · rw [if_pos c13] at H
          have LMc13 := Aside0.mk c13
          clear c13
          obtain ⟨y107, hy107⟩ : ∃ y_ : List (S93), y_ = (y104 ++ [(⟨(-1), t102, a1, a0_0, 1⟩ : S93)]) := ⟨_, rfl⟩
          replace H : (some y107) = some r := by first | (rw [hy107]; with_reducible exact H) | (have H2_ := (Option.bind_some _ _).symm.trans H; rw [hy107]; with_reducible exact H2_) | (have H2_ := (Option.bind_some _ _).symm.trans H; with_reducible exact H2_) | with_reducible exact H | (rw [hy107]; exact H) | exact H
          have Ny107 := Aside0.mk hy107
          clear hy107
          obtain rfl := Option.some.inj H
          go_enter Try.func26, Try.ntmps26
          go_wp2_with (first | ((with_reducible refine gate_dst (N := 2) rfl ?_); refine box_event ?hg (N := 2) ?hd (cs := #[.int .i64 a0_0, .int .i64 a0_1]) (t := 45) ?hr ?_; (case hd => rfl); (case hg => rfl); (case hr => first | (go_simp; done) | (go_simp; rfl)); intro gb101 hg w14 hbox hb; have n0_ := Aside0.mk (below_step (by repeat (first | (with_reducible first | exact HB.out | apply below_alloc | apply pw_below_drewN | apply below_drew1) | exact HB.out)) hb); have n1_ := Aside0.mk (hbox); have n2_ := Aside0.mk ((by rw [hg]; exact (below_size (by repeat (first | (with_reducible first | exact HB.out | apply below_alloc | apply pw_below_drewN | apply below_drew1) | exact HB.out))) : w.heap.size ≤ gb101)); have n3_ := Aside0.mk ((by rw [hg]; exact (below_size (by repeat (first | (with_reducible first | exact HB.out | apply below_alloc | apply pw_below_drewN | apply below_drew1) | exact HB.out))) : w.heap.size ≤ gb101)); clear HB; have HB := n0_; have BK101 := n1_; have GW101 := n2_; have GE101 := n3_; clear n0_ n1_ n2_ n3_; clear hb hbox hg; have hcz15_0 : w14.cell? ⟨gb101, 0, none⟩ = some (.int .i64 a0_0) := (blk_cell BK101.out 0).trans rfl; have hcz15_1 : w14.cell? ⟨gb101, 1, none⟩ = some (.int .i64 a0_1) := (blk_cell BK101.out 1).trans rfl; have hfz15_0 := blk_frozen BK101.out 0; have hfz15_1 := blk_frozen BK101.out 1) | ((with_reducible refine gate_callee (f := 29) rfl ?_); refine goesL_ (some 12) rfl rfl Try.func29 (by kernel_rfl) rfl #[.agg #[.int .i64 a0_0, .int .i64 a0_1]] rfl (by (try simp only [List.map_toArray, List.map_cons, List.map_nil]); first | done | rfl | (simp only [List.length_drop, List.length_take]; rfl)) ?_; (with_reducible refine (dactylref06_Looks.calls k a0_0 a0_1 t102 _ A3.out).mono ?_); rintro e w16 ⟨rfl, hb⟩; refine ⟨_, rfl, ?_⟩; have n0_ := Aside0.mk (blk_below (g := gb101) (o := .cells #[.int .i64 a0_0, .int .i64 a0_1] 45 (0, 0)) (by (with_reducible repeat (first | refine blk_drewN ?_ _ | refine blk_drew ?_ | refine blk_alloc ?_ _)); exact BK101.out) hb); have n1_ := Aside0.mk (below_step (by repeat (first | (with_reducible first | exact HB.out | apply below_alloc | apply pw_below_drewN | apply below_drew1 | refine below_set ?_ GE101.out) | exact HB.out)) hb); clear BK101; clear HB; have BK101 := n0_; have HB := n1_; clear n0_ n1_; (try clear hb); (try clear hb2); (try clear hk); (try clear hi); have hcz17_0 : w16.cell? ⟨gb101, 0, none⟩ = some (.int .i64 a0_0) := (blk_cell BK101.out 0).trans rfl; have hcz17_1 : w16.cell? ⟨gb101, 1, none⟩ = some (.int .i64 a0_1) := (blk_cell BK101.out 1).trans rfl; have hfz17_0 := blk_frozen BK101.out 0; have hfz17_1 := blk_frozen BK101.out 1) | ((with_reducible refine gate_callee (f := 71) rfl ?_); refine goesL_ (some 15) rfl rfl Try.func71 (by kernel_rfl) rfl #[.int .i64 a0_0] rfl (by (try simp only [List.map_toArray, List.map_cons, List.map_nil]); first | done | rfl | (simp only [List.length_drop, List.length_take]; rfl)) ?_; (with_reducible refine (dactylref03_Of.calls k a0_0 t103 _ A4.out).mono ?_); rintro e w18 ⟨rfl, hb⟩; refine ⟨_, rfl, ?_⟩; have n0_ := Aside0.mk (blk_below (g := gb101) (o := .cells #[.int .i64 a0_0, .int .i64 a0_1] 45 (0, 0)) (by (with_reducible repeat (first | refine blk_drewN ?_ _ | refine blk_drew ?_ | refine blk_alloc ?_ _)); exact BK101.out) hb); have n1_ := Aside0.mk (below_step (by repeat (first | (with_reducible first | exact HB.out | apply below_alloc | apply pw_below_drewN | apply below_drew1 | refine below_set ?_ GE101.out) | exact HB.out)) hb); clear BK101; clear HB; have BK101 := n0_; have HB := n1_; clear n0_ n1_; (try clear hb); (try clear hb2); (try clear hk); (try clear hi); have hcz19_0 : w18.cell? ⟨gb101, 0, none⟩ = some (.int .i64 a0_0) := (blk_cell BK101.out 0).trans rfl; have hcz19_1 : w18.cell? ⟨gb101, 1, none⟩ = some (.int .i64 a0_1) := (blk_cell BK101.out 1).trans rfl; have hfz19_0 := blk_frozen BK101.out 0; have hfz19_1 := blk_frozen BK101.out 1) | ((with_reducible refine gate_dst (N := 27) rfl ?_); refine Kd.R_lit k93 _ 93 ?hg (N := 27) ?hd (xs := ([(⟨a0_0, t102, a1, a0_0, 0⟩ : S93)] : List (S93))) (inner := [.int .i64 a0_0, .int .i64 t102, .int .i64 a1, .int .i64 a0_0, .int .i64 0]) (ok := fun _ => True) (okp := fun _ => True) ?hr ?hp (fun _ hk => hk) trivial (Below.refl _ _) (Nat.le_refl _) (by simp) ?_; (case hd => rfl); (case hg => rfl); (case hr => first | (go_simp; done) | (go_simp; rfl)); (case hp => exact (Reps.c5 (show Kd.M k93 _ _ _ (⟨a0_0, t102, a1, a0_0, 0⟩ : S93) [.int .i64 a0_0, .int .i64 t102, .int .i64 a1, .int .i64 a0_0, .int .i64 0] from (k93_mkM _ _ _ (⟨a0_0, t102, a1, a0_0, 0⟩ : S93) )) (Reps.none _ _))); intro v105 w20 ho21 hb hg_ hnew_; clear hg_ hnew_; (first | rw [← Ny104.out] at ho21 | (simp only [Int.reduceToNat] at ho21; rw [← Ny104.out] at ho21)); have n0_ := Aside0.mk (Kd.R_lower ho21 (below_size (by repeat (first | (with_reducible first | exact HB.out | apply below_alloc | apply pw_below_drewN | apply below_drew1 | refine below_set ?_ GE101.out) | exact HB.out)))); have n1_ := Aside0.mk (blk_below (g := gb101) (o := .cells #[.int .i64 a0_0, .int .i64 a0_1] 45 (0, 0)) (by (with_reducible repeat (first | refine blk_drewN ?_ _ | refine blk_drew ?_ | refine blk_alloc ?_ _)); exact BK101.out) hb); have n2_ := Aside0.mk (below_step (by repeat (first | (with_reducible first | exact HB.out | apply below_alloc | apply pw_below_drewN | apply below_drew1 | refine below_set ?_ GE101.out) | exact HB.out)) hb); clear BK101; clear HB; have HO106 := n0_; have BK101 := n1_; have HB := n2_; clear n0_ n1_ n2_; clear hb ho21; have hcz22_0 : w20.cell? ⟨gb101, 0, none⟩ = some (.int .i64 a0_0) := (blk_cell BK101.out 0).trans rfl; have hcz22_1 : w20.cell? ⟨gb101, 1, none⟩ = some (.int .i64 a0_1) := (blk_cell BK101.out 1).trans rfl; have hfz22_0 := blk_frozen BK101.out 0; have hfz22_1 := blk_frozen BK101.out 1) | ((with_reducible refine gate_builtin (b := .append) (xs := #[.tmp 30, .tmp 36]) rfl ?_); at_builtin; refine Kd.R_append k93 (w0 := w) w.heap.size rfl (.tmp 30) (.tmp 36) 46 93 (.agg #[(.int .i64 0), (.int .i64 0), (.int .i64 0), (.int .i64 0), (.int .i64 0)]) 40 rfl Try.underlying46 info93 rfl (by decide) (by omega) v105 y104 (⟨(-1), t102, a1, a0_0, 1⟩ : S93) [.int .i64 (-1), .int .i64 t102, .int .i64 a1, .int .i64 a0_0, .int .i64 1] (fun _ => True) (fun _ => False) rfl rfl ?aP (fun _ hk => hk.elim) ?aF ?aO ?aB ?aS ?aL ?_; (case aP => exact k93_mkM _ _ _ (⟨(-1), t102, a1, a0_0, 1⟩ : S93)); (case aB => exact (by repeat (first | (with_reducible first | exact HB.out | apply below_alloc | apply pw_below_drewN | apply below_drew1 | refine below_set ?_ GE101.out) | exact HB.out))); (case aF => exact (fun _ _ => trivial)); (case aO => exact (by (with_reducible repeat (first | apply Kd.R_alloc | apply Kd.R_drewN | apply Kd.R_drew)); exact HO106.out)); (case aS => exact (below_size (by repeat (first | (with_reducible first | exact HB.out | apply below_alloc | apply pw_below_drewN | apply below_drew1 | refine below_set ?_ GE101.out) | exact HB.out)))); (case aL => have := LMc13.out; omega); intro v108 w23 ho hb hg hat; rw [← Ny107.out] at ho; have n0_ := Aside0.mk (blk_grown (g := gb101) (o := .cells #[.int .i64 a0_0, .int .i64 a0_1] 45 (0, 0)) (by (with_reducible repeat (first | refine blk_drewN ?_ _ | refine blk_drew ?_ | refine blk_alloc ?_ _)); exact BK101.out) hg (Kd.R_ne HO106.out BK101.out (by decide))); have n1_ := Aside0.mk (hb); have n2_ := Aside0.mk (ho); clear BK101; clear HB; clear HO106; have BK101 := n0_; have HB := n1_; have HO109 := n2_; clear n0_ n1_ n2_; clear ho hb hg hat))
          go_ret
          exact ⟨_, by first | rfl | (simp [errW_none, errW_some] <;> rfl) | (simp [*, errW_none, errW_some] <;> rfl), by (with_reducible repeat (first | apply Kd.R_alloc | apply Kd.R_drewN | apply Kd.R_drew)); exact HO109.out, by repeat (first | (with_reducible first | exact HB.out | apply below_alloc | apply pw_below_drewN | apply below_drew1 | refine below_set ?_ GE101.out) | exact HB.out)⟩
        · rw [if_neg c13] at H
          exact absurd H (by simp)
      · rw [if_neg c12] at H
        have c12b0 : (t103 == 2) = false := beq_eq_false_iff_ne.mpr c12
        have c12b1 : (t103 != 2) = true := bne_iff_ne.mpr c12
        obtain rfl := Option.some.inj H
        go_enter Try.func26, Try.ntmps26
        go_wp2_with (first | ((with_reducible refine gate_dst (N := 2) rfl ?_); refine box_event ?hg (N := 2) ?hd (cs := #[.int .i64 a0_0, .int .i64 a0_1]) (t := 45) ?hr ?_; (case hd => rfl); (case hg => rfl); (case hr => first | (go_simp; done) | (go_simp; rfl)); intro gb101 hg w24 hbox hb; have n0_ := Aside0.mk (below_step (by repeat (first | (with_reducible first | exact HB.out | apply below_alloc | apply pw_below_drewN | apply below_drew1) | exact HB.out)) hb); have n1_ := Aside0.mk (hbox); have n2_ := Aside0.mk ((by rw [hg]; exact (below_size (by repeat (first | (with_reducible first | exact HB.out | apply below_alloc | apply pw_below_drewN | apply below_drew1) | exact HB.out))) : w.heap.size ≤ gb101)); have n3_ := Aside0.mk ((by rw [hg]; exact (below_size (by repeat (first | (with_reducible first | exact HB.out | apply below_alloc | apply pw_below_drewN | apply below_drew1) | exact HB.out))) : w.heap.size ≤ gb101)); clear HB; have HB := n0_; have BK101 := n1_; have GW101 := n2_; have GE101 := n3_; clear n0_ n1_ n2_ n3_; clear hb hbox hg; have hcz25_0 : w24.cell? ⟨gb101, 0, none⟩ = some (.int .i64 a0_0) := (blk_cell BK101.out 0).trans rfl; have hcz25_1 : w24.cell? ⟨gb101, 1, none⟩ = some (.int .i64 a0_1) := (blk_cell BK101.out 1).trans rfl; have hfz25_0 := blk_frozen BK101.out 0; have hfz25_1 := blk_frozen BK101.out 1) | ((with_reducible refine gate_callee (f := 29) rfl ?_); refine goesL_ (some 12) rfl rfl Try.func29 (by kernel_rfl) rfl #[.agg #[.int .i64 a0_0, .int .i64 a0_1]] rfl (by (try simp only [List.map_toArray, List.map_cons, List.map_nil]); first | done | rfl | (simp only [List.length_drop, List.length_take]; rfl)) ?_; (with_reducible refine (dactylref06_Looks.calls k a0_0 a0_1 t102 _ A3.out).mono ?_); rintro e w26 ⟨rfl, hb⟩; refine ⟨_, rfl, ?_⟩; have n0_ := Aside0.mk (blk_below (g := gb101) (o := .cells #[.int .i64 a0_0, .int .i64 a0_1] 45 (0, 0)) (by (with_reducible repeat (first | refine blk_drewN ?_ _ | refine blk_drew ?_ | refine blk_alloc ?_ _)); exact BK101.out) hb); have n1_ := Aside0.mk (below_step (by repeat (first | (with_reducible first | exact HB.out | apply below_alloc | apply pw_below_drewN | apply below_drew1 | refine below_set ?_ GE101.out) | exact HB.out)) hb); clear BK101; clear HB; have BK101 := n0_; have HB := n1_; clear n0_ n1_; (try clear hb); (try clear hb2); (try clear hk); (try clear hi); have hcz27_0 : w26.cell? ⟨gb101, 0, none⟩ = some (.int .i64 a0_0) := (blk_cell BK101.out 0).trans rfl; have hcz27_1 : w26.cell? ⟨gb101, 1, none⟩ = some (.int .i64 a0_1) := (blk_cell BK101.out 1).trans rfl; have hfz27_0 := blk_frozen BK101.out 0; have hfz27_1 := blk_frozen BK101.out 1) | ((with_reducible refine gate_callee (f := 71) rfl ?_); refine goesL_ (some 15) rfl rfl Try.func71 (by kernel_rfl) rfl #[.int .i64 a0_0] rfl (by (try simp only [List.map_toArray, List.map_cons, List.map_nil]); first | done | rfl | (simp only [List.length_drop, List.length_take]; rfl)) ?_; (with_reducible refine (dactylref03_Of.calls k a0_0 t103 _ A4.out).mono ?_); rintro e w28 ⟨rfl, hb⟩; refine ⟨_, rfl, ?_⟩; have n0_ := Aside0.mk (blk_below (g := gb101) (o := .cells #[.int .i64 a0_0, .int .i64 a0_1] 45 (0, 0)) (by (with_reducible repeat (first | refine blk_drewN ?_ _ | refine blk_drew ?_ | refine blk_alloc ?_ _)); exact BK101.out) hb); have n1_ := Aside0.mk (below_step (by repeat (first | (with_reducible first | exact HB.out | apply below_alloc | apply pw_below_drewN | apply below_drew1 | refine below_set ?_ GE101.out) | exact HB.out)) hb); clear BK101; clear HB; have BK101 := n0_; have HB := n1_; clear n0_ n1_; (try clear hb); (try clear hb2); (try clear hk); (try clear hi); have hcz29_0 : w28.cell? ⟨gb101, 0, none⟩ = some (.int .i64 a0_0) := (blk_cell BK101.out 0).trans rfl; have hcz29_1 : w28.cell? ⟨gb101, 1, none⟩ = some (.int .i64 a0_1) := (blk_cell BK101.out 1).trans rfl; have hfz29_0 := blk_frozen BK101.out 0; have hfz29_1 := blk_frozen BK101.out 1) | ((with_reducible refine gate_dst (N := 27) rfl ?_); refine Kd.R_lit k93 _ 93 ?hg (N := 27) ?hd (xs := ([(⟨a0_0, t102, a1, a0_0, 0⟩ : S93)] : List (S93))) (inner := [.int .i64 a0_0, .int .i64 t102, .int .i64 a1, .int .i64 a0_0, .int .i64 0]) (ok := fun _ => True) (okp := fun _ => True) ?hr ?hp (fun _ hk => hk) trivial (Below.refl _ _) (Nat.le_refl _) (by simp) ?_; (case hd => rfl); (case hg => rfl); (case hr => first | (go_simp; done) | (go_simp; rfl)); (case hp => exact (Reps.c5 (show Kd.M k93 _ _ _ (⟨a0_0, t102, a1, a0_0, 0⟩ : S93) [.int .i64 a0_0, .int .i64 t102, .int .i64 a1, .int .i64 a0_0, .int .i64 0] from (k93_mkM _ _ _ (⟨a0_0, t102, a1, a0_0, 0⟩ : S93) )) (Reps.none _ _))); intro v105 w30 ho31 hb hg_ hnew_; clear hg_ hnew_; (first | rw [← Ny104.out] at ho31 | (simp only [Int.reduceToNat] at ho31; rw [← Ny104.out] at ho31)); have n0_ := Aside0.mk (Kd.R_lower ho31 (below_size (by repeat (first | (with_reducible first | exact HB.out | apply below_alloc | apply pw_below_drewN | apply below_drew1 | refine below_set ?_ GE101.out) | exact HB.out)))); have n1_ := Aside0.mk (blk_below (g := gb101) (o := .cells #[.int .i64 a0_0, .int .i64 a0_1] 45 (0, 0)) (by (with_reducible repeat (first | refine blk_drewN ?_ _ | refine blk_drew ?_ | refine blk_alloc ?_ _)); exact BK101.out) hb); have n2_ := Aside0.mk (below_step (by repeat (first | (with_reducible first | exact HB.out | apply below_alloc | apply pw_below_drewN | apply below_drew1 | refine below_set ?_ GE101.out) | exact HB.out)) hb); clear BK101; clear HB; have HO106 := n0_; have BK101 := n1_; have HB := n2_; clear n0_ n1_ n2_; clear hb ho31))
        go_ret
        exact ⟨_, by first | rfl | (simp [errW_none, errW_some] <;> rfl) | (simp [*, errW_none, errW_some] <;> rfl), by (with_reducible repeat (first | apply Kd.R_alloc | apply Kd.R_drewN | apply Kd.R_drew)); exact HO106.out, by repeat (first | (with_reducible first | exact HB.out | apply below_alloc | apply pw_below_drewN | apply below_drew1 | refine below_set ?_ GE101.out) | exact HB.out)⟩
    · rw [if_neg c11] at H
      have c11b0 : decide (t103 ≤ 3) = false := decide_eq_false c11
      clear c11
      replace H := Option.bind_eq_some_iff.mp H
      obtain ⟨t110, A320, H⟩ := H
      replace H : (dactylref06_Cells.l0 k a1 t102 t110 ([] : List (S93)) 0 a0_0 a0_1) = some r := H
      have A32 := Aside0.mk A320
      clear A320
      have H' := Aside0.mk H
      clear H
      go_enter Try.func26, Try.ntmps26
      go_wp2_with (first | ((with_reducible refine gate_dst (N := 2) rfl ?_); refine box_event ?hg (N := 2) ?hd (cs := #[.int .i64 a0_0, .int .i64 a0_1]) (t := 45) ?hr ?_; (case hd => rfl); (case hg => rfl); (case hr => first | (go_simp; done) | (go_simp; rfl)); intro gb101 hg w33 hbox hb; have n0_ := Aside0.mk (below_step (by repeat (first | (with_reducible first | exact HB.out | apply below_alloc | apply pw_below_drewN | apply below_drew1) | exact HB.out)) hb); have n1_ := Aside0.mk (hbox); have n2_ := Aside0.mk ((by rw [hg]; exact (below_size (by repeat (first | (with_reducible first | exact HB.out | apply below_alloc | apply pw_below_drewN | apply below_drew1) | exact HB.out))) : w.heap.size ≤ gb101)); have n3_ := Aside0.mk ((by rw [hg]; exact (below_size (by repeat (first | (with_reducible first | exact HB.out | apply below_alloc | apply pw_below_drewN | apply below_drew1) | exact HB.out))) : w.heap.size ≤ gb101)); clear HB; have HB := n0_; have BK101 := n1_; have GW101 := n2_; have GE101 := n3_; clear n0_ n1_ n2_ n3_; clear hb hbox hg; have hcz34_0 : w33.cell? ⟨gb101, 0, none⟩ = some (.int .i64 a0_0) := (blk_cell BK101.out 0).trans rfl; have hcz34_1 : w33.cell? ⟨gb101, 1, none⟩ = some (.int .i64 a0_1) := (blk_cell BK101.out 1).trans rfl; have hfz34_0 := blk_frozen BK101.out 0; have hfz34_1 := blk_frozen BK101.out 1) | ((with_reducible refine gate_callee (f := 29) rfl ?_); refine goesL_ (some 12) rfl rfl Try.func29 (by kernel_rfl) rfl #[.agg #[.int .i64 a0_0, .int .i64 a0_1]] rfl (by (try simp only [List.map_toArray, List.map_cons, List.map_nil]); first | done | rfl | (simp only [List.length_drop, List.length_take]; rfl)) ?_; (with_reducible refine (dactylref06_Looks.calls k a0_0 a0_1 t102 _ A3.out).mono ?_); rintro e w35 ⟨rfl, hb⟩; refine ⟨_, rfl, ?_⟩; have n0_ := Aside0.mk (blk_below (g := gb101) (o := .cells #[.int .i64 a0_0, .int .i64 a0_1] 45 (0, 0)) (by (with_reducible repeat (first | refine blk_drewN ?_ _ | refine blk_drew ?_ | refine blk_alloc ?_ _)); exact BK101.out) hb); have n1_ := Aside0.mk (below_step (by repeat (first | (with_reducible first | exact HB.out | apply below_alloc | apply pw_below_drewN | apply below_drew1 | refine below_set ?_ GE101.out) | exact HB.out)) hb); clear BK101; clear HB; have BK101 := n0_; have HB := n1_; clear n0_ n1_; (try clear hb); (try clear hb2); (try clear hk); (try clear hi); have hcz36_0 : w35.cell? ⟨gb101, 0, none⟩ = some (.int .i64 a0_0) := (blk_cell BK101.out 0).trans rfl; have hcz36_1 : w35.cell? ⟨gb101, 1, none⟩ = some (.int .i64 a0_1) := (blk_cell BK101.out 1).trans rfl; have hfz36_0 := blk_frozen BK101.out 0; have hfz36_1 := blk_frozen BK101.out 1) | ((with_reducible refine gate_callee (f := 71) rfl ?_); refine goesL_ (some 15) rfl rfl Try.func71 (by kernel_rfl) rfl #[.int .i64 a0_0] rfl (by (try simp only [List.map_toArray, List.map_cons, List.map_nil]); first | done | rfl | (simp only [List.length_drop, List.length_take]; rfl)) ?_; (with_reducible refine (dactylref03_Of.calls k a0_0 t103 _ A4.out).mono ?_); rintro e w37 ⟨rfl, hb⟩; refine ⟨_, rfl, ?_⟩; have n0_ := Aside0.mk (blk_below (g := gb101) (o := .cells #[.int .i64 a0_0, .int .i64 a0_1] 45 (0, 0)) (by (with_reducible repeat (first | refine blk_drewN ?_ _ | refine blk_drew ?_ | refine blk_alloc ?_ _)); exact BK101.out) hb); have n1_ := Aside0.mk (below_step (by repeat (first | (with_reducible first | exact HB.out | apply below_alloc | apply pw_below_drewN | apply below_drew1 | refine below_set ?_ GE101.out) | exact HB.out)) hb); clear BK101; clear HB; have BK101 := n0_; have HB := n1_; clear n0_ n1_; (try clear hb); (try clear hb2); (try clear hk); (try clear hi); have hcz38_0 : w37.cell? ⟨gb101, 0, none⟩ = some (.int .i64 a0_0) := (blk_cell BK101.out 0).trans rfl; have hcz38_1 : w37.cell? ⟨gb101, 1, none⟩ = some (.int .i64 a0_1) := (blk_cell BK101.out 1).trans rfl; have hfz38_0 := blk_frozen BK101.out 0; have hfz38_1 := blk_frozen BK101.out 1) | ((with_reducible refine gate_callee (f := 48) rfl ?_); refine goesL_ (some 41) rfl rfl Try.func48 (by kernel_rfl) rfl #[.int .i64 a0_0] rfl (by (try simp only [List.map_toArray, List.map_cons, List.map_nil]); first | done | rfl | (simp only [List.length_drop, List.length_take]; rfl)) ?_; (with_reducible refine (dactylref06_Text.calls k a0_0 t110 _ A32.out).mono ?_); rintro e w39 ⟨rfl, hb⟩; refine ⟨_, rfl, ?_⟩; have n0_ := Aside0.mk (blk_below (g := gb101) (o := .cells #[.int .i64 a0_0, .int .i64 a0_1] 45 (0, 0)) (by (with_reducible repeat (first | refine blk_drewN ?_ _ | refine blk_drew ?_ | refine blk_alloc ?_ _)); exact BK101.out) hb); have n1_ := Aside0.mk (below_step (by repeat (first | (with_reducible first | exact HB.out | apply below_alloc | apply pw_below_drewN | apply below_drew1 | refine below_set ?_ GE101.out) | exact HB.out)) hb); clear BK101; clear HB; have BK101 := n0_; have HB := n1_; clear n0_ n1_; (try clear hb); (try clear hb2); (try clear hk); (try clear hi)))
      go_loopg [9, 10] k (fun kq v9 v10 w' => ∃ (x9_1 : List (S93)) (x10_1 : Int), v10 = .int .i64 x10_1 ∧ Aside0 (dactylref06_Cells.l0 kq a1 t102 t110 x9_1 x10_1 a0_0 a0_1 = some r) ∧ Aside0 (kq ≤ k) ∧ Aside0 (Kd.R k93 93 w' w.heap.size (fun _ => True) v9 x9_1) ∧ Aside0 (w'.heap[gb101]? = some (.cells #[.int .i64 a0_0, .int .i64 a0_1] 45 (0, 0))) ∧ Aside0 (Below w.heap.size w w'))
      case atStart => exact ⟨(([] : List (S93))), (0), (by first | rfl | (simp; done) | (simp [*]; done)), H', ⟨Nat.le_refl _⟩, ⟨by first | exact Kd.R_nil _ _ _ _ _ | exact Kd.N_nil _ _ _ _ _ | exact Kd.V_nil _ _ _ _ _ | exact Kd.Q_nil _ _ _ _ _ | exact Kd.S_nil _ _ _ _ _⟩, ⟨by (with_reducible repeat (first | refine blk_drewN ?_ _ | refine blk_drew ?_ | refine blk_alloc ?_ _)); exact BK101.out⟩, ⟨by repeat (first | (with_reducible first | exact HB.out | apply below_alloc | apply pw_below_drewN | apply below_drew1 | refine below_set ?_ GE101.out) | exact HB.out)⟩⟩
      case round =>
        clear H'
        try clear c1
        try clear c2
        try clear p2
        try clear c4
        try clear c5
        try clear c5b0
        try clear c5b1
        try clear c7
        try clear c11
        try clear c11b0
        try clear c12
        try clear c12b0
        try clear c12b1
        try clear c13
        try clear c26
        try clear c29
        try clear hcz15_0
        try clear hcz15_1
        try clear hcz17_0
        try clear hcz17_1
        try clear hcz19_0
        try clear hcz19_1
        try clear hcz22_0
        try clear hcz22_1
        try clear hcz25_0
        try clear hcz25_1
        try clear hcz27_0
        try clear hcz27_1
        try clear hcz29_0
        try clear hcz29_1
        try clear hcz34_0
        try clear hcz34_1
        try clear hcz36_0
        try clear hcz36_1
        try clear hcz38_0
        try clear hcz38_1
        try clear hcz7_0
        try clear hcz7_1
        try clear hcz9_0
        try clear hcz9_1
        try clear hfz15_0
        try clear hfz15_1
        try clear hfz17_0
        try clear hfz17_1
        try clear hfz19_0
        try clear hfz19_1
        try clear hfz22_0
        try clear hfz22_1
        try clear hfz25_0
        try clear hfz25_1
        try clear hfz27_0
        try clear hfz27_1
        try clear hfz29_0
        try clear hfz29_1
        try clear hfz34_0
        try clear hfz34_1
        try clear hfz36_0
        try clear hfz36_1
        try clear hfz38_0
        try clear hfz38_1
        try clear hfz7_0
        try clear hfz7_1
        try clear hfz9_0
        try clear hfz9_1
        obtain ⟨x9_1, x10_1, rfl, HA, HK1, HO_9, BK101, HB⟩ := hrel
        cases gk with
        | zero => exact absurd HA.out (by simp [dactylref06_Cells.l0])
        | succ k1 =>
          have H := HA.out
          clear HA
          simp only [dactylref06_Cells.l0] at H
          by_cases c40 : x10_1 < (t110.size : Int)
          · rw [if_pos c40] at H
            have c40b0 : decide (x10_1 < (t110.size : Int)) = true := decide_eq_true c40
            clear c40
            by_cases c41 : 0 ≤ x10_1
            · rw [if_pos c41] at H
              have c41b0 : decide (0 ≤ x10_1) = true := decide_eq_true c41
              clear c41
              by_cases c43 : x9_1.length < 3518437208883
              · rw [if_pos c43] at H
                have LMc43 := Aside0.mk c43
                clear c43
                obtain ⟨y111, hy111⟩ : ∃ y_ : List (S93), y_ = (x9_1 ++ [(⟨wrap64 (bt t110 x10_1), t102, a1, a0_0, x10_1⟩ : S93)]) := ⟨_, rfl⟩
                replace H : (dactylref06_Cells.l0 k1 a1 t102 t110 y111 (wrap64 (x10_1 + 1)) a0_0 a0_1) = some r := by first | (rw [hy111]; with_reducible exact H) | (have H2_ := (Option.bind_some _ _).symm.trans H; rw [hy111]; with_reducible exact H2_) | (have H2_ := (Option.bind_some _ _).symm.trans H; with_reducible exact H2_) | with_reducible exact H | (rw [hy111]; exact H) | exact H
                have Ny111 := Aside0.mk hy111
                clear hy111
                have H' := Aside0.mk H
                clear H
                try go_wp2
                have n0_ := Aside0.mk (Kd.R_drew HO_9.out)
                have n1_ := Aside0.mk (blk_drew BK101.out)
                have n2_ := Aside0.mk (below_drew1 HB.out)
                clear HO_9
                clear BK101
                clear HB
                have HO_9 := n0_
                have BK101 := n1_
                have HB := n2_
                clear n0_ n1_ n2_
                have p42 : 0 ≤ (x10_1 : Int) := of_decide_eq_true (by first | (with_reducible assumption) | assumption)
                have q42 : x10_1 < (t110.size : Int) := of_decide_eq_true (by first | (with_reducible assumption) | assumption)
                have hx42 := bt_at t110 x10_1
                replace p42 := eq_true p42
                replace q42 := eq_true q42
                refine start_ (n := 14) (S := fun w' => w'.cell? ⟨gb101, 0, none⟩ = some (.int .i64 a0_0) ∧ w'.cell? ⟨gb101, 1, none⟩ = some (.int .i64 a0_1)) (ds := []) #[false, false, false, false, false, false, false, false, false, false, false, false, false, false] (by kernel_rfl) rfl rfl ⟨(blk_cell BK101.out 0).trans rfl, (blk_cell BK101.out 1).trans rfl⟩ (fun hHeld => ?_); refine with_tabW dactylref06_Cells.tab15 dactylref06_Cells.bits15 (fun HT_ HW_ => ?_)
                generalize wr.drew = w44 at HO_9 BK101 HB hHeld ⊢
                refine pure_ (i := 0) (N := some 48) (v := ?_) (a' := ?_) #[true, false, false, false, false, false, false, false, false, false, false, false, false, false] rfl rfl (any_of HT_.out (by kernel_rfl)) (fun _ _ _ h => h) (Or.inl ⟨by rfl, ?_⟩) ?_ ?_
                rotate_left
                · intro w'
                  go_simp
                  with_reducible rfl
                rotate_left
                · simp only [Act.put, List.setIfInBounds_toArray, List.set_cons_zero, List.set_cons_succ, i64_w, i32_w]
                  rfl
                refine pure_ (i := 1) (N := some 49) (v := ?_) (a' := ?_) #[true, true, false, false, false, false, false, false, false, false, false, false, false, false] rfl rfl (any_of HT_.out (by kernel_rfl)) (fun _ _ _ h => h) (Or.inl ⟨by rfl, ?_⟩) ?_ ?_
                rotate_left
                · intro w'
                  go_simp
                  with_reducible rfl
                rotate_left
                · simp only [Act.put, List.setIfInBounds_toArray, List.set_cons_zero, List.set_cons_succ, i64_w, i32_w]
                  rfl
                refine pure_ (i := 2) (N := some 50) (v := ?_) (a' := ?_) #[true, true, true, false, false, false, false, false, false, false, false, false, false, false] rfl rfl (any_of HT_.out (by kernel_rfl)) (fun _ _ _ h => h) (Or.inl ⟨by rfl, ?_⟩) ?_ ?_
                rotate_left
                · intro w'
                  go_simp
                  with_reducible rfl
                rotate_left
                · simp only [Act.put, List.setIfInBounds_toArray, List.set_cons_zero, List.set_cons_succ, i64_w, i32_w]
                  rfl
                refine pure_ (i := 5) (N := some 53) (v := ?_) (a' := ?_) #[true, true, true, false, false, true, false, false, false, false, false, false, false, false] rfl rfl (any_of HT_.out (by kernel_rfl)) (fun _ _ _ h => h) (Or.inl ⟨by rfl, ?_⟩) ?_ ?_
                rotate_left
                · intro w'
                  go_simp
                  with_reducible rfl
                rotate_left
                · simp only [Act.put, List.setIfInBounds_toArray, List.set_cons_zero, List.set_cons_succ, i64_w, i32_w]
                  rfl
                refine pure_ (i := 6) (N := some 54) (v := ?_) (a' := ?_) #[true, true, true, false, false, true, true, false, false, false, false, false, false, false] rfl rfl (any_of HT_.out (by kernel_rfl)) (fun _ _ _ h => h) (Or.inl ⟨by rfl, ?_⟩) ?_ ?_
                rotate_left
                · intro w'
                  go_simp
                  with_reducible rfl
                rotate_left
                · simp only [Act.put, List.setIfInBounds_toArray, List.set_cons_zero, List.set_cons_succ, i64_w, i32_w]
                  rfl
                refine pure_ (i := 7) (N := some 55) (v := ?_) (a' := ?_) #[true, true, true, false, false, true, true, true, false, false, false, false, false, false] rfl rfl (any_of HT_.out (by kernel_rfl)) (fun _ _ _ h => h) (Or.inl ⟨by rfl, ?_⟩) ?_ ?_
                rotate_left
                · intro w'
                  go_simp
                  with_reducible rfl
                rotate_left
                · simp only [Act.put, List.setIfInBounds_toArray, List.set_cons_zero, List.set_cons_succ, i64_w, i32_w]
                  rfl
                refine pure_ (i := 9) (N := some 57) (v := ?_) (a' := ?_) #[true, true, true, false, false, true, true, true, false, true, false, false, false, false] rfl rfl (any_of HT_.out (by kernel_rfl)) (fun _ _ _ h => h) (Or.inl ⟨by rfl, ?_⟩) ?_ ?_
                rotate_left
                · intro w'
                  go_simp
                  with_reducible rfl
                rotate_left
                · simp only [Act.put, List.setIfInBounds_toArray, List.set_cons_zero, List.set_cons_succ, i64_w, i32_w]
                  rfl
                refine take_ (i := 3) (N := some 51) (v := ?_) (a' := ?_) #[true, true, true, true, false, true, true, true, false, true, false, false, false, false] rfl rfl (take_ofW HT_.out HW_.out (by kernel_rfl)) (fun _ _ _ h => h) (Or.inl ⟨by rfl, ?_⟩) hHeld ?_ ?_
                rotate_left
                · rintro w' ⟨s0, s1⟩
                  go_simp
                  with_reducible rfl
                rotate_left
                · simp only [Act.put, List.setIfInBounds_toArray, List.set_cons_zero, List.set_cons_succ, i64_w, i32_w]
                  rfl
                refine pure_ (i := 4) (N := some 52) (v := ?_) (a' := ?_) #[true, true, true, true, true, true, true, true, false, true, false, false, false, false] rfl rfl (any_of HT_.out (by kernel_rfl)) (fun _ _ _ h => h) (Or.inl ⟨by rfl, ?_⟩) ?_ ?_
                rotate_left
                · intro w'
                  go_simp
                  with_reducible rfl
                rotate_left
                · simp only [Act.put, List.setIfInBounds_toArray, List.set_cons_zero, List.set_cons_succ, i64_w, i32_w]
                  rfl
                refine take_ (i := 8) (N := some 56) (v := ?_) (a' := ?_) #[true, true, true, true, true, true, true, true, true, true, false, false, false, false] rfl rfl (take_ofW HT_.out HW_.out (by kernel_rfl)) (fun _ _ _ h => h) (Or.inl ⟨by rfl, ?_⟩) hHeld ?_ ?_
                rotate_left
                · rintro w' ⟨s0, s1⟩
                  go_simp
                  with_reducible rfl
                rotate_left
                · simp only [Act.put, List.setIfInBounds_toArray, List.set_cons_zero, List.set_cons_succ, i64_w, i32_w]
                  rfl
                refine pure_ (i := 10) (N := some 58) (v := ?_) (a' := ?_) #[true, true, true, true, true, true, true, true, true, true, true, false, false, false] rfl rfl (any_of HT_.out (by kernel_rfl)) (fun _ _ _ h => h) (Or.inl ⟨by rfl, ?_⟩) ?_ ?_
                rotate_left
                · intro w'
                  go_simp
                  with_reducible rfl
                rotate_left
                · simp only [Act.put, List.setIfInBounds_toArray, List.set_cons_zero, List.set_cons_succ, i64_w, i32_w]
                  rfl
                refine one_ (i := 11) (N := some 59) #[true, true, true, true, true, true, true, true, true, true, true, true, false, false] rfl rfl (one_of HT_.out (by kernel_rfl)) (by decide) (fun K hK => ?_)
                refine value_ (w1 := ?_) (v := ?_) (by rfl) rfl ?_ ?_
                rotate_left 2
                · go_simp
                  constructor
                  · rfl
                  · rfl
                refine hK.out _ _ ⟨(blk_cell (blk_alloc BK101.out _) 0).trans rfl, (blk_cell (blk_alloc BK101.out _) 1).trans rfl⟩ (fun hHeld => ?_)
                clear hK K
                refine norm_ (a' := ?_) ?_ ?_
                rotate_left
                · show Act.put _ (some 59) _ = _
                  simp only [Act.put, List.setIfInBounds_toArray, List.set_cons_zero, List.set_cons_succ, i64_w, i32_w]
                  rfl
                refine one_ (i := 12) (N := some 60) #[true, true, true, true, true, true, true, true, true, true, true, true, true, false] rfl rfl (one_of HT_.out (by kernel_rfl)) (by decide) (fun K hK => ?_)
                refine Kd.R_append_step k93 (w0 := w) w.heap.size (by rfl) (.tmp 48) (.tmp 59) 46 93 (.agg #[(.int .i64 0), (.int .i64 0), (.int .i64 0), (.int .i64 0), (.int .i64 0)]) 40 rfl Try.underlying46 info93 rfl (by decide) (by omega) u9 x9_1 (⟨wrap64 (bt t110 x10_1), t102, a1, a0_0, x10_1⟩ : S93) [.int .i64 (wrap64 (bt t110 x10_1)), .int .i64 t102, .int .i64 a1, .int .i64 a0_0, .int .i64 x10_1] (fun _ => True) (fun _ => False) rfl rfl ?aP (fun _ hk => hk.elim) ?aF ?aO ?aB ?aS ?aL ?_
                (case aP => exact k93_mkM _ _ _ (⟨wrap64 (bt t110 x10_1), t102, a1, a0_0, x10_1⟩ : S93))
                (case aB => exact (by repeat (first | (with_reducible first | exact HB.out | apply below_alloc | apply pw_below_drewN | apply below_drew1 | refine below_set ?_ GE101.out) | exact HB.out)))
                (case aF => exact (fun _ _ => trivial))
                (case aO => exact (by (with_reducible repeat (first | apply Kd.R_alloc | apply Kd.R_drewN | apply Kd.R_drew)); exact HO_9.out))
                (case aS => exact (below_size (by repeat (first | (with_reducible first | exact HB.out | apply below_alloc | apply pw_below_drewN | apply below_drew1 | refine below_set ?_ GE101.out) | exact HB.out))))
                (case aL => have := LMc43.out; omega)
                intro v112 w45 ho hb hg hat
                rw [← Ny111.out] at ho
                have n0_ := Aside0.mk (blk_grown (g := gb101) (o := .cells #[.int .i64 a0_0, .int .i64 a0_1] 45 (0, 0)) (by (with_reducible repeat (first | refine blk_drewN ?_ _ | refine blk_drew ?_ | refine blk_alloc ?_ _)); exact BK101.out) hg (Kd.R_ne HO_9.out BK101.out (by decide)))
                have n1_ := Aside0.mk (hb)
                have n2_ := Aside0.mk (ho)
                clear BK101
                clear HB
                clear HO_9
                have BK101 := n0_
                have HB := n1_
                have HO113 := n2_
                clear n0_ n1_ n2_
                clear ho hb hg hat
                refine hK.out _ _ ⟨(blk_cell BK101.out 0).trans rfl, (blk_cell BK101.out 1).trans rfl⟩ (fun hHeld => ?_)
                clear hK K
                refine norm_ (a' := ?_) ?_ ?_
                rotate_left
                · show Act.put _ (some 60) _ = _
                  simp only [Act.put, List.setIfInBounds_toArray, List.set_cons_zero, List.set_cons_succ, i64_w, i32_w]
                  rfl
                refine pure_ (i := 13) (N := some 9) (v := ?_) (a' := ?_) #[true, true, true, true, true, true, true, true, true, true, true, true, true, true] rfl rfl (any_of HT_.out (by kernel_rfl)) (fun _ _ _ h => h) (Or.inl ⟨by rfl, ?_⟩) ?_ ?_
                rotate_left
                · intro w'
                  go_simp
                  with_reducible rfl
                rotate_left
                · simp only [Act.put, List.setIfInBounds_toArray, List.set_cons_zero, List.set_cons_succ, i64_w, i32_w]
                  rfl
                refine done_ (done_of HT_.out (by kernel_rfl)) ?_
                try go_wp2
                go_roundg k1
                case measure => have := HK1.out; omega
                case rel => exact ⟨(y111), (wrap64 (x10_1 + 1)), (by first | rfl | (simp; done) | (simp [*]; done)), H', ⟨by have := HK1.out; omega⟩, ⟨by (with_reducible repeat (first | apply Kd.R_alloc | apply Kd.R_drewN | apply Kd.R_drew)); exact HO113.out⟩, ⟨by (with_reducible repeat (first | refine blk_drewN ?_ _ | refine blk_drew ?_ | refine blk_alloc ?_ _)); exact BK101.out⟩, ⟨by repeat (first | (with_reducible first | exact HB.out | apply below_alloc | apply pw_below_drewN | apply below_drew1 | refine below_set ?_ GE101.out) | exact HB.out)⟩⟩
              · rw [if_neg c43] at H
                exact absurd H (by simp)
            · rw [if_neg c41] at H
              exact absurd H (by simp)
          · rw [if_neg c40] at H
            have c40b0 : decide (x10_1 < (t110.size : Int)) = false := decide_eq_false c40
            clear c40
            obtain rfl := Option.some.inj H
            go_wp2
            go_ret
            exact ⟨_, by first | rfl | (simp [errW_none, errW_some] <;> rfl) | (simp [*, errW_none, errW_some] <;> rfl), by (with_reducible repeat (first | apply Kd.R_alloc | apply Kd.R_drewN | apply Kd.R_drew)); exact HO_9.out, by repeat (first | (with_reducible first | exact HB.out | apply below_alloc | apply pw_below_drewN | apply below_drew1 | refine below_set ?_ GE101.out) | exact HB.out)⟩

end Go.Proofs.Ytemoocoedibbpaa.X

namespace Go.Proofs.Ytemoocoedibbpaa.X
open Go.RowKit Go.Proofs.YtemoocoedibbpaaW.PrintWords Go.Proofs.YtemoocoedibbpaaW.PrintLast Go.Proofs.YtemoocoedibbpaaW.PrintMore
attribute [local go_sem] max2_int min2_int max_two min_two max_three min_three max_four min_four
set_option linter.unusedVariables false
set_option linter.unusedSimpArgs false

/-! ### dactylref03_Width: function 75 -/
def dactylref03_Width.f (k : Nat) (a0 : Int) : Option (Int) := (dactylref03_Of.f k a0).bind fun t101 => (if t101 = 2 then (some 2) else (if t101 = 1 then (some 1) else (if t101 = 3 then (some 1) else (some 0))))
theorem dactylref03_Width.mono : ∀ a0 k, LeO (dactylref03_Width.f k a0) (dactylref03_Width.f (k + 1) a0) := by
  intro a0 k
  unfold dactylref03_Width.f
  repeat' first
      | (with_reducible exact dactylref03_Of.mono _ _)
      | (with_reducible exact LeO.refl _)
      | (with_reducible exact LeO.none _)
      | (with_reducible refine LeO.ite ?_ ?_)
      | (with_reducible refine LeO.bind ?_ (fun _ => ?_))
      | exact dactylref03_Of.mono _ _
      | exact LeO.none _
      | refine LeO.ite ?_ ?_
      | refine LeO.bind ?_ (fun _ => ?_)
set_option maxHeartbeats 8000000 in
set_option maxRecDepth 100000 in
theorem dactylref03_Width.calls (k : Nat) (a0 : Int) (r : Int) (w : World) (h : dactylref03_Width.f k a0 = some r) :
    Calls Try.prog 75 #[.int .i64 a0] w fun e w' => e = .returned (.int .i64 r) ∧ Below w.heap.size w w' := by
  have HB := Aside0.mk (Below.refl w.heap.size w)
  have H : ((dactylref03_Of.f k a0).bind fun t101 => (if t101 = 2 then (some 2) else (if t101 = 1 then (some 1) else (if t101 = 3 then (some 1) else (some 0))))) = some r := h
  clear h
  replace H := Option.bind_eq_some_iff.mp H
  obtain ⟨t101, A20, H⟩ := H
  replace H : (if t101 = 2 then (some 2) else (if t101 = 1 then (some 1) else (if t101 = 3 then (some 1) else (some 0)))) = some r := H
  have A2 := Aside0.mk A20
  clear A20
  by_cases c3 : t101 = 2
  · rw [if_pos c3] at H
    have c3b0 : (t101 == 2) = true := beq_iff_eq.mpr c3
    have c3b1 : (t101 != 2) = false := bne_eq_false_iff_eq.mpr c3
    clear c3
    obtain rfl := Option.some.inj H
    go_enter Try.func75, Try.ntmps75
    go_wp2_with (first | ((with_reducible refine gate_callee (f := 71) rfl ?_); refine goesL_ (some 5) rfl rfl Try.func71 (by kernel_rfl) rfl #[.int .i64 a0] rfl (by (try simp only [List.map_toArray, List.map_cons, List.map_nil]); first | done | rfl | (simp only [List.length_drop, List.length_take]; rfl)) ?_; (with_reducible refine (dactylref03_Of.calls k a0 t101 _ A2.out).mono ?_); rintro e w4 ⟨rfl, hb⟩; refine ⟨_, rfl, ?_⟩; have n0_ := Aside0.mk (below_step (by repeat (first | (with_reducible first | exact HB.out | apply below_alloc | apply pw_below_drewN | apply below_drew1) | exact HB.out)) hb); clear HB; have HB := n0_; clear n0_; (try clear hb); (try clear hb2); (try clear hk); (try clear hi)))
    go_ret
    exact ⟨by first | rfl | (simp [errW_none, errW_some] <;> rfl) | (simp [*, errW_none, errW_some] <;> rfl), by repeat (first | (with_reducible first | exact HB.out | apply below_alloc | apply pw_below_drewN | apply below_drew1) | exact HB.out)⟩
  · rw [if_neg c3] at H
    have c3b0 : (t101 == 2) = false := beq_eq_false_iff_ne.mpr c3
    have c3b1 : (t101 != 2) = true := bne_iff_ne.mpr c3
    by_cases c5 : t101 = 1
    · rw [if_pos c5] at H
      have c5b0 : (t101 == 1) = true := beq_iff_eq.mpr c5
      have c5b1 : (t101 != 1) = false := bne_eq_false_iff_eq.mpr c5
      clear c5
      obtain rfl := Option.some.inj H
      go_enter Try.func75, Try.ntmps75
      go_wp2_with (first | ((with_reducible refine gate_callee (f := 71) rfl ?_); refine goesL_ (some 5) rfl rfl Try.func71 (by kernel_rfl) rfl #[.int .i64 a0] rfl (by (try simp only [List.map_toArray, List.map_cons, List.map_nil]); first | done | rfl | (simp only [List.length_drop, List.length_take]; rfl)) ?_; (with_reducible refine (dactylref03_Of.calls k a0 t101 _ A2.out).mono ?_); rintro e w6 ⟨rfl, hb⟩; refine ⟨_, rfl, ?_⟩; have n0_ := Aside0.mk (below_step (by repeat (first | (with_reducible first | exact HB.out | apply below_alloc | apply pw_below_drewN | apply below_drew1) | exact HB.out)) hb); clear HB; have HB := n0_; clear n0_; (try clear hb); (try clear hb2); (try clear hk); (try clear hi)))
      go_ret
      exact ⟨by first | rfl | (simp [errW_none, errW_some] <;> rfl) | (simp [*, errW_none, errW_some] <;> rfl), by repeat (first | (with_reducible first | exact HB.out | apply below_alloc | apply pw_below_drewN | apply below_drew1) | exact HB.out)⟩
    · rw [if_neg c5] at H
      have c5b0 : (t101 == 1) = false := beq_eq_false_iff_ne.mpr c5
      have c5b1 : (t101 != 1) = true := bne_iff_ne.mpr c5
      by_cases c7 : t101 = 3
      · rw [if_pos c7] at H
        have c7b0 : (t101 == 3) = true := beq_iff_eq.mpr c7
        have c7b1 : (t101 != 3) = false := bne_eq_false_iff_eq.mpr c7
        clear c7
        obtain rfl := Option.some.inj H
        go_enter Try.func75, Try.ntmps75
        go_wp2_with (first | ((with_reducible refine gate_callee (f := 71) rfl ?_); refine goesL_ (some 5) rfl rfl Try.func71 (by kernel_rfl) rfl #[.int .i64 a0] rfl (by (try simp only [List.map_toArray, List.map_cons, List.map_nil]); first | done | rfl | (simp only [List.length_drop, List.length_take]; rfl)) ?_; (with_reducible refine (dactylref03_Of.calls k a0 t101 _ A2.out).mono ?_); rintro e w8 ⟨rfl, hb⟩; refine ⟨_, rfl, ?_⟩; have n0_ := Aside0.mk (below_step (by repeat (first | (with_reducible first | exact HB.out | apply below_alloc | apply pw_below_drewN | apply below_drew1) | exact HB.out)) hb); clear HB; have HB := n0_; clear n0_; (try clear hb); (try clear hb2); (try clear hk); (try clear hi)))
        go_ret
        exact ⟨by first | rfl | (simp [errW_none, errW_some] <;> rfl) | (simp [*, errW_none, errW_some] <;> rfl), by repeat (first | (with_reducible first | exact HB.out | apply below_alloc | apply pw_below_drewN | apply below_drew1) | exact HB.out)⟩
      · rw [if_neg c7] at H
        have c7b0 : (t101 == 3) = false := beq_eq_false_iff_ne.mpr c7
        have c7b1 : (t101 != 3) = true := bne_iff_ne.mpr c7
        obtain rfl := Option.some.inj H
        go_enter Try.func75, Try.ntmps75
        go_wp2_with (first | ((with_reducible refine gate_callee (f := 71) rfl ?_); refine goesL_ (some 5) rfl rfl Try.func71 (by kernel_rfl) rfl #[.int .i64 a0] rfl (by (try simp only [List.map_toArray, List.map_cons, List.map_nil]); first | done | rfl | (simp only [List.length_drop, List.length_take]; rfl)) ?_; (with_reducible refine (dactylref03_Of.calls k a0 t101 _ A2.out).mono ?_); rintro e w9 ⟨rfl, hb⟩; refine ⟨_, rfl, ?_⟩; have n0_ := Aside0.mk (below_step (by repeat (first | (with_reducible first | exact HB.out | apply below_alloc | apply pw_below_drewN | apply below_drew1) | exact HB.out)) hb); clear HB; have HB := n0_; clear n0_; (try clear hb); (try clear hb2); (try clear hk); (try clear hi)))
        go_ret
        exact ⟨by first | rfl | (simp [errW_none, errW_some] <;> rfl) | (simp [*, errW_none, errW_some] <;> rfl), by repeat (first | (with_reducible first | exact HB.out | apply below_alloc | apply pw_below_drewN | apply below_drew1) | exact HB.out)⟩

end Go.Proofs.Ytemoocoedibbpaa.X

namespace Go.Proofs.Ytemoocoedibbpaa.X
open Go.RowKit Go.Proofs.YtemoocoedibbpaaW.PrintWords Go.Proofs.YtemoocoedibbpaaW.PrintLast Go.Proofs.YtemoocoedibbpaaW.PrintMore
attribute [local go_sem] max2_int min2_int max_two min_two max_three min_three max_four min_four
set_option linter.unusedVariables false
set_option linter.unusedSimpArgs false

/-! ### dactylref06_Cols: function 31 -/
def dactylref06_Cols.f (k : Nat) (a0 : Int) : Option (Int) := (dactylref03_Of.f k a0).bind fun t101 => (if t101 > 3 then ((dactylref06_Text.f k a0).bind fun t102 => (some (t102.size : Int))) else ((dactylref03_Width.f k a0).bind fun t103 => (some t103)))
theorem dactylref06_Cols.mono : ∀ a0 k, LeO (dactylref06_Cols.f k a0) (dactylref06_Cols.f (k + 1) a0) := by
  intro a0 k
  unfold dactylref06_Cols.f
  repeat' first
      | (with_reducible exact dactylref03_Of.mono _ _)
      | (with_reducible exact dactylref03_Width.mono _ _)
      | (with_reducible exact dactylref06_Text.mono _ _)
      | (with_reducible exact LeO.refl _)
      | (with_reducible exact LeO.none _)
      | (with_reducible refine LeO.ite ?_ ?_)
      | (with_reducible refine LeO.bind ?_ (fun _ => ?_))
      | exact dactylref03_Of.mono _ _
      | exact dactylref03_Width.mono _ _
      | exact dactylref06_Text.mono _ _
      | exact LeO.none _
      | refine LeO.ite ?_ ?_
      | refine LeO.bind ?_ (fun _ => ?_)
set_option maxHeartbeats 8000000 in
set_option maxRecDepth 100000 in
theorem dactylref06_Cols.calls (k : Nat) (a0 : Int) (r : Int) (w : World) (h : dactylref06_Cols.f k a0 = some r) :
    Calls Try.prog 31 #[.int .i64 a0] w fun e w' => e = .returned (.int .i64 r) ∧ Below w.heap.size w w' := by
  have HB := Aside0.mk (Below.refl w.heap.size w)
  have H : ((dactylref03_Of.f k a0).bind fun t101 => (if t101 > 3 then ((dactylref06_Text.f k a0).bind fun t102 => (some (t102.size : Int))) else ((dactylref03_Width.f k a0).bind fun t103 => (some t103)))) = some r := h
  clear h
  replace H := Option.bind_eq_some_iff.mp H
  obtain ⟨t101, A20, H⟩ := H
  replace H : (if t101 > 3 then ((dactylref06_Text.f k a0).bind fun t102 => (some (t102.size : Int))) else ((dactylref03_Width.f k a0).bind fun t103 => (some t103))) = some r := H
  have A2 := Aside0.mk A20
  clear A20
  by_cases c3 : t101 > 3
  · rw [if_pos c3] at H
    have c3b0 : decide (3 < t101) = true := decide_eq_true c3
    clear c3
    replace H := Option.bind_eq_some_iff.mp H
    obtain ⟨t102, A40, H⟩ := H
    replace H : (some (t102.size : Int)) = some r := H
    have A4 := Aside0.mk A40
    clear A40
    obtain rfl := Option.some.inj H
    go_enter Try.func31, Try.ntmps31
    go_wp2_with (first | ((with_reducible refine gate_callee (f := 71) rfl ?_); refine goesL_ (some 4) rfl rfl Try.func71 (by kernel_rfl) rfl #[.int .i64 a0] rfl (by (try simp only [List.map_toArray, List.map_cons, List.map_nil]); first | done | rfl | (simp only [List.length_drop, List.length_take]; rfl)) ?_; (with_reducible refine (dactylref03_Of.calls k a0 t101 _ A2.out).mono ?_); rintro e w5 ⟨rfl, hb⟩; refine ⟨_, rfl, ?_⟩; have n0_ := Aside0.mk (below_step (by repeat (first | (with_reducible first | exact HB.out | apply below_alloc | apply pw_below_drewN | apply below_drew1) | exact HB.out)) hb); clear HB; have HB := n0_; clear n0_; (try clear hb); (try clear hb2); (try clear hk); (try clear hi)) | ((with_reducible refine gate_callee (f := 48) rfl ?_); refine goesL_ (some 7) rfl rfl Try.func48 (by kernel_rfl) rfl #[.int .i64 a0] rfl (by (try simp only [List.map_toArray, List.map_cons, List.map_nil]); first | done | rfl | (simp only [List.length_drop, List.length_take]; rfl)) ?_; (with_reducible refine (dactylref06_Text.calls k a0 t102 _ A4.out).mono ?_); rintro e w6 ⟨rfl, hb⟩; refine ⟨_, rfl, ?_⟩; have n0_ := Aside0.mk (below_step (by repeat (first | (with_reducible first | exact HB.out | apply below_alloc | apply pw_below_drewN | apply below_drew1) | exact HB.out)) hb); clear HB; have HB := n0_; clear n0_; (try clear hb); (try clear hb2); (try clear hk); (try clear hi)))
    go_ret
    exact ⟨by first | rfl | (simp [errW_none, errW_some] <;> rfl) | (simp [*, errW_none, errW_some] <;> rfl), by repeat (first | (with_reducible first | exact HB.out | apply below_alloc | apply pw_below_drewN | apply below_drew1) | exact HB.out)⟩
  · rw [if_neg c3] at H
    have c3b0 : decide (3 < t101) = false := decide_eq_false c3
    clear c3
    replace H := Option.bind_eq_some_iff.mp H
    obtain ⟨t103, A70, H⟩ := H
    replace H : (some t103) = some r := H
    have A7 := Aside0.mk A70
    clear A70
    obtain rfl := Option.some.inj H
    go_enter Try.func31, Try.ntmps31
    go_wp2_with (first | ((with_reducible refine gate_callee (f := 71) rfl ?_); refine goesL_ (some 4) rfl rfl Try.func71 (by kernel_rfl) rfl #[.int .i64 a0] rfl (by (try simp only [List.map_toArray, List.map_cons, List.map_nil]); first | done | rfl | (simp only [List.length_drop, List.length_take]; rfl)) ?_; (with_reducible refine (dactylref03_Of.calls k a0 t101 _ A2.out).mono ?_); rintro e w8 ⟨rfl, hb⟩; refine ⟨_, rfl, ?_⟩; have n0_ := Aside0.mk (below_step (by repeat (first | (with_reducible first | exact HB.out | apply below_alloc | apply pw_below_drewN | apply below_drew1) | exact HB.out)) hb); clear HB; have HB := n0_; clear n0_; (try clear hb); (try clear hb2); (try clear hk); (try clear hi)) | ((with_reducible refine gate_callee (f := 75) rfl ?_); refine goesL_ (some 10) rfl rfl Try.func75 (by kernel_rfl) rfl #[.int .i64 a0] rfl (by (try simp only [List.map_toArray, List.map_cons, List.map_nil]); first | done | rfl | (simp only [List.length_drop, List.length_take]; rfl)) ?_; (with_reducible refine (dactylref03_Width.calls k a0 t103 _ A7.out).mono ?_); rintro e w9 ⟨rfl, hb⟩; refine ⟨_, rfl, ?_⟩; have n0_ := Aside0.mk (below_step (by repeat (first | (with_reducible first | exact HB.out | apply below_alloc | apply pw_below_drewN | apply below_drew1) | exact HB.out)) hb); clear HB; have HB := n0_; clear n0_; (try clear hb); (try clear hb2); (try clear hk); (try clear hi)))
    go_ret
    exact ⟨by first | rfl | (simp [errW_none, errW_some] <;> rfl) | (simp [*, errW_none, errW_some] <;> rfl), by repeat (first | (with_reducible first | exact HB.out | apply below_alloc | apply pw_below_drewN | apply below_drew1) | exact HB.out)⟩

end Go.Proofs.Ytemoocoedibbpaa.X

namespace Go.Proofs.Ytemoocoedibbpaa.X
open Go.RowKit Go.Proofs.YtemoocoedibbpaaW.PrintWords Go.Proofs.YtemoocoedibbpaaW.PrintLast Go.Proofs.YtemoocoedibbpaaW.PrintMore
attribute [local go_sem] max2_int min2_int max_two min_two max_three min_three max_four min_four
set_option linter.unusedVariables false
set_option linter.unusedSimpArgs false

/-! ### EqualFunc_Cell: function 76 -/
set_option maxHeartbeats 8000000 in
set_option maxRecDepth 100000 in
theorem EqualFunc_Cell.calls (p : S93 → S93 → Bool) (g : Nat) (lb : Array Value) (eg : ∀ args w, (callFunc g args).run Try.prog w = .ok (.enter g args) w) (A0 : Option Addr) (c0 : Nat) (l0 : List S93) (A1 : Option Addr) (c1 : Nat) (l1 : List S93) (w : World) (hr0 : Kd.C k93 w A0 l0.length l0) (hr1 : Kd.C k93 w A1 l1.length l1) (hn : l0.length ≤ 9223372036854775807) (hn1 : l1.length ≤ 9223372036854775807)
    (hp : Pred2For g lb enc_Cell enc_Cell p w) :
    Calls Try.prog 76 #[.slice A0 l0.length c0, .slice A1 l1.length c1, .func (.func g) #[] lb] w fun e w' => e = .returned (.bool (eqP p l0 l1)) ∧ Below w.heap.size w w' := by
  have HR := Aside0.mk hr0
  have HS := Aside0.mk hr1
  have HP := Aside0.mk hp
  clear hr0 hr1 hp
  have hu := Try.underlying93
  by_cases hl : l0.length = l1.length
  · have e1 : ((l0.length : Int) == (l1.length : Int)) = true := beq_iff_eq.mpr (by omega)
    have e2 : ((l0.length : Int) != (l1.length : Int)) = false := bne_eq_false_iff_eq.mpr (by omega)
    have e3 : (l0.length == l1.length) = true := beq_iff_eq.mpr hl
    have HL := Aside0.mk hl
    clear hl
    go_enter Try.func76, Try.ntmps76
    go_wp2
    clear e1 e2 e3
    go_loopg [17] l0.length (fun gg s17 wr => ∃ kk : Nat, kk ≤ l0.length ∧ l0.length - kk ≤ gg ∧ s17 = .int .i64 kk ∧ Aside0 (Below w.heap.size w wr) ∧ Aside0 (∀ j, (h1 : j < l0.length) → (h2 : j < l1.length) → j < kk → p l0[j] l1[j] = true))
    case atStart => exact ⟨0, Nat.zero_le _, by omega, rfl, ⟨Below.refl _ w⟩, ⟨fun j _ _ hj => absurd hj (Nat.not_lt_zero _)⟩⟩
    case round =>
      obtain ⟨kk, hkk, hg, rfl, BW, A⟩ := hrel
      have hL := HL.out
      by_cases hlt : kk < l0.length
      · have hlt1 : decide ((kk : Int) < (l0.length : Int)) = true := decide_eq_true (by omega)
        have hlt2 : decide (kk < l0.length) = true := decide_eq_true hlt
        have hlt3 : decide ((kk : Int) < (l1.length : Int)) = true := decide_eq_true (by omega)
        have hlt4 : kk < l1.length := by omega
        clear hL
        obtain ⟨ad, e, a0, a1, a2, a3, a4⟩ := at_T93 (Kd.C_below HR.out BW.out) (kk : Int) (by omega) (by omega)
        cases e
        have ex : rd_T93 l0 (kk : Int) = l0[kk] := by simp [rd_T93, List.getD, hlt]
        obtain ⟨ad1, e, b0, b1, b2, b3, b4⟩ := at_T93 (Kd.C_alloc (Kd.C_below HS.out BW.out) (.cells #[.int .i64 (l0[kk]).f0, .int .i64 (l0[kk]).f1, .int .i64 (l0[kk]).f2, .int .i64 (l0[kk]).f3, .int .i64 (l0[kk]).f4] 93)) (kk : Int) (by omega) (by omega)
        cases e
        have ey : rd_T93 l1 (kk : Int) = l1[kk] := by simp [rd_T93, List.getD, hlt4]
        rw [ex] at a0 a1 a2 a3 a4
        rw [ey] at b0 b1 b2 b3 b4
        simp only [Int.toNat_natCast] at a0 a1 a2 a3 a4 b0 b1 b2 b3 b4
        have HC := Aside0.mk (fun W hb => HP.out W l0[kk] l1[kk] hb)
        generalize hx : l0[kk] = x at a0 a1 a2 a3 a4 b0 b1 b2 b3 b4 HC
        generalize hy : l1[kk] = y at b0 b1 b2 b3 b4 HC
        have BX := Aside0.mk hx
        have BY := Aside0.mk hy
        clear hx hy ex ey
        cases hq : p x y with
        | true =>
          have HQ := Aside0.mk hq
          rw [hq] at HC
          clear hq
          unfold enc_Cell at HC
          go_wp2_with fail
          refine (HC.out _ (below_alloc (below_alloc BW.out _) _)).mono ?_
          rintro e w' ⟨rfl, hb'⟩
          go_wp2
          go_roundg (l0.length - (kk + 1))
          case measure => omega
          case rel =>
            refine ⟨kk + 1, by omega, by omega, by go_num, ⟨hb'⟩, ⟨fun j h1 h2 hj => ?_⟩⟩
            by_cases e : j = kk
            · subst e
              rw [BX.out, BY.out]; exact HQ.out
            · exact A.out j h1 h2 (by omega)
        | false =>
          have HQ := Aside0.mk hq
          rw [hq] at HC
          clear hq
          unfold enc_Cell at HC
          go_wp2_with fail
          refine (HC.out _ (below_alloc (below_alloc BW.out _) _)).mono ?_
          rintro e w' ⟨rfl, hb'⟩
          go_wp2
          go_ret
          refine ⟨?_, hb'⟩
          rw [eqP_not p l0 l1 kk hlt hlt4 (by rw [BX.out, BY.out]; exact HQ.out)]
          rfl
      · have hlt1 : decide ((kk : Int) < (l0.length : Int)) = false := decide_eq_false (by omega)
        have hlt2 : decide (kk < l0.length) = false := decide_eq_false hlt
        clear hL
        go_wp2
        go_ret
        refine ⟨?_, BW.out⟩
        rw [eqP_all p l0 l1 HL.out (fun j h1 h2 => A.out j h1 h2 (by omega))]
        rfl
  · have e1 : ((l0.length : Int) == (l1.length : Int)) = false := beq_eq_false_iff_ne.mpr (by omega)
    have e2 : ((l0.length : Int) != (l1.length : Int)) = true := bne_iff_ne.mpr (by omega)
    have e3 : (l0.length == l1.length) = false := beq_eq_false_iff_ne.mpr hl
    go_enter Try.func76, Try.ntmps76
    go_wp2
    go_ret
    refine ⟨?_, Below.refl _ _⟩
    rw [eqP_len p l0 l1 hl]
    rfl

end Go.Proofs.Ytemoocoedibbpaa.X

namespace Go.Proofs.Ytemoocoedibbpaa.X
open Go.RowKit Go.Proofs.YtemoocoedibbpaaW.PrintWords Go.Proofs.YtemoocoedibbpaaW.PrintLast Go.Proofs.YtemoocoedibbpaaW.PrintMore
attribute [local go_sem] max2_int min2_int max_two min_two max_three min_three max_four min_four
set_option linter.unusedVariables false
set_option linter.unusedSimpArgs false

/-! ### show_Same: function 32 -/
def sameP (x y : S93) : Bool := (x.f0 == y.f0) && (x.f1 == y.f1)
def show_Same.f (l0 l1 : List S93) : Option Bool := some (eqP sameP l0 l1)
set_option maxHeartbeats 4000000 in
theorem show_Same_1.calls (x y : S93) (W : World) :
    Calls Try.prog 77 #[enc_Cell x, enc_Cell y] W fun e w' => e = .returned (.bool (sameP x y)) ∧ Below W.heap.size W w' := by
  unfold enc_Cell sameP
  obtain ⟨x0, x1, x2, x3, x4⟩ := x
  obtain ⟨y0, y1, y2, y3, y4⟩ := y
  dsimp only
  generalize h1 : (x0 == y0) = b
  cases b
  all_goals
    go_enter Try.func77, Try.ntmps77
    go_wp2
    go_ret
    exact ⟨by simp, below_alloc (below_alloc (Below.refl _ _) _) _⟩
set_option maxHeartbeats 4000000 in
theorem show_Same.calls (A0 : Option Addr) (c0 : Nat) (l0 : List S93) (A1 : Option Addr) (c1 : Nat) (l1 : List S93) (r : Bool) (w : World) (hr0 : Kd.C k93 w A0 l0.length l0) (hc0 : l0.length ≤ c0) (hr1 : Kd.C k93 w A1 l1.length l1) (hc1 : l1.length ≤ c1) (h : show_Same.f l0 l1 = some r) :
    Calls Try.prog 32 #[.slice A0 l0.length c0, .slice A1 l1.length c1] w fun e w' => e = .returned (.bool r) ∧ Below w.heap.size w w' := by
  have HE := Aside0.mk (Option.some.inj h)
  have HC := Aside0.mk (EqualFunc_Cell.calls sameP _ #[] (enters_fn Try.func77 (by kernel_rfl) rfl) A0 c0 l0 A1 c1 l1 w hr0 hr1 hr0.2.1 hr1.2.1 (fun W x y hb => (show_Same_1.calls x y W).mono fun e w' ⟨he, hb'⟩ => ⟨he, below_step hb hb'⟩))
  clear hr0 hr1 h
  go_enter Try.func32, Try.ntmps32
  go_wp2_with fail
  refine HC.out.mono ?_
  rintro e w1 ⟨rfl, hb⟩
  go_wp2
  go_ret
  exact ⟨by rw [← HE.out]; rfl, hb⟩

end Go.Proofs.Ytemoocoedibbpaa.X

namespace Go.Proofs.Ytemoocoedibbpaa.X
open Go.RowKit Go.Proofs.YtemoocoedibbpaaW.PrintWords Go.Proofs.YtemoocoedibbpaaW.PrintLast Go.Proofs.YtemoocoedibbpaaW.PrintMore
attribute [local go_sem] max2_int min2_int max_two min_two max_three min_three max_four min_four
set_option linter.unusedVariables false
set_option linter.unusedSimpArgs false

/-! ### dactylref06_Same: function 33 -/
def dactylref06_Same.l0 : Nat → List (S93) → List (S93) → Int → Option (Bool)
  | 0, _, _, _ => none
  | k + 1, x0, x1, x5 => if x5 < (x0.length : Int) then (if 0 ≤ x5 then (if x5 < (x1.length : Int) then (if ((rd_T93 x0 x5).f0) = ((rd_T93 x1 x5).f0) then (if ((rd_T93 x0 x5).f1) = ((rd_T93 x1 x5).f1) then (dactylref06_Same.l0 k x0 x1 (wrap64 (x5 + 1))) else (some false)) else (some false)) else (none)) else (none)) else (some true)
def dactylref06_Same.f (k : Nat) (l0 : List (S93)) (l1 : List (S93)) : Option (Bool) := if (l0.length : Int) = (l1.length : Int) then (dactylref06_Same.l0 k l0 l1 0) else (some false)
theorem dactylref06_Same.mono_l : ∀ k, (∀ y0 y1 y2, LeO (dactylref06_Same.l0 k y0 y1 y2) (dactylref06_Same.l0 (k + 1) y0 y1 y2))
  | 0 => fun _ _ _ r h => by simp [dactylref06_Same.l0] at h
  | k + 1 => by
    have ih0 := dactylref06_Same.mono_l k
    · intro y0 y1 y2
      unfold dactylref06_Same.l0
      repeat' first
      | (with_reducible exact ih0 _ _ _)
      | (with_reducible exact LeO.refl _)
      | (with_reducible exact LeO.none _)
      | (with_reducible refine LeO.ite ?_ ?_)
      | (with_reducible refine LeO.bind ?_ (fun _ => ?_))
      | exact ih0 _ _ _
      | exact LeO.none _
      | refine LeO.ite ?_ ?_
      | refine LeO.bind ?_ (fun _ => ?_)
theorem dactylref06_Same.mono : ∀ a0 a1 k, LeO (dactylref06_Same.f k a0 a1) (dactylref06_Same.f (k + 1) a0 a1) := by
  intro a0 a1 k
  have ih0 := dactylref06_Same.mono_l k
  unfold dactylref06_Same.f
  repeat' first
      | (with_reducible exact ih0 _ _ _)
      | (with_reducible exact LeO.refl _)
      | (with_reducible exact LeO.none _)
      | (with_reducible refine LeO.ite ?_ ?_)
      | (with_reducible refine LeO.bind ?_ (fun _ => ?_))
      | exact ih0 _ _ _
      | exact LeO.none _
      | refine LeO.ite ?_ ?_
      | refine LeO.bind ?_ (fun _ => ?_)
set_option maxHeartbeats 8000000 in
set_option maxRecDepth 100000 in
theorem dactylref06_Same.calls (k : Nat) (A0 : Option Addr) (c0 : Nat) (l0 : List (S93)) (A1 : Option Addr) (c1 : Nat) (l1 : List (S93)) (r : Bool) (w : World) (hr0 : Kd.C k93 w A0 l0.length l0) (hc0 : l0.length ≤ c0) (hr1 : Kd.C k93 w A1 l1.length l1) (hc1 : l1.length ≤ c1) (h : dactylref06_Same.f k l0 l1 = some r) :
    Calls Try.prog 33 #[.slice A0 l0.length c0, .slice A1 l1.length c1] w fun e w' => e = .returned (.bool r) ∧ Drawn0 w w' := by
  have HR0 := Aside0.mk hr0
  have HC0 := Aside0.mk hc0
  clear hr0 hc0
  have HR1 := Aside0.mk hr1
  have HC1 := Aside0.mk hc1
  clear hr1 hc1
  have H : (if (l0.length : Int) = (l1.length : Int) then (dactylref06_Same.l0 k l0 l1 0) else (some false)) = some r := h
  clear h
  by_cases c3 : (l0.length : Int) = (l1.length : Int)
  · rw [if_pos c3] at H
    have c3b0 : ((l0.length : Int) == (l1.length : Int)) = true := beq_iff_eq.mpr c3
    have c3b1 : ((l0.length : Int) != (l1.length : Int)) = false := bne_eq_false_iff_eq.mpr c3
    have c3b2 : (l0.length == l1.length) = true := by first | simpa using c3 | (simp at c3 ⊢; omega)
    clear c3
    have H' := Aside0.mk H
    clear H
    go_enter Try.func33, Try.ntmps33
    go_wp2
    repeat (go_quiet (fail); try go_wp2)
    go_loopg [5] k (fun kq v5 w' => ∃ (x5_1 : Int), v5 = .int .i64 x5_1 ∧ Aside0 (dactylref06_Same.l0 kq l0 l1 x5_1 = some r) ∧ Aside0 (kq ≤ k) ∧ Drawn0 w w')
    case atStart => exact ⟨(0), (by first | rfl | (simp; done) | (simp [*]; done)), H', ⟨Nat.le_refl _⟩, by repeat (first | exact Drawn0.refl _ | apply Drawn0.step)⟩
    case round =>
      clear H'
      try clear c1
      try clear p2
      try clear c3
      try clear c3b0
      try clear c3b1
      try clear c3b2
      obtain ⟨x5_1, rfl, HA, HK1, ⟨m1, rfl⟩⟩ := hrel
      cases gk with
      | zero => exact absurd HA.out (by simp [dactylref06_Same.l0])
      | succ k1 =>
        have H := HA.out
        clear HA
        simp only [dactylref06_Same.l0] at H
        by_cases c4 : x5_1 < (l0.length : Int)
        · rw [if_pos c4] at H
          have c4b0 : decide (x5_1 < (l0.length : Int)) = true := decide_eq_true c4
          clear c4
          by_cases c5 : 0 ≤ x5_1
          · rw [if_pos c5] at H
            have c5b0 : decide (0 ≤ x5_1) = true := decide_eq_true c5
            clear c5
            by_cases c6 : x5_1 < (l1.length : Int)
            · rw [if_pos c6] at H
              have c6b0 : decide (x5_1 < (l1.length : Int)) = true := decide_eq_true c6
              clear c6
              by_cases c7 : ((rd_T93 l0 x5_1).f0) = ((rd_T93 l1 x5_1).f0)
              · rw [if_pos c7] at H
                have c7b0 : (((rd_T93 l0 x5_1).f0) == ((rd_T93 l1 x5_1).f0)) = true := beq_iff_eq.mpr c7
                have c7b1 : (((rd_T93 l0 x5_1).f0) != ((rd_T93 l1 x5_1).f0)) = false := bne_eq_false_iff_eq.mpr c7
                clear c7
                by_cases c8 : ((rd_T93 l0 x5_1).f1) = ((rd_T93 l1 x5_1).f1)
                · rw [if_pos c8] at H
                  have c8b0 : (((rd_T93 l0 x5_1).f1) == ((rd_T93 l1 x5_1).f1)) = true := beq_iff_eq.mpr c8
                  have c8b1 : (((rd_T93 l0 x5_1).f1) != ((rd_T93 l1 x5_1).f1)) = false := bne_eq_false_iff_eq.mpr c8
                  clear c8
                  have H' := Aside0.mk H
                  clear H
                  have p101 : 0 ≤ (x5_1 : Int) := of_decide_eq_true (by first | (with_reducible assumption) | assumption)
                  have q101 : x5_1 < (l0.length : Int) := of_decide_eq_true (by first | (with_reducible assumption) | assumption)
                  obtain ⟨ad101, e101, hx101_0, hx101_1, hx101_2, hx101_3, hx101_4⟩ := at_T93 HR0.out x5_1 p101 q101
                  cases e101
                  replace p101 := eq_true p101
                  replace q101 := eq_true q101
                  have p102 : 0 ≤ (x5_1 : Int) := of_decide_eq_true (by first | (with_reducible assumption) | assumption)
                  have q102 : x5_1 < (l1.length : Int) := of_decide_eq_true (by first | (with_reducible assumption) | assumption)
                  obtain ⟨ad102, e102, hx102_0, hx102_1, hx102_2, hx102_3, hx102_4⟩ := at_T93 HR1.out x5_1 p102 q102
                  cases e102
                  replace p102 := eq_true p102
                  replace q102 := eq_true q102
                  have p103 : 0 ≤ (x5_1 : Int) := of_decide_eq_true (by first | (with_reducible assumption) | assumption)
                  have q103 : x5_1 < (l0.length : Int) := of_decide_eq_true (by first | (with_reducible assumption) | assumption)
                  obtain ⟨ad103, e103, hx103_0, hx103_1, hx103_2, hx103_3, hx103_4⟩ := at_T93 HR0.out x5_1 p103 q103
                  obtain rfl : ad101 = ad103 := (by injection e103)
                  replace p103 := eq_true p103
                  replace q103 := eq_true q103
                  have p104 : 0 ≤ (x5_1 : Int) := of_decide_eq_true (by first | (with_reducible assumption) | assumption)
                  have q104 : x5_1 < (l1.length : Int) := of_decide_eq_true (by first | (with_reducible assumption) | assumption)
                  obtain ⟨ad104, e104, hx104_0, hx104_1, hx104_2, hx104_3, hx104_4⟩ := at_T93 HR1.out x5_1 p104 q104
                  obtain rfl : ad102 = ad104 := (by injection e104)
                  replace p104 := eq_true p104
                  replace q104 := eq_true q104
                  go_wp2
                  repeat (go_quiet (fail); try go_wp2)
                  go_roundg k1
                  case measure => have := HK1.out; omega
                  case rel => exact ⟨(wrap64 (x5_1 + 1)), (by first | rfl | (simp; done) | (simp [*]; done)), H', ⟨by have := HK1.out; omega⟩, by repeat (first | exact Drawn0.refl _ | apply Drawn0.step)⟩
                · rw [if_neg c8] at H
                  have c8b0 : (((rd_T93 l0 x5_1).f1) == ((rd_T93 l1 x5_1).f1)) = false := beq_eq_false_iff_ne.mpr c8
                  have c8b1 : (((rd_T93 l0 x5_1).f1) != ((rd_T93 l1 x5_1).f1)) = true := bne_iff_ne.mpr c8
                  obtain rfl := Option.some.inj H
                  have p101 : 0 ≤ (x5_1 : Int) := of_decide_eq_true (by first | (with_reducible assumption) | assumption)
                  have q101 : x5_1 < (l0.length : Int) := of_decide_eq_true (by first | (with_reducible assumption) | assumption)
                  obtain ⟨ad101, e101, hx101_0, hx101_1, hx101_2, hx101_3, hx101_4⟩ := at_T93 HR0.out x5_1 p101 q101
                  cases e101
                  replace p101 := eq_true p101
                  replace q101 := eq_true q101
                  have p102 : 0 ≤ (x5_1 : Int) := of_decide_eq_true (by first | (with_reducible assumption) | assumption)
                  have q102 : x5_1 < (l1.length : Int) := of_decide_eq_true (by first | (with_reducible assumption) | assumption)
                  obtain ⟨ad102, e102, hx102_0, hx102_1, hx102_2, hx102_3, hx102_4⟩ := at_T93 HR1.out x5_1 p102 q102
                  cases e102
                  replace p102 := eq_true p102
                  replace q102 := eq_true q102
                  have p103 : 0 ≤ (x5_1 : Int) := of_decide_eq_true (by first | (with_reducible assumption) | assumption)
                  have q103 : x5_1 < (l0.length : Int) := of_decide_eq_true (by first | (with_reducible assumption) | assumption)
                  obtain ⟨ad103, e103, hx103_0, hx103_1, hx103_2, hx103_3, hx103_4⟩ := at_T93 HR0.out x5_1 p103 q103
                  obtain rfl : ad101 = ad103 := (by injection e103)
                  replace p103 := eq_true p103
                  replace q103 := eq_true q103
                  have p104 : 0 ≤ (x5_1 : Int) := of_decide_eq_true (by first | (with_reducible assumption) | assumption)
                  have q104 : x5_1 < (l1.length : Int) := of_decide_eq_true (by first | (with_reducible assumption) | assumption)
                  obtain ⟨ad104, e104, hx104_0, hx104_1, hx104_2, hx104_3, hx104_4⟩ := at_T93 HR1.out x5_1 p104 q104
                  obtain rfl : ad102 = ad104 := (by injection e104)
                  replace p104 := eq_true p104
                  replace q104 := eq_true q104
                  go_wp2
                  repeat (go_quiet (fail); try go_wp2)
                  go_ret
                  exact ⟨by first | rfl | (simp; done) | (simp [*]; done), by repeat (first | exact Drawn0.refl _ | apply Drawn0.step)⟩
              · rw [if_neg c7] at H
                have c7b0 : (((rd_T93 l0 x5_1).f0) == ((rd_T93 l1 x5_1).f0)) = false := beq_eq_false_iff_ne.mpr c7
                have c7b1 : (((rd_T93 l0 x5_1).f0) != ((rd_T93 l1 x5_1).f0)) = true := bne_iff_ne.mpr c7
                obtain rfl := Option.some.inj H
                have p101 : 0 ≤ (x5_1 : Int) := of_decide_eq_true (by first | (with_reducible assumption) | assumption)
                have q101 : x5_1 < (l0.length : Int) := of_decide_eq_true (by first | (with_reducible assumption) | assumption)
                obtain ⟨ad101, e101, hx101_0, hx101_1, hx101_2, hx101_3, hx101_4⟩ := at_T93 HR0.out x5_1 p101 q101
                cases e101
                replace p101 := eq_true p101
                replace q101 := eq_true q101
                have p102 : 0 ≤ (x5_1 : Int) := of_decide_eq_true (by first | (with_reducible assumption) | assumption)
                have q102 : x5_1 < (l1.length : Int) := of_decide_eq_true (by first | (with_reducible assumption) | assumption)
                obtain ⟨ad102, e102, hx102_0, hx102_1, hx102_2, hx102_3, hx102_4⟩ := at_T93 HR1.out x5_1 p102 q102
                cases e102
                replace p102 := eq_true p102
                replace q102 := eq_true q102
                go_wp2
                repeat (go_quiet (fail); try go_wp2)
                go_ret
                exact ⟨by first | rfl | (simp; done) | (simp [*]; done), by repeat (first | exact Drawn0.refl _ | apply Drawn0.step)⟩
            · rw [if_neg c6] at H
              exact absurd H (by simp)
          · rw [if_neg c5] at H
            exact absurd H (by simp)
        · rw [if_neg c4] at H
          have c4b0 : decide (x5_1 < (l0.length : Int)) = false := decide_eq_false c4
          clear c4
          obtain rfl := Option.some.inj H
          go_wp2
          repeat (go_quiet (fail); try go_wp2)
          go_ret
          exact ⟨by first | rfl | (simp; done) | (simp [*]; done), by repeat (first | exact Drawn0.refl _ | apply Drawn0.step)⟩
  · rw [if_neg c3] at H
    have c3b0 : ((l0.length : Int) == (l1.length : Int)) = false := beq_eq_false_iff_ne.mpr c3
    have c3b1 : ((l0.length : Int) != (l1.length : Int)) = true := bne_iff_ne.mpr c3
    have c3b2 : (l0.length == l1.length) = false := by first | simpa using c3 | (simp at c3 ⊢; omega)
    obtain rfl := Option.some.inj H
    go_enter Try.func33, Try.ntmps33
    go_wp2
    repeat (go_quiet (fail); try go_wp2)
    go_ret
    exact ⟨by first | rfl | (simp; done) | (simp [*]; done), by repeat (first | exact Drawn0.refl _ | apply Drawn0.step)⟩

end Go.Proofs.Ytemoocoedibbpaa.X

namespace Go.Proofs.Ytemoocoedibbpaa.X
open Go.RowKit Go.Proofs.YtemoocoedibbpaaW.PrintWords Go.Proofs.YtemoocoedibbpaaW.PrintLast Go.Proofs.YtemoocoedibbpaaW.PrintMore
attribute [local go_sem] max2_int min2_int max_two min_two max_three min_three max_four min_four
set_option linter.unusedVariables false
set_option linter.unusedSimpArgs false

theorem eqA93 (d : Nat) (w : World) (x0 y0 : Int) (x1 y1 : Int) (x2 y2 : Int) (x3 y3 : Int) (x4 y4 : Int) :
    (Op.equalIn (d + 2) 93 (.agg #[.int .i64 x0, .int .i64 x1, .int .i64 x2, .int .i64 x3, .int .i64 x4]) (.agg #[.int .i64 y0, .int .i64 y1, .int .i64 y2, .int .i64 y3, .int .i64 y4])).run Try.prog w = .ok (x0 == y0 && (x1 == y1 && (x2 == y2 && (x3 == y3 && (x4 == y4))))) w := by
  refine eqA_of Try.underlying93 (by kernel_rfl) ?_
  refine eqf_cons (by rfl) (by go_simp; rfl) (by go_simp; rfl) (by go_simp) ?_
  refine eqf_cons (by rfl) (by go_simp; rfl) (by go_simp; rfl) (by go_simp) ?_
  refine eqf_cons (by rfl) (by go_simp; rfl) (by go_simp; rfl) (by go_simp) ?_
  refine eqf_cons (by rfl) (by go_simp; rfl) (by go_simp; rfl) (by go_simp) ?_
  exact eqf_last (by rfl) (by go_simp; rfl) (by go_simp; rfl) (by go_simp)
end Go.Proofs.Ytemoocoedibbpaa.X

namespace Go.Proofs.Ytemoocoedibbpaa.X
open Go.RowKit Go.Proofs.YtemoocoedibbpaaW.PrintWords Go.Proofs.YtemoocoedibbpaaW.PrintLast Go.Proofs.YtemoocoedibbpaaW.PrintMore
attribute [local go_sem] max2_int min2_int max_two min_two max_three min_three max_four min_four
set_option linter.unusedVariables false
set_option linter.unusedSimpArgs false

attribute [local go_sem high] eqA93
/-! ### dactylref06_All: function 30 -/
def dactylref06_All.l0 : Nat → List (S93) → List (S93) → Int → Option (Bool)
  | 0, _, _, _ => none
  | k + 1, x0, x1, x5 => if x5 < (x0.length : Int) then (if 0 ≤ x5 then (if x5 < (x1.length : Int) then (if (!(((rd_T93 x0 x5).f0) == ((rd_T93 x1 x5).f0)) || (!(((rd_T93 x0 x5).f1) == ((rd_T93 x1 x5).f1)) || (!(((rd_T93 x0 x5).f2) == ((rd_T93 x1 x5).f2)) || (!(((rd_T93 x0 x5).f3) == ((rd_T93 x1 x5).f3)) || (!(((rd_T93 x0 x5).f4) == ((rd_T93 x1 x5).f4))))))) = true then (some false) else (dactylref06_All.l0 k x0 x1 (wrap64 (x5 + 1)))) else (none)) else (none)) else (some true)
def dactylref06_All.f (k : Nat) (l0 : List (S93)) (l1 : List (S93)) : Option (Bool) := if (l0.length : Int) = (l1.length : Int) then (dactylref06_All.l0 k l0 l1 0) else (some false)
theorem dactylref06_All.mono_l : ∀ k, (∀ y0 y1 y2, LeO (dactylref06_All.l0 k y0 y1 y2) (dactylref06_All.l0 (k + 1) y0 y1 y2))
  | 0 => fun _ _ _ r h => by simp [dactylref06_All.l0] at h
  | k + 1 => by
    have ih0 := dactylref06_All.mono_l k
    · intro y0 y1 y2
      unfold dactylref06_All.l0
      repeat' first
      | (with_reducible exact ih0 _ _ _)
      | (with_reducible exact LeO.refl _)
      | (with_reducible exact LeO.none _)
      | (with_reducible refine LeO.ite ?_ ?_)
      | (with_reducible refine LeO.bind ?_ (fun _ => ?_))
      | exact ih0 _ _ _
      | exact LeO.none _
      | refine LeO.ite ?_ ?_
      | refine LeO.bind ?_ (fun _ => ?_)
theorem dactylref06_All.mono : ∀ a0 a1 k, LeO (dactylref06_All.f k a0 a1) (dactylref06_All.f (k + 1) a0 a1) := by
  intro a0 a1 k
  have ih0 := dactylref06_All.mono_l k
  unfold dactylref06_All.f
  repeat' first
      | (with_reducible exact ih0 _ _ _)
      | (with_reducible exact LeO.refl _)
      | (with_reducible exact LeO.none _)
      | (with_reducible refine LeO.ite ?_ ?_)
      | (with_reducible refine LeO.bind ?_ (fun _ => ?_))
      | exact ih0 _ _ _
      | exact LeO.none _
      | refine LeO.ite ?_ ?_
      | refine LeO.bind ?_ (fun _ => ?_)
set_option maxHeartbeats 8000000 in
set_option maxRecDepth 100000 in
theorem dactylref06_All.calls (k : Nat) (A0 : Option Addr) (c0 : Nat) (l0 : List (S93)) (A1 : Option Addr) (c1 : Nat) (l1 : List (S93)) (r : Bool) (w : World) (hr0 : Kd.C k93 w A0 l0.length l0) (hc0 : l0.length ≤ c0) (hr1 : Kd.C k93 w A1 l1.length l1) (hc1 : l1.length ≤ c1) (h : dactylref06_All.f k l0 l1 = some r) :
    Calls Try.prog 30 #[.slice A0 l0.length c0, .slice A1 l1.length c1] w fun e w' => e = .returned (.bool r) ∧ Drawn0 w w' := by
  have hu93 := Try.underlying93
  have HR0 := Aside0.mk hr0
  have HC0 := Aside0.mk hc0
  clear hr0 hc0
  have HR1 := Aside0.mk hr1
  have HC1 := Aside0.mk hc1
  clear hr1 hc1
  have H : (if (l0.length : Int) = (l1.length : Int) then (dactylref06_All.l0 k l0 l1 0) else (some false)) = some r := h
  clear h
  by_cases c3 : (l0.length : Int) = (l1.length : Int)
  · rw [if_pos c3] at H
    have c3b0 : ((l0.length : Int) == (l1.length : Int)) = true := beq_iff_eq.mpr c3
    have c3b1 : ((l0.length : Int) != (l1.length : Int)) = false := bne_eq_false_iff_eq.mpr c3
    have c3b2 : (l0.length == l1.length) = true := by first | simpa using c3 | (simp at c3 ⊢; omega)
    clear c3
    have H' := Aside0.mk H
    clear H
    go_enter Try.func30, Try.ntmps30
    go_wp2
    repeat (go_quiet (fail); try go_wp2)
    go_loopg [5] k (fun kq v5 w' => ∃ (x5_1 : Int), v5 = .int .i64 x5_1 ∧ Aside0 (dactylref06_All.l0 kq l0 l1 x5_1 = some r) ∧ Aside0 (kq ≤ k) ∧ Drawn0 w w')
    case atStart => exact ⟨(0), (by first | rfl | (simp; done) | (simp [*]; done)), H', ⟨Nat.le_refl _⟩, by repeat (first | exact Drawn0.refl _ | apply Drawn0.step)⟩
    case round =>
      clear H'
      try clear c1
      try clear p2
      try clear c3
      try clear c3b0
      try clear c3b1
      try clear c3b2
      obtain ⟨x5_1, rfl, HA, HK1, ⟨m1, rfl⟩⟩ := hrel
      cases gk with
      | zero => exact absurd HA.out (by simp [dactylref06_All.l0])
      | succ k1 =>
        have H := HA.out
        clear HA
        simp only [dactylref06_All.l0] at H
        by_cases c4 : x5_1 < (l0.length : Int)
        · rw [if_pos c4] at H
          have c4b0 : decide (x5_1 < (l0.length : Int)) = true := decide_eq_true c4
          clear c4
          by_cases c5 : 0 ≤ x5_1
          · rw [if_pos c5] at H
            have c5b0 : decide (0 ≤ x5_1) = true := decide_eq_true c5
            clear c5
            by_cases c6 : x5_1 < (l1.length : Int)
            · rw [if_pos c6] at H
              have c6b0 : decide (x5_1 < (l1.length : Int)) = true := decide_eq_true c6
              clear c6
              by_cases c7 : (!(((rd_T93 l0 x5_1).f0) == ((rd_T93 l1 x5_1).f0)) || (!(((rd_T93 l0 x5_1).f1) == ((rd_T93 l1 x5_1).f1)) || (!(((rd_T93 l0 x5_1).f2) == ((rd_T93 l1 x5_1).f2)) || (!(((rd_T93 l0 x5_1).f3) == ((rd_T93 l1 x5_1).f3)) || (!(((rd_T93 l0 x5_1).f4) == ((rd_T93 l1 x5_1).f4))))))) = true
              · rw [if_pos c7] at H
                have c7b0 : (!(((rd_T93 l0 x5_1).f0) == ((rd_T93 l1 x5_1).f0)) || (!(((rd_T93 l0 x5_1).f1) == ((rd_T93 l1 x5_1).f1)) || (!(((rd_T93 l0 x5_1).f2) == ((rd_T93 l1 x5_1).f2)) || (!(((rd_T93 l0 x5_1).f3) == ((rd_T93 l1 x5_1).f3)) || (!(((rd_T93 l0 x5_1).f4) == ((rd_T93 l1 x5_1).f4))))))) = true := c7
                clear c7
                obtain rfl := Option.some.inj H
                have p101 : 0 ≤ (x5_1 : Int) := of_decide_eq_true (by first | (with_reducible assumption) | assumption)
                have q101 : x5_1 < (l0.length : Int) := of_decide_eq_true (by first | (with_reducible assumption) | assumption)
                obtain ⟨ad101, e101, hx101_0, hx101_1, hx101_2, hx101_3, hx101_4⟩ := at_T93 HR0.out x5_1 p101 q101
                cases e101
                replace p101 := eq_true p101
                replace q101 := eq_true q101
                have p102 : 0 ≤ (x5_1 : Int) := of_decide_eq_true (by first | (with_reducible assumption) | assumption)
                have q102 : x5_1 < (l1.length : Int) := of_decide_eq_true (by first | (with_reducible assumption) | assumption)
                obtain ⟨ad102, e102, hx102_0, hx102_1, hx102_2, hx102_3, hx102_4⟩ := at_T93 HR1.out x5_1 p102 q102
                cases e102
                replace p102 := eq_true p102
                replace q102 := eq_true q102
                go_wp2
                repeat (go_quiet (fail); try go_wp2)
                go_ret
                exact ⟨by first | rfl | (simp; done) | (simp [*]; done), by repeat (first | exact Drawn0.refl _ | apply Drawn0.step)⟩
              · rw [if_neg c7] at H
                have c7b0 : (!(((rd_T93 l0 x5_1).f0) == ((rd_T93 l1 x5_1).f0)) || (!(((rd_T93 l0 x5_1).f1) == ((rd_T93 l1 x5_1).f1)) || (!(((rd_T93 l0 x5_1).f2) == ((rd_T93 l1 x5_1).f2)) || (!(((rd_T93 l0 x5_1).f3) == ((rd_T93 l1 x5_1).f3)) || (!(((rd_T93 l0 x5_1).f4) == ((rd_T93 l1 x5_1).f4))))))) = false := by simpa using c7
                clear c7
                have H' := Aside0.mk H
                clear H
                have p101 : 0 ≤ (x5_1 : Int) := of_decide_eq_true (by first | (with_reducible assumption) | assumption)
                have q101 : x5_1 < (l0.length : Int) := of_decide_eq_true (by first | (with_reducible assumption) | assumption)
                obtain ⟨ad101, e101, hx101_0, hx101_1, hx101_2, hx101_3, hx101_4⟩ := at_T93 HR0.out x5_1 p101 q101
                cases e101
                replace p101 := eq_true p101
                replace q101 := eq_true q101
                have p102 : 0 ≤ (x5_1 : Int) := of_decide_eq_true (by first | (with_reducible assumption) | assumption)
                have q102 : x5_1 < (l1.length : Int) := of_decide_eq_true (by first | (with_reducible assumption) | assumption)
                obtain ⟨ad102, e102, hx102_0, hx102_1, hx102_2, hx102_3, hx102_4⟩ := at_T93 HR1.out x5_1 p102 q102
                cases e102
                replace p102 := eq_true p102
                replace q102 := eq_true q102
                go_wp2
                repeat (go_quiet (fail); try go_wp2)
                go_roundg k1
                case measure => have := HK1.out; omega
                case rel => exact ⟨(wrap64 (x5_1 + 1)), (by first | rfl | (simp; done) | (simp [*]; done)), H', ⟨by have := HK1.out; omega⟩, by repeat (first | exact Drawn0.refl _ | apply Drawn0.step)⟩
            · rw [if_neg c6] at H
              exact absurd H (by simp)
          · rw [if_neg c5] at H
            exact absurd H (by simp)
        · rw [if_neg c4] at H
          have c4b0 : decide (x5_1 < (l0.length : Int)) = false := decide_eq_false c4
          clear c4
          obtain rfl := Option.some.inj H
          go_wp2
          repeat (go_quiet (fail); try go_wp2)
          go_ret
          exact ⟨by first | rfl | (simp; done) | (simp [*]; done), by repeat (first | exact Drawn0.refl _ | apply Drawn0.step)⟩
  · rw [if_neg c3] at H
    have c3b0 : ((l0.length : Int) == (l1.length : Int)) = false := beq_eq_false_iff_ne.mpr c3
    have c3b1 : ((l0.length : Int) != (l1.length : Int)) = true := bne_iff_ne.mpr c3
    have c3b2 : (l0.length == l1.length) = false := by first | simpa using c3 | (simp at c3 ⊢; omega)
    obtain rfl := Option.some.inj H
    go_enter Try.func30, Try.ntmps30
    go_wp2
    repeat (go_quiet (fail); try go_wp2)
    go_ret
    exact ⟨by first | rfl | (simp; done) | (simp [*]; done), by repeat (first | exact Drawn0.refl _ | apply Drawn0.step)⟩

end Go.Proofs.Ytemoocoedibbpaa.X

namespace Go.Proofs.Ytemoocoedibbpaa.X
open Go.RowKit Go.Proofs.YtemoocoedibbpaaW.PrintWords Go.Proofs.YtemoocoedibbpaaW.PrintLast Go.Proofs.YtemoocoedibbpaaW.PrintMore
attribute [local go_sem] max2_int min2_int max_two min_two max_three min_three max_four min_four
set_option linter.unusedVariables false
set_option linter.unusedSimpArgs false

def looksV (v l : Int) : Int := (if cls v > 3 then 1 else 0) + (if 2 ≤ l ∧ l ≤ 4 then 2 else 0) + (if cls v = 3 then 4 else 0)
theorem show_Looks_f (v l : Int) (k : Nat) (hk : 10 ≤ k) : show_Looks.f k v l = some (looksV v l) := by
  obtain ⟨k, rfl⟩ : ∃ m, k = m + 2 := ⟨k - 2, by omega⟩
  unfold show_Looks.f class_Danger.f looksV
  rw [class_Of_f v _ (by omega), Option.bind_some]
  simp only [show_Looks.j0, show_Looks.j1]
  rw [class_Of_f v _ (by omega)]
  simp only [Option.bind_some, decide_eq_true_eq, wrap64]
  (repeat' split) <;> first | (congr 1; omega) | (simp; omega) | (simp_all; omega) | simp_all
theorem ref_Looks_f (v l : Int) (k : Nat) (hk : 60 ≤ k) : dactylref06_Looks.f k v l = some (looksV v l) := by
  obtain ⟨k, rfl⟩ : ∃ m, k = m + 2 := ⟨k - 2, by omega⟩
  unfold dactylref06_Looks.f looksV
  rw [ref_Of_f v _ (by omega), Option.bind_some]
  simp only [dactylref06_Looks.j0, dactylref06_Looks.j1, wrap64]
  (repeat' split) <;> first | (congr 1; omega) | (simp; omega) | (simp_all; omega) | simp_all
def colsV (v : Int) : Int := if cls v > 3 then (txt v).size else if cls v = 2 then 2 else if cls v = 1 then 1 else if cls v = 3 then 1 else 0
def cellsOf (v l own : Int) : List S93 := if cls v = 0 then [] else if cls v = 2 then [⟨v, looksV v l, own, v, 0⟩, ⟨-1, looksV v l, own, v, 1⟩] else if cls v ≤ 3 then [⟨v, looksV v l, own, v, 0⟩] else toldCells (txt v) (looksV v l) own v
theorem show_Cells_f (v l own : Int) (k : Nat) (hk : 60 ≤ k) : show_Cells.f k v l own = some (cellsOf v l own) := by
  have hs := txt_size v
  unfold show_Cells.f cellsOf
  rw [show_Looks_f v l k (by omega), Option.bind_some, class_Of_f v k (by omega), Option.bind_some, show_Text_f v k (by omega), Option.bind_some, if_pos (show (txt v).size < 3518437208883 by omega)]
  rcases cls_says v with h | h | h | h | h
  · simp [h.1]
  · rcases h.2.2.2 with h' | h' | h' <;> simp [h']
  all_goals
    have h5 : ¬ cls v = 1 ∧ ¬ cls v = 2 ∧ ¬ cls v = 3 ∧ ¬ cls v = 0 ∧ ¬ cls v ≤ 3 := by omega
    simp only [h5, if_false]
theorem ref_cells_l0 (v l own lk : Int) (t : ByteArray) (ht : t.size ≤ 1000) : ∀ (d k i : Nat) (acc : List S93), d + i = t.size → d < k → acc = toldPre t lk own v i → dactylref06_Cells.l0 k own lk t acc (i : Int) v l = some (toldCells t lk own v) := by
  intro d
  induction d with
  | zero =>
    intro k i acc h1 h2 ha
    obtain ⟨k, rfl⟩ : ∃ m, k = m + 1 := ⟨k - 1, by omega⟩
    simp only [dactylref06_Cells.l0]
    rw [if_neg (by omega), ha, show i = t.size by omega]
    rfl
  | succ d ih =>
    intro k i acc h1 h2 ha
    obtain ⟨k, rfl⟩ : ∃ m, k = m + 1 := ⟨k - 1, by omega⟩
    have hlen : acc.length = i := by rw [ha]; simp [toldPre]
    simp only [dactylref06_Cells.l0]
    rw [if_pos (by omega), if_pos (by omega), if_pos (by omega), show wrap64 ((i : Int) + 1) = ((i + 1 : Nat) : Int) by rw [w64 (by omega) (by omega)]; omega]
    refine ih k (i + 1) _ (by omega) (by omega) ?_
    rw [toldPre_succ, ← ha, hlen]
theorem ref_Cells_f (v l own : Int) (k : Nat) (hk : 60 ≤ k) : dactylref06_Cells.f k v l own = some (cellsOf v l own) := by
  have hs := txt_size v
  unfold dactylref06_Cells.f cellsOf
  rw [ref_Looks_f v l k (by omega), Option.bind_some, ref_Of_f v k (by omega), Option.bind_some, ref_Text_f v k (by omega), Option.bind_some]
  rcases cls_says v with h | h | h | h | h
  · simp [h.1]
  · rcases h.2.2.2 with h' | h' | h' <;> simp [h']
  all_goals
    have h5 : ¬ cls v = 1 ∧ ¬ cls v = 2 ∧ ¬ cls v = 3 ∧ ¬ cls v = 0 ∧ ¬ cls v ≤ 3 := by omega
    simp only [h5, if_false]
    exact ref_cells_l0 v l own (looksV v l) (txt v) (by omega) (txt v).size k 0 [] (by omega) (by omega) rfl
theorem toldCells_len (t : ByteArray) (lk own v : Int) : (toldCells t lk own v).length = t.size := by simp [toldCells]
theorem cellsOf_len (v l own : Int) : ((cellsOf v l own).length : Int) = colsV v := by
  unfold cellsOf colsV
  rcases cls_says v with h | h | h | h | h
  · simp [h.1]
  · rcases h.2.2.2 with h' | h' | h' <;> simp [h']
  all_goals
    have h5 : ¬ cls v = 1 ∧ ¬ cls v = 2 ∧ ¬ cls v = 3 ∧ ¬ cls v = 0 ∧ ¬ cls v ≤ 3 := by omega
    simp only [h5, if_false]
    rw [if_pos (by omega), toldCells_len]
theorem cellsOf_small (v l own : Int) : (cellsOf v l own).length ≤ 25 := by
  have := cellsOf_len v l own
  have h2 := txt_size v
  unfold colsV at this
  (repeat' split at this) <;> omega
theorem ref_Cols_f (v : Int) (k : Nat) (hk : 60 ≤ k) : dactylref06_Cols.f k v = some (colsV v) := by
  unfold dactylref06_Cols.f dactylref03_Width.f colsV
  rw [ref_Of_f v k (by omega), Option.bind_some, ref_Text_f v k (by omega), Option.bind_some]
  simp only [Option.bind_some]
  (repeat' split) <;> first | rfl | (exfalso; omega) | simp_all
theorem show_Cols_f (v : Int) (k : Nat) (hk : 60 ≤ k) : show_Cols.f k v = some (colsV v) := by
  obtain ⟨k, rfl⟩ : ∃ m, k = m + 1 := ⟨k - 1, by omega⟩
  unfold show_Cols.f class_Danger.f class_Width.f colsV
  simp only [class_Width.j0]
  rw [class_Of_f v _ (by omega), Option.bind_some, show_Text_f v _ (by omega), Option.bind_some]
  simp only [Option.bind_some, decide_eq_true_eq, beq_iff_eq]
  (repeat' split) <;> first | rfl | (exfalso; omega) | simp_all
/-- A search through places for one at which something is not so. -/
theorem scan_all (L : Nat → Int → Option Bool) (n : Nat) (P : Nat → Bool) (hn : n ≤ 4611686018427387904) (hend : ∀ k, L (k + 1) (n : Int) = some true) (hstep : ∀ k (i : Nat), i < n → L (k + 1) (i : Int) = if P i = true then L k (wrap64 ((i : Int) + 1)) else some false) :
    ∀ (d k i : Nat), d + i = n → d < k → (∃ b, L k (i : Int) = some b ∧ (b = true ↔ ∀ j, i ≤ j → j < n → P j = true)) := by
  intro d
  induction d with
  | zero =>
    intro k i h1 h2
    obtain ⟨k, rfl⟩ : ∃ m, k = m + 1 := ⟨k - 1, by omega⟩
    obtain rfl : i = n := by omega
    exact ⟨true, hend k, by simp; intro j h1 h2; omega⟩
  | succ d ih =>
    intro k i h1 h2
    obtain ⟨k, rfl⟩ : ∃ m, k = m + 1 := ⟨k - 1, by omega⟩
    obtain ⟨b, hb, hiff⟩ := ih k (i + 1) (by omega) (by omega)
    rw [hstep k i (by omega), show wrap64 ((i : Int) + 1) = ((i + 1 : Nat) : Int) by rw [w64 (by omega) (by omega)]; omega]
    by_cases c : P i = true
    · rw [if_pos c]
      refine ⟨b, hb, hiff.trans ⟨fun h j h1 h2 => ?_, fun h j h1 h2 => h j (by omega) h2⟩⟩
      by_cases e : j = i
      · subst e; exact c
      · exact h j (by omega) h2
    · rw [if_neg c]
      exact ⟨false, rfl, by simp; exact ⟨i, Nat.le_refl _, by omega, by simpa using c⟩⟩
theorem rd_cell (l : List S93) (i : Nat) (h : i < l.length) : rd_T93 l (i : Int) = l[i] := by simp [rd_T93, List.getD, h]
theorem ref_All_self (l : List S93) (hl : l.length ≤ 4611686018427387904) (k : Nat) (hk : l.length < k) : dactylref06_All.f k l l = some true := by
  unfold dactylref06_All.f
  rw [if_pos rfl]
  obtain ⟨b, hb, hiff⟩ := scan_all (fun k i => dactylref06_All.l0 k l l i) l.length (fun _ => true) hl (fun k => by simp [dactylref06_All.l0]) (fun k i hi => by
    simp only [dactylref06_All.l0]
    rw [if_pos (by omega), if_pos (by omega), if_pos (by omega)]
    simp) l.length k 0 (by omega) hk
  rw [show b = true from hiff.2 (by simp)] at hb
  exact hb
theorem eqP_iff {α β : Type} (p : α → β → Bool) (l : List α) (m : List β) : eqP p l m = true ↔ l.length = m.length ∧ ∀ j, (h1 : j < l.length) → (h2 : j < m.length) → p l[j] m[j] = true := by
  constructor
  · intro h
    have hl : l.length = m.length := by
      rcases Nat.decEq l.length m.length with hn | hn
      · rw [eqP_len p l m hn] at h; cases h
      · exact hn
    refine ⟨hl, fun j h1 h2 => ?_⟩
    cases hp : p l[j] m[j]
    · rw [eqP_not p l m j h1 h2 hp] at h; cases h
    · rfl
  · rintro ⟨h1, h2⟩
    exact eqP_all p l m h1 h2
theorem ref_Same_f (l m : List S93) (hl : l.length ≤ 4611686018427387904) (k : Nat) (hk : l.length < k) : dactylref06_Same.f k l m = some (eqP sameP l m) := by
  unfold dactylref06_Same.f
  by_cases c : l.length = m.length
  · rw [if_pos (by omega)]
    obtain ⟨b, hb, hiff⟩ := scan_all (fun k i => dactylref06_Same.l0 k l m i) l.length (fun i => sameP (rd_T93 l i) (rd_T93 m i)) hl (fun k => by simp [dactylref06_Same.l0]) (fun k i hi => by
      simp only [dactylref06_Same.l0]
      rw [if_pos (by omega), if_pos (by omega), if_pos (by omega)]
      simp only [sameP, Bool.and_eq_true, beq_iff_eq]
      by_cases h1 : (rd_T93 l i).f0 = (rd_T93 m i).f0
      · rw [if_pos h1]
        by_cases h2 : (rd_T93 l i).f1 = (rd_T93 m i).f1
        · rw [if_pos h2, if_pos ⟨h1, h2⟩]
        · rw [if_neg h2, if_neg (fun h => h2 h.2)]
      · rw [if_neg h1, if_neg (fun h => h1 h.1)]) l.length k 0 (by omega) hk
    rw [show dactylref06_Same.l0 k l m 0 = some b from hb]
    congr 1
    rw [Bool.eq_iff_iff, hiff, eqP_iff]
    exact ⟨fun h => ⟨c, fun j h1 h2 => by have := h j (by omega) h1; rwa [rd_cell l j h1, rd_cell m j h2] at this⟩, fun h j _ h2 => by rw [rd_cell l j h2, rd_cell m j (by omega)]; exact h.2 j h2 (by omega)⟩
  · rw [if_neg (by omega), eqP_len sameP l m c]

end Go.Proofs.Ytemoocoedibbpaa.X

namespace Go.Proofs.Ytemoocoedibbpaa.X
open Go.RowKit Go.Proofs.YtemoocoedibbpaaW.PrintWords Go.Proofs.YtemoocoedibbpaaW.PrintLast Go.Proofs.YtemoocoedibbpaaW.PrintMore
attribute [local go_sem] max2_int min2_int max_two min_two max_three min_three max_four min_four
set_option linter.unusedVariables false
set_option linter.unusedSimpArgs false

def okS (s : S45) : Bool := rightB s.f0 && (decide (0 ≤ s.f1) && decide (s.f1 ≤ 5))
def allB (l : List S45) : Bool := l.all okS
theorem sign_Right_f (a b : Int) : sign_Right.f a b = some (okS ⟨a, b⟩) := by
  unfold sign_Right.f okS
  rw [utf_Right_f, Option.bind_some]
  cases rightB a
  · simp
  · by_cases h : b ≥ 0
    · simp [h]
    · simp [h]
theorem sign_Check_f (l : List S45) : sign_Check.f l = some (if allB l = true then 0 else 2) := by
  have hb : ∀ s : S45, badSign s = !okS s := fun s => by unfold badSign; rw [sign_Right_f]; rfl
  have : l.any badSign = !allB l := by
    unfold allB
    induction l with
    | nil => rfl
    | cons s l ih => simp only [List.any_cons, List.all_cons, ih, hb, Bool.not_and]
  unfold sign_Check.f
  rw [this]
  cases allB l <;> rfl
theorem rd_sign (l : List S45) (i : Nat) (h : i < l.length) : rd_T45 l (i : Int) = l[i] := by simp [rd_T45, List.getD, h]
theorem ref_Right4_f (a b : Int) : dactylref04_Right.f a b = some (okS ⟨a, b⟩) := by
  unfold dactylref04_Right.f okS
  rw [ref_Right_f, Option.bind_some]
  cases rightB a
  · simp
  · by_cases h : b ≥ 0
    · simp [h]
    · simp [h]
theorem ref_AllS_f (l : List S45) (hl : l.length ≤ 4611686018427387904) (k : Nat) (hk : l.length < k) : dactylref04_All.f k l = some (allB l) := by
  obtain ⟨b, hb, hiff⟩ := scan_all (fun k i => dactylref04_All.l0 k l i) l.length (fun i => okS (rd_T45 l i)) hl (fun k => by simp [dactylref04_All.l0]) (fun k i hi => by
    simp only [dactylref04_All.l0]
    rw [if_pos (by omega), if_pos (by omega), ref_Right4_f, Option.bind_some]) l.length k 0 (by omega) hk
  unfold dactylref04_All.f
  rw [show dactylref04_All.l0 k l 0 = some b from hb]
  congr 1
  rw [Bool.eq_iff_iff, hiff]
  unfold allB
  rw [List.all_eq_true]
  constructor
  · intro h x hx
    obtain ⟨i, hi, rfl⟩ := List.mem_iff_getElem.1 hx
    have := h i (by omega) hi
    rwa [rd_sign l i hi] at this
  · intro h j _ hj
    rw [rd_sign l j hj]
    exact h _ (List.getElem_mem hj)
/-! ### the view -/
def promptCells (l : List S45) : List S93 := l.flatMap fun s => cellsOf s.f0 s.f1 (-1)
def lineCells : Int → List S45 → List S93
  | _, [] => []
  | i, s :: l => cellsOf s.f0 s.f1 i ++ lineCells (i + 1) l
def viewC (p l : List S45) : List S93 := promptCells p ++ lineCells 0 l
theorem promptCells_cons (s : S45) (l : List S45) : promptCells (s :: l) = cellsOf s.f0 s.f1 (-1) ++ promptCells l := by simp [promptCells]
theorem promptCells_small (l : List S45) : (promptCells l).length ≤ 25 * l.length := by
  induction l with
  | nil => simp [promptCells]
  | cons s l ih =>
    have := cellsOf_small s.f0 s.f1 (-1)
    simp only [promptCells, List.flatMap_cons, List.length_append, List.length_cons] at ih ⊢
    omega
theorem lineCells_small (l : List S45) : ∀ i, (lineCells i l).length ≤ 25 * l.length := by
  induction l with
  | nil => intro i; simp [lineCells]
  | cons s l ih =>
    intro i
    have := cellsOf_small s.f0 s.f1 i
    have := ih (i + 1)
    simp only [lineCells, List.length_append, List.length_cons]
    omega
theorem Of_l1 (l : List S45) (hl : l.length ≤ 100000) : ∀ (d k i : Nat) (acc : List S93), d + i = l.length → d + 60 < k → acc.length ≤ 100000000 + 25 * i → view_Of.l1 k acc l (l.length : Int) (i : Int) = some (acc ++ lineCells i (l.drop i), 0) := by
  intro d
  induction d with
  | zero =>
    intro k i acc h1 h2 h3
    obtain ⟨k, rfl⟩ : ∃ m, k = m + 1 := ⟨k - 1, by omega⟩
    simp only [view_Of.l1]
    rw [if_neg (by omega), List.drop_of_length_le (by omega), lineCells, List.append_nil]
  | succ d ih =>
    intro k i acc h1 h2 h3
    obtain ⟨k, rfl⟩ : ∃ m, k = m + 1 := ⟨k - 1, by omega⟩
    have e1 : wrap64 ((i : Int) + 1) = ((i + 1 : Nat) : Int) := by rw [w64 (by omega) (by omega)]; omega
    have ed : l.drop i = l[i] :: l.drop (i + 1) := by rw [List.drop_eq_getElem_cons (by omega)]
    have hs := cellsOf_small (l[i]).f0 (l[i]).f1 i
    simp only [view_Of.l1]
    rw [if_pos (by omega), if_pos (by omega), if_pos (by omega), rd_sign l i (by omega), show_Cells_f _ _ _ k (by omega), Option.bind_some, if_pos (by omega), e1, ih k (i + 1) _ (by omega) (by omega) (by rw [List.length_append]; omega), ed, lineCells, List.append_assoc]
    rfl
theorem Of_l0 (l p : List S45) (hl : l.length ≤ 100000) (hp : p.length ≤ 100000) : ∀ (d k i : Nat) (acc : List S93), d + i = p.length → d + l.length + 70 < k → acc.length ≤ 25 * i → view_Of.l0 k l acc p (p.length : Int) (i : Int) = some (acc ++ promptCells (p.drop i) ++ lineCells 0 l, 0) := by
  intro d
  induction d with
  | zero =>
    intro k i acc h1 h2 h3
    obtain ⟨k, rfl⟩ : ∃ m, k = m + 1 := ⟨k - 1, by omega⟩
    have := Of_l1 l hl l.length k 0 acc (by omega) (by omega) (by omega)
    simp only [view_Of.l0]
    rw [if_neg (by omega), List.drop_of_length_le (by omega), show ((0 : Int)) = ((0 : Nat) : Int) from rfl, this]
    simp [promptCells]
  | succ d ih =>
    intro k i acc h1 h2 h3
    obtain ⟨k, rfl⟩ : ∃ m, k = m + 1 := ⟨k - 1, by omega⟩
    have e1 : wrap64 ((i : Int) + 1) = ((i + 1 : Nat) : Int) := by rw [w64 (by omega) (by omega)]; omega
    have ed : p.drop i = p[i] :: p.drop (i + 1) := by rw [List.drop_eq_getElem_cons (by omega)]
    have hs := cellsOf_small (p[i]).f0 (p[i]).f1 (-1)
    simp only [view_Of.l0]
    rw [if_pos (by omega), if_pos (by omega), if_pos (by omega), rd_sign p i (by omega), show_Cells_f _ _ _ k (by omega), Option.bind_some, if_pos (by omega), e1, ih k (i + 1) _ (by omega) (by omega) (by rw [List.length_append]; omega), ed, promptCells_cons]
    simp only [List.append_assoc]
theorem view_Of_f (p l : List S45) (hl : l.length ≤ 100000) (hp : p.length ≤ 100000) (k : Nat) (hk : p.length + l.length + 80 < k) : view_Of.f k p l = some (if allB p = true ∧ allB l = true then (viewC p l, 0) else ([], 2)) := by
  obtain ⟨k, rfl⟩ : ∃ m, k = m + 1 := ⟨k - 1, by omega⟩
  have h0 := Of_l0 l p hl hp p.length k 0 [] (by omega) (by omega) (by simp)
  unfold view_Of.f
  rw [sign_Check_f, Option.bind_some, sign_Check_f, Option.bind_some]
  simp only [view_Of.j0]
  rw [show ((0 : Int)) = ((0 : Nat) : Int) from rfl, h0]
  cases allB p <;> cases allB l <;> simp [viewC]

end Go.Proofs.Ytemoocoedibbpaa.X
