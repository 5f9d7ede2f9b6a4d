/- Written by a program of this session (wip/tools/hp.py, pack.py) and by this session: what the law ViewApart reaches, function by function: a Lean function with the same answers, and the proof that the machine's call gives them. No condition but the ones the theorems state. -/
import Derived.Test.YtemoocoedibbpaaQViewApart3
namespace Go.Proofs.Ytemoocoedibbpaa.X
open Go.RowKit Go.Proofs.YtemoocoedibbpaaW.PrintWords Go.Proofs.YtemoocoedibbpaaW.PrintLast Go.Proofs.YtemoocoedibbpaaW.PrintMore
attribute [local go_sem] max2_int min2_int max_two min_two max_three min_three max_four min_four
set_option linter.unusedVariables false
set_option linter.unusedSimpArgs false

/-! ### dactylref06_Cells: function 26 -/
def dactylref06_Cells.l0 : Nat → Int → Int → ByteArray → List (S93) → Int → Int → Int → Option ((List (S93)))
  | 0, _, _, _, _, _, _, _ => none
  | k + 1, x1, x5, x8, x9, x10, x102000, x102001 => if x10 < (x8.size : Int) then (if 0 ≤ x10 then (if x9.length < 3518437208883 then (dactylref06_Cells.l0 k x1 x5 x8 (x9 ++ [(⟨wrap64 (bt x8 x10), x5, x1, x102000, x10⟩ : S93)]) (wrap64 (x10 + 1)) x102000 x102001) else (none)) else (none)) else (some x9)
def dactylref06_Cells.f (k : Nat) (a0_0 : Int) (a0_1 : Int) (a1 : Int) : Option ((List (S93))) := (dactylref06_Looks.f k a0_0 a0_1).bind fun t102 => ((dactylref03_Of.f k a0_0).bind fun t103 => (if t103 = 0 then (some ([] : List (S93))) else (if t103 ≤ 3 then ((some (([(⟨a0_0, t102, a1, a0_0, 0⟩ : S93)] : List (S93)) : List (S93))).bind fun y104 => (if t103 = 2 then (if y104.length < 3518437208883 then (some (y104 ++ [(⟨(-1), t102, a1, a0_0, 1⟩ : S93)])) else (none)) else (some y104))) else ((dactylref06_Text.f k a0_0).bind fun t110 => (dactylref06_Cells.l0 k a1 t102 t110 ([] : List (S93)) 0 a0_0 a0_1)))))
theorem dactylref06_Cells.mono_l : ∀ k, (∀ y0 y1 y2 y3 y4 y5 y6, LeO (dactylref06_Cells.l0 k y0 y1 y2 y3 y4 y5 y6) (dactylref06_Cells.l0 (k + 1) y0 y1 y2 y3 y4 y5 y6))
  | 0 => fun _ _ _ _ _ _ _ r h => by simp [dactylref06_Cells.l0] at h
  | k + 1 => by
    have ih0 := dactylref06_Cells.mono_l k
    · intro y0 y1 y2 y3 y4 y5 y6
      unfold dactylref06_Cells.l0
      repeat' first
      | (with_reducible exact ih0 _ _ _ _ _ _ _)
      | (with_reducible exact dactylref03_Of.mono _ _)
      | (with_reducible exact dactylref06_Looks.mono _ _ _)
      | (with_reducible exact dactylref06_Text.mono _ _)
      | (with_reducible exact LeO.refl _)
      | (with_reducible exact LeO.none _)
      | (with_reducible refine LeO.ite ?_ ?_)
      | (with_reducible refine LeO.bind ?_ (fun _ => ?_))
      | exact ih0 _ _ _ _ _ _ _
      | exact dactylref03_Of.mono _ _
      | exact dactylref06_Looks.mono _ _ _
      | exact dactylref06_Text.mono _ _
      | exact LeO.none _
      | refine LeO.ite ?_ ?_
      | refine LeO.bind ?_ (fun _ => ?_)
theorem dactylref06_Cells.mono : ∀ a0 a1 a2 k, LeO (dactylref06_Cells.f k a0 a1 a2) (dactylref06_Cells.f (k + 1) a0 a1 a2) := by
  intro a0 a1 a2 k
  have ih0 := dactylref06_Cells.mono_l k
  unfold dactylref06_Cells.f
  repeat' first
      | (with_reducible exact ih0 _ _ _ _ _ _ _)
      | (with_reducible exact dactylref03_Of.mono _ _)
      | (with_reducible exact dactylref06_Looks.mono _ _ _)
      | (with_reducible exact dactylref06_Text.mono _ _)
      | (with_reducible exact LeO.refl _)
      | (with_reducible exact LeO.none _)
      | (with_reducible refine LeO.ite ?_ ?_)
      | (with_reducible refine LeO.bind ?_ (fun _ => ?_))
      | exact ih0 _ _ _ _ _ _ _
      | exact dactylref03_Of.mono _ _
      | exact dactylref06_Looks.mono _ _ _
      | exact dactylref06_Text.mono _ _
      | exact LeO.none _
      | refine LeO.ite ?_ ?_
      | refine LeO.bind ?_ (fun _ => ?_)
def dactylref06_Cells.T15 : Bool × List (List Nat × List Nat) := (true, [([], []), ([], []), ([], []), ([1, 2], [1, 2]), ([3], [3]), ([], []), ([], []), ([], []), ([7], [7]), ([], []), ([4, 5, 6, 8, 9], [4, 5, 6, 8, 9]), ([10], [10]), ([0, 11], [0, 11]), ([12, 12, 0, 1, 2, 3, 4, 5, 6, 7, 8, 9, 10, 11, 12], [0, 12])])
def dactylref06_Cells.B15 : List Nat := [0, 0, 0, 6, 14, 0, 0, 0, 128, 0, 1022, 2046, 4095, 8191]
theorem dactylref06_Cells.tab15 : rtab .any (opsOf Try.f26 15) = dactylref06_Cells.T15 := by kernel_rfl
theorem dactylref06_Cells.bits15 : waitsOk dactylref06_Cells.T15.2 dactylref06_Cells.B15 = true := by kernel_rfl
set_option maxHeartbeats 8000000 in
set_option maxRecDepth 100000 in
theorem dactylref06_Cells.calls (k : Nat) (a0_0 : Int) (a0_1 : Int) (a1 : Int) (r : List (S93)) (w : World) (h : dactylref06_Cells.f k a0_0 a0_1 a1 = some r) :
    Calls Try.prog 26 #[.agg #[.int .i64 a0_0, .int .i64 a0_1], .int .i64 a1] w fun e w' => ∃ v0_ : Value, e = .returned (v0_) ∧ Kd.R k93 93 w' w.heap.size (fun _ => True) v0_ r ∧ Below w.heap.size w w' := by
  have hu45 := Try.underlying45
  have hu93 := Try.underlying93
  have HB := Aside0.mk (Below.refl w.heap.size w)
  have H : ((dactylref06_Looks.f k a0_0 a0_1).bind fun t102 => ((dactylref03_Of.f k a0_0).bind fun t103 => (if t103 = 0 then (some ([] : List (S93))) else (if t103 ≤ 3 then ((some (([(⟨a0_0, t102, a1, a0_0, 0⟩ : S93)] : List (S93)) : List (S93))).bind fun y104 => (if t103 = 2 then (if y104.length < 3518437208883 then (some (y104 ++ [(⟨(-1), t102, a1, a0_0, 1⟩ : S93)])) else (none)) else (some y104))) else ((dactylref06_Text.f k a0_0).bind fun t110 => (dactylref06_Cells.l0 k a1 t102 t110 ([] : List (S93)) 0 a0_0 a0_1)))))) = some r := h
  clear h
  replace H := Option.bind_eq_some_iff.mp H
  obtain ⟨t102, A30, H⟩ := H
  replace H : ((dactylref03_Of.f k a0_0).bind fun t103 => (if t103 = 0 then (some ([] : List (S93))) else (if t103 ≤ 3 then ((some (([(⟨a0_0, t102, a1, a0_0, 0⟩ : S93)] : List (S93)) : List (S93))).bind fun y104 => (if t103 = 2 then (if y104.length < 3518437208883 then (some (y104 ++ [(⟨(-1), t102, a1, a0_0, 1⟩ : S93)])) else (none)) else (some y104))) else ((dactylref06_Text.f k a0_0).bind fun t110 => (dactylref06_Cells.l0 k a1 t102 t110 ([] : List (S93)) 0 a0_0 a0_1))))) = some r := H
  have A3 := Aside0.mk A30
  clear A30
  replace H := Option.bind_eq_some_iff.mp H
  obtain ⟨t103, A40, H⟩ := H
  replace H : (if t103 = 0 then (some ([] : List (S93))) else (if t103 ≤ 3 then ((some (([(⟨a0_0, t102, a1, a0_0, 0⟩ : S93)] : List (S93)) : List (S93))).bind fun y104 => (if t103 = 2 then (if y104.length < 3518437208883 then (some (y104 ++ [(⟨(-1), t102, a1, a0_0, 1⟩ : S93)])) else (none)) else (some y104))) else ((dactylref06_Text.f k a0_0).bind fun t110 => (dactylref06_Cells.l0 k a1 t102 t110 ([] : List (S93)) 0 a0_0 a0_1)))) = some r := H
  have A4 := Aside0.mk A40
  clear A40
  by_cases c5 : t103 = 0
  · rw [if_pos c5] at H
    have c5b0 : (t103 == 0) = true := beq_iff_eq.mpr c5
    have c5b1 : (t103 != 0) = false := bne_eq_false_iff_eq.mpr c5
    clear c5
    obtain rfl := Option.some.inj H
    go_enter Try.func26, Try.ntmps26
    go_wp2_with (first | ((with_reducible refine gate_dst (N := 2) rfl ?_); refine box_event ?hg (N := 2) ?hd (cs := #[.int .i64 a0_0, .int .i64 a0_1]) (t := 45) ?hr ?_; (case hd => rfl); (case hg => rfl); (case hr => first | (go_simp; done) | (go_simp; rfl)); intro gb101 hg w6 hbox hb; have n0_ := Aside0.mk (below_step (by repeat (first | (with_reducible first | exact HB.out | apply below_alloc | apply pw_below_drewN | apply below_drew1) | exact HB.out)) hb); have n1_ := Aside0.mk (hbox); have n2_ := Aside0.mk ((by rw [hg]; exact (below_size (by repeat (first | (with_reducible first | exact HB.out | apply below_alloc | apply pw_below_drewN | apply below_drew1) | exact HB.out))) : w.heap.size ≤ gb101)); have n3_ := Aside0.mk ((by rw [hg]; exact (below_size (by repeat (first | (with_reducible first | exact HB.out | apply below_alloc | apply pw_below_drewN | apply below_drew1) | exact HB.out))) : w.heap.size ≤ gb101)); clear HB; have HB := n0_; have BK101 := n1_; have GW101 := n2_; have GE101 := n3_; clear n0_ n1_ n2_ n3_; clear hb hbox hg; have hcz7_0 : w6.cell? ⟨gb101, 0, none⟩ = some (.int .i64 a0_0) := (blk_cell BK101.out 0).trans rfl; have hcz7_1 : w6.cell? ⟨gb101, 1, none⟩ = some (.int .i64 a0_1) := (blk_cell BK101.out 1).trans rfl; have hfz7_0 := blk_frozen BK101.out 0; have hfz7_1 := blk_frozen BK101.out 1) | ((with_reducible refine gate_callee (f := 29) rfl ?_); refine goesL_ (some 12) rfl rfl Try.func29 (by kernel_rfl) rfl #[.agg #[.int .i64 a0_0, .int .i64 a0_1]] rfl (by (try simp only [List.map_toArray, List.map_cons, List.map_nil]); first | done | rfl | (simp only [List.length_drop, List.length_take]; rfl)) ?_; (with_reducible refine (dactylref06_Looks.calls k a0_0 a0_1 t102 _ A3.out).mono ?_); rintro e w8 ⟨rfl, hb⟩; refine ⟨_, rfl, ?_⟩; have n0_ := Aside0.mk (blk_below (g := gb101) (o := .cells #[.int .i64 a0_0, .int .i64 a0_1] 45 (0, 0)) (by (with_reducible repeat (first | refine blk_drewN ?_ _ | refine blk_drew ?_ | refine blk_alloc ?_ _)); exact BK101.out) hb); have n1_ := Aside0.mk (below_step (by repeat (first | (with_reducible first | exact HB.out | apply below_alloc | apply pw_below_drewN | apply below_drew1 | refine below_set ?_ GE101.out) | exact HB.out)) hb); clear BK101; clear HB; have BK101 := n0_; have HB := n1_; clear n0_ n1_; (try clear hb); (try clear hb2); (try clear hk); (try clear hi); have hcz9_0 : w8.cell? ⟨gb101, 0, none⟩ = some (.int .i64 a0_0) := (blk_cell BK101.out 0).trans rfl; have hcz9_1 : w8.cell? ⟨gb101, 1, none⟩ = some (.int .i64 a0_1) := (blk_cell BK101.out 1).trans rfl; have hfz9_0 := blk_frozen BK101.out 0; have hfz9_1 := blk_frozen BK101.out 1) | ((with_reducible refine gate_callee (f := 71) rfl ?_); refine goesL_ (some 15) rfl rfl Try.func71 (by kernel_rfl) rfl #[.int .i64 a0_0] rfl (by (try simp only [List.map_toArray, List.map_cons, List.map_nil]); first | done | rfl | (simp only [List.length_drop, List.length_take]; rfl)) ?_; (with_reducible refine (dactylref03_Of.calls k a0_0 t103 _ A4.out).mono ?_); rintro e w10 ⟨rfl, hb⟩; refine ⟨_, rfl, ?_⟩; have n0_ := Aside0.mk (blk_below (g := gb101) (o := .cells #[.int .i64 a0_0, .int .i64 a0_1] 45 (0, 0)) (by (with_reducible repeat (first | refine blk_drewN ?_ _ | refine blk_drew ?_ | refine blk_alloc ?_ _)); exact BK101.out) hb); have n1_ := Aside0.mk (below_step (by repeat (first | (with_reducible first | exact HB.out | apply below_alloc | apply pw_below_drewN | apply below_drew1 | refine below_set ?_ GE101.out) | exact HB.out)) hb); clear BK101; clear HB; have BK101 := n0_; have HB := n1_; clear n0_ n1_; (try clear hb); (try clear hb2); (try clear hk); (try clear hi)))
    go_ret
    exact ⟨_, by first | rfl | (simp [errW_none, errW_some] <;> rfl) | (simp [*, errW_none, errW_some] <;> rfl), by first | exact Kd.R_nil _ _ _ _ _ | exact Kd.N_nil _ _ _ _ _ | exact Kd.V_nil _ _ _ _ _ | exact Kd.Q_nil _ _ _ _ _ | exact Kd.S_nil _ _ _ _ _, by repeat (first | (with_reducible first | exact HB.out | apply below_alloc | apply pw_below_drewN | apply below_drew1 | refine below_set ?_ GE101.out) | exact HB.out)⟩
  · rw [if_neg c5] at H
    have c5b0 : (t103 == 0) = false := beq_eq_false_iff_ne.mpr c5
    have c5b1 : (t103 != 0) = true := bne_iff_ne.mpr c5
    by_cases c11 : t103 ≤ 3
    · rw [if_pos c11] at H
      have c11b0 : decide (t103 ≤ 3) = true := decide_eq_true c11
      clear c11
      obtain ⟨y104, hy104⟩ : ∃ y_ : List (S93), y_ = (([(⟨a0_0, t102, a1, a0_0, 0⟩ : S93)] : List (S93))) := ⟨_, rfl⟩
      replace H : (if t103 = 2 then (if y104.length < 3518437208883 then (some (y104 ++ [(⟨(-1), t102, a1, a0_0, 1⟩ : S93)])) else (none)) else (some y104)) = some r := by first | (rw [hy104]; with_reducible exact H) | (have H2_ := (Option.bind_some _ _).symm.trans H; rw [hy104]; with_reducible exact H2_) | (have H2_ := (Option.bind_some _ _).symm.trans H; with_reducible exact H2_) | with_reducible exact H | (rw [hy104]; exact H) | exact H
      have Ny104 := Aside0.mk hy104
      clear hy104
      by_cases c12 : t103 = 2
      · rw [if_pos c12] at H
        have c12b0 : (t103 == 2) = true := beq_iff_eq.mpr c12
        have c12b1 : (t103 != 2) = false := bne_eq_false_iff_eq.mpr c12
        clear c12
        by_cases c13 : y104.length < 3518437208883
        · rw [if_pos c13] at H
          have LMc13 := Aside0.mk c13
          clear c13
          obtain ⟨y107, hy107⟩ : ∃ y_ : List (S93), y_ = (y104 ++ [(⟨(-1), t102, a1, a0_0, 1⟩ : S93)]) := ⟨_, rfl⟩
          replace H : (some y107) = some r := by first | (rw [hy107]; with_reducible exact H) | (have H2_ := (Option.bind_some _ _).symm.trans H; rw [hy107]; with_reducible exact H2_) | (have H2_ := (Option.bind_some _ _).symm.trans H; with_reducible exact H2_) | with_reducible exact H | (rw [hy107]; exact H) | exact H
          have Ny107 := Aside0.mk hy107
          clear hy107
          obtain rfl := Option.some.inj H
          go_enter Try.func26, Try.ntmps26
          go_wp2_with (first | ((with_reducible refine gate_dst (N := 2) rfl ?_); refine box_event ?hg (N := 2) ?hd (cs := #[.int .i64 a0_0, .int .i64 a0_1]) (t := 45) ?hr ?_; (case hd => rfl); (case hg => rfl); (case hr => first | (go_simp; done) | (go_simp; rfl)); intro gb101 hg w14 hbox hb; have n0_ := Aside0.mk (below_step (by repeat (first | (with_reducible first | exact HB.out | apply below_alloc | apply pw_below_drewN | apply below_drew1) | exact HB.out)) hb); have n1_ := Aside0.mk (hbox); have n2_ := Aside0.mk ((by rw [hg]; exact (below_size (by repeat (first | (with_reducible first | exact HB.out | apply below_alloc | apply pw_below_drewN | apply below_drew1) | exact HB.out))) : w.heap.size ≤ gb101)); have n3_ := Aside0.mk ((by rw [hg]; exact (below_size (by repeat (first | (with_reducible first | exact HB.out | apply below_alloc | apply pw_below_drewN | apply below_drew1) | exact HB.out))) : w.heap.size ≤ gb101)); clear HB; have HB := n0_; have BK101 := n1_; have GW101 := n2_; have GE101 := n3_; clear n0_ n1_ n2_ n3_; clear hb hbox hg; have hcz15_0 : w14.cell? ⟨gb101, 0, none⟩ = some (.int .i64 a0_0) := (blk_cell BK101.out 0).trans rfl; have hcz15_1 : w14.cell? ⟨gb101, 1, none⟩ = some (.int .i64 a0_1) := (blk_cell BK101.out 1).trans rfl; have hfz15_0 := blk_frozen BK101.out 0; have hfz15_1 := blk_frozen BK101.out 1) | ((with_reducible refine gate_callee (f := 29) rfl ?_); refine goesL_ (some 12) rfl rfl Try.func29 (by kernel_rfl) rfl #[.agg #[.int .i64 a0_0, .int .i64 a0_1]] rfl (by (try simp only [List.map_toArray, List.map_cons, List.map_nil]); first | done | rfl | (simp only [List.length_drop, List.length_take]; rfl)) ?_; (with_reducible refine (dactylref06_Looks.calls k a0_0 a0_1 t102 _ A3.out).mono ?_); rintro e w16 ⟨rfl, hb⟩; refine ⟨_, rfl, ?_⟩; have n0_ := Aside0.mk (blk_below (g := gb101) (o := .cells #[.int .i64 a0_0, .int .i64 a0_1] 45 (0, 0)) (by (with_reducible repeat (first | refine blk_drewN ?_ _ | refine blk_drew ?_ | refine blk_alloc ?_ _)); exact BK101.out) hb); have n1_ := Aside0.mk (below_step (by repeat (first | (with_reducible first | exact HB.out | apply below_alloc | apply pw_below_drewN | apply below_drew1 | refine below_set ?_ GE101.out) | exact HB.out)) hb); clear BK101; clear HB; have BK101 := n0_; have HB := n1_; clear n0_ n1_; (try clear hb); (try clear hb2); (try clear hk); (try clear hi); have hcz17_0 : w16.cell? ⟨gb101, 0, none⟩ = some (.int .i64 a0_0) := (blk_cell BK101.out 0).trans rfl; have hcz17_1 : w16.cell? ⟨gb101, 1, none⟩ = some (.int .i64 a0_1) := (blk_cell BK101.out 1).trans rfl; have hfz17_0 := blk_frozen BK101.out 0; have hfz17_1 := blk_frozen BK101.out 1) | ((with_reducible refine gate_callee (f := 71) rfl ?_); refine goesL_ (some 15) rfl rfl Try.func71 (by kernel_rfl) rfl #[.int .i64 a0_0] rfl (by (try simp only [List.map_toArray, List.map_cons, List.map_nil]); first | done | rfl | (simp only [List.length_drop, List.length_take]; rfl)) ?_; (with_reducible refine (dactylref03_Of.calls k a0_0 t103 _ A4.out).mono ?_); rintro e w18 ⟨rfl, hb⟩; refine ⟨_, rfl, ?_⟩; have n0_ := Aside0.mk (blk_below (g := gb101) (o := .cells #[.int .i64 a0_0, .int .i64 a0_1] 45 (0, 0)) (by (with_reducible repeat (first | refine blk_drewN ?_ _ | refine blk_drew ?_ | refine blk_alloc ?_ _)); exact BK101.out) hb); have n1_ := Aside0.mk (below_step (by repeat (first | (with_reducible first | exact HB.out | apply below_alloc | apply pw_below_drewN | apply below_drew1 | refine below_set ?_ GE101.out) | exact HB.out)) hb); clear BK101; clear HB; have BK101 := n0_; have HB := n1_; clear n0_ n1_; (try clear hb); (try clear hb2); (try clear hk); (try clear hi); have hcz19_0 : w18.cell? ⟨gb101, 0, none⟩ = some (.int .i64 a0_0) := (blk_cell BK101.out 0).trans rfl; have hcz19_1 : w18.cell? ⟨gb101, 1, none⟩ = some (.int .i64 a0_1) := (blk_cell BK101.out 1).trans rfl; have hfz19_0 := blk_frozen BK101.out 0; have hfz19_1 := blk_frozen BK101.out 1) | ((with_reducible refine gate_dst (N := 27) rfl ?_); refine Kd.R_lit k93 _ 93 ?hg (N := 27) ?hd (xs := ([(⟨a0_0, t102, a1, a0_0, 0⟩ : S93)] : List (S93))) (inner := [.int .i64 a0_0, .int .i64 t102, .int .i64 a1, .int .i64 a0_0, .int .i64 0]) (ok := fun _ => True) (okp := fun _ => True) ?hr ?hp (fun _ hk => hk) trivial (Below.refl _ _) (Nat.le_refl _) (by simp) ?_; (case hd => rfl); (case hg => rfl); (case hr => first | (go_simp; done) | (go_simp; rfl)); (case hp => exact (Reps.c5 (show Kd.M k93 _ _ _ (⟨a0_0, t102, a1, a0_0, 0⟩ : S93) [.int .i64 a0_0, .int .i64 t102, .int .i64 a1, .int .i64 a0_0, .int .i64 0] from (k93_mkM _ _ _ (⟨a0_0, t102, a1, a0_0, 0⟩ : S93) )) (Reps.none _ _))); intro v105 w20 ho21 hb hg_ hnew_; clear hg_ hnew_; (first | rw [← Ny104.out] at ho21 | (simp only [Int.reduceToNat] at ho21; rw [← Ny104.out] at ho21)); have n0_ := Aside0.mk (Kd.R_lower ho21 (below_size (by repeat (first | (with_reducible first | exact HB.out | apply below_alloc | apply pw_below_drewN | apply below_drew1 | refine below_set ?_ GE101.out) | exact HB.out)))); have n1_ := Aside0.mk (blk_below (g := gb101) (o := .cells #[.int .i64 a0_0, .int .i64 a0_1] 45 (0, 0)) (by (with_reducible repeat (first | refine blk_drewN ?_ _ | refine blk_drew ?_ | refine blk_alloc ?_ _)); exact BK101.out) hb); have n2_ := Aside0.mk (below_step (by repeat (first | (with_reducible first | exact HB.out | apply below_alloc | apply pw_below_drewN | apply below_drew1 | refine below_set ?_ GE101.out) | exact HB.out)) hb); clear BK101; clear HB; have HO106 := n0_; have BK101 := n1_; have HB := n2_; clear n0_ n1_ n2_; clear hb ho21; have hcz22_0 : w20.cell? ⟨gb101, 0, none⟩ = some (.int .i64 a0_0) := (blk_cell BK101.out 0).trans rfl; have hcz22_1 : w20.cell? ⟨gb101, 1, none⟩ = some (.int .i64 a0_1) := (blk_cell BK101.out 1).trans rfl; have hfz22_0 := blk_frozen BK101.out 0; have hfz22_1 := blk_frozen BK101.out 1) | ((with_reducible refine gate_builtin (b := .append) (xs := #[.tmp 30, .tmp 36]) rfl ?_); at_builtin; refine Kd.R_append k93 (w0 := w) w.heap.size rfl (.tmp 30) (.tmp 36) 46 93 (.agg #[(.int .i64 0), (.int .i64 0), (.int .i64 0), (.int .i64 0), (.int .i64 0)]) 40 rfl Try.underlying46 info93 rfl (by decide) (by omega) v105 y104 (⟨(-1), t102, a1, a0_0, 1⟩ : S93) [.int .i64 (-1), .int .i64 t102, .int .i64 a1, .int .i64 a0_0, .int .i64 1] (fun _ => True) (fun _ => False) rfl rfl ?aP (fun _ hk => hk.elim) ?aF ?aO ?aB ?aS ?aL ?_; (case aP => exact k93_mkM _ _ _ (⟨(-1), t102, a1, a0_0, 1⟩ : S93)); (case aB => exact (by repeat (first | (with_reducible first | exact HB.out | apply below_alloc | apply pw_below_drewN | apply below_drew1 | refine below_set ?_ GE101.out) | exact HB.out))); (case aF => exact (fun _ _ => trivial)); (case aO => exact (by (with_reducible repeat (first | apply Kd.R_alloc | apply Kd.R_drewN | apply Kd.R_drew)); exact HO106.out)); (case aS => exact (below_size (by repeat (first | (with_reducible first | exact HB.out | apply below_alloc | apply pw_below_drewN | apply below_drew1 | refine below_set ?_ GE101.out) | exact HB.out)))); (case aL => have := LMc13.out; omega); intro v108 w23 ho hb hg hat; rw [← Ny107.out] at ho; have n0_ := Aside0.mk (blk_grown (g := gb101) (o := .cells #[.int .i64 a0_0, .int .i64 a0_1] 45 (0, 0)) (by (with_reducible repeat (first | refine blk_drewN ?_ _ | refine blk_drew ?_ | refine blk_alloc ?_ _)); exact BK101.out) hg (Kd.R_ne HO106.out BK101.out (by decide))); have n1_ := Aside0.mk (hb); have n2_ := Aside0.mk (ho); clear BK101; clear HB; clear HO106; have BK101 := n0_; have HB := n1_; have HO109 := n2_; clear n0_ n1_ n2_; clear ho hb hg hat))
          go_ret
          exact ⟨_, by first | rfl | (simp [errW_none, errW_some] <;> rfl) | (simp [*, errW_none, errW_some] <;> rfl), by (with_reducible repeat (first | apply Kd.R_alloc | apply Kd.R_drewN | apply Kd.R_drew)); exact HO109.out, by repeat (first | (with_reducible first | exact HB.out | apply below_alloc | apply pw_below_drewN | apply below_drew1 | refine below_set ?_ GE101.out) | exact HB.out)⟩
        · rw [if_neg c13] at H
          exact absurd H (by simp)
      · rw [if_neg c12] at H
        have c12b0 : (t103 == 2) = false := beq_eq_false_iff_ne.mpr c12
        have c12b1 : (t103 != 2) = true := bne_iff_ne.mpr c12
        obtain rfl := Option.some.inj H
        go_enter Try.func26, Try.ntmps26
        go_wp2_with (first | ((with_reducible refine gate_dst (N := 2) rfl ?_); refine box_event ?hg (N := 2) ?hd (cs := #[.int .i64 a0_0, .int .i64 a0_1]) (t := 45) ?hr ?_; (case hd => rfl); (case hg => rfl); (case hr => first | (go_simp; done) | (go_simp; rfl)); intro gb101 hg w24 hbox hb; have n0_ := Aside0.mk (below_step (by repeat (first | (with_reducible first | exact HB.out | apply below_alloc | apply pw_below_drewN | apply below_drew1) | exact HB.out)) hb); have n1_ := Aside0.mk (hbox); have n2_ := Aside0.mk ((by rw [hg]; exact (below_size (by repeat (first | (with_reducible first | exact HB.out | apply below_alloc | apply pw_below_drewN | apply below_drew1) | exact HB.out))) : w.heap.size ≤ gb101)); have n3_ := Aside0.mk ((by rw [hg]; exact (below_size (by repeat (first | (with_reducible first | exact HB.out | apply below_alloc | apply pw_below_drewN | apply below_drew1) | exact HB.out))) : w.heap.size ≤ gb101)); clear HB; have HB := n0_; have BK101 := n1_; have GW101 := n2_; have GE101 := n3_; clear n0_ n1_ n2_ n3_; clear hb hbox hg; have hcz25_0 : w24.cell? ⟨gb101, 0, none⟩ = some (.int .i64 a0_0) := (blk_cell BK101.out 0).trans rfl; have hcz25_1 : w24.cell? ⟨gb101, 1, none⟩ = some (.int .i64 a0_1) := (blk_cell BK101.out 1).trans rfl; have hfz25_0 := blk_frozen BK101.out 0; have hfz25_1 := blk_frozen BK101.out 1) | ((with_reducible refine gate_callee (f := 29) rfl ?_); refine goesL_ (some 12) rfl rfl Try.func29 (by kernel_rfl) rfl #[.agg #[.int .i64 a0_0, .int .i64 a0_1]] rfl (by (try simp only [List.map_toArray, List.map_cons, List.map_nil]); first | done | rfl | (simp only [List.length_drop, List.length_take]; rfl)) ?_; (with_reducible refine (dactylref06_Looks.calls k a0_0 a0_1 t102 _ A3.out).mono ?_); rintro e w26 ⟨rfl, hb⟩; refine ⟨_, rfl, ?_⟩; have n0_ := Aside0.mk (blk_below (g := gb101) (o := .cells #[.int .i64 a0_0, .int .i64 a0_1] 45 (0, 0)) (by (with_reducible repeat (first | refine blk_drewN ?_ _ | refine blk_drew ?_ | refine blk_alloc ?_ _)); exact BK101.out) hb); have n1_ := Aside0.mk (below_step (by repeat (first | (with_reducible first | exact HB.out | apply below_alloc | apply pw_below_drewN | apply below_drew1 | refine below_set ?_ GE101.out) | exact HB.out)) hb); clear BK101; clear HB; have BK101 := n0_; have HB := n1_; clear n0_ n1_; (try clear hb); (try clear hb2); (try clear hk); (try clear hi); have hcz27_0 : w26.cell? ⟨gb101, 0, none⟩ = some (.int .i64 a0_0) := (blk_cell BK101.out 0).trans rfl; have hcz27_1 : w26.cell? ⟨gb101, 1, none⟩ = some (.int .i64 a0_1) := (blk_cell BK101.out 1).trans rfl; have hfz27_0 := blk_frozen BK101.out 0; have hfz27_1 := blk_frozen BK101.out 1) | ((with_reducible refine gate_callee (f := 71) rfl ?_); refine goesL_ (some 15) rfl rfl Try.func71 (by kernel_rfl) rfl #[.int .i64 a0_0] rfl (by (try simp only [List.map_toArray, List.map_cons, List.map_nil]); first | done | rfl | (simp only [List.length_drop, List.length_take]; rfl)) ?_; (with_reducible refine (dactylref03_Of.calls k a0_0 t103 _ A4.out).mono ?_); rintro e w28 ⟨rfl, hb⟩; refine ⟨_, rfl, ?_⟩; have n0_ := Aside0.mk (blk_below (g := gb101) (o := .cells #[.int .i64 a0_0, .int .i64 a0_1] 45 (0, 0)) (by (with_reducible repeat (first | refine blk_drewN ?_ _ | refine blk_drew ?_ | refine blk_alloc ?_ _)); exact BK101.out) hb); have n1_ := Aside0.mk (below_step (by repeat (first | (with_reducible first | exact HB.out | apply below_alloc | apply pw_below_drewN | apply below_drew1 | refine below_set ?_ GE101.out) | exact HB.out)) hb); clear BK101; clear HB; have BK101 := n0_; have HB := n1_; clear n0_ n1_; (try clear hb); (try clear hb2); (try clear hk); (try clear hi); have hcz29_0 : w28.cell? ⟨gb101, 0, none⟩ = some (.int .i64 a0_0) := (blk_cell BK101.out 0).trans rfl; have hcz29_1 : w28.cell? ⟨gb101, 1, none⟩ = some (.int .i64 a0_1) := (blk_cell BK101.out 1).trans rfl; have hfz29_0 := blk_frozen BK101.out 0; have hfz29_1 := blk_frozen BK101.out 1) | ((with_reducible refine gate_dst (N := 27) rfl ?_); refine Kd.R_lit k93 _ 93 ?hg (N := 27) ?hd (xs := ([(⟨a0_0, t102, a1, a0_0, 0⟩ : S93)] : List (S93))) (inner := [.int .i64 a0_0, .int .i64 t102, .int .i64 a1, .int .i64 a0_0, .int .i64 0]) (ok := fun _ => True) (okp := fun _ => True) ?hr ?hp (fun _ hk => hk) trivial (Below.refl _ _) (Nat.le_refl _) (by simp) ?_; (case hd => rfl); (case hg => rfl); (case hr => first | (go_simp; done) | (go_simp; rfl)); (case hp => exact (Reps.c5 (show Kd.M k93 _ _ _ (⟨a0_0, t102, a1, a0_0, 0⟩ : S93) [.int .i64 a0_0, .int .i64 t102, .int .i64 a1, .int .i64 a0_0, .int .i64 0] from (k93_mkM _ _ _ (⟨a0_0, t102, a1, a0_0, 0⟩ : S93) )) (Reps.none _ _))); intro v105 w30 ho31 hb hg_ hnew_; clear hg_ hnew_; (first | rw [← Ny104.out] at ho31 | (simp only [Int.reduceToNat] at ho31; rw [← Ny104.out] at ho31)); have n0_ := Aside0.mk (Kd.R_lower ho31 (below_size (by repeat (first | (with_reducible first | exact HB.out | apply below_alloc | apply pw_below_drewN | apply below_drew1 | refine below_set ?_ GE101.out) | exact HB.out)))); have n1_ := Aside0.mk (blk_below (g := gb101) (o := .cells #[.int .i64 a0_0, .int .i64 a0_1] 45 (0, 0)) (by (with_reducible repeat (first | refine blk_drewN ?_ _ | refine blk_drew ?_ | refine blk_alloc ?_ _)); exact BK101.out) hb); have n2_ := Aside0.mk (below_step (by repeat (first | (with_reducible first | exact HB.out | apply below_alloc | apply pw_below_drewN | apply below_drew1 | refine below_set ?_ GE101.out) | exact HB.out)) hb); clear BK101; clear HB; have HO106 := n0_; have BK101 := n1_; have HB := n2_; clear n0_ n1_ n2_; clear hb ho31))
        go_ret
        exact ⟨_, by first | rfl | (simp [errW_none, errW_some] <;> rfl) | (simp [*, errW_none, errW_some] <;> rfl), by (with_reducible repeat (first | apply Kd.R_alloc | apply Kd.R_drewN | apply Kd.R_drew)); exact HO106.out, by repeat (first | (with_reducible first | exact HB.out | apply below_alloc | apply pw_below_drewN | apply below_drew1 | refine below_set ?_ GE101.out) | exact HB.out)⟩
    · rw [if_neg c11] at H
      have c11b0 : decide (t103 ≤ 3) = false := decide_eq_false c11
      clear c11
      replace H := Option.bind_eq_some_iff.mp H
      obtain ⟨t110, A320, H⟩ := H
      replace H : (dactylref06_Cells.l0 k a1 t102 t110 ([] : List (S93)) 0 a0_0 a0_1) = some r := H
      have A32 := Aside0.mk A320
      clear A320
      have H' := Aside0.mk H
      clear H
      go_enter Try.func26, Try.ntmps26
      go_wp2_with (first | ((with_reducible refine gate_dst (N := 2) rfl ?_); refine box_event ?hg (N := 2) ?hd (cs := #[.int .i64 a0_0, .int .i64 a0_1]) (t := 45) ?hr ?_; (case hd => rfl); (case hg => rfl); (case hr => first | (go_simp; done) | (go_simp; rfl)); intro gb101 hg w33 hbox hb; have n0_ := Aside0.mk (below_step (by repeat (first | (with_reducible first | exact HB.out | apply below_alloc | apply pw_below_drewN | apply below_drew1) | exact HB.out)) hb); have n1_ := Aside0.mk (hbox); have n2_ := Aside0.mk ((by rw [hg]; exact (below_size (by repeat (first | (with_reducible first | exact HB.out | apply below_alloc | apply pw_below_drewN | apply below_drew1) | exact HB.out))) : w.heap.size ≤ gb101)); have n3_ := Aside0.mk ((by rw [hg]; exact (below_size (by repeat (first | (with_reducible first | exact HB.out | apply below_alloc | apply pw_below_drewN | apply below_drew1) | exact HB.out))) : w.heap.size ≤ gb101)); clear HB; have HB := n0_; have BK101 := n1_; have GW101 := n2_; have GE101 := n3_; clear n0_ n1_ n2_ n3_; clear hb hbox hg; have hcz34_0 : w33.cell? ⟨gb101, 0, none⟩ = some (.int .i64 a0_0) := (blk_cell BK101.out 0).trans rfl; have hcz34_1 : w33.cell? ⟨gb101, 1, none⟩ = some (.int .i64 a0_1) := (blk_cell BK101.out 1).trans rfl; have hfz34_0 := blk_frozen BK101.out 0; have hfz34_1 := blk_frozen BK101.out 1) | ((with_reducible refine gate_callee (f := 29) rfl ?_); refine goesL_ (some 12) rfl rfl Try.func29 (by kernel_rfl) rfl #[.agg #[.int .i64 a0_0, .int .i64 a0_1]] rfl (by (try simp only [List.map_toArray, List.map_cons, List.map_nil]); first | done | rfl | (simp only [List.length_drop, List.length_take]; rfl)) ?_; (with_reducible refine (dactylref06_Looks.calls k a0_0 a0_1 t102 _ A3.out).mono ?_); rintro e w35 ⟨rfl, hb⟩; refine ⟨_, rfl, ?_⟩; have n0_ := Aside0.mk (blk_below (g := gb101) (o := .cells #[.int .i64 a0_0, .int .i64 a0_1] 45 (0, 0)) (by (with_reducible repeat (first | refine blk_drewN ?_ _ | refine blk_drew ?_ | refine blk_alloc ?_ _)); exact BK101.out) hb); have n1_ := Aside0.mk (below_step (by repeat (first | (with_reducible first | exact HB.out | apply below_alloc | apply pw_below_drewN | apply below_drew1 | refine below_set ?_ GE101.out) | exact HB.out)) hb); clear BK101; clear HB; have BK101 := n0_; have HB := n1_; clear n0_ n1_; (try clear hb); (try clear hb2); (try clear hk); (try clear hi); have hcz36_0 : w35.cell? ⟨gb101, 0, none⟩ = some (.int .i64 a0_0) := (blk_cell BK101.out 0).trans rfl; have hcz36_1 : w35.cell? ⟨gb101, 1, none⟩ = some (.int .i64 a0_1) := (blk_cell BK101.out 1).trans rfl; have hfz36_0 := blk_frozen BK101.out 0; have hfz36_1 := blk_frozen BK101.out 1) | ((with_reducible refine gate_callee (f := 71) rfl ?_); refine goesL_ (some 15) rfl rfl Try.func71 (by kernel_rfl) rfl #[.int .i64 a0_0] rfl (by (try simp only [List.map_toArray, List.map_cons, List.map_nil]); first | done | rfl | (simp only [List.length_drop, List.length_take]; rfl)) ?_; (with_reducible refine (dactylref03_Of.calls k a0_0 t103 _ A4.out).mono ?_); rintro e w37 ⟨rfl, hb⟩; refine ⟨_, rfl, ?_⟩; have n0_ := Aside0.mk (blk_below (g := gb101) (o := .cells #[.int .i64 a0_0, .int .i64 a0_1] 45 (0, 0)) (by (with_reducible repeat (first | refine blk_drewN ?_ _ | refine blk_drew ?_ | refine blk_alloc ?_ _)); exact BK101.out) hb); have n1_ := Aside0.mk (below_step (by repeat (first | (with_reducible first | exact HB.out | apply below_alloc | apply pw_below_drewN | apply below_drew1 | refine below_set ?_ GE101.out) | exact HB.out)) hb); clear BK101; clear HB; have BK101 := n0_; have HB := n1_; clear n0_ n1_; (try clear hb); (try clear hb2); (try clear hk); (try clear hi); have hcz38_0 : w37.cell? ⟨gb101, 0, none⟩ = some (.int .i64 a0_0) := (blk_cell BK101.out 0).trans rfl; have hcz38_1 : w37.cell? ⟨gb101, 1, none⟩ = some (.int .i64 a0_1) := (blk_cell BK101.out 1).trans rfl; have hfz38_0 := blk_frozen BK101.out 0; have hfz38_1 := blk_frozen BK101.out 1) | ((with_reducible refine gate_callee (f := 48) rfl ?_); refine goesL_ (some 41) rfl rfl Try.func48 (by kernel_rfl) rfl #[.int .i64 a0_0] rfl (by (try simp only [List.map_toArray, List.map_cons, List.map_nil]); first | done | rfl | (simp only [List.length_drop, List.length_take]; rfl)) ?_; (with_reducible refine (dactylref06_Text.calls k a0_0 t110 _ A32.out).mono ?_); rintro e w39 ⟨rfl, hb⟩; refine ⟨_, rfl, ?_⟩; have n0_ := Aside0.mk (blk_below (g := gb101) (o := .cells #[.int .i64 a0_0, .int .i64 a0_1] 45 (0, 0)) (by (with_reducible repeat (first | refine blk_drewN ?_ _ | refine blk_drew ?_ | refine blk_alloc ?_ _)); exact BK101.out) hb); have n1_ := Aside0.mk (below_step (by repeat (first | (with_reducible first | exact HB.out | apply below_alloc | apply pw_below_drewN | apply below_drew1 | refine below_set ?_ GE101.out) | exact HB.out)) hb); clear BK101; clear HB; have BK101 := n0_; have HB := n1_; clear n0_ n1_; (try clear hb); (try clear hb2); (try clear hk); (try clear hi)))
      go_loopg [9, 10] k (fun kq v9 v10 w' => ∃ (x9_1 : List (S93)) (x10_1 : Int), v10 = .int .i64 x10_1 ∧ Aside0 (dactylref06_Cells.l0 kq a1 t102 t110 x9_1 x10_1 a0_0 a0_1 = some r) ∧ Aside0 (kq ≤ k) ∧ Aside0 (Kd.R k93 93 w' w.heap.size (fun _ => True) v9 x9_1) ∧ Aside0 (w'.heap[gb101]? = some (.cells #[.int .i64 a0_0, .int .i64 a0_1] 45 (0, 0))) ∧ Aside0 (Below w.heap.size w w'))
      case atStart => exact ⟨(([] : List (S93))), (0), (by first | rfl | (simp; done) | (simp [*]; done)), H', ⟨Nat.le_refl _⟩, ⟨by first | exact Kd.R_nil _ _ _ _ _ | exact Kd.N_nil _ _ _ _ _ | exact Kd.V_nil _ _ _ _ _ | exact Kd.Q_nil _ _ _ _ _ | exact Kd.S_nil _ _ _ _ _⟩, ⟨by (with_reducible repeat (first | refine blk_drewN ?_ _ | refine blk_drew ?_ | refine blk_alloc ?_ _)); exact BK101.out⟩, ⟨by repeat (first | (with_reducible first | exact HB.out | apply below_alloc | apply pw_below_drewN | apply below_drew1 | refine below_set ?_ GE101.out) | exact HB.out)⟩⟩
      case round =>
        clear H'
        try clear c1
        try clear c2
        try clear p2
        try clear c4
        try clear c5
        try clear c5b0
        try clear c5b1
        try clear c7
        try clear c11
        try clear c11b0
        try clear c12
        try clear c12b0
        try clear c12b1
        try clear c13
        try clear c26
        try clear c29
        try clear hcz15_0
        try clear hcz15_1
        try clear hcz17_0
        try clear hcz17_1
        try clear hcz19_0
        try clear hcz19_1
        try clear hcz22_0
        try clear hcz22_1
        try clear hcz25_0
        try clear hcz25_1
        try clear hcz27_0
        try clear hcz27_1
        try clear hcz29_0
        try clear hcz29_1
        try clear hcz34_0
        try clear hcz34_1
        try clear hcz36_0
        try clear hcz36_1
        try clear hcz38_0
        try clear hcz38_1
        try clear hcz7_0
        try clear hcz7_1
        try clear hcz9_0
        try clear hcz9_1
        try clear hfz15_0
        try clear hfz15_1
        try clear hfz17_0
        try clear hfz17_1
        try clear hfz19_0
        try clear hfz19_1
        try clear hfz22_0
        try clear hfz22_1
        try clear hfz25_0
        try clear hfz25_1
        try clear hfz27_0
        try clear hfz27_1
        try clear hfz29_0
        try clear hfz29_1
        try clear hfz34_0
        try clear hfz34_1
        try clear hfz36_0
        try clear hfz36_1
        try clear hfz38_0
        try clear hfz38_1
        try clear hfz7_0
        try clear hfz7_1
        try clear hfz9_0
        try clear hfz9_1
        obtain ⟨x9_1, x10_1, rfl, HA, HK1, HO_9, BK101, HB⟩ := hrel
        cases gk with
        | zero => exact absurd HA.out (by simp [dactylref06_Cells.l0])
        | succ k1 =>
          have H := HA.out
          clear HA
          simp only [dactylref06_Cells.l0] at H
          by_cases c40 : x10_1 < (t110.size : Int)
          · rw [if_pos c40] at H
            have c40b0 : decide (x10_1 < (t110.size : Int)) = true := decide_eq_true c40
            clear c40
            by_cases c41 : 0 ≤ x10_1
            · rw [if_pos c41] at H
              have c41b0 : decide (0 ≤ x10_1) = true := decide_eq_true c41
              clear c41
              by_cases c43 : x9_1.length < 3518437208883
              · rw [if_pos c43] at H
                have LMc43 := Aside0.mk c43
                clear c43
                obtain ⟨y111, hy111⟩ : ∃ y_ : List (S93), y_ = (x9_1 ++ [(⟨wrap64 (bt t110 x10_1), t102, a1, a0_0, x10_1⟩ : S93)]) := ⟨_, rfl⟩
                replace H : (dactylref06_Cells.l0 k1 a1 t102 t110 y111 (wrap64 (x10_1 + 1)) a0_0 a0_1) = some r := by first | (rw [hy111]; with_reducible exact H) | (have H2_ := (Option.bind_some _ _).symm.trans H; rw [hy111]; with_reducible exact H2_) | (have H2_ := (Option.bind_some _ _).symm.trans H; with_reducible exact H2_) | with_reducible exact H | (rw [hy111]; exact H) | exact H
                have Ny111 := Aside0.mk hy111
                clear hy111
                have H' := Aside0.mk H
                clear H
                try go_wp2
                have n0_ := Aside0.mk (Kd.R_drew HO_9.out)
                have n1_ := Aside0.mk (blk_drew BK101.out)
                have n2_ := Aside0.mk (below_drew1 HB.out)
                clear HO_9
                clear BK101
                clear HB
                have HO_9 := n0_
                have BK101 := n1_
                have HB := n2_
                clear n0_ n1_ n2_
                have p42 : 0 ≤ (x10_1 : Int) := of_decide_eq_true (by first | (with_reducible assumption) | assumption)
                have q42 : x10_1 < (t110.size : Int) := of_decide_eq_true (by first | (with_reducible assumption) | assumption)
                have hx42 := bt_at t110 x10_1
                replace p42 := eq_true p42
                replace q42 := eq_true q42
                refine start_ (n := 14) (S := fun w' => w'.cell? ⟨gb101, 0, none⟩ = some (.int .i64 a0_0) ∧ w'.cell? ⟨gb101, 1, none⟩ = some (.int .i64 a0_1)) (ds := []) #[false, false, false, false, false, false, false, false, false, false, false, false, false, false] (by kernel_rfl) rfl rfl ⟨(blk_cell BK101.out 0).trans rfl, (blk_cell BK101.out 1).trans rfl⟩ (fun hHeld => ?_); refine with_tabW dactylref06_Cells.tab15 dactylref06_Cells.bits15 (fun HT_ HW_ => ?_)
                generalize wr.drew = w44 at HO_9 BK101 HB hHeld ⊢
                refine pure_ (i := 0) (N := some 48) (v := ?_) (a' := ?_) #[true, false, false, false, false, false, false, false, false, false, false, false, false, false] rfl rfl (any_of HT_.out (by kernel_rfl)) (fun _ _ _ h => h) (Or.inl ⟨by rfl, ?_⟩) ?_ ?_
                rotate_left
                · intro w'
                  go_simp
                  with_reducible rfl
                rotate_left
                · simp only [Act.put, List.setIfInBounds_toArray, List.set_cons_zero, List.set_cons_succ, i64_w, i32_w]
                  rfl
                refine pure_ (i := 1) (N := some 49) (v := ?_) (a' := ?_) #[true, true, false, false, false, false, false, false, false, false, false, false, false, false] rfl rfl (any_of HT_.out (by kernel_rfl)) (fun _ _ _ h => h) (Or.inl ⟨by rfl, ?_⟩) ?_ ?_
                rotate_left
                · intro w'
                  go_simp
                  with_reducible rfl
                rotate_left
                · simp only [Act.put, List.setIfInBounds_toArray, List.set_cons_zero, List.set_cons_succ, i64_w, i32_w]
                  rfl
                refine pure_ (i := 2) (N := some 50) (v := ?_) (a' := ?_) #[true, true, true, false, false, false, false, false, false, false, false, false, false, false] rfl rfl (any_of HT_.out (by kernel_rfl)) (fun _ _ _ h => h) (Or.inl ⟨by rfl, ?_⟩) ?_ ?_
                rotate_left
                · intro w'
                  go_simp
                  with_reducible rfl
                rotate_left
                · simp only [Act.put, List.setIfInBounds_toArray, List.set_cons_zero, List.set_cons_succ, i64_w, i32_w]
                  rfl
                refine pure_ (i := 5) (N := some 53) (v := ?_) (a' := ?_) #[true, true, true, false, false, true, false, false, false, false, false, false, false, false] rfl rfl (any_of HT_.out (by kernel_rfl)) (fun _ _ _ h => h) (Or.inl ⟨by rfl, ?_⟩) ?_ ?_
                rotate_left
                · intro w'
                  go_simp
                  with_reducible rfl
                rotate_left
                · simp only [Act.put, List.setIfInBounds_toArray, List.set_cons_zero, List.set_cons_succ, i64_w, i32_w]
                  rfl
                refine pure_ (i := 6) (N := some 54) (v := ?_) (a' := ?_) #[true, true, true, false, false, true, true, false, false, false, false, false, false, false] rfl rfl (any_of HT_.out (by kernel_rfl)) (fun _ _ _ h => h) (Or.inl ⟨by rfl, ?_⟩) ?_ ?_
                rotate_left
                · intro w'
                  go_simp
                  with_reducible rfl
                rotate_left
                · simp only [Act.put, List.setIfInBounds_toArray, List.set_cons_zero, List.set_cons_succ, i64_w, i32_w]
                  rfl
                refine pure_ (i := 7) (N := some 55) (v := ?_) (a' := ?_) #[true, true, true, false, false, true, true, true, false, false, false, false, false, false] rfl rfl (any_of HT_.out (by kernel_rfl)) (fun _ _ _ h => h) (Or.inl ⟨by rfl, ?_⟩) ?_ ?_
                rotate_left
                · intro w'
                  go_simp
                  with_reducible rfl
                rotate_left
                · simp only [Act.put, List.setIfInBounds_toArray, List.set_cons_zero, List.set_cons_succ, i64_w, i32_w]
                  rfl
                refine pure_ (i := 9) (N := some 57) (v := ?_) (a' := ?_) #[true, true, true, false, false, true, true, true, false, true, false, false, false, false] rfl rfl (any_of HT_.out (by kernel_rfl)) (fun _ _ _ h => h) (Or.inl ⟨by rfl, ?_⟩) ?_ ?_
                rotate_left
                · intro w'
                  go_simp
                  with_reducible rfl
                rotate_left
                · simp only [Act.put, List.setIfInBounds_toArray, List.set_cons_zero, List.set_cons_succ, i64_w, i32_w]
                  rfl
                refine take_ (i := 3) (N := some 51) (v := ?_) (a' := ?_) #[true, true, true, true, false, true, true, true, false, true, false, false, false, false] rfl rfl (take_ofW HT_.out HW_.out (by kernel_rfl)) (fun _ _ _ h => h) (Or.inl ⟨by rfl, ?_⟩) hHeld ?_ ?_
                rotate_left
                · rintro w' ⟨s0, s1⟩
                  go_simp
                  with_reducible rfl
                rotate_left
                · simp only [Act.put, List.setIfInBounds_toArray, List.set_cons_zero, List.set_cons_succ, i64_w, i32_w]
                  rfl
                refine pure_ (i := 4) (N := some 52) (v := ?_) (a' := ?_) #[true, true, true, true, true, true, true, true, false, true, false, false, false, false] rfl rfl (any_of HT_.out (by kernel_rfl)) (fun _ _ _ h => h) (Or.inl ⟨by rfl, ?_⟩) ?_ ?_
                rotate_left
                · intro w'
                  go_simp
                  with_reducible rfl
                rotate_left
                · simp only [Act.put, List.setIfInBounds_toArray, List.set_cons_zero, List.set_cons_succ, i64_w, i32_w]
                  rfl
                refine take_ (i := 8) (N := some 56) (v := ?_) (a' := ?_) #[true, true, true, true, true, true, true, true, true, true, false, false, false, false] rfl rfl (take_ofW HT_.out HW_.out (by kernel_rfl)) (fun _ _ _ h => h) (Or.inl ⟨by rfl, ?_⟩) hHeld ?_ ?_
                rotate_left
                · rintro w' ⟨s0, s1⟩
                  go_simp
                  with_reducible rfl
                rotate_left
                · simp only [Act.put, List.setIfInBounds_toArray, List.set_cons_zero, List.set_cons_succ, i64_w, i32_w]
                  rfl
                refine pure_ (i := 10) (N := some 58) (v := ?_) (a' := ?_) #[true, true, true, true, true, true, true, true, true, true, true, false, false, false] rfl rfl (any_of HT_.out (by kernel_rfl)) (fun _ _ _ h => h) (Or.inl ⟨by rfl, ?_⟩) ?_ ?_
                rotate_left
                · intro w'
                  go_simp
                  with_reducible rfl
                rotate_left
                · simp only [Act.put, List.setIfInBounds_toArray, List.set_cons_zero, List.set_cons_succ, i64_w, i32_w]
                  rfl
                refine one_ (i := 11) (N := some 59) #[true, true, true, true, true, true, true, true, true, true, true, true, false, false] rfl rfl (one_of HT_.out (by kernel_rfl)) (by decide) (fun K hK => ?_)
                refine value_ (w1 := ?_) (v := ?_) (by rfl) rfl ?_ ?_
                rotate_left 2
                · go_simp
                  constructor
                  · rfl
                  · rfl
                refine hK.out _ _ ⟨(blk_cell (blk_alloc BK101.out _) 0).trans rfl, (blk_cell (blk_alloc BK101.out _) 1).trans rfl⟩ (fun hHeld => ?_)
                clear hK K
                refine norm_ (a' := ?_) ?_ ?_
                rotate_left
                · show Act.put _ (some 59) _ = _
                  simp only [Act.put, List.setIfInBounds_toArray, List.set_cons_zero, List.set_cons_succ, i64_w, i32_w]
                  rfl
                refine one_ (i := 12) (N := some 60) #[true, true, true, true, true, true, true, true, true, true, true, true, true, false] rfl rfl (one_of HT_.out (by kernel_rfl)) (by decide) (fun K hK => ?_)
                refine Kd.R_append_step k93 (w0 := w) w.heap.size (by rfl) (.tmp 48) (.tmp 59) 46 93 (.agg #[(.int .i64 0), (.int .i64 0), (.int .i64 0), (.int .i64 0), (.int .i64 0)]) 40 rfl Try.underlying46 info93 rfl (by decide) (by omega) u9 x9_1 (⟨wrap64 (bt t110 x10_1), t102, a1, a0_0, x10_1⟩ : S93) [.int .i64 (wrap64 (bt t110 x10_1)), .int .i64 t102, .int .i64 a1, .int .i64 a0_0, .int .i64 x10_1] (fun _ => True) (fun _ => False) rfl rfl ?aP (fun _ hk => hk.elim) ?aF ?aO ?aB ?aS ?aL ?_
                (case aP => exact k93_mkM _ _ _ (⟨wrap64 (bt t110 x10_1), t102, a1, a0_0, x10_1⟩ : S93))
                (case aB => exact (by repeat (first | (with_reducible first | exact HB.out | apply below_alloc | apply pw_below_drewN | apply below_drew1 | refine below_set ?_ GE101.out) | exact HB.out)))
                (case aF => exact (fun _ _ => trivial))
                (case aO => exact (by (with_reducible repeat (first | apply Kd.R_alloc | apply Kd.R_drewN | apply Kd.R_drew)); exact HO_9.out))
                (case aS => exact (below_size (by repeat (first | (with_reducible first | exact HB.out | apply below_alloc | apply pw_below_drewN | apply below_drew1 | refine below_set ?_ GE101.out) | exact HB.out))))
                (case aL => have := LMc43.out; omega)
                intro v112 w45 ho hb hg hat
                rw [← Ny111.out] at ho
                have n0_ := Aside0.mk (blk_grown (g := gb101) (o := .cells #[.int .i64 a0_0, .int .i64 a0_1] 45 (0, 0)) (by (with_reducible repeat (first | refine blk_drewN ?_ _ | refine blk_drew ?_ | refine blk_alloc ?_ _)); exact BK101.out) hg (Kd.R_ne HO_9.out BK101.out (by decide)))
                have n1_ := Aside0.mk (hb)
                have n2_ := Aside0.mk (ho)
                clear BK101
                clear HB
                clear HO_9
                have BK101 := n0_
                have HB := n1_
                have HO113 := n2_
                clear n0_ n1_ n2_
                clear ho hb hg hat
                refine hK.out _ _ ⟨(blk_cell BK101.out 0).trans rfl, (blk_cell BK101.out 1).trans rfl⟩ (fun hHeld => ?_)
                clear hK K
                refine norm_ (a' := ?_) ?_ ?_
                rotate_left
                · show Act.put _ (some 60) _ = _
                  simp only [Act.put, List.setIfInBounds_toArray, List.set_cons_zero, List.set_cons_succ, i64_w, i32_w]
                  rfl
                refine pure_ (i := 13) (N := some 9) (v := ?_) (a' := ?_) #[true, true, true, true, true, true, true, true, true, true, true, true, true, true] rfl rfl (any_of HT_.out (by kernel_rfl)) (fun _ _ _ h => h) (Or.inl ⟨by rfl, ?_⟩) ?_ ?_
                rotate_left
                · intro w'
                  go_simp
                  with_reducible rfl
                rotate_left
                · simp only [Act.put, List.setIfInBounds_toArray, List.set_cons_zero, List.set_cons_succ, i64_w, i32_w]
                  rfl
                refine done_ (done_of HT_.out (by kernel_rfl)) ?_
                try go_wp2
                go_roundg k1
                case measure => have := HK1.out; omega
                case rel => exact ⟨(y111), (wrap64 (x10_1 + 1)), (by first | rfl | (simp; done) | (simp [*]; done)), H', ⟨by have := HK1.out; omega⟩, ⟨by (with_reducible repeat (first | apply Kd.R_alloc | apply Kd.R_drewN | apply Kd.R_drew)); exact HO113.out⟩, ⟨by (with_reducible repeat (first | refine blk_drewN ?_ _ | refine blk_drew ?_ | refine blk_alloc ?_ _)); exact BK101.out⟩, ⟨by repeat (first | (with_reducible first | exact HB.out | apply below_alloc | apply pw_below_drewN | apply below_drew1 | refine below_set ?_ GE101.out) | exact HB.out)⟩⟩
              · rw [if_neg c43] at H
                exact absurd H (by simp)
            · rw [if_neg c41] at H
              exact absurd H (by simp)
          · rw [if_neg c40] at H
            have c40b0 : decide (x10_1 < (t110.size : Int)) = false := decide_eq_false c40
            clear c40
            obtain rfl := Option.some.inj H
            go_wp2
            go_ret
            exact ⟨_, by first | rfl | (simp [errW_none, errW_some] <;> rfl) | (simp [*, errW_none, errW_some] <;> rfl), by (with_reducible repeat (first | apply Kd.R_alloc | apply Kd.R_drewN | apply Kd.R_drew)); exact HO_9.out, by repeat (first | (with_reducible first | exact HB.out | apply below_alloc | apply pw_below_drewN | apply below_drew1 | refine below_set ?_ GE101.out) | exact HB.out)⟩

end Go.Proofs.Ytemoocoedibbpaa.X

namespace Go.Proofs.Ytemoocoedibbpaa.X
open Go.RowKit Go.Proofs.YtemoocoedibbpaaW.PrintWords Go.Proofs.YtemoocoedibbpaaW.PrintLast Go.Proofs.YtemoocoedibbpaaW.PrintMore
attribute [local go_sem] max2_int min2_int max_two min_two max_three min_three max_four min_four
set_option linter.unusedVariables false
set_option linter.unusedSimpArgs false

/-! ### dactylref03_Width: function 75 -/
def dactylref03_Width.f (k : Nat) (a0 : Int) : Option (Int) := (dactylref03_Of.f k a0).bind fun t101 => (if t101 = 2 then (some 2) else (if t101 = 1 then (some 1) else (if t101 = 3 then (some 1) else (some 0))))
theorem dactylref03_Width.mono : ∀ a0 k, LeO (dactylref03_Width.f k a0) (dactylref03_Width.f (k + 1) a0) := by
  intro a0 k
  unfold dactylref03_Width.f
  repeat' first
      | (with_reducible exact dactylref03_Of.mono _ _)
      | (with_reducible exact LeO.refl _)
      | (with_reducible exact LeO.none _)
      | (with_reducible refine LeO.ite ?_ ?_)
      | (with_reducible refine LeO.bind ?_ (fun _ => ?_))
      | exact dactylref03_Of.mono _ _
      | exact LeO.none _
      | refine LeO.ite ?_ ?_
      | refine LeO.bind ?_ (fun _ => ?_)
set_option maxHeartbeats 8000000 in
set_option maxRecDepth 100000 in
theorem dactylref03_Width.calls (k : Nat) (a0 : Int) (r : Int) (w : World) (h : dactylref03_Width.f k a0 = some r) :
    Calls Try.prog 75 #[.int .i64 a0] w fun e w' => e = .returned (.int .i64 r) ∧ Below w.heap.size w w' := by
  have HB := Aside0.mk (Below.refl w.heap.size w)
  have H : ((dactylref03_Of.f k a0).bind fun t101 => (if t101 = 2 then (some 2) else (if t101 = 1 then (some 1) else (if t101 = 3 then (some 1) else (some 0))))) = some r := h
  clear h
  replace H := Option.bind_eq_some_iff.mp H
  obtain ⟨t101, A20, H⟩ := H
  replace H : (if t101 = 2 then (some 2) else (if t101 = 1 then (some 1) else (if t101 = 3 then (some 1) else (some 0)))) = some r := H
  have A2 := Aside0.mk A20
  clear A20
  by_cases c3 : t101 = 2
  · rw [if_pos c3] at H
    have c3b0 : (t101 == 2) = true := beq_iff_eq.mpr c3
    have c3b1 : (t101 != 2) = false := bne_eq_false_iff_eq.mpr c3
    clear c3
    obtain rfl := Option.some.inj H
    go_enter Try.func75, Try.ntmps75
    go_wp2_with (first | ((with_reducible refine gate_callee (f := 71) rfl ?_); refine goesL_ (some 5) rfl rfl Try.func71 (by kernel_rfl) rfl #[.int .i64 a0] rfl (by (try simp only [List.map_toArray, List.map_cons, List.map_nil]); first | done | rfl | (simp only [List.length_drop, List.length_take]; rfl)) ?_; (with_reducible refine (dactylref03_Of.calls k a0 t101 _ A2.out).mono ?_); rintro e w4 ⟨rfl, hb⟩; refine ⟨_, rfl, ?_⟩; have n0_ := Aside0.mk (below_step (by repeat (first | (with_reducible first | exact HB.out | apply below_alloc | apply pw_below_drewN | apply below_drew1) | exact HB.out)) hb); clear HB; have HB := n0_; clear n0_; (try clear hb); (try clear hb2); (try clear hk); (try clear hi)))
    go_ret
    exact ⟨by first | rfl | (simp [errW_none, errW_some] <;> rfl) | (simp [*, errW_none, errW_some] <;> rfl), by repeat (first | (with_reducible first | exact HB.out | apply below_alloc | apply pw_below_drewN | apply below_drew1) | exact HB.out)⟩
  · rw [if_neg c3] at H
    have c3b0 : (t101 == 2) = false := beq_eq_false_iff_ne.mpr c3
    have c3b1 : (t101 != 2) = true := bne_iff_ne.mpr c3
    by_cases c5 : t101 = 1
    · rw [if_pos c5] at H
      have c5b0 : (t101 == 1) = true := beq_iff_eq.mpr c5
      have c5b1 : (t101 != 1) = false := bne_eq_false_iff_eq.mpr c5
      clear c5
      obtain rfl := Option.some.inj H
      go_enter Try.func75, Try.ntmps75
      go_wp2_with (first | ((with_reducible refine gate_callee (f := 71) rfl ?_); refine goesL_ (some 5) rfl rfl Try.func71 (by kernel_rfl) rfl #[.int .i64 a0] rfl (by (try simp only [List.map_toArray, List.map_cons, List.map_nil]); first | done | rfl | (simp only [List.length_drop, List.length_take]; rfl)) ?_; (with_reducible refine (dactylref03_Of.calls k a0 t101 _ A2.out).mono ?_); rintro e w6 ⟨rfl, hb⟩; refine ⟨_, rfl, ?_⟩; have n0_ := Aside0.mk (below_step (by repeat (first | (with_reducible first | exact HB.out | apply below_alloc | apply pw_below_drewN | apply below_drew1) | exact HB.out)) hb); clear HB; have HB := n0_; clear n0_; (try clear hb); (try clear hb2); (try clear hk); (try clear hi)))
      go_ret
      exact ⟨by first | rfl | (simp [errW_none, errW_some] <;> rfl) | (simp [*, errW_none, errW_some] <;> rfl), by repeat (first | (with_reducible first | exact HB.out | apply below_alloc | apply pw_below_drewN | apply below_drew1) | exact HB.out)⟩
    · rw [if_neg c5] at H
      have c5b0 : (t101 == 1) = false := beq_eq_false_iff_ne.mpr c5
      have c5b1 : (t101 != 1) = true := bne_iff_ne.mpr c5
      by_cases c7 : t101 = 3
      · rw [if_pos c7] at H
        have c7b0 : (t101 == 3) = true := beq_iff_eq.mpr c7
        have c7b1 : (t101 != 3) = false := bne_eq_false_iff_eq.mpr c7
        clear c7
        obtain rfl := Option.some.inj H
        go_enter Try.func75, Try.ntmps75
        go_wp2_with (first | ((with_reducible refine gate_callee (f := 71) rfl ?_); refine goesL_ (some 5) rfl rfl Try.func71 (by kernel_rfl) rfl #[.int .i64 a0] rfl (by (try simp only [List.map_toArray, List.map_cons, List.map_nil]); first | done | rfl | (simp only [List.length_drop, List.length_take]; rfl)) ?_; (with_reducible refine (dactylref03_Of.calls k a0 t101 _ A2.out).mono ?_); rintro e w8 ⟨rfl, hb⟩; refine ⟨_, rfl, ?_⟩; have n0_ := Aside0.mk (below_step (by repeat (first | (with_reducible first | exact HB.out | apply below_alloc | apply pw_below_drewN | apply below_drew1) | exact HB.out)) hb); clear HB; have HB := n0_; clear n0_; (try clear hb); (try clear hb2); (try clear hk); (try clear hi)))
        go_ret
        exact ⟨by first | rfl | (simp [errW_none, errW_some] <;> rfl) | (simp [*, errW_none, errW_some] <;> rfl), by repeat (first | (with_reducible first | exact HB.out | apply below_alloc | apply pw_below_drewN | apply below_drew1) | exact HB.out)⟩
      · rw [if_neg c7] at H
        have c7b0 : (t101 == 3) = false := beq_eq_false_iff_ne.mpr c7
        have c7b1 : (t101 != 3) = true := bne_iff_ne.mpr c7
        obtain rfl := Option.some.inj H
        go_enter Try.func75, Try.ntmps75
        go_wp2_with (first | ((with_reducible refine gate_callee (f := 71) rfl ?_); refine goesL_ (some 5) rfl rfl Try.func71 (by kernel_rfl) rfl #[.int .i64 a0] rfl (by (try simp only [List.map_toArray, List.map_cons, List.map_nil]); first | done | rfl | (simp only [List.length_drop, List.length_take]; rfl)) ?_; (with_reducible refine (dactylref03_Of.calls k a0 t101 _ A2.out).mono ?_); rintro e w9 ⟨rfl, hb⟩; refine ⟨_, rfl, ?_⟩; have n0_ := Aside0.mk (below_step (by repeat (first | (with_reducible first | exact HB.out | apply below_alloc | apply pw_below_drewN | apply below_drew1) | exact HB.out)) hb); clear HB; have HB := n0_; clear n0_; (try clear hb); (try clear hb2); (try clear hk); (try clear hi)))
        go_ret
        exact ⟨by first | rfl | (simp [errW_none, errW_some] <;> rfl) | (simp [*, errW_none, errW_some] <;> rfl), by repeat (first | (with_reducible first | exact HB.out | apply below_alloc | apply pw_below_drewN | apply below_drew1) | exact HB.out)⟩

end Go.Proofs.Ytemoocoedibbpaa.X

namespace Go.Proofs.Ytemoocoedibbpaa.X
open Go.RowKit Go.Proofs.YtemoocoedibbpaaW.PrintWords Go.Proofs.YtemoocoedibbpaaW.PrintLast Go.Proofs.YtemoocoedibbpaaW.PrintMore
attribute [local go_sem] max2_int min2_int max_two min_two max_three min_three max_four min_four
set_option linter.unusedVariables false
set_option linter.unusedSimpArgs false

/-! ### dactylref06_Cols: function 31 -/
def dactylref06_Cols.f (k : Nat) (a0 : Int) : Option (Int) := (dactylref03_Of.f k a0).bind fun t101 => (if t101 > 3 then ((dactylref06_Text.f k a0).bind fun t102 => (some (t102.size : Int))) else ((dactylref03_Width.f k a0).bind fun t103 => (some t103)))
theorem dactylref06_Cols.mono : ∀ a0 k, LeO (dactylref06_Cols.f k a0) (dactylref06_Cols.f (k + 1) a0) := by
  intro a0 k
  unfold dactylref06_Cols.f
  repeat' first
      | (with_reducible exact dactylref03_Of.mono _ _)
      | (with_reducible exact dactylref03_Width.mono _ _)
      | (with_reducible exact dactylref06_Text.mono _ _)
      | (with_reducible exact LeO.refl _)
      | (with_reducible exact LeO.none _)
      | (with_reducible refine LeO.ite ?_ ?_)
      | (with_reducible refine LeO.bind ?_ (fun _ => ?_))
      | exact dactylref03_Of.mono _ _
      | exact dactylref03_Width.mono _ _
      | exact dactylref06_Text.mono _ _
      | exact LeO.none _
      | refine LeO.ite ?_ ?_
      | refine LeO.bind ?_ (fun _ => ?_)
set_option maxHeartbeats 8000000 in
set_option maxRecDepth 100000 in
theorem dactylref06_Cols.calls (k : Nat) (a0 : Int) (r : Int) (w : World) (h : dactylref06_Cols.f k a0 = some r) :
    Calls Try.prog 31 #[.int .i64 a0] w fun e w' => e = .returned (.int .i64 r) ∧ Below w.heap.size w w' := by
  have HB := Aside0.mk (Below.refl w.heap.size w)
  have H : ((dactylref03_Of.f k a0).bind fun t101 => (if t101 > 3 then ((dactylref06_Text.f k a0).bind fun t102 => (some (t102.size : Int))) else ((dactylref03_Width.f k a0).bind fun t103 => (some t103)))) = some r := h
  clear h
  replace H := Option.bind_eq_some_iff.mp H
  obtain ⟨t101, A20, H⟩ := H
  replace H : (if t101 > 3 then ((dactylref06_Text.f k a0).bind fun t102 => (some (t102.size : Int))) else ((dactylref03_Width.f k a0).bind fun t103 => (some t103))) = some r := H
  have A2 := Aside0.mk A20
  clear A20
  by_cases c3 : t101 > 3
  · rw [if_pos c3] at H
    have c3b0 : decide (3 < t101) = true := decide_eq_true c3
    clear c3
    replace H := Option.bind_eq_some_iff.mp H
    obtain ⟨t102, A40, H⟩ := H
    replace H : (some (t102.size : Int)) = some r := H
    have A4 := Aside0.mk A40
    clear A40
    obtain rfl := Option.some.inj H
    go_enter Try.func31, Try.ntmps31
    go_wp2_with (first | ((with_reducible refine gate_callee (f := 71) rfl ?_); refine goesL_ (some 4) rfl rfl Try.func71 (by kernel_rfl) rfl #[.int .i64 a0] rfl (by (try simp only [List.map_toArray, List.map_cons, List.map_nil]); first | done | rfl | (simp only [List.length_drop, List.length_take]; rfl)) ?_; (with_reducible refine (dactylref03_Of.calls k a0 t101 _ A2.out).mono ?_); rintro e w5 ⟨rfl, hb⟩; refine ⟨_, rfl, ?_⟩; have n0_ := Aside0.mk (below_step (by repeat (first | (with_reducible first | exact HB.out | apply below_alloc | apply pw_below_drewN | apply below_drew1) | exact HB.out)) hb); clear HB; have HB := n0_; clear n0_; (try clear hb); (try clear hb2); (try clear hk); (try clear hi)) | ((with_reducible refine gate_callee (f := 48) rfl ?_); refine goesL_ (some 7) rfl rfl Try.func48 (by kernel_rfl) rfl #[.int .i64 a0] rfl (by (try simp only [List.map_toArray, List.map_cons, List.map_nil]); first | done | rfl | (simp only [List.length_drop, List.length_take]; rfl)) ?_; (with_reducible refine (dactylref06_Text.calls k a0 t102 _ A4.out).mono ?_); rintro e w6 ⟨rfl, hb⟩; refine ⟨_, rfl, ?_⟩; have n0_ := Aside0.mk (below_step (by repeat (first | (with_reducible first | exact HB.out | apply below_alloc | apply pw_below_drewN | apply below_drew1) | exact HB.out)) hb); clear HB; have HB := n0_; clear n0_; (try clear hb); (try clear hb2); (try clear hk); (try clear hi)))
    go_ret
    exact ⟨by first | rfl | (simp [errW_none, errW_some] <;> rfl) | (simp [*, errW_none, errW_some] <;> rfl), by repeat (first | (with_reducible first | exact HB.out | apply below_alloc | apply pw_below_drewN | apply below_drew1) | exact HB.out)⟩
  · rw [if_neg c3] at H
    have c3b0 : decide (3 < t101) = false := decide_eq_false c3
    clear c3
    replace H := Option.bind_eq_some_iff.mp H
    obtain ⟨t103, A70, H⟩ := H
    replace H : (some t103) = some r := H
    have A7 := Aside0.mk A70
    clear A70
    obtain rfl := Option.some.inj H
    go_enter Try.func31, Try.ntmps31
    go_wp2_with (first | ((with_reducible refine gate_callee (f := 71) rfl ?_); refine goesL_ (some 4) rfl rfl Try.func71 (by kernel_rfl) rfl #[.int .i64 a0] rfl (by (try simp only [List.map_toArray, List.map_cons, List.map_nil]); first | done | rfl | (simp only [List.length_drop, List.length_take]; rfl)) ?_; (with_reducible refine (dactylref03_Of.calls k a0 t101 _ A2.out).mono ?_); rintro e w8 ⟨rfl, hb⟩; refine ⟨_, rfl, ?_⟩; have n0_ := Aside0.mk (below_step (by repeat (first | (with_reducible first | exact HB.out | apply below_alloc | apply pw_below_drewN | apply below_drew1) | exact HB.out)) hb); clear HB; have HB := n0_; clear n0_; (try clear hb); (try clear hb2); (try clear hk); (try clear hi)) | ((with_reducible refine gate_callee (f := 75) rfl ?_); refine goesL_ (some 10) rfl rfl Try.func75 (by kernel_rfl) rfl #[.int .i64 a0] rfl (by (try simp only [List.map_toArray, List.map_cons, List.map_nil]); first | done | rfl | (simp only [List.length_drop, List.length_take]; rfl)) ?_; (with_reducible refine (dactylref03_Width.calls k a0 t103 _ A7.out).mono ?_); rintro e w9 ⟨rfl, hb⟩; refine ⟨_, rfl, ?_⟩; have n0_ := Aside0.mk (below_step (by repeat (first | (with_reducible first | exact HB.out | apply below_alloc | apply pw_below_drewN | apply below_drew1) | exact HB.out)) hb); clear HB; have HB := n0_; clear n0_; (try clear hb); (try clear hb2); (try clear hk); (try clear hi)))
    go_ret
    exact ⟨by first | rfl | (simp [errW_none, errW_some] <;> rfl) | (simp [*, errW_none, errW_some] <;> rfl), by repeat (first | (with_reducible first | exact HB.out | apply below_alloc | apply pw_below_drewN | apply below_drew1) | exact HB.out)⟩

end Go.Proofs.Ytemoocoedibbpaa.X

namespace Go.Proofs.Ytemoocoedibbpaa.X
open Go.RowKit Go.Proofs.YtemoocoedibbpaaW.PrintWords Go.Proofs.YtemoocoedibbpaaW.PrintLast Go.Proofs.YtemoocoedibbpaaW.PrintMore
attribute [local go_sem] max2_int min2_int max_two min_two max_three min_three max_four min_four
set_option linter.unusedVariables false
set_option linter.unusedSimpArgs false

/-! ### EqualFunc_Cell: function 76 -/
set_option maxHeartbeats 8000000 in
set_option maxRecDepth 100000 in
theorem EqualFunc_Cell.calls (p : S93 → S93 → Bool) (g : Nat) (lb : Array Value) (eg : ∀ args w, (callFunc g args).run Try.prog w = .ok (.enter g args) w) (A0 : Option Addr) (c0 : Nat) (l0 : List S93) (A1 : Option Addr) (c1 : Nat) (l1 : List S93) (w : World) (hr0 : Kd.C k93 w A0 l0.length l0) (hr1 : Kd.C k93 w A1 l1.length l1) (hn : l0.length ≤ 9223372036854775807) (hn1 : l1.length ≤ 9223372036854775807)
    (hp : Pred2For g lb enc_Cell enc_Cell p w) :
    Calls Try.prog 76 #[.slice A0 l0.length c0, .slice A1 l1.length c1, .func (.func g) #[] lb] w fun e w' => e = .returned (.bool (eqP p l0 l1)) ∧ Below w.heap.size w w' := by
  have HR := Aside0.mk hr0
  have HS := Aside0.mk hr1
  have HP := Aside0.mk hp
  clear hr0 hr1 hp
  have hu := Try.underlying93
  by_cases hl : l0.length = l1.length
  · have e1 : ((l0.length : Int) == (l1.length : Int)) = true := beq_iff_eq.mpr (by omega)
    have e2 : ((l0.length : Int) != (l1.length : Int)) = false := bne_eq_false_iff_eq.mpr (by omega)
    have e3 : (l0.length == l1.length) = true := beq_iff_eq.mpr hl
    have HL := Aside0.mk hl
    clear hl
    go_enter Try.func76, Try.ntmps76
    go_wp2
    clear e1 e2 e3
    go_loopg [17] l0.length (fun gg s17 wr => ∃ kk : Nat, kk ≤ l0.length ∧ l0.length - kk ≤ gg ∧ s17 = .int .i64 kk ∧ Aside0 (Below w.heap.size w wr) ∧ Aside0 (∀ j, (h1 : j < l0.length) → (h2 : j < l1.length) → j < kk → p l0[j] l1[j] = true))
    case atStart => exact ⟨0, Nat.zero_le _, by omega, rfl, ⟨Below.refl _ w⟩, ⟨fun j _ _ hj => absurd hj (Nat.not_lt_zero _)⟩⟩
    case round =>
      obtain ⟨kk, hkk, hg, rfl, BW, A⟩ := hrel
      have hL := HL.out
      by_cases hlt : kk < l0.length
      · have hlt1 : decide ((kk : Int) < (l0.length : Int)) = true := decide_eq_true (by omega)
        have hlt2 : decide (kk < l0.length) = true := decide_eq_true hlt
        have hlt3 : decide ((kk : Int) < (l1.length : Int)) = true := decide_eq_true (by omega)
        have hlt4 : kk < l1.length := by omega
        clear hL
        obtain ⟨ad, e, a0, a1, a2, a3, a4⟩ := at_T93 (Kd.C_below HR.out BW.out) (kk : Int) (by omega) (by omega)
        cases e
        have ex : rd_T93 l0 (kk : Int) = l0[kk] := by simp [rd_T93, List.getD, hlt]
        obtain ⟨ad1, e, b0, b1, b2, b3, b4⟩ := at_T93 (Kd.C_alloc (Kd.C_below HS.out BW.out) (.cells #[.int .i64 (l0[kk]).f0, .int .i64 (l0[kk]).f1, .int .i64 (l0[kk]).f2, .int .i64 (l0[kk]).f3, .int .i64 (l0[kk]).f4] 93)) (kk : Int) (by omega) (by omega)
        cases e
        have ey : rd_T93 l1 (kk : Int) = l1[kk] := by simp [rd_T93, List.getD, hlt4]
        rw [ex] at a0 a1 a2 a3 a4
        rw [ey] at b0 b1 b2 b3 b4
        simp only [Int.toNat_natCast] at a0 a1 a2 a3 a4 b0 b1 b2 b3 b4
        have HC := Aside0.mk (fun W hb => HP.out W l0[kk] l1[kk] hb)
        generalize hx : l0[kk] = x at a0 a1 a2 a3 a4 b0 b1 b2 b3 b4 HC
        generalize hy : l1[kk] = y at b0 b1 b2 b3 b4 HC
        have BX := Aside0.mk hx
        have BY := Aside0.mk hy
        clear hx hy ex ey
        cases hq : p x y with
        | true =>
          have HQ := Aside0.mk hq
          rw [hq] at HC
          clear hq
          unfold enc_Cell at HC
          go_wp2_with fail
          refine (HC.out _ (below_alloc (below_alloc BW.out _) _)).mono ?_
          rintro e w' ⟨rfl, hb'⟩
          go_wp2
          go_roundg (l0.length - (kk + 1))
          case measure => omega
          case rel =>
            refine ⟨kk + 1, by omega, by omega, by go_num, ⟨hb'⟩, ⟨fun j h1 h2 hj => ?_⟩⟩
            by_cases e : j = kk
            · subst e
              rw [BX.out, BY.out]; exact HQ.out
            · exact A.out j h1 h2 (by omega)
        | false =>
          have HQ := Aside0.mk hq
          rw [hq] at HC
          clear hq
          unfold enc_Cell at HC
          go_wp2_with fail
          refine (HC.out _ (below_alloc (below_alloc BW.out _) _)).mono ?_
          rintro e w' ⟨rfl, hb'⟩
          go_wp2
          go_ret
          refine ⟨?_, hb'⟩
          rw [eqP_not p l0 l1 kk hlt hlt4 (by rw [BX.out, BY.out]; exact HQ.out)]
          rfl
      · have hlt1 : decide ((kk : Int) < (l0.length : Int)) = false := decide_eq_false (by omega)
        have hlt2 : decide (kk < l0.length) = false := decide_eq_false hlt
        clear hL
        go_wp2
        go_ret
        refine ⟨?_, BW.out⟩
        rw [eqP_all p l0 l1 HL.out (fun j h1 h2 => A.out j h1 h2 (by omega))]
        rfl
  · have e1 : ((l0.length : Int) == (l1.length : Int)) = false := beq_eq_false_iff_ne.mpr (by omega)
    have e2 : ((l0.length : Int) != (l1.length : Int)) = true := bne_iff_ne.mpr (by omega)
    have e3 : (l0.length == l1.length) = false := beq_eq_false_iff_ne.mpr hl
    go_enter Try.func76, Try.ntmps76
    go_wp2
    go_ret
    refine ⟨?_, Below.refl _ _⟩
    rw [eqP_len p l0 l1 hl]
    rfl

end Go.Proofs.Ytemoocoedibbpaa.X

namespace Go.Proofs.Ytemoocoedibbpaa.X
open Go.RowKit Go.Proofs.YtemoocoedibbpaaW.PrintWords Go.Proofs.YtemoocoedibbpaaW.PrintLast Go.Proofs.YtemoocoedibbpaaW.PrintMore
attribute [local go_sem] max2_int min2_int max_two min_two max_three min_three max_four min_four
set_option linter.unusedVariables false
set_option linter.unusedSimpArgs false

/-! ### show_Same: function 32 -/
def sameP (x y : S93) : Bool := (x.f0 == y.f0) && (x.f1 == y.f1)
def show_Same.f (l0 l1 : List S93) : Option Bool := some (eqP sameP l0 l1)
set_option maxHeartbeats 4000000 in
theorem show_Same_1.calls (x y : S93) (W : World) :
    Calls Try.prog 77 #[enc_Cell x, enc_Cell y] W fun e w' => e = .returned (.bool (sameP x y)) ∧ Below W.heap.size W w' := by
  unfold enc_Cell sameP
  obtain ⟨x0, x1, x2, x3, x4⟩ := x
  obtain ⟨y0, y1, y2, y3, y4⟩ := y
  dsimp only
  generalize h1 : (x0 == y0) = b
  cases b
  all_goals
    go_enter Try.func77, Try.ntmps77
    go_wp2
    go_ret
    exact ⟨by simp, below_alloc (below_alloc (Below.refl _ _) _) _⟩
set_option maxHeartbeats 4000000 in
theorem show_Same.calls (A0 : Option Addr) (c0 : Nat) (l0 : List S93) (A1 : Option Addr) (c1 : Nat) (l1 : List S93) (r : Bool) (w : World) (hr0 : Kd.C k93 w A0 l0.length l0) (hc0 : l0.length ≤ c0) (hr1 : Kd.C k93 w A1 l1.length l1) (hc1 : l1.length ≤ c1) (h : show_Same.f l0 l1 = some r) :
    Calls Try.prog 32 #[.slice A0 l0.length c0, .slice A1 l1.length c1] w fun e w' => e = .returned (.bool r) ∧ Below w.heap.size w w' := by
  have HE := Aside0.mk (Option.some.inj h)
  have HC := Aside0.mk (EqualFunc_Cell.calls sameP _ #[] (enters_fn Try.func77 (by kernel_rfl) rfl) A0 c0 l0 A1 c1 l1 w hr0 hr1 hr0.2.1 hr1.2.1 (fun W x y hb => (show_Same_1.calls x y W).mono fun e w' ⟨he, hb'⟩ => ⟨he, below_step hb hb'⟩))
  clear hr0 hr1 h
  go_enter Try.func32, Try.ntmps32
  go_wp2_with fail
  refine HC.out.mono ?_
  rintro e w1 ⟨rfl, hb⟩
  go_wp2
  go_ret
  exact ⟨by rw [← HE.out]; rfl, hb⟩

end Go.Proofs.Ytemoocoedibbpaa.X

namespace Go.Proofs.Ytemoocoedibbpaa.X
open Go.RowKit Go.Proofs.YtemoocoedibbpaaW.PrintWords Go.Proofs.YtemoocoedibbpaaW.PrintLast Go.Proofs.YtemoocoedibbpaaW.PrintMore
attribute [local go_sem] max2_int min2_int max_two min_two max_three min_three max_four min_four
set_option linter.unusedVariables false
set_option linter.unusedSimpArgs false

theorem eqA93 (d : Nat) (w : World) (x0 y0 : Int) (x1 y1 : Int) (x2 y2 : Int) (x3 y3 : Int) (x4 y4 : Int) :
    (Op.equalIn (d + 2) 93 (.agg #[.int .i64 x0, .int .i64 x1, .int .i64 x2, .int .i64 x3, .int .i64 x4]) (.agg #[.int .i64 y0, .int .i64 y1, .int .i64 y2, .int .i64 y3, .int .i64 y4])).run Try.prog w = .ok (x0 == y0 && (x1 == y1 && (x2 == y2 && (x3 == y3 && (x4 == y4))))) w := by
  refine eqA_of Try.underlying93 (by kernel_rfl) ?_
  refine eqf_cons (by rfl) (by go_simp; rfl) (by go_simp; rfl) (by go_simp) ?_
  refine eqf_cons (by rfl) (by go_simp; rfl) (by go_simp; rfl) (by go_simp) ?_
  refine eqf_cons (by rfl) (by go_simp; rfl) (by go_simp; rfl) (by go_simp) ?_
  refine eqf_cons (by rfl) (by go_simp; rfl) (by go_simp; rfl) (by go_simp) ?_
  exact eqf_last (by rfl) (by go_simp; rfl) (by go_simp; rfl) (by go_simp)
end Go.Proofs.Ytemoocoedibbpaa.X

namespace Go.Proofs.Ytemoocoedibbpaa.X
open Go.RowKit Go.Proofs.YtemoocoedibbpaaW.PrintWords Go.Proofs.YtemoocoedibbpaaW.PrintLast Go.Proofs.YtemoocoedibbpaaW.PrintMore
attribute [local go_sem] max2_int min2_int max_two min_two max_three min_three max_four min_four
set_option linter.unusedVariables false
set_option linter.unusedSimpArgs false

attribute [local go_sem high] eqA93
/-! ### dactylref06_All: function 30 -/
def dactylref06_All.l0 : Nat → List (S93) → List (S93) → Int → Option (Bool)
  | 0, _, _, _ => none
  | k + 1, x0, x1, x5 => if x5 < (x0.length : Int) then (if 0 ≤ x5 then (if x5 < (x1.length : Int) then (if (!(((rd_T93 x0 x5).f0) == ((rd_T93 x1 x5).f0)) || (!(((rd_T93 x0 x5).f1) == ((rd_T93 x1 x5).f1)) || (!(((rd_T93 x0 x5).f2) == ((rd_T93 x1 x5).f2)) || (!(((rd_T93 x0 x5).f3) == ((rd_T93 x1 x5).f3)) || (!(((rd_T93 x0 x5).f4) == ((rd_T93 x1 x5).f4))))))) = true then (some false) else (dactylref06_All.l0 k x0 x1 (wrap64 (x5 + 1)))) else (none)) else (none)) else (some true)
def dactylref06_All.f (k : Nat) (l0 : List (S93)) (l1 : List (S93)) : Option (Bool) := if (l0.length : Int) = (l1.length : Int) then (dactylref06_All.l0 k l0 l1 0) else (some false)
theorem dactylref06_All.mono_l : ∀ k, (∀ y0 y1 y2, LeO (dactylref06_All.l0 k y0 y1 y2) (dactylref06_All.l0 (k + 1) y0 y1 y2))
  | 0 => fun _ _ _ r h => by simp [dactylref06_All.l0] at h
  | k + 1 => by
    have ih0 := dactylref06_All.mono_l k
    · intro y0 y1 y2
      unfold dactylref06_All.l0
      repeat' first
      | (with_reducible exact ih0 _ _ _)
      | (with_reducible exact LeO.refl _)
      | (with_reducible exact LeO.none _)
      | (with_reducible refine LeO.ite ?_ ?_)
      | (with_reducible refine LeO.bind ?_ (fun _ => ?_))
      | exact ih0 _ _ _
      | exact LeO.none _
      | refine LeO.ite ?_ ?_
      | refine LeO.bind ?_ (fun _ => ?_)
theorem dactylref06_All.mono : ∀ a0 a1 k, LeO (dactylref06_All.f k a0 a1) (dactylref06_All.f (k + 1) a0 a1) := by
  intro a0 a1 k
  have ih0 := dactylref06_All.mono_l k
  unfold dactylref06_All.f
  repeat' first
      | (with_reducible exact ih0 _ _ _)
      | (with_reducible exact LeO.refl _)
      | (with_reducible exact LeO.none _)
      | (with_reducible refine LeO.ite ?_ ?_)
      | (with_reducible refine LeO.bind ?_ (fun _ => ?_))
      | exact ih0 _ _ _
      | exact LeO.none _
      | refine LeO.ite ?_ ?_
      | refine LeO.bind ?_ (fun _ => ?_)
set_option maxHeartbeats 8000000 in
set_option maxRecDepth 100000 in
theorem dactylref06_All.calls (k : Nat) (A0 : Option Addr) (c0 : Nat) (l0 : List (S93)) (A1 : Option Addr) (c1 : Nat) (l1 : List (S93)) (r : Bool) (w : World) (hr0 : Kd.C k93 w A0 l0.length l0) (hc0 : l0.length ≤ c0) (hr1 : Kd.C k93 w A1 l1.length l1) (hc1 : l1.length ≤ c1) (h : dactylref06_All.f k l0 l1 = some r) :
    Calls Try.prog 30 #[.slice A0 l0.length c0, .slice A1 l1.length c1] w fun e w' => e = .returned (.bool r) ∧ Drawn0 w w' := by
  have hu93 := Try.underlying93
  have HR0 := Aside0.mk hr0
  have HC0 := Aside0.mk hc0
  clear hr0 hc0
  have HR1 := Aside0.mk hr1
  have HC1 := Aside0.mk hc1
  clear hr1 hc1
  have H : (if (l0.length : Int) = (l1.length : Int) then (dactylref06_All.l0 k l0 l1 0) else (some false)) = some r := h
  clear h
  by_cases c3 : (l0.length : Int) = (l1.length : Int)
  · rw [if_pos c3] at H
    have c3b0 : ((l0.length : Int) == (l1.length : Int)) = true := beq_iff_eq.mpr c3
    have c3b1 : ((l0.length : Int) != (l1.length : Int)) = false := bne_eq_false_iff_eq.mpr c3
    have c3b2 : (l0.length == l1.length) = true := by first | simpa using c3 | (simp at c3 ⊢; omega)
    clear c3
    have H' := Aside0.mk H
    clear H
    go_enter Try.func30, Try.ntmps30
    go_wp2
    repeat (go_quiet (fail); try go_wp2)
    go_loopg [5] k (fun kq v5 w' => ∃ (x5_1 : Int), v5 = .int .i64 x5_1 ∧ Aside0 (dactylref06_All.l0 kq l0 l1 x5_1 = some r) ∧ Aside0 (kq ≤ k) ∧ Drawn0 w w')
    case atStart => exact ⟨(0), (by first | rfl | (simp; done) | (simp [*]; done)), H', ⟨Nat.le_refl _⟩, by repeat (first | exact Drawn0.refl _ | apply Drawn0.step)⟩
    case round =>
      clear H'
      try clear c1
      try clear p2
      try clear c3
      try clear c3b0
      try clear c3b1
      try clear c3b2
      obtain ⟨x5_1, rfl, HA, HK1, ⟨m1, rfl⟩⟩ := hrel
      cases gk with
      | zero => exact absurd HA.out (by simp [dactylref06_All.l0])
      | succ k1 =>
        have H := HA.out
        clear HA
        simp only [dactylref06_All.l0] at H
        by_cases c4 : x5_1 < (l0.length : Int)
        · rw [if_pos c4] at H
          have c4b0 : decide (x5_1 < (l0.length : Int)) = true := decide_eq_true c4
          clear c4
          by_cases c5 : 0 ≤ x5_1
          · rw [if_pos c5] at H
            have c5b0 : decide (0 ≤ x5_1) = true := decide_eq_true c5
            clear c5
            by_cases c6 : x5_1 < (l1.length : Int)
            · rw [if_pos c6] at H
              have c6b0 : decide (x5_1 < (l1.length : Int)) = true := decide_eq_true c6
              clear c6
              by_cases c7 : (!(((rd_T93 l0 x5_1).f0) == ((rd_T93 l1 x5_1).f0)) || (!(((rd_T93 l0 x5_1).f1) == ((rd_T93 l1 x5_1).f1)) || (!(((rd_T93 l0 x5_1).f2) == ((rd_T93 l1 x5_1).f2)) || (!(((rd_T93 l0 x5_1).f3) == ((rd_T93 l1 x5_1).f3)) || (!(((rd_T93 l0 x5_1).f4) == ((rd_T93 l1 x5_1).f4))))))) = true
              · rw [if_pos c7] at H
                have c7b0 : (!(((rd_T93 l0 x5_1).f0) == ((rd_T93 l1 x5_1).f0)) || (!(((rd_T93 l0 x5_1).f1) == ((rd_T93 l1 x5_1).f1)) || (!(((rd_T93 l0 x5_1).f2) == ((rd_T93 l1 x5_1).f2)) || (!(((rd_T93 l0 x5_1).f3) == ((rd_T93 l1 x5_1).f3)) || (!(((rd_T93 l0 x5_1).f4) == ((rd_T93 l1 x5_1).f4))))))) = true := c7
                clear c7
                obtain rfl := Option.some.inj H
                have p101 : 0 ≤ (x5_1 : Int) := of_decide_eq_true (by first | (with_reducible assumption) | assumption)
                have q101 : x5_1 < (l0.length : Int) := of_decide_eq_true (by first | (with_reducible assumption) | assumption)
                obtain ⟨ad101, e101, hx101_0, hx101_1, hx101_2, hx101_3, hx101_4⟩ := at_T93 HR0.out x5_1 p101 q101
                cases e101
                replace p101 := eq_true p101
                replace q101 := eq_true q101
                have p102 : 0 ≤ (x5_1 : Int) := of_decide_eq_true (by first | (with_reducible assumption) | assumption)
                have q102 : x5_1 < (l1.length : Int) := of_decide_eq_true (by first | (with_reducible assumption) | assumption)
                obtain ⟨ad102, e102, hx102_0, hx102_1, hx102_2, hx102_3, hx102_4⟩ := at_T93 HR1.out x5_1 p102 q102
                cases e102
                replace p102 := eq_true p102
                replace q102 := eq_true q102
                go_wp2
                repeat (go_quiet (fail); try go_wp2)
                go_ret
                exact ⟨by first | rfl | (simp; done) | (simp [*]; done), by repeat (first | exact Drawn0.refl _ | apply Drawn0.step)⟩
              · rw [if_neg c7] at H
                have c7b0 : (!(((rd_T93 l0 x5_1).f0) == ((rd_T93 l1 x5_1).f0)) || (!(((rd_T93 l0 x5_1).f1) == ((rd_T93 l1 x5_1).f1)) || (!(((rd_T93 l0 x5_1).f2) == ((rd_T93 l1 x5_1).f2)) || (!(((rd_T93 l0 x5_1).f3) == ((rd_T93 l1 x5_1).f3)) || (!(((rd_T93 l0 x5_1).f4) == ((rd_T93 l1 x5_1).f4))))))) = false := by simpa using c7
                clear c7
                have H' := Aside0.mk H
                clear H
                have p101 : 0 ≤ (x5_1 : Int) := of_decide_eq_true (by first | (with_reducible assumption) | assumption)
                have q101 : x5_1 < (l0.length : Int) := of_decide_eq_true (by first | (with_reducible assumption) | assumption)
                obtain ⟨ad101, e101, hx101_0, hx101_1, hx101_2, hx101_3, hx101_4⟩ := at_T93 HR0.out x5_1 p101 q101
                cases e101
                replace p101 := eq_true p101
                replace q101 := eq_true q101
                have p102 : 0 ≤ (x5_1 : Int) := of_decide_eq_true (by first | (with_reducible assumption) | assumption)
                have q102 : x5_1 < (l1.length : Int) := of_decide_eq_true (by first | (with_reducible assumption) | assumption)
                obtain ⟨ad102, e102, hx102_0, hx102_1, hx102_2, hx102_3, hx102_4⟩ := at_T93 HR1.out x5_1 p102 q102
                cases e102
                replace p102 := eq_true p102
                replace q102 := eq_true q102
                go_wp2
                repeat (go_quiet (fail); try go_wp2)
                go_roundg k1
                case measure => have := HK1.out; omega
                case rel => exact ⟨(wrap64 (x5_1 + 1)), (by first | rfl | (simp; done) | (simp [*]; done)), H', ⟨by have := HK1.out; omega⟩, by repeat (first | exact Drawn0.refl _ | apply Drawn0.step)⟩
            · rw [if_neg c6] at H
              exact absurd H (by simp)
          · rw [if_neg c5] at H
            exact absurd H (by simp)
        · rw [if_neg c4] at H
          have c4b0 : decide (x5_1 < (l0.length : Int)) = false := decide_eq_false c4
          clear c4
          obtain rfl := Option.some.inj H
          go_wp2
          repeat (go_quiet (fail); try go_wp2)
          go_ret
          exact ⟨by first | rfl | (simp; done) | (simp [*]; done), by repeat (first | exact Drawn0.refl _ | apply Drawn0.step)⟩
  · rw [if_neg c3] at H
    have c3b0 : ((l0.length : Int) == (l1.length : Int)) = false := beq_eq_false_iff_ne.mpr c3
    have c3b1 : ((l0.length : Int) != (l1.length : Int)) = true := bne_iff_ne.mpr c3
    have c3b2 : (l0.length == l1.length) = false := by first | simpa using c3 | (simp at c3 ⊢; omega)
    obtain rfl := Option.some.inj H
    go_enter Try.func30, Try.ntmps30
    go_wp2
    repeat (go_quiet (fail); try go_wp2)
    go_ret
    exact ⟨by first | rfl | (simp; done) | (simp [*]; done), by repeat (first | exact Drawn0.refl _ | apply Drawn0.step)⟩

end Go.Proofs.Ytemoocoedibbpaa.X

namespace Go.Proofs.Ytemoocoedibbpaa.X
open Go.RowKit Go.Proofs.YtemoocoedibbpaaW.PrintWords Go.Proofs.YtemoocoedibbpaaW.PrintLast Go.Proofs.YtemoocoedibbpaaW.PrintMore
attribute [local go_sem] max2_int min2_int max_two min_two max_three min_three max_four min_four
set_option linter.unusedVariables false
set_option linter.unusedSimpArgs false

def looksV (v l : Int) : Int := (if cls v > 3 then 1 else 0) + (if 2 ≤ l ∧ l ≤ 4 then 2 else 0) + (if cls v = 3 then 4 else 0)
theorem show_Looks_f (v l : Int) (k : Nat) (hk : 10 ≤ k) : show_Looks.f k v l = some (looksV v l) := by
  obtain ⟨k, rfl⟩ : ∃ m, k = m + 2 := ⟨k - 2, by omega⟩
  unfold show_Looks.f class_Danger.f looksV
  rw [class_Of_f v _ (by omega), Option.bind_some]
  simp only [show_Looks.j0, show_Looks.j1]
  rw [class_Of_f v _ (by omega)]
  simp only [Option.bind_some, decide_eq_true_eq, wrap64]
  (repeat' split) <;> first | (congr 1; omega) | (simp; omega) | (simp_all; omega) | simp_all
theorem ref_Looks_f (v l : Int) (k : Nat) (hk : 60 ≤ k) : dactylref06_Looks.f k v l = some (looksV v l) := by
  obtain ⟨k, rfl⟩ : ∃ m, k = m + 2 := ⟨k - 2, by omega⟩
  unfold dactylref06_Looks.f looksV
  rw [ref_Of_f v _ (by omega), Option.bind_some]
  simp only [dactylref06_Looks.j0, dactylref06_Looks.j1, wrap64]
  (repeat' split) <;> first | (congr 1; omega) | (simp; omega) | (simp_all; omega) | simp_all
def colsV (v : Int) : Int := if cls v > 3 then (txt v).size else if cls v = 2 then 2 else if cls v = 1 then 1 else if cls v = 3 then 1 else 0
def cellsOf (v l own : Int) : List S93 := if cls v = 0 then [] else if cls v = 2 then [⟨v, looksV v l, own, v, 0⟩, ⟨-1, looksV v l, own, v, 1⟩] else if cls v ≤ 3 then [⟨v, looksV v l, own, v, 0⟩] else toldCells (txt v) (looksV v l) own v
theorem show_Cells_f (v l own : Int) (k : Nat) (hk : 60 ≤ k) : show_Cells.f k v l own = some (cellsOf v l own) := by
  have hs := txt_size v
  unfold show_Cells.f cellsOf
  rw [show_Looks_f v l k (by omega), Option.bind_some, class_Of_f v k (by omega), Option.bind_some, show_Text_f v k (by omega), Option.bind_some, if_pos (show (txt v).size < 3518437208883 by omega)]
  rcases cls_says v with h | h | h | h | h
  · simp [h.1]
  · rcases h.2.2.2 with h' | h' | h' <;> simp [h']
  all_goals
    have h5 : ¬ cls v = 1 ∧ ¬ cls v = 2 ∧ ¬ cls v = 3 ∧ ¬ cls v = 0 ∧ ¬ cls v ≤ 3 := by omega
    simp only [h5, if_false]
theorem ref_cells_l0 (v l own lk : Int) (t : ByteArray) (ht : t.size ≤ 1000) : ∀ (d k i : Nat) (acc : List S93), d + i = t.size → d < k → acc = toldPre t lk own v i → dactylref06_Cells.l0 k own lk t acc (i : Int) v l = some (toldCells t lk own v) := by
  intro d
  induction d with
  | zero =>
    intro k i acc h1 h2 ha
    obtain ⟨k, rfl⟩ : ∃ m, k = m + 1 := ⟨k - 1, by omega⟩
    simp only [dactylref06_Cells.l0]
    rw [if_neg (by omega), ha, show i = t.size by omega]
    rfl
  | succ d ih =>
    intro k i acc h1 h2 ha
    obtain ⟨k, rfl⟩ : ∃ m, k = m + 1 := ⟨k - 1, by omega⟩
    have hlen : acc.length = i := by rw [ha]; simp [toldPre]
    simp only [dactylref06_Cells.l0]
    rw [if_pos (by omega), if_pos (by omega), if_pos (by omega), show wrap64 ((i : Int) + 1) = ((i + 1 : Nat) : Int) by rw [w64 (by omega) (by omega)]; omega]
    refine ih k (i + 1) _ (by omega) (by omega) ?_
    rw [toldPre_succ, ← ha, hlen]
theorem ref_Cells_f (v l own : Int) (k : Nat) (hk : 60 ≤ k) : dactylref06_Cells.f k v l own = some (cellsOf v l own) := by
  have hs := txt_size v
  unfold dactylref06_Cells.f cellsOf
  rw [ref_Looks_f v l k (by omega), Option.bind_some, ref_Of_f v k (by omega), Option.bind_some, ref_Text_f v k (by omega), Option.bind_some]
  rcases cls_says v with h | h | h | h | h
  · simp [h.1]
  · rcases h.2.2.2 with h' | h' | h' <;> simp [h']
  all_goals
    have h5 : ¬ cls v = 1 ∧ ¬ cls v = 2 ∧ ¬ cls v = 3 ∧ ¬ cls v = 0 ∧ ¬ cls v ≤ 3 := by omega
    simp only [h5, if_false]
    exact ref_cells_l0 v l own (looksV v l) (txt v) (by omega) (txt v).size k 0 [] (by omega) (by omega) rfl
theorem toldCells_len (t : ByteArray) (lk own v : Int) : (toldCells t lk own v).length = t.size := by simp [toldCells]
theorem cellsOf_len (v l own : Int) : ((cellsOf v l own).length : Int) = colsV v := by
  unfold cellsOf colsV
  rcases cls_says v with h | h | h | h | h
  · simp [h.1]
  · rcases h.2.2.2 with h' | h' | h' <;> simp [h']
  all_goals
    have h5 : ¬ cls v = 1 ∧ ¬ cls v = 2 ∧ ¬ cls v = 3 ∧ ¬ cls v = 0 ∧ ¬ cls v ≤ 3 := by omega
    simp only [h5, if_false]
    rw [if_pos (by omega), toldCells_len]
theorem cellsOf_small (v l own : Int) : (cellsOf v l own).length ≤ 25 := by
  have := cellsOf_len v l own
  have h2 := txt_size v
  unfold colsV at this
  (repeat' split at this) <;> omega
theorem ref_Cols_f (v : Int) (k : Nat) (hk : 60 ≤ k) : dactylref06_Cols.f k v = some (colsV v) := by
  unfold dactylref06_Cols.f dactylref03_Width.f colsV
  rw [ref_Of_f v k (by omega), Option.bind_some, ref_Text_f v k (by omega), Option.bind_some]
  simp only [Option.bind_some]
  (repeat' split) <;> first | rfl | (exfalso; omega) | simp_all
theorem show_Cols_f (v : Int) (k : Nat) (hk : 60 ≤ k) : show_Cols.f k v = some (colsV v) := by
  obtain ⟨k, rfl⟩ : ∃ m, k = m + 1 := ⟨k - 1, by omega⟩
  unfold show_Cols.f class_Danger.f class_Width.f colsV
  simp only [class_Width.j0]
  rw [class_Of_f v _ (by omega), Option.bind_some, show_Text_f v _ (by omega), Option.bind_some]
  simp only [Option.bind_some, decide_eq_true_eq, beq_iff_eq]
  (repeat' split) <;> first | rfl | (exfalso; omega) | simp_all
/-- A search through places for one at which something is not so. -/
theorem scan_all (L : Nat → Int → Option Bool) (n : Nat) (P : Nat → Bool) (hn : n ≤ 4611686018427387904) (hend : ∀ k, L (k + 1) (n : Int) = some true) (hstep : ∀ k (i : Nat), i < n → L (k + 1) (i : Int) = if P i = true then L k (wrap64 ((i : Int) + 1)) else some false) :
    ∀ (d k i : Nat), d + i = n → d < k → (∃ b, L k (i : Int) = some b ∧ (b = true ↔ ∀ j, i ≤ j → j < n → P j = true)) := by
  intro d
  induction d with
  | zero =>
    intro k i h1 h2
    obtain ⟨k, rfl⟩ : ∃ m, k = m + 1 := ⟨k - 1, by omega⟩
    obtain rfl : i = n := by omega
    exact ⟨true, hend k, by simp; intro j h1 h2; omega⟩
  | succ d ih =>
    intro k i h1 h2
    obtain ⟨k, rfl⟩ : ∃ m, k = m + 1 := ⟨k - 1, by omega⟩
    obtain ⟨b, hb, hiff⟩ := ih k (i + 1) (by omega) (by omega)
    rw [hstep k i (by omega), show wrap64 ((i : Int) + 1) = ((i + 1 : Nat) : Int) by rw [w64 (by omega) (by omega)]; omega]
    by_cases c : P i = true
    · rw [if_pos c]
      refine ⟨b, hb, hiff.trans ⟨fun h j h1 h2 => ?_, fun h j h1 h2 => h j (by omega) h2⟩⟩
      by_cases e : j = i
      · subst e; exact c
      · exact h j (by omega) h2
    · rw [if_neg c]
      exact ⟨false, rfl, by simp; exact ⟨i, Nat.le_refl _, by omega, by simpa using c⟩⟩
theorem rd_cell (l : List S93) (i : Nat) (h : i < l.length) : rd_T93 l (i : Int) = l[i] := by simp [rd_T93, List.getD, h]
theorem ref_All_self (l : List S93) (hl : l.length ≤ 4611686018427387904) (k : Nat) (hk : l.length < k) : dactylref06_All.f k l l = some true := by
  unfold dactylref06_All.f
  rw [if_pos rfl]
  obtain ⟨b, hb, hiff⟩ := scan_all (fun k i => dactylref06_All.l0 k l l i) l.length (fun _ => true) hl (fun k => by simp [dactylref06_All.l0]) (fun k i hi => by
    simp only [dactylref06_All.l0]
    rw [if_pos (by omega), if_pos (by omega), if_pos (by omega)]
    simp) l.length k 0 (by omega) hk
  rw [show b = true from hiff.2 (by simp)] at hb
  exact hb
theorem eqP_iff {α β : Type} (p : α → β → Bool) (l : List α) (m : List β) : eqP p l m = true ↔ l.length = m.length ∧ ∀ j, (h1 : j < l.length) → (h2 : j < m.length) → p l[j] m[j] = true := by
  constructor
  · intro h
    have hl : l.length = m.length := by
      rcases Nat.decEq l.length m.length with hn | hn
      · rw [eqP_len p l m hn] at h; cases h
      · exact hn
    refine ⟨hl, fun j h1 h2 => ?_⟩
    cases hp : p l[j] m[j]
    · rw [eqP_not p l m j h1 h2 hp] at h; cases h
    · rfl
  · rintro ⟨h1, h2⟩
    exact eqP_all p l m h1 h2
theorem ref_Same_f (l m : List S93) (hl : l.length ≤ 4611686018427387904) (k : Nat) (hk : l.length < k) : dactylref06_Same.f k l m = some (eqP sameP l m) := by
  unfold dactylref06_Same.f
  by_cases c : l.length = m.length
  · rw [if_pos (by omega)]
    obtain ⟨b, hb, hiff⟩ := scan_all (fun k i => dactylref06_Same.l0 k l m i) l.length (fun i => sameP (rd_T93 l i) (rd_T93 m i)) hl (fun k => by simp [dactylref06_Same.l0]) (fun k i hi => by
      simp only [dactylref06_Same.l0]
      rw [if_pos (by omega), if_pos (by omega), if_pos (by omega)]
      simp only [sameP, Bool.and_eq_true, beq_iff_eq]
      by_cases h1 : (rd_T93 l i).f0 = (rd_T93 m i).f0
      · rw [if_pos h1]
        by_cases h2 : (rd_T93 l i).f1 = (rd_T93 m i).f1
        · rw [if_pos h2, if_pos ⟨h1, h2⟩]
        · rw [if_neg h2, if_neg (fun h => h2 h.2)]
      · rw [if_neg h1, if_neg (fun h => h1 h.1)]) l.length k 0 (by omega) hk
    rw [show dactylref06_Same.l0 k l m 0 = some b from hb]
    congr 1
    rw [Bool.eq_iff_iff, hiff, eqP_iff]
    exact ⟨fun h => ⟨c, fun j h1 h2 => by have := h j (by omega) h1; rwa [rd_cell l j h1, rd_cell m j h2] at this⟩, fun h j _ h2 => by rw [rd_cell l j h2, rd_cell m j (by omega)]; exact h.2 j h2 (by omega)⟩
  · rw [if_neg (by omega), eqP_len sameP l m c]

end Go.Proofs.Ytemoocoedibbpaa.X

namespace Go.Proofs.Ytemoocoedibbpaa.X
open Go.RowKit Go.Proofs.YtemoocoedibbpaaW.PrintWords Go.Proofs.YtemoocoedibbpaaW.PrintLast Go.Proofs.YtemoocoedibbpaaW.PrintMore
attribute [local go_sem] max2_int min2_int max_two min_two max_three min_three max_four min_four
set_option linter.unusedVariables false
set_option linter.unusedSimpArgs false

def okS (s : S45) : Bool := rightB s.f0 && (decide (0 ≤ s.f1) && decide (s.f1 ≤ 5))
def allB (l : List S45) : Bool := l.all okS
theorem sign_Right_f (a b : Int) : sign_Right.f a b = some (okS ⟨a, b⟩) := by
  unfold sign_Right.f okS
  rw [utf_Right_f, Option.bind_some]
  cases rightB a
  · simp
  · by_cases h : b ≥ 0
    · simp [h]
    · simp [h]
theorem sign_Check_f (l : List S45) : sign_Check.f l = some (if allB l = true then 0 else 2) := by
  have hb : ∀ s : S45, badSign s = !okS s := fun s => by unfold badSign; rw [sign_Right_f]; rfl
  have : l.any badSign = !allB l := by
    unfold allB
    induction l with
    | nil => rfl
    | cons s l ih => simp only [List.any_cons, List.all_cons, ih, hb, Bool.not_and]
  unfold sign_Check.f
  rw [this]
  cases allB l <;> rfl
theorem rd_sign (l : List S45) (i : Nat) (h : i < l.length) : rd_T45 l (i : Int) = l[i] := by simp [rd_T45, List.getD, h]
theorem ref_Right4_f (a b : Int) : dactylref04_Right.f a b = some (okS ⟨a, b⟩) := by
  unfold dactylref04_Right.f okS
  rw [ref_Right_f, Option.bind_some]
  cases rightB a
  · simp
  · by_cases h : b ≥ 0
    · simp [h]
    · simp [h]
theorem ref_AllS_f (l : List S45) (hl : l.length ≤ 4611686018427387904) (k : Nat) (hk : l.length < k) : dactylref04_All.f k l = some (allB l) := by
  obtain ⟨b, hb, hiff⟩ := scan_all (fun k i => dactylref04_All.l0 k l i) l.length (fun i => okS (rd_T45 l i)) hl (fun k => by simp [dactylref04_All.l0]) (fun k i hi => by
    simp only [dactylref04_All.l0]
    rw [if_pos (by omega), if_pos (by omega), ref_Right4_f, Option.bind_some]) l.length k 0 (by omega) hk
  unfold dactylref04_All.f
  rw [show dactylref04_All.l0 k l 0 = some b from hb]
  congr 1
  rw [Bool.eq_iff_iff, hiff]
  unfold allB
  rw [List.all_eq_true]
  constructor
  · intro h x hx
    obtain ⟨i, hi, rfl⟩ := List.mem_iff_getElem.1 hx
    have := h i (by omega) hi
    rwa [rd_sign l i hi] at this
  · intro h j _ hj
    rw [rd_sign l j hj]
    exact h _ (List.getElem_mem hj)
/-! ### the view -/
def promptCells (l : List S45) : List S93 := l.flatMap fun s => cellsOf s.f0 s.f1 (-1)
def lineCells : Int → List S45 → List S93
  | _, [] => []
  | i, s :: l => cellsOf s.f0 s.f1 i ++ lineCells (i + 1) l
def viewC (p l : List S45) : List S93 := promptCells p ++ lineCells 0 l
theorem promptCells_cons (s : S45) (l : List S45) : promptCells (s :: l) = cellsOf s.f0 s.f1 (-1) ++ promptCells l := by simp [promptCells]
theorem promptCells_small (l : List S45) : (promptCells l).length ≤ 25 * l.length := by
  induction l with
  | nil => simp [promptCells]
  | cons s l ih =>
    have := cellsOf_small s.f0 s.f1 (-1)
    simp only [promptCells, List.flatMap_cons, List.length_append, List.length_cons] at ih ⊢
    omega
theorem lineCells_small (l : List S45) : ∀ i, (lineCells i l).length ≤ 25 * l.length := by
  induction l with
  | nil => intro i; simp [lineCells]
  | cons s l ih =>
    intro i
    have := cellsOf_small s.f0 s.f1 i
    have := ih (i + 1)
    simp only [lineCells, List.length_append, List.length_cons]
    omega
theorem Of_l1 (l : List S45) (hl : l.length ≤ 100000) : ∀ (d k i : Nat) (acc : List S93), d + i = l.length → d + 60 < k → acc.length ≤ 100000000 + 25 * i → view_Of.l1 k acc l (l.length : Int) (i : Int) = some (acc ++ lineCells i (l.drop i), 0) := by
  intro d
  induction d with
  | zero =>
    intro k i acc h1 h2 h3
    obtain ⟨k, rfl⟩ : ∃ m, k = m + 1 := ⟨k - 1, by omega⟩
    simp only [view_Of.l1]
    rw [if_neg (by omega), List.drop_of_length_le (by omega), lineCells, List.append_nil]
  | succ d ih =>
    intro k i acc h1 h2 h3
    obtain ⟨k, rfl⟩ : ∃ m, k = m + 1 := ⟨k - 1, by omega⟩
    have e1 : wrap64 ((i : Int) + 1) = ((i + 1 : Nat) : Int) := by rw [w64 (by omega) (by omega)]; omega
    have ed : l.drop i = l[i] :: l.drop (i + 1) := by rw [List.drop_eq_getElem_cons (by omega)]
    have hs := cellsOf_small (l[i]).f0 (l[i]).f1 i
    simp only [view_Of.l1]
    rw [if_pos (by omega), if_pos (by omega), if_pos (by omega), rd_sign l i (by omega), show_Cells_f _ _ _ k (by omega), Option.bind_some, if_pos (by omega), e1, ih k (i + 1) _ (by omega) (by omega) (by rw [List.length_append]; omega), ed, lineCells, List.append_assoc]
    rfl
theorem Of_l0 (l p : List S45) (hl : l.length ≤ 100000) (hp : p.length ≤ 100000) : ∀ (d k i : Nat) (acc : List S93), d + i = p.length → d + l.length + 70 < k → acc.length ≤ 25 * i → view_Of.l0 k l acc p (p.length : Int) (i : Int) = some (acc ++ promptCells (p.drop i) ++ lineCells 0 l, 0) := by
  intro d
  induction d with
  | zero =>
    intro k i acc h1 h2 h3
    obtain ⟨k, rfl⟩ : ∃ m, k = m + 1 := ⟨k - 1, by omega⟩
    have := Of_l1 l hl l.length k 0 acc (by omega) (by omega) (by omega)
    simp only [view_Of.l0]
    rw [if_neg (by omega), List.drop_of_length_le (by omega), show ((0 : Int)) = ((0 : Nat) : Int) from rfl, this]
    simp [promptCells]
  | succ d ih =>
    intro k i acc h1 h2 h3
    obtain ⟨k, rfl⟩ : ∃ m, k = m + 1 := ⟨k - 1, by omega⟩
    have e1 : wrap64 ((i : Int) + 1) = ((i + 1 : Nat) : Int) := by rw [w64 (by omega) (by omega)]; omega
    have ed : p.drop i = p[i] :: p.drop (i + 1) := by rw [List.drop_eq_getElem_cons (by omega)]
    have hs := cellsOf_small (p[i]).f0 (p[i]).f1 (-1)
    simp only [view_Of.l0]
    rw [if_pos (by omega), if_pos (by omega), if_pos (by omega), rd_sign p i (by omega), show_Cells_f _ _ _ k (by omega), Option.bind_some, if_pos (by omega), e1, ih k (i + 1) _ (by omega) (by omega) (by rw [List.length_append]; omega), ed, promptCells_cons]
    simp only [List.append_assoc]
theorem view_Of_f (p l : List S45) (hl : l.length ≤ 100000) (hp : p.length ≤ 100000) (k : Nat) (hk : p.length + l.length + 80 < k) : view_Of.f k p l = some (if allB p = true ∧ allB l = true then (viewC p l, 0) else ([], 2)) := by
  obtain ⟨k, rfl⟩ : ∃ m, k = m + 1 := ⟨k - 1, by omega⟩
  have h0 := Of_l0 l p hl hp p.length k 0 [] (by omega) (by omega) (by simp)
  unfold view_Of.f
  rw [sign_Check_f, Option.bind_some, sign_Check_f, Option.bind_some]
  simp only [view_Of.j0]
  rw [show ((0 : Int)) = ((0 : Nat) : Int) from rfl, h0]
  cases allB p <;> cases allB l <;> simp [viewC]

end Go.Proofs.Ytemoocoedibbpaa.X

namespace Go.Proofs.Ytemoocoedibbpaa.X
open Go.RowKit Go.Proofs.YtemoocoedibbpaaW.PrintWords Go.Proofs.YtemoocoedibbpaaW.PrintLast Go.Proofs.YtemoocoedibbpaaW.PrintMore
attribute [local go_sem] max2_int min2_int max_two min_two max_three min_three max_four min_four
set_option linter.unusedVariables false
set_option linter.unusedSimpArgs false

/-! ### dactylref07_Of: function 43 -/
mutual
def dactylref07_Of.l0 : Nat → List (S45) → List (S45) → List (S93) → Int → Option ((List (S93)))
  | 0, _, _, _, _ => none
  | k + 1, x0, x1, x5, x6 => if x6 < (x0.length : Int) then (if 0 ≤ x6 then ((dactylref06_Cells.f k ((rd_T45 x0 x6).f0) ((rd_T45 x0 x6).f1) (-1)).bind fun t102 => (if x5.length + t102.length < 3518437208883 then (dactylref07_Of.l0 k x0 x1 (x5 ++ t102) (wrap64 (x6 + 1))) else (none))) else (none)) else (dactylref07_Of.l1 k x1 x5 0)
def dactylref07_Of.l1 : Nat → List (S45) → List (S93) → Int → Option ((List (S93)))
  | 0, _, _, _ => none
  | k + 1, x1, x5, x7 => if x7 < (x1.length : Int) then (if 0 ≤ x7 then ((dactylref06_Cells.f k ((rd_T45 x1 x7).f0) ((rd_T45 x1 x7).f1) x7).bind fun t109 => (if x5.length + t109.length < 3518437208883 then (dactylref07_Of.l1 k x1 (x5 ++ t109) (wrap64 (x7 + 1))) else (none))) else (none)) else (some x5)
end
def dactylref07_Of.f (k : Nat) (l0 : List (S45)) (l1 : List (S45)) : Option ((List (S93))) := dactylref07_Of.l0 k l0 l1 ([] : List (S93)) 0
theorem dactylref07_Of.mono_l : ∀ k, (∀ y0 y1 y2 y3, LeO (dactylref07_Of.l0 k y0 y1 y2 y3) (dactylref07_Of.l0 (k + 1) y0 y1 y2 y3)) ∧ (∀ y0 y1 y2, LeO (dactylref07_Of.l1 k y0 y1 y2) (dactylref07_Of.l1 (k + 1) y0 y1 y2))
  | 0 => ⟨fun _ _ _ _ r h => by simp [dactylref07_Of.l0] at h, fun _ _ _ r h => by simp [dactylref07_Of.l1] at h⟩
  | k + 1 => by
    obtain ⟨ih0, ih1⟩ := dactylref07_Of.mono_l k
    refine ⟨?_, ?_⟩
    · intro y0 y1 y2 y3
      unfold dactylref07_Of.l0
      repeat' first
      | (with_reducible exact ih0 _ _ _ _)
      | (with_reducible exact ih1 _ _ _)
      | (with_reducible exact dactylref06_Cells.mono _ _ _ _)
      | (with_reducible exact LeO.refl _)
      | (with_reducible exact LeO.none _)
      | (with_reducible refine LeO.ite ?_ ?_)
      | (with_reducible refine LeO.bind ?_ (fun _ => ?_))
      | exact ih0 _ _ _ _
      | exact ih1 _ _ _
      | exact dactylref06_Cells.mono _ _ _ _
      | exact LeO.none _
      | refine LeO.ite ?_ ?_
      | refine LeO.bind ?_ (fun _ => ?_)
    · intro y0 y1 y2
      unfold dactylref07_Of.l1
      repeat' first
      | (with_reducible exact ih0 _ _ _ _)
      | (with_reducible exact ih1 _ _ _)
      | (with_reducible exact dactylref06_Cells.mono _ _ _ _)
      | (with_reducible exact LeO.refl _)
      | (with_reducible exact LeO.none _)
      | (with_reducible refine LeO.ite ?_ ?_)
      | (with_reducible refine LeO.bind ?_ (fun _ => ?_))
      | exact ih0 _ _ _ _
      | exact ih1 _ _ _
      | exact dactylref06_Cells.mono _ _ _ _
      | exact LeO.none _
      | refine LeO.ite ?_ ?_
      | refine LeO.bind ?_ (fun _ => ?_)
theorem dactylref07_Of.mono : ∀ a0 a1 k, LeO (dactylref07_Of.f k a0 a1) (dactylref07_Of.f (k + 1) a0 a1) := by
  intro a0 a1 k
  obtain ⟨ih0, ih1⟩ := dactylref07_Of.mono_l k
  unfold dactylref07_Of.f
  repeat' first
      | (with_reducible exact ih0 _ _ _ _)
      | (with_reducible exact ih1 _ _ _)
      | (with_reducible exact dactylref06_Cells.mono _ _ _ _)
      | (with_reducible exact LeO.refl _)
      | (with_reducible exact LeO.none _)
      | (with_reducible refine LeO.ite ?_ ?_)
      | (with_reducible refine LeO.bind ?_ (fun _ => ?_))
      | exact ih0 _ _ _ _
      | exact ih1 _ _ _
      | exact dactylref06_Cells.mono _ _ _ _
      | exact LeO.none _
      | refine LeO.ite ?_ ?_
      | refine LeO.bind ?_ (fun _ => ?_)
set_option maxHeartbeats 8000000 in
set_option maxRecDepth 100000 in
theorem dactylref07_Of.calls (k : Nat) (A0 : Option Addr) (c0 : Nat) (l0 : List (S45)) (A1 : Option Addr) (c1 : Nat) (l1 : List (S45)) (r : List (S93)) (w : World) (hr0 : Kd.C k45 w A0 l0.length l0) (hc0 : l0.length ≤ c0) (hr1 : Kd.C k45 w A1 l1.length l1) (hc1 : l1.length ≤ c1) (h : dactylref07_Of.f k l0 l1 = some r) :
    Calls Try.prog 43 #[.slice A0 l0.length c0, .slice A1 l1.length c1] w fun e w' => ∃ v0_ : Value, e = .returned (v0_) ∧ Kd.R k93 93 w' w.heap.size (fun _ => True) v0_ r ∧ Below w.heap.size w w' := by
  have hu45 := Try.underlying45
  have HR0 := Aside0.mk hr0
  have HC0 := Aside0.mk hc0
  clear hr0 hc0
  have HR1 := Aside0.mk hr1
  have HC1 := Aside0.mk hc1
  clear hr1 hc1
  have HB := Aside0.mk (Below.refl w.heap.size w)
  have H : (dactylref07_Of.l0 k l0 l1 ([] : List (S93)) 0) = some r := h
  clear h
  have H' := Aside0.mk H
  clear H
  go_enter Try.func43, Try.ntmps43
  go_wp2
  go_loopg [5, 6] k (fun kq v5 v6 w' => ∃ (x5_1 : List (S93)) (x6_1 : Int), v6 = .int .i64 x6_1 ∧ Aside0 (dactylref07_Of.l0 kq l0 l1 x5_1 x6_1 = some r) ∧ Aside0 (kq ≤ k) ∧ Aside0 (Kd.R k93 93 w' w.heap.size (fun _ => True) v5 x5_1) ∧ Aside0 (Below w.heap.size w w'))
  case atStart => exact ⟨(([] : List (S93))), (0), (by first | rfl | (simp; done) | (simp [*]; done)), H', ⟨Nat.le_refl _⟩, ⟨by first | exact Kd.R_nil _ _ _ _ _ | exact Kd.N_nil _ _ _ _ _ | exact Kd.V_nil _ _ _ _ _ | exact Kd.Q_nil _ _ _ _ _ | exact Kd.S_nil _ _ _ _ _⟩, ⟨by repeat (first | (with_reducible first | exact HB.out | apply below_alloc | apply pw_below_drewN | apply below_drew1) | exact HB.out)⟩⟩
  case round =>
    clear H'
    try clear c1
    try clear p2
    obtain ⟨x5_1, x6_1, rfl, HA, HK1, HO_5, HB⟩ := hrel
    cases gk with
    | zero => exact absurd HA.out (by simp [dactylref07_Of.l0])
    | succ k1 =>
      have H := HA.out
      clear HA
      simp only [dactylref07_Of.l0] at H
      by_cases c3 : x6_1 < (l0.length : Int)
      · rw [if_pos c3] at H
        have c3b0 : decide (x6_1 < (l0.length : Int)) = true := decide_eq_true c3
        clear c3
        by_cases c4 : 0 ≤ x6_1
        · rw [if_pos c4] at H
          have c4b0 : decide (0 ≤ x6_1) = true := decide_eq_true c4
          clear c4
          replace H := Option.bind_eq_some_iff.mp H
          obtain ⟨t102, A50, H⟩ := H
          replace H : (if x5_1.length + t102.length < 3518437208883 then (dactylref07_Of.l0 k1 l0 l1 (x5_1 ++ t102) (wrap64 (x6_1 + 1))) else (none)) = some r := H
          have A5 := Aside0.mk A50
          clear A50
          by_cases c6 : x5_1.length + t102.length < 3518437208883
          · rw [if_pos c6] at H
            have LMc6 := Aside0.mk c6
            clear c6
            obtain ⟨y105, hy105⟩ : ∃ y_ : List (S93), y_ = (x5_1 ++ t102) := ⟨_, rfl⟩
            replace H : (dactylref07_Of.l0 k1 l0 l1 y105 (wrap64 (x6_1 + 1))) = some r := by first | (rw [hy105]; with_reducible exact H) | (have H2_ := (Option.bind_some _ _).symm.trans H; rw [hy105]; with_reducible exact H2_) | (have H2_ := (Option.bind_some _ _).symm.trans H; with_reducible exact H2_) | with_reducible exact H | (rw [hy105]; exact H) | exact H
            have Ny105 := Aside0.mk hy105
            clear hy105
            have H' := Aside0.mk H
            clear H
            have p101 : 0 ≤ (x6_1 : Int) := of_decide_eq_true (by first | (with_reducible assumption) | assumption)
            have q101 : x6_1 < (l0.length : Int) := of_decide_eq_true (by first | (with_reducible assumption) | assumption)
            obtain ⟨ad101, e101, hx101_0, hx101_1⟩ := at_T45 HR0.out x6_1 p101 q101
            cases e101
            replace hx101_0 := (HB.out.cell (World.block_lt_of_cell? w _ hx101_0)).trans hx101_0
            replace hx101_1 := (HB.out.cell (World.block_lt_of_cell? w _ hx101_1)).trans hx101_1
            replace p101 := eq_true p101
            replace q101 := eq_true q101
            go_wp2_with (first | ((with_reducible refine gate_callee (f := 26) rfl ?_); refine goesL_ (some 19) rfl rfl Try.func26 (by kernel_rfl) rfl #[.agg #[.int .i64 ((rd_T45 l0 x6_1).f0), .int .i64 ((rd_T45 l0 x6_1).f1)], .int .i64 (-1)] rfl (by (try simp only [List.map_toArray, List.map_cons, List.map_nil]); first | done | rfl | (simp only [List.length_drop, List.length_take]; rfl)) ?_; (with_reducible refine (dactylref06_Cells.calls k1 ((rd_T45 l0 x6_1).f0) ((rd_T45 l0 x6_1).f1) (-1) t102 _ A5.out).mono ?_); rintro e w7 ⟨v103, rfl, ho0, hb⟩; refine ⟨_, rfl, ?_⟩; have n0_ := Aside0.mk (Kd.R_elder' (by (with_reducible repeat (first | apply Kd.R_alloc | apply Kd.R_drewN | apply Kd.R_drew)); exact HO_5.out) (Kd.R_base ho0) hb); have n1_ := Aside0.mk (Kd.R_lower (Kd.R_new' ho0 (Kd.R_lt (by (with_reducible repeat (first | apply Kd.R_alloc | apply Kd.R_drewN | apply Kd.R_drew)); exact HO_5.out))) (below_size (by repeat (first | (with_reducible first | exact HB.out | apply below_alloc | apply pw_below_drewN | apply below_drew1) | exact HB.out)))); have n2_ := Aside0.mk (below_step (by repeat (first | (with_reducible first | exact HB.out | apply below_alloc | apply pw_below_drewN | apply below_drew1) | exact HB.out)) hb); clear HO_5; clear HB; have HO_5 := n0_; have HO104 := n1_; have HB := n2_; clear n0_ n1_ n2_; (try clear hb); (try clear hb2); (try clear hk); (try clear hi); (try clear ho0); obtain ⟨Ao9, co9, eo9⟩ := Kd.R_slice HO104.out; subst eo9) | ((with_reducible refine gate_builtin (b := .append) (xs := #[.tmp 14, .tmp 19]) rfl ?_); at_builtin; refine Kd.R_append_rows k93 (w0 := w) w.heap.size rfl (.tmp 14) (.tmp 19) 46 93 (.agg #[(.int .i64 0), (.int .i64 0), (.int .i64 0), (.int .i64 0), (.int .i64 0)]) 40 rfl Try.underlying46 info93 rfl (by decide) (by omega) u5 x5_1 t102 _ _ _ (fun k_ => some k_ ≠ (.slice Ao9 t102.length co9 : Value).ownBlock) (fun _ => False) rfl rfl ?aO ?aR (fun _ _ h => h) (fun _ h => h.elim) ?aF ?aB ?aS ?aL ?_; (case aR => repeat (first | exact (Kd.R_reads' HO104.out).2.2 | (with_reducible refine Kd.C_alloc ?_ _) | (with_reducible refine Kd.C_drewN ?_ _) | (with_reducible refine Kd.C_drew ?_))); (case aB => exact (by repeat (first | (with_reducible first | exact HB.out | apply below_alloc | apply pw_below_drewN | apply below_drew1) | exact HB.out))); (case aF => exact (fun k_ hk => Kd.fresh' (Kd.R_lt (by (with_reducible repeat (first | apply Kd.R_alloc | apply Kd.R_drewN | apply Kd.R_drew)); exact HO104.out)) k_ hk)); (case aO => exact (by (with_reducible repeat (first | apply Kd.R_alloc | apply Kd.R_drewN | apply Kd.R_drew)); exact Kd.R_mono HO_5.out (fun _ hk => hk.2))); (case aS => exact (below_size (by repeat (first | (with_reducible first | exact HB.out | apply below_alloc | apply pw_below_drewN | apply below_drew1) | exact HB.out)))); (case aL => have := LMc6.out; omega); intro v106 w8 ho hb hg hat; rw [← Ny105.out] at ho; have n0_ := Aside0.mk (Kd.R_after (ok := (fun _ => True)) (by (with_reducible repeat (first | apply Kd.R_alloc | apply Kd.R_drewN | apply Kd.R_drew)); exact HO104.out) hg hat); have n1_ := Aside0.mk (hb); have n2_ := Aside0.mk (ho); clear HO104; clear HB; clear HO_5; have HO104 := n0_; have HB := n1_; have HO107 := n2_; clear n0_ n1_ n2_; clear ho hb hg hat))
            go_roundg k1
            case measure => have := HK1.out; omega
            case rel => exact ⟨(y105), (wrap64 (x6_1 + 1)), (by first | rfl | (simp; done) | (simp [*]; done)), H', ⟨by have := HK1.out; omega⟩, ⟨by (with_reducible repeat (first | apply Kd.R_alloc | apply Kd.R_drewN | apply Kd.R_drew)); exact Kd.R_mono HO107.out (fun _ hk => trivial)⟩, ⟨by repeat (first | (with_reducible first | exact HB.out | apply below_alloc | apply pw_below_drewN | apply below_drew1) | exact HB.out)⟩⟩
          · rw [if_neg c6] at H
            exact absurd H (by simp)
        · rw [if_neg c4] at H
          exact absurd H (by simp)
      · rw [if_neg c3] at H
        have c3b0 : decide (x6_1 < (l0.length : Int)) = false := decide_eq_false c3
        clear c3
        have H' := Aside0.mk H
        clear H
        go_wp2
        go_loopg [5, 7] k1 (fun kq v5 v7 w' => ∃ (x5_2 : List (S93)) (x7_2 : Int), v7 = .int .i64 x7_2 ∧ Aside0 (dactylref07_Of.l1 kq l1 x5_2 x7_2 = some r) ∧ Aside0 (kq ≤ k1) ∧ Aside0 (Kd.R k93 93 w' w.heap.size (fun _ => True) v5 x5_2) ∧ Aside0 (Below w.heap.size w w'))
        case atStart => exact ⟨(x5_1), (0), (by first | rfl | (simp; done) | (simp [*]; done)), H', ⟨Nat.le_refl _⟩, ⟨by (with_reducible repeat (first | apply Kd.R_alloc | apply Kd.R_drewN | apply Kd.R_drew)); exact HO_5.out⟩, ⟨by repeat (first | (with_reducible first | exact HB.out | apply below_alloc | apply pw_below_drewN | apply below_drew1) | exact HB.out)⟩⟩
        case round =>
          clear H'
          try clear c1
          try clear p1
          try clear q1
          try clear hx1
          try clear c2
          try clear p2
          try clear c3
          try clear c3b0
          try clear c4
          try clear c4b0
          try clear c6
          try clear p6
          try clear hx101_0
          try clear hx101_1
          try clear p101
          try clear p2
          try clear q101
          obtain ⟨x5_2, x7_2, rfl, HA, HK2, HO_5, HB⟩ := hrel
          cases gk with
          | zero => exact absurd HA.out (by simp [dactylref07_Of.l1])
          | succ k2 =>
            have H := HA.out
            clear HA
            simp only [dactylref07_Of.l1] at H
            by_cases c10 : x7_2 < (l1.length : Int)
            · rw [if_pos c10] at H
              have c10b0 : decide (x7_2 < (l1.length : Int)) = true := decide_eq_true c10
              clear c10
              by_cases c11 : 0 ≤ x7_2
              · rw [if_pos c11] at H
                have c11b0 : decide (0 ≤ x7_2) = true := decide_eq_true c11
                clear c11
                replace H := Option.bind_eq_some_iff.mp H
                obtain ⟨t109, A120, H⟩ := H
                replace H : (if x5_2.length + t109.length < 3518437208883 then (dactylref07_Of.l1 k2 l1 (x5_2 ++ t109) (wrap64 (x7_2 + 1))) else (none)) = some r := H
                have A12 := Aside0.mk A120
                clear A120
                by_cases c13 : x5_2.length + t109.length < 3518437208883
                · rw [if_pos c13] at H
                  have LMc13 := Aside0.mk c13
                  clear c13
                  obtain ⟨y112, hy112⟩ : ∃ y_ : List (S93), y_ = (x5_2 ++ t109) := ⟨_, rfl⟩
                  replace H : (dactylref07_Of.l1 k2 l1 y112 (wrap64 (x7_2 + 1))) = some r := by first | (rw [hy112]; with_reducible exact H) | (have H2_ := (Option.bind_some _ _).symm.trans H; rw [hy112]; with_reducible exact H2_) | (have H2_ := (Option.bind_some _ _).symm.trans H; with_reducible exact H2_) | with_reducible exact H | (rw [hy112]; exact H) | exact H
                  have Ny112 := Aside0.mk hy112
                  clear hy112
                  have H' := Aside0.mk H
                  clear H
                  have p108 : 0 ≤ (x7_2 : Int) := of_decide_eq_true (by first | (with_reducible assumption) | assumption)
                  have q108 : x7_2 < (l1.length : Int) := of_decide_eq_true (by first | (with_reducible assumption) | assumption)
                  obtain ⟨ad108, e108, hx108_0, hx108_1⟩ := at_T45 HR1.out x7_2 p108 q108
                  cases e108
                  replace hx108_0 := (HB.out.cell (World.block_lt_of_cell? w _ hx108_0)).trans hx108_0
                  replace hx108_1 := (HB.out.cell (World.block_lt_of_cell? w _ hx108_1)).trans hx108_1
                  replace p108 := eq_true p108
                  replace q108 := eq_true q108
                  go_wp2_with (first | ((with_reducible refine gate_callee (f := 26) rfl ?_); refine goesL_ (some 33) rfl rfl Try.func26 (by kernel_rfl) rfl #[.agg #[.int .i64 ((rd_T45 l1 x7_2).f0), .int .i64 ((rd_T45 l1 x7_2).f1)], .int .i64 x7_2] rfl (by (try simp only [List.map_toArray, List.map_cons, List.map_nil]); first | done | rfl | (simp only [List.length_drop, List.length_take]; rfl)) ?_; (with_reducible refine (dactylref06_Cells.calls k2 ((rd_T45 l1 x7_2).f0) ((rd_T45 l1 x7_2).f1) x7_2 t109 _ A12.out).mono ?_); rintro e w14 ⟨v110, rfl, ho0, hb⟩; refine ⟨_, rfl, ?_⟩; have n0_ := Aside0.mk (Kd.R_elder' (by (with_reducible repeat (first | apply Kd.R_alloc | apply Kd.R_drewN | apply Kd.R_drew)); exact HO_5.out) (Kd.R_base ho0) hb); have n1_ := Aside0.mk (Kd.R_lower (Kd.R_new' ho0 (Kd.R_lt (by (with_reducible repeat (first | apply Kd.R_alloc | apply Kd.R_drewN | apply Kd.R_drew)); exact HO_5.out))) (below_size (by repeat (first | (with_reducible first | exact HB.out | apply below_alloc | apply pw_below_drewN | apply below_drew1) | exact HB.out)))); have n2_ := Aside0.mk (below_step (by repeat (first | (with_reducible first | exact HB.out | apply below_alloc | apply pw_below_drewN | apply below_drew1) | exact HB.out)) hb); clear HO_5; clear HB; have HO_5 := n0_; have HO111 := n1_; have HB := n2_; clear n0_ n1_ n2_; (try clear hb); (try clear hb2); (try clear hk); (try clear hi); (try clear ho0); obtain ⟨Ao16, co16, eo16⟩ := Kd.R_slice HO111.out; subst eo16) | ((with_reducible refine gate_builtin (b := .append) (xs := #[.tmp 27, .tmp 33]) rfl ?_); at_builtin; refine Kd.R_append_rows k93 (w0 := w) w.heap.size rfl (.tmp 27) (.tmp 33) 46 93 (.agg #[(.int .i64 0), (.int .i64 0), (.int .i64 0), (.int .i64 0), (.int .i64 0)]) 40 rfl Try.underlying46 info93 rfl (by decide) (by omega) u5 x5_2 t109 _ _ _ (fun k_ => some k_ ≠ (.slice Ao16 t109.length co16 : Value).ownBlock) (fun _ => False) rfl rfl ?aO ?aR (fun _ _ h => h) (fun _ h => h.elim) ?aF ?aB ?aS ?aL ?_; (case aR => repeat (first | exact (Kd.R_reads' HO111.out).2.2 | (with_reducible refine Kd.C_alloc ?_ _) | (with_reducible refine Kd.C_drewN ?_ _) | (with_reducible refine Kd.C_drew ?_))); (case aB => exact (by repeat (first | (with_reducible first | exact HB.out | apply below_alloc | apply pw_below_drewN | apply below_drew1) | exact HB.out))); (case aF => exact (fun k_ hk => Kd.fresh' (Kd.R_lt (by (with_reducible repeat (first | apply Kd.R_alloc | apply Kd.R_drewN | apply Kd.R_drew)); exact HO111.out)) k_ hk)); (case aO => exact (by (with_reducible repeat (first | apply Kd.R_alloc | apply Kd.R_drewN | apply Kd.R_drew)); exact Kd.R_mono HO_5.out (fun _ hk => hk.2))); (case aS => exact (below_size (by repeat (first | (with_reducible first | exact HB.out | apply below_alloc | apply pw_below_drewN | apply below_drew1) | exact HB.out)))); (case aL => have := LMc13.out; omega); intro v113 w15 ho hb hg hat; rw [← Ny112.out] at ho; have n0_ := Aside0.mk (Kd.R_after (ok := (fun _ => True)) (by (with_reducible repeat (first | apply Kd.R_alloc | apply Kd.R_drewN | apply Kd.R_drew)); exact HO111.out) hg hat); have n1_ := Aside0.mk (hb); have n2_ := Aside0.mk (ho); clear HO111; clear HB; clear HO_5; have HO111 := n0_; have HB := n1_; have HO114 := n2_; clear n0_ n1_ n2_; clear ho hb hg hat))
                  go_roundg k2
                  case measure => have := HK1.out; have := HK2.out; omega
                  case rel => exact ⟨(y112), (wrap64 (x7_2 + 1)), (by first | rfl | (simp; done) | (simp [*]; done)), H', ⟨by have := HK1.out; have := HK2.out; omega⟩, ⟨by (with_reducible repeat (first | apply Kd.R_alloc | apply Kd.R_drewN | apply Kd.R_drew)); exact Kd.R_mono HO114.out (fun _ hk => trivial)⟩, ⟨by repeat (first | (with_reducible first | exact HB.out | apply below_alloc | apply pw_below_drewN | apply below_drew1) | exact HB.out)⟩⟩
                · rw [if_neg c13] at H
                  exact absurd H (by simp)
              · rw [if_neg c11] at H
                exact absurd H (by simp)
            · rw [if_neg c10] at H
              have c10b0 : decide (x7_2 < (l1.length : Int)) = false := decide_eq_false c10
              clear c10
              obtain rfl := Option.some.inj H
              go_wp2
              go_ret
              exact ⟨_, by first | rfl | (simp [errW_none, errW_some] <;> rfl) | (simp [*, errW_none, errW_some] <;> rfl), by (with_reducible repeat (first | apply Kd.R_alloc | apply Kd.R_drewN | apply Kd.R_drew)); exact HO_5.out, by repeat (first | (with_reducible first | exact HB.out | apply below_alloc | apply pw_below_drewN | apply below_drew1) | exact HB.out)⟩

end Go.Proofs.Ytemoocoedibbpaa.X

namespace Go.Proofs.Ytemoocoedibbpaa.X
open Go.RowKit Go.Proofs.YtemoocoedibbpaaW.PrintWords Go.Proofs.YtemoocoedibbpaaW.PrintLast Go.Proofs.YtemoocoedibbpaaW.PrintMore
attribute [local go_sem] max2_int min2_int max_two min_two max_three min_three max_four min_four
set_option linter.unusedVariables false
set_option linter.unusedSimpArgs false

theorem RefOf_l1 (l : List S45) (hl : l.length ≤ 100000) : ∀ (d k i : Nat) (acc : List S93), d + i = l.length → d + 60 < k → acc.length ≤ 100000000 + 25 * i → dactylref07_Of.l1 k l acc (i : Int) = some (acc ++ lineCells i (l.drop i)) := by
  intro d
  induction d with
  | zero =>
    intro k i acc h1 h2 h3
    obtain ⟨k, rfl⟩ : ∃ m, k = m + 1 := ⟨k - 1, by omega⟩
    simp only [dactylref07_Of.l1]
    rw [if_neg (by omega), List.drop_of_length_le (by omega), lineCells, List.append_nil]
  | succ d ih =>
    intro k i acc h1 h2 h3
    obtain ⟨k, rfl⟩ : ∃ m, k = m + 1 := ⟨k - 1, by omega⟩
    have e1 : wrap64 ((i : Int) + 1) = ((i + 1 : Nat) : Int) := by rw [w64 (by omega) (by omega)]; omega
    have ed : l.drop i = l[i] :: l.drop (i + 1) := by rw [List.drop_eq_getElem_cons (by omega)]
    have hs := cellsOf_small (l[i]).f0 (l[i]).f1 i
    simp only [dactylref07_Of.l1]
    rw [if_pos (by omega), if_pos (by omega), rd_sign l i (by omega), ref_Cells_f _ _ _ k (by omega), Option.bind_some, if_pos (by omega), e1, ih k (i + 1) _ (by omega) (by omega) (by rw [List.length_append]; omega), ed, lineCells, List.append_assoc]
    rfl
theorem RefOf_l0 (l p : List S45) (hl : l.length ≤ 100000) (hp : p.length ≤ 100000) : ∀ (d k i : Nat) (acc : List S93), d + i = p.length → d + l.length + 70 < k → acc.length ≤ 25 * i → dactylref07_Of.l0 k p l acc (i : Int) = some (acc ++ promptCells (p.drop i) ++ lineCells 0 l) := by
  intro d
  induction d with
  | zero =>
    intro k i acc h1 h2 h3
    obtain ⟨k, rfl⟩ : ∃ m, k = m + 1 := ⟨k - 1, by omega⟩
    have := RefOf_l1 l hl l.length k 0 acc (by omega) (by omega) (by omega)
    simp only [dactylref07_Of.l0]
    rw [if_neg (by omega), List.drop_of_length_le (by omega), show ((0 : Int)) = ((0 : Nat) : Int) from rfl, this]
    simp [promptCells]
  | succ d ih =>
    intro k i acc h1 h2 h3
    obtain ⟨k, rfl⟩ : ∃ m, k = m + 1 := ⟨k - 1, by omega⟩
    have e1 : wrap64 ((i : Int) + 1) = ((i + 1 : Nat) : Int) := by rw [w64 (by omega) (by omega)]; omega
    have ed : p.drop i = p[i] :: p.drop (i + 1) := by rw [List.drop_eq_getElem_cons (by omega)]
    have hs := cellsOf_small (p[i]).f0 (p[i]).f1 (-1)
    simp only [dactylref07_Of.l0]
    rw [if_pos (by omega), if_pos (by omega), rd_sign p i (by omega), ref_Cells_f _ _ _ k (by omega), Option.bind_some, if_pos (by omega), e1, ih k (i + 1) _ (by omega) (by omega) (by rw [List.length_append]; omega), ed, promptCells_cons]
    simp only [List.append_assoc]
theorem ref_Of7_f (p l : List S45) (hl : l.length ≤ 100000) (hp : p.length ≤ 100000) (k : Nat) (hk : p.length + l.length + 80 < k) : dactylref07_Of.f k p l = some (viewC p l) := by
  have h0 := RefOf_l0 l p hl hp p.length k 0 [] (by omega) (by omega) (by simp)
  unfold dactylref07_Of.f viewC
  rw [show ((0 : Int)) = ((0 : Nat) : Int) from rfl, h0]
  simp
def sumCols (l : List S45) : Int := (l.map fun s => colsV s.f0).sum
theorem colsV_range (v : Int) : 0 ≤ colsV v ∧ colsV v ≤ 25 := by
  have := cellsOf_len v 0 0
  have := cellsOf_small v 0 0
  omega
theorem sumCols_cons (s : S45) (l : List S45) : sumCols (s :: l) = colsV s.f0 + sumCols l := by simp [sumCols]
theorem sumCols_range (l : List S45) : 0 ≤ sumCols l ∧ sumCols l ≤ 25 * l.length := by
  induction l with
  | nil => simp [sumCols]
  | cons s l ih =>
    have := colsV_range s.f0
    rw [sumCols_cons, List.length_cons]
    omega
theorem promptCells_len (l : List S45) : ((promptCells l).length : Int) = sumCols l := by
  induction l with
  | nil => rfl
  | cons s l ih => rw [promptCells_cons, List.length_append, sumCols_cons, ← ih, ← cellsOf_len s.f0 s.f1 (-1)]; omega
theorem lineCells_len (l : List S45) : ∀ i, ((lineCells i l).length : Int) = sumCols l := by
  induction l with
  | nil => intro i; rfl
  | cons s l ih => intro i; rw [lineCells, List.length_append, sumCols_cons, ← ih (i + 1), ← cellsOf_len s.f0 s.f1 i]; omega
theorem viewC_len (p l : List S45) : ((viewC p l).length : Int) = sumCols p + sumCols l := by
  unfold viewC
  rw [List.length_append, ← promptCells_len, ← lineCells_len l 0]; omega
theorem Cols_l0 (l : List S45) (hl : l.length ≤ 100000) : ∀ (d k i : Nat) (acc : Int), d + i = l.length → d + 61 < k → 0 ≤ acc → acc ≤ 25 * i → view_Cols.l0 k acc l (l.length : Int) (i : Int) = some (acc + sumCols (l.drop i)) := by
  intro d
  induction d with
  | zero =>
    intro k i acc h1 h2 h3 h4
    obtain ⟨k, rfl⟩ : ∃ m, k = m + 1 := ⟨k - 1, by omega⟩
    simp only [view_Cols.l0]
    rw [if_neg (by omega), List.drop_of_length_le (by omega)]
    simp [sumCols]
  | succ d ih =>
    intro k i acc h1 h2 h3 h4
    obtain ⟨k, rfl⟩ : ∃ m, k = m + 1 := ⟨k - 1, by omega⟩
    have e1 : wrap64 ((i : Int) + 1) = ((i + 1 : Nat) : Int) := by rw [w64 (by omega) (by omega)]; omega
    have ed : l.drop i = l[i] :: l.drop (i + 1) := by rw [List.drop_eq_getElem_cons (by omega)]
    have hs := colsV_range (l[i]).f0
    simp only [view_Cols.l0]
    rw [if_pos (by omega), if_pos (by omega), if_pos (by omega), rd_sign l i (by omega), show_Cols_f _ k (by omega), Option.bind_some, w64 (by omega) (by omega), e1, ih k (i + 1) _ (by omega) (by omega) (by omega) (by omega), ed, sumCols_cons]
    congr 1; omega
theorem view_Cols_f (l : List S45) (hl : l.length ≤ 100000) (k : Nat) (hk : l.length + 61 < k) : view_Cols.f k l = some (sumCols l) := by
  have := Cols_l0 l hl l.length k 0 0 (by omega) (by omega) (by omega) (by omega)
  simpa [view_Cols.f] using this

end Go.Proofs.Ytemoocoedibbpaa.X

namespace Go.Proofs.Ytemoocoedibbpaa.X
open Go.RowKit Go.Proofs.YtemoocoedibbpaaW.PrintWords Go.Proofs.YtemoocoedibbpaaW.PrintLast Go.Proofs.YtemoocoedibbpaaW.PrintMore
attribute [local go_sem] max2_int min2_int max_two min_two max_three min_three max_four min_four
set_option linter.unusedVariables false
set_option linter.unusedSimpArgs false

theorem cellsOf_own (v l own : Int) : ∀ x ∈ cellsOf v l own, x.f2 = own := by
  intro x hx
  unfold cellsOf toldCells at hx
  (repeat' split at hx) <;> simp at hx
  · rcases hx with h | h <;> rw [h]
  · rw [hx]
  · obtain ⟨i, _, rfl⟩ := hx; rfl
theorem promptCells_own (l : List S45) : ∀ x ∈ promptCells l, x.f2 = -1 := by
  intro x hx
  unfold promptCells at hx
  obtain ⟨s, _, h⟩ := List.mem_flatMap.1 hx
  exact cellsOf_own _ _ _ x h
theorem lineCells_own (l : List S45) : ∀ i, ∀ x ∈ lineCells i l, i ≤ x.f2 ∧ x.f2 < i + l.length := by
  induction l with
  | nil => intro i x hx; simp [lineCells] at hx
  | cons s l ih =>
    intro i x hx
    rw [lineCells, List.mem_append] at hx
    rw [List.length_cons]
    rcases hx with h | h
    · have := cellsOf_own _ _ _ x h; omega
    · have := ih _ x h; omega
theorem lineCells_append (a b : List S45) : ∀ i, lineCells i (a ++ b) = lineCells i a ++ lineCells (i + a.length) b := by
  induction a with
  | nil => intro i; simp [lineCells]
  | cons s a ih => intro i; rw [List.cons_append, lineCells, lineCells, ih, List.append_assoc, List.length_cons, show i + 1 + (a.length : Int) = i + ((a.length + 1 : Nat) : Int) by omega]
theorem txt_danger (v : Int) (h : 3 < cls v) : 1 ≤ (txt v).size := by
  have s1 : (⟨#[94]⟩ : ByteArray).size = 1 := rfl
  have s2 : (⟨#[92, 120]⟩ : ByteArray).size = 2 := rfl
  have s3 : (⟨#[60, 85, 43]⟩ : ByteArray).size = 3 := rfl
  have s5 : (⟨#[94, 63]⟩ : ByteArray).size = 2 := rfl
  unfold txt
  rw [if_neg (show ¬ cls v = 0 by omega), if_neg (show ¬ cls v ≤ 3 by omega)]
  (repeat' split) <;> (try simp only [ByteArray.size_append]) <;> omega
theorem colsV_right (v : Int) (h : rightB v = true) : 1 ≤ colsV v := by
  have h0 : cls v ≠ 0 := by
    rcases cls_says v with h' | h' | h' | h' | h'
    · rw [h'.2] at h; cases h
    · omega
    · omega
    · omega
    · omega
  have h1 : 0 ≤ cls v := by rcases cls_says v with h' | h' | h' | h' | h' <;> omega
  have h2 := txt_danger v
  unfold colsV
  (repeat' split) <;> omega
theorem first_split {α : Type} (p : α → Bool) (A B : List α) (hA : ∀ x ∈ A, p x = false) (hB : ∀ x ∈ B, p x = true) : (if idxP p (A ++ B) < 0 then ((A ++ B).length : Int) else idxP p (A ++ B)) = A.length := by
  cases B with
  | nil =>
    rw [List.append_nil, idxP_miss p A (fun j hj => hA _ (List.getElem_mem hj))]
    rfl
  | cons b B =>
    have := idxP_hit p (A ++ b :: B) A.length (by simp) (by simpa using hB b (by simp)) (fun j hj => by
      rw [List.getElem_append_left hj]; exact hA _ (List.getElem_mem hj))
    rw [this, if_neg (by omega)]
theorem sumCols_append (a b : List S45) : sumCols (a ++ b) = sumCols a + sumCols b := by simp [sumCols]
theorem view_First_view (p l : List S45) (i : Nat) (hi : i ≤ l.length) : view_First.f (viewC p l) (i : Int) = some (sumCols p + sumCols (l.take i)) := by
  have hs : viewC p l = (promptCells p ++ lineCells 0 (l.take i)) ++ lineCells i (l.drop i) := by
    unfold viewC
    conv => lhs; rw [← List.take_append_drop i l, lineCells_append]
    rw [List.append_assoc, List.length_take, Nat.min_eq_left hi, Int.zero_add]
  unfold view_First.f
  rw [hs, first_split (ownP (i : Int)) _ _ (fun x hx => by
    rw [List.mem_append] at hx
    unfold ownP
    rw [decide_eq_false_iff_not]
    rcases hx with h | h
    · have := promptCells_own p x h; omega
    · have := lineCells_own _ _ x h; rw [List.length_take] at this; omega) (fun x hx => by
    have := lineCells_own _ _ x hx
    unfold ownP
    rw [decide_eq_true_eq]; omega), List.length_append]
  have e1 := promptCells_len p
  have e2 := lineCells_len (l.take i) 0
  congr 1
  omega
theorem sumCols_take (l : List S45) (i : Nat) (hi : i < l.length) : sumCols (l.take (i + 1)) = sumCols (l.take i) + colsV (l[i]).f0 := by
  rw [List.take_succ_eq_append_getElem hi, sumCols_append]
  simp [sumCols]
theorem sumCols_take_range (l : List S45) (i : Nat) (hi : i ≤ l.length) : 0 ≤ sumCols (l.take i) ∧ sumCols (l.take i) ≤ 25 * i := by
  have := sumCols_range (l.take i)
  rw [List.length_take] at this
  omega
theorem view_Own_view (p l : List S45) (hp : p.length ≤ 100000) (hl : l.length ≤ 100000) (i : Nat) (hi : i < l.length) (k : Int) (h0 : sumCols p + sumCols (l.take i) ≤ k) (h1 : k < sumCols p + sumCols (l.take (i + 1))) : view_Own.f (viewC p l) k = some (i : Int) := by
  have e1 := promptCells_len p
  have e2 := lineCells_len (l.take i) 0
  have e3 := sumCols_take l i hi
  have e4 := cellsOf_len (l[i]).f0 (l[i]).f1 i
  have r1 := sumCols_range p
  have r2 := sumCols_take_range l i (by omega)
  have hs : viewC p l = (promptCells p ++ lineCells 0 (l.take i)) ++ (cellsOf (l[i]).f0 (l[i]).f1 i ++ lineCells (i + 1) (l.drop (i + 1))) := by
    unfold viewC
    conv => lhs; rw [← List.take_append_drop i l, lineCells_append, List.drop_eq_getElem_cons hi, lineCells]
    rw [List.append_assoc, List.length_take, Nat.min_eq_left (by omega), Int.zero_add]
  have hA : ((promptCells p ++ lineCells 0 (l.take i)).length : Int) = sumCols p + sumCols (l.take i) := by rw [List.length_append]; omega
  generalize hAA : promptCells p ++ lineCells 0 (l.take i) = A at hs hA
  generalize hBB : cellsOf (l[i]).f0 (l[i]).f1 i = B at hs e4
  have hlen : (viewC p l).length = A.length + (B.length + (lineCells (i + 1) (l.drop (i + 1))).length) := by rw [hs, List.length_append, List.length_append]
  have hB : ∀ x ∈ B, x.f2 = (i : Int) := by rw [← hBB]; exact cellsOf_own _ _ _
  have hk : ∃ n : Nat, k = n := ⟨k.toNat, by omega⟩
  obtain ⟨n, rfl⟩ := hk
  unfold view_Own.f
  rw [if_neg (by omega), if_neg (by omega), if_neg (by omega), if_pos (by omega), if_pos (by omega), rd_cell _ n (by omega)]
  congr 1
  have hn : n < (viewC p l).length := by omega
  have : (viewC p l)[n] = B[n - A.length]'(by omega) := by
    simp only [hs]
    rw [List.getElem_append_right (by omega), List.getElem_append_left (by omega)]
  rw [this]
  exact hB _ (List.getElem_mem _)

end Go.Proofs.Ytemoocoedibbpaa.X

namespace Go.Proofs.Ytemoocoedibbpaa.X
open Go.RowKit Go.Proofs.YtemoocoedibbpaaW.PrintWords Go.Proofs.YtemoocoedibbpaaW.PrintLast Go.Proofs.YtemoocoedibbpaaW.PrintMore
attribute [local go_sem] max2_int min2_int max_two min_two max_three min_three max_four min_four
set_option linter.unusedVariables false
set_option linter.unusedSimpArgs false

theorem str_append (a b : List Int) : strOfNums (a ++ b) = strOfNums a ++ strOfNums b := by
  apply ByteArray.ext
  rw [ByteArray.data_append]
  simp [strOfNums]
def digV (x : Int) : Int := if x < 10 then x + 48 else x + 55
theorem digB_list (x : Int) (h0 : 0 ≤ x) (h1 : x < 16) : digB x = strOfNums [digV x] := by
  obtain ⟨n, rfl⟩ : ∃ n : Nat, x = n := ⟨x.toNat, by omega⟩
  have hn : n < 16 := by omega
  have : ∀ n : Nat, n < 16 → (digB (n : Int)).data.toList = (strOfNums [digV (n : Int)]).data.toList := by decide +kernel
  apply ByteArray.ext
  exact Array.toList_inj.1 (this n hn)
def hexL : Nat → Int → Int → List Int
  | 0, _, _ => []
  | g + 1, least, u => if u > 0 ∨ 0 < least then hexL g (least - 1) (u / 16) ++ [digV (u % 16)] else []
theorem laid_list (g : Nat) : ∀ (least u : Int), 0 ≤ u → laidF g 16 least u ⟨#[]⟩ = strOfNums (hexL g least u) := by
  induction g with
  | zero => intro least u _; rfl
  | succ g ih =>
    intro least u h0
    unfold hexL
    by_cases c : u > 0 ∨ 0 < least
    · rw [if_pos c, laid_step g least u h0 c, ih _ _ (by omega), digB_list _ (by omega) (by omega), str_append]
    · rw [if_neg c, show u = 0 by omega, laid_nil _ _ (by omega)]
      rfl
theorem hexL_bytes (g : Nat) : ∀ (least u : Int), 0 ≤ u → ∀ x ∈ hexL g least u, (48 ≤ x ∧ x ≤ 57) ∨ (65 ≤ x ∧ x ≤ 70) := by
  induction g with
  | zero => intro least u _ x hx; simp [hexL] at hx
  | succ g ih =>
    intro least u h0 x hx
    unfold hexL at hx
    split at hx
    · rw [List.mem_append] at hx
      rcases hx with h | h
      · exact ih _ _ (by omega) x h
      · rw [List.mem_singleton] at h
        subst h
        unfold digV
        split <;> omega
    · simp at hx
def unV (x : Int) : Int := if x < 58 then x - 48 else x - 55
def unhexL (l : List Int) : Int := l.foldl (fun a x => 16 * a + unV x) 0
theorem unhex_hex (g : Nat) : ∀ (least u : Int), 0 ≤ u → u < 16 ^ g → unhexL (hexL g least u) = u := by
  induction g with
  | zero => intro least u h0 h1; simp at h1; simp [hexL, unhexL]; omega
  | succ g ih =>
    intro least u h0 h1
    unfold hexL
    split
    · have h2 : u / 16 < 16 ^ g := by rw [Int.pow_succ] at h1; omega
      have := ih (least - 1) (u / 16) (by omega) h2
      unfold unhexL at this ⊢
      rw [List.foldl_append, this]
      have : unV (digV (u % 16)) = u % 16 := by unfold unV digV; (repeat' split) <;> omega
      simp only [List.foldl_cons, List.foldl_nil, this]
      omega
    · simp [unhexL]; omega
def txtL (v : Int) : List Int := if cls v = 4 then [94, v + 64] else if cls v = 5 then [94, 63] else if cls v = 12 then [92, 120] ++ hexL 16 2 (v - 1114112) else [60, 85, 43] ++ hexL 16 4 v ++ [62]
theorem danger_says (v : Int) (h : 3 < cls v) : rightB v = true ∧ ((0 ≤ v ∧ v ≤ 31 ∧ cls v = 4) ∨ (0 ≤ v ∧ v ≤ 1114111 ∧ 5 ≤ cls v ∧ cls v ≤ 11) ∨ (1114240 ≤ v ∧ v ≤ 1114367 ∧ cls v = 12)) := by
  rcases cls_says v with h' | h' | h' | h' | h' <;> first | (exfalso; omega) | exact ⟨h'.1, by omega⟩
theorem txt_list (v : Int) (h : 3 < cls v) : txt v = strOfNums (txtL v) := by
  have hd := danger_says v h
  unfold txt txtL
  rw [if_neg (by omega), if_neg (by omega)]
  split
  · rfl
  · split
    · rfl
    · split
      · rw [laid_list 16 2 _ (by omega), str_append]; rfl
      · rw [laid_list 16 4 _ (by omega), str_append, str_append]; rfl
theorem txtL_bytes (v : Int) (h : 3 < cls v) : ∀ x ∈ txtL v, 1 ≤ x ∧ x ≤ 126 := by
  have hd := danger_says v h
  intro x hx
  unfold txtL at hx
  split at hx
  · simp only [List.mem_cons, List.not_mem_nil, or_false] at hx; omega
  · split at hx
    · simp only [List.mem_cons, List.not_mem_nil, or_false] at hx; omega
    · split at hx
      · rw [List.mem_append] at hx
        rcases hx with hx | hx
        · simp only [List.mem_cons, List.not_mem_nil, or_false] at hx; omega
        · have := hexL_bytes _ _ _ (by omega) x hx; omega
      · rw [List.mem_append, List.mem_append] at hx
        rcases hx with (hx | hx) | hx
        · simp only [List.mem_cons, List.not_mem_nil, or_false] at hx; omega
        · have := hexL_bytes _ _ _ (by omega) x hx; omega
        · simp only [List.mem_cons, List.not_mem_nil, or_false] at hx; omega
theorem bt_str (l : List Int) (i : Nat) (hi : i < l.length) (h : ∀ x ∈ l, 0 ≤ x ∧ x ≤ 255) : bt (strOfNums l) (i : Int) = l[i] := by
  have hx := h _ (List.getElem_mem hi)
  unfold bt
  rw [dif_pos (by rw [strOfNums_size]; simpa using hi)]
  show (((strOfNums l).data[i]'(by simpa [strOfNums] using hi)).toNat : Int) = l[i]
  simp only [strOfNums]
  rw [List.getElem_toArray, List.getElem_map, UInt8.toNat_ofNat']
  omega
theorem told_list (l : List Int) (lk own v : Int) (h : ∀ x ∈ l, 0 ≤ x ∧ x ≤ 255) : toldCells (strOfNums l) lk own v = l.mapIdx fun i x => ⟨x, lk, own, v, (i : Int)⟩ := by
  unfold toldCells
  rw [strOfNums_size]
  apply List.ext_getElem (by simp)
  intro i h1 h2
  simp only [List.length_map, List.length_range] at h1
  have hx := h _ (List.getElem_mem h1)
  rw [List.getElem_map, List.getElem_range, List.getElem_mapIdx, bt_str l i h1 h, w64 (by omega) (by omega)]

end Go.Proofs.Ytemoocoedibbpaa.X

namespace Go.Proofs.Ytemoocoedibbpaa.X
open Go.RowKit Go.Proofs.YtemoocoedibbpaaW.PrintWords Go.Proofs.YtemoocoedibbpaaW.PrintLast Go.Proofs.YtemoocoedibbpaaW.PrintMore
attribute [local go_sem] max2_int min2_int max_two min_two max_three min_three max_four min_four
set_option linter.unusedVariables false
set_option linter.unusedSimpArgs false

def va (l : List S93) : List (Int × Int) := l.map fun x => (x.f0, x.f1)
theorem va_append (a b : List S93) : va (a ++ b) = va a ++ va b := by simp [va]
theorem va_same (c d : List S93) (h : eqP sameP c d = true) : va c = va d := by
  obtain ⟨h1, h2⟩ := (eqP_iff sameP c d).1 h
  unfold va
  apply List.ext_getElem (by simpa using h1)
  intro i g1 g2
  have := h2 i (by simpa using g1) (by simpa using g2)
  unfold sameP at this
  simp only [Bool.and_eq_true, beq_iff_eq] at this
  rw [List.getElem_map, List.getElem_map, this.1, this.2]
theorem looks_odd (v l : Int) : looksV v l % 2 = if cls v > 3 then 1 else 0 := by
  unfold looksV
  (repeat' split) <;> omega
theorem cls5 (v : Int) (h : cls v = 5) : v = 127 := by
  have hd := danger_says v (by omega)
  have hv : 0 ≤ v ∧ v ≤ 1114111 := by omega
  unfold cls at h
  rw [if_pos hd.1, if_neg (by omega)] at h
  split at h
  · omega
  · rename_i hc
    have hs := (same_all v (by omega) (by omega)).1 hc
    have ho : oddB v = 5 → v = 127 := by
      intro h5
      unfold oddB at h5
      (repeat' split at h5) <;> omega
    rw [hs] at h
    split at h
    · split at h
      · split at h
        · omega
        · rename_i h1 h2 h3
          exfalso
          have hw := (same_all v (by omega) (by omega)).2.2
          rw [hw] at h
          split at h <;> omega
      · omega
    · exact ho h
theorem hexL2 (n : Int) (h0 : 128 ≤ n) (h1 : n ≤ 255) : hexL 16 2 n = [digV (n / 16), digV (n % 16)] := by
  have a : hexL 16 2 n = hexL 15 1 (n / 16) ++ [digV (n % 16)] := by rw [hexL, if_pos (by omega)]; rfl
  have b : hexL 15 1 (n / 16) = hexL 14 0 (n / 16 / 16) ++ [digV (n / 16 % 16)] := by rw [hexL, if_pos (by omega)]; rfl
  have c : hexL 14 0 (n / 16 / 16) = [] := by rw [hexL, if_neg (by omega)]
  rw [a, b, c, show n / 16 % 16 = n / 16 by omega]
  rfl
theorem split62 (a b r s : List Int) (ha : ∀ x ∈ a, x ≠ 62) (hb : ∀ x ∈ b, x ≠ 62) (h : a ++ 62 :: r = b ++ 62 :: s) : a = b := by
  induction a generalizing b with
  | nil =>
    cases b with
    | nil => rfl
    | cons y b => simp at h; exact absurd h.1.symm (hb y (by simp))
  | cons x a ih =>
    cases b with
    | nil => simp at h; exact absurd h.1 (ha x (by simp))
    | cons y b =>
      simp only [List.cons_append, List.cons.injEq] at h
      rw [h.1, ih b (fun z hz => ha z (by simp [hz])) (fun z hz => hb z (by simp [hz])) h.2]
theorem txtL_apart (v w : Int) (hv : 3 < cls v) (hw : 3 < cls w) (r s : List Int) (h : txtL v ++ r = txtL w ++ s) : v = w := by
  have dv := danger_says v hv
  have dw := danger_says w hw
  have b1 : (16 : Int) ^ 16 = 18446744073709551616 := by decide
  have cv : (cls v = 4 ∧ 0 ≤ v ∧ v ≤ 31 ∧ txtL v = [94, v + 64]) ∨ (v = 127 ∧ txtL v = [94, 63]) ∨ (1114240 ≤ v ∧ v ≤ 1114367 ∧ txtL v = [92, 120, digV ((v - 1114112) / 16), digV ((v - 1114112) % 16)]) ∨ (0 ≤ v ∧ v ≤ 1114111 ∧ txtL v = 60 :: 85 :: 43 :: (hexL 16 4 v ++ [62])) := by
    unfold txtL
    split
    · left; exact ⟨by omega, by omega, by omega, rfl⟩
    · split
      · right; left; exact ⟨cls5 v (by omega), rfl⟩
      · split
        · right; right; left; refine ⟨by omega, by omega, ?_⟩; rw [hexL2 _ (by omega) (by omega)]; rfl
        · right; right; right; exact ⟨by omega, by omega, rfl⟩
  have cw : (cls w = 4 ∧ 0 ≤ w ∧ w ≤ 31 ∧ txtL w = [94, w + 64]) ∨ (w = 127 ∧ txtL w = [94, 63]) ∨ (1114240 ≤ w ∧ w ≤ 1114367 ∧ txtL w = [92, 120, digV ((w - 1114112) / 16), digV ((w - 1114112) % 16)]) ∨ (0 ≤ w ∧ w ≤ 1114111 ∧ txtL w = 60 :: 85 :: 43 :: (hexL 16 4 w ++ [62])) := by
    unfold txtL
    split
    · left; exact ⟨by omega, by omega, by omega, rfl⟩
    · split
      · right; left; exact ⟨cls5 w (by omega), rfl⟩
      · split
        · right; right; left; refine ⟨by omega, by omega, ?_⟩; rw [hexL2 _ (by omega) (by omega)]; rfl
        · right; right; right; exact ⟨by omega, by omega, rfl⟩
  have dig : ∀ a b : Int, 0 ≤ a → a < 16 → 0 ≤ b → b < 16 → digV a = digV b → a = b := by
    intro a b _ _ _ _ hab
    unfold digV at hab
    (repeat' split at hab) <;> omega
  rcases cv with ⟨_, _, _, e1⟩ | ⟨_, e1⟩ | ⟨_, _, e1⟩ | ⟨_, _, e1⟩ <;> rcases cw with ⟨_, _, _, e2⟩ | ⟨_, e2⟩ | ⟨_, _, e2⟩ | ⟨_, _, e2⟩ <;> rw [e1, e2] at h <;> simp only [List.cons_append, List.nil_append, List.append_assoc, List.cons.injEq] at h <;> try omega
  · have x1 := dig _ _ (by omega) (by omega) (by omega) (by omega) h.2.2.1
    have x2 := dig _ _ (by omega) (by omega) (by omega) (by omega) h.2.2.2.1
    omega
  · have x1 := split62 _ _ r s (fun x hx => by have := hexL_bytes _ _ _ (by omega) x hx; omega) (fun x hx => by have := hexL_bytes _ _ _ (by omega) x hx; omega) h.2.2.2
    have y1 := unhex_hex 16 4 v (by omega) (by omega)
    have y2 := unhex_hex 16 4 w (by omega) (by omega)
    rw [← y1, ← y2, x1]
theorem okS_cls (s : S45) (h : okS s = true) : cls s.f0 ≠ 0 := by
  unfold okS at h
  rw [Bool.and_eq_true] at h
  rcases cls_says s.f0 with h' | h' | h' | h' | h' <;> first | omega | (rw [h'.2] at h; cases h.1)
theorem va_plain (v l own : Int) (h : cls v ≠ 0) (h3 : ¬ 3 < cls v) : ∃ r, va (cellsOf v l own) = (v, looksV v l) :: r := by
  unfold cellsOf
  rw [if_neg h]
  split
  · exact ⟨_, rfl⟩
  · rw [if_pos (by omega)]; exact ⟨_, rfl⟩
theorem va_danger (v l own : Int) (h3 : 3 < cls v) : va (cellsOf v l own) = (txtL v).map fun x => (x, looksV v l) := by
  unfold cellsOf
  rw [if_neg (by omega), if_neg (by omega), if_neg (by omega), txt_list v h3, told_list _ _ _ _ (fun x hx => by have := txtL_bytes v h3 x hx; omega)]
  unfold va
  apply List.ext_getElem (by simp)
  intro i g1 g2
  simp
theorem txtL_cons (v : Int) : ∃ x r, txtL v = x :: r := by
  unfold txtL
  (repeat' split) <;> exact ⟨_, _, rfl⟩
theorem apart_head (s t : S45) (i : Int) (r r' : List (Int × Int)) (hs : okS s = true) (ht : okS t = true) (h : va (cellsOf s.f0 s.f1 i) ++ r = va (cellsOf t.f0 t.f1 i) ++ r') : s.f0 = t.f0 ∧ r = r' := by
  have cs := okS_cls s hs
  have ct := okS_cls t ht
  have os := looks_odd s.f0 s.f1
  have ot := looks_odd t.f0 t.f1
  have main : s.f0 = t.f0 := by
    by_cases c1 : 3 < cls s.f0
    · by_cases c2 : 3 < cls t.f0
      · rw [va_danger _ _ _ c1, va_danger _ _ _ c2] at h
        have := congrArg (List.map (fun x : Int × Int => x.1)) h
        rw [List.map_append, List.map_append, List.map_map, List.map_map] at this
        have e1 : List.map ((fun x : Int × Int => x.1) ∘ fun x => (x, looksV s.f0 s.f1)) (txtL s.f0) = txtL s.f0 := by simp [Function.comp_def]
        have e2 : List.map ((fun x : Int × Int => x.1) ∘ fun x => (x, looksV t.f0 t.f1)) (txtL t.f0) = txtL t.f0 := by simp [Function.comp_def]
        rw [e1, e2] at this
        exact txtL_apart _ _ c1 c2 _ _ this
      · obtain ⟨q, hq⟩ := va_plain t.f0 t.f1 i ct c2
        obtain ⟨x, q', hq'⟩ := txtL_cons s.f0
        rw [va_danger _ _ _ c1, hq, hq'] at h
        simp only [List.map_cons, List.cons_append, List.cons.injEq, Prod.mk.injEq] at h
        rw [if_pos (by omega)] at os
        rw [if_neg (by omega)] at ot
        omega
    · by_cases c2 : 3 < cls t.f0
      · obtain ⟨q, hq⟩ := va_plain s.f0 s.f1 i cs c1
        obtain ⟨x, q', hq'⟩ := txtL_cons t.f0
        rw [va_danger _ _ _ c2, hq, hq'] at h
        simp only [List.map_cons, List.cons_append, List.cons.injEq, Prod.mk.injEq] at h
        rw [if_neg (by omega)] at os
        rw [if_pos (by omega)] at ot
        omega
      · obtain ⟨q, hq⟩ := va_plain s.f0 s.f1 i cs c1
        obtain ⟨q', hq'⟩ := va_plain t.f0 t.f1 i ct c2
        rw [hq, hq'] at h
        simp only [List.cons_append, List.cons.injEq, Prod.mk.injEq] at h
        exact h.1.1
  refine ⟨main, ?_⟩
  have l1 := cellsOf_len s.f0 s.f1 i
  have l2 := cellsOf_len t.f0 t.f1 i
  rw [main] at l1
  exact (List.append_inj h (by simp only [va, List.length_map, main]; omega)).2
theorem apart_lines (a : List S45) : ∀ (b : List S45) (i : Int), allB a = true → allB b = true → va (lineCells i a) = va (lineCells i b) → a.map (·.f0) = b.map (·.f0) := by
  have ne : ∀ (s : S45) (i : Int), okS s = true → ∃ x r, va (cellsOf s.f0 s.f1 i) = x :: r := by
    intro s i hs
    by_cases c : 3 < cls s.f0
    · obtain ⟨x, q', hq'⟩ := txtL_cons s.f0
      exact ⟨_, _, by rw [va_danger _ _ _ c, hq', List.map_cons]⟩
    · obtain ⟨q, hq⟩ := va_plain s.f0 s.f1 i (okS_cls s hs) c
      exact ⟨_, _, hq⟩
  induction a with
  | nil =>
    intro b i _ hb h
    cases b with
    | nil => rfl
    | cons t b =>
      unfold allB at hb
      rw [List.all_cons, Bool.and_eq_true] at hb
      obtain ⟨x, r, e⟩ := ne t i hb.1
      rw [lineCells, lineCells, va_append, e] at h
      simp [va] at h
  | cons s a ih =>
    intro b i ha hb h
    unfold allB at ha
    rw [List.all_cons, Bool.and_eq_true] at ha
    cases b with
    | nil =>
      obtain ⟨x, r, e⟩ := ne s i ha.1
      rw [lineCells, lineCells, va_append, e] at h
      simp [va] at h
    | cons t b =>
      unfold allB at hb
      rw [List.all_cons, Bool.and_eq_true] at hb
      rw [lineCells, lineCells, va_append, va_append] at h
      obtain ⟨h1, h2⟩ := apart_head s t i _ _ ha.1 hb.1 h
      rw [List.map_cons, List.map_cons, h1, ih b (i + 1) ha.2 hb.2 h2]
theorem Values_l0 (l : List S45) (hl : l.length ≤ 100000) : ∀ (d k i : Nat) (acc : List Int), d + i = l.length → d < k → acc.length = i → dactylref04_Values.l0 k l acc (i : Int) = some (acc ++ (l.drop i).map (·.f0)) := by
  intro d
  induction d with
  | zero =>
    intro k i acc h1 h2 h3
    obtain ⟨k, rfl⟩ : ∃ m, k = m + 1 := ⟨k - 1, by omega⟩
    simp only [dactylref04_Values.l0]
    rw [if_neg (by omega), List.drop_of_length_le (by omega), List.map_nil, List.append_nil]
  | succ d ih =>
    intro k i acc h1 h2 h3
    obtain ⟨k, rfl⟩ : ∃ m, k = m + 1 := ⟨k - 1, by omega⟩
    have e1 : wrap64 ((i : Int) + 1) = ((i + 1 : Nat) : Int) := by rw [w64 (by omega) (by omega)]; omega
    have ed : l.drop i = l[i] :: l.drop (i + 1) := by rw [List.drop_eq_getElem_cons (by omega)]
    simp only [dactylref04_Values.l0]
    rw [if_pos (by omega), if_pos (by omega), if_pos (by omega), rd_sign l i (by omega), e1, ih k (i + 1) _ (by omega) (by omega) (by simp [h3]), ed, List.map_cons, List.append_assoc]
    rfl
theorem Values_f (l : List S45) (hl : l.length ≤ 100000) (k : Nat) (hk : l.length < k) : dactylref04_Values.f k l = some (l.map (·.f0)) := by
  have := Values_l0 l hl l.length k 0 [] (by omega) hk rfl
  unfold dactylref04_Values.f
  exact this
theorem Ints_self (l : List Int) (hl : l.length ≤ 4611686018427387904) (k : Nat) (hk : l.length < k) : dactylref01_Ints.f k l l = some true := by
  unfold dactylref01_Ints.f
  rw [if_pos rfl]
  obtain ⟨b, hb, hiff⟩ := scan_all (fun k i => dactylref01_Ints.l0 k l l i) l.length (fun _ => true) hl (fun k => by simp [dactylref01_Ints.l0]) (fun k i hi => by
    simp only [dactylref01_Ints.l0]
    rw [if_pos (by omega), if_pos (by omega), if_pos (by omega)]
    try simp) l.length k 0 (by omega) hk
  rw [show b = true from hiff.2 (by simp)] at hb
  exact hb
theorem Pure_ViewApart : dactyllaw07_ViewApart.Pure := by
  intro p a b _ _ _
  refine ⟨100 * p.length + 100 * a.length + 100 * b.length + 300, ?_⟩
  have aw : dactyllaw07_awake.f = some true := rfl
  unfold dactyllaw07_ViewApart.f
  obtain ⟨k, hk⟩ : ∃ k, 100 * p.length + 100 * a.length + 100 * b.length + 300 = k + 1 := ⟨100 * p.length + 100 * a.length + 100 * b.length + 299, by omega⟩
  rw [hk]
  simp only [dactyllaw07_ViewApart.j0, aw, Option.bind_some, if_true]
  by_cases c1 : (p.length : Int) > 20
  · rw [if_pos c1]
  rw [if_neg c1]
  by_cases c2 : (a.length : Int) > 30
  · rw [if_pos c2]
  rw [if_neg c2]
  by_cases c3 : (b.length : Int) > 30
  · rw [if_pos c3]
  rw [if_neg c3, view_Of_f p a (by omega) (by omega) _ (by omega), Option.bind_some, view_Of_f p b (by omega) (by omega) _ (by omega), Option.bind_some, ref_AllS_f p (by omega) _ (by omega), Option.bind_some, ref_AllS_f a (by omega) _ (by omega), Option.bind_some, ref_AllS_f b (by omega) _ (by omega), Option.bind_some]
  cases hp : allB p
  · simp
  cases ha : allB a
  · simp
  cases hb : allB b
  · simp
  have hlen := viewC_len p a
  have s1 := sumCols_range p
  have s2 := sumCols_range a
  simp only [and_self, if_true, Bool.not_true, Bool.false_eq_true, if_false]
  rw [ref_Same_f _ _ (by omega) _ (by omega), Option.bind_some]
  cases hq : eqP sameP (viewC p a) (viewC p b)
  · simp
  have h1 := va_same _ _ hq
  unfold viewC at h1
  rw [va_append, va_append] at h1
  have h2 := apart_lines a b 0 ha hb (List.append_cancel_left h1)
  simp only [if_true]
  rw [Values_f a (by omega) _ (by omega), Option.bind_some, Values_f b (by omega) _ (by omega), Option.bind_some, h2, Ints_self _ (by rw [List.length_map]; omega) _ (by rw [List.length_map]; omega)]
  rfl

end Go.Proofs.Ytemoocoedibbpaa.X
