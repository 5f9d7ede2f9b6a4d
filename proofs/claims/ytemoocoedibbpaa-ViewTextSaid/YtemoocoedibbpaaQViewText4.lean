/- Written by a program of this session (wip/tools/hp.py, pack.py) and by this session: what the law ViewText reaches, function by function: a Lean function with the same answers, and the proof that the machine's call gives them. No condition but the ones the theorems state. -/
import Derived.Test.YtemoocoedibbpaaQViewText3
namespace Go.Proofs.Ytemoocoedibbpaa.X
open Go.RowKit Go.Proofs.YtemoocoedibbpaaW.PrintWords Go.Proofs.YtemoocoedibbpaaW.PrintLast Go.Proofs.YtemoocoedibbpaaW.PrintMore
attribute [local go_sem] max2_int min2_int max_two min_two max_three min_three max_four min_four
set_option linter.unusedVariables false
set_option linter.unusedSimpArgs false

/-! ### dactylref07_Of: function 43 -/
mutual
def dactylref07_Of.l0 : Nat → List (S45) → List (S45) → List (S93) → Int → Option ((List (S93)))
  | 0, _, _, _, _ => none
  | k + 1, x0, x1, x5, x6 => if x6 < (x0.length : Int) then (if 0 ≤ x6 then ((dactylref06_Cells.f k ((rd_T45 x0 x6).f0) ((rd_T45 x0 x6).f1) (-1)).bind fun t102 => (if x5.length + t102.length < 3518437208883 then (dactylref07_Of.l0 k x0 x1 (x5 ++ t102) (wrap64 (x6 + 1))) else (none))) else (none)) else (dactylref07_Of.l1 k x1 x5 0)
def dactylref07_Of.l1 : Nat → List (S45) → List (S93) → Int → Option ((List (S93)))
  | 0, _, _, _ => none
  | k + 1, x1, x5, x7 => if x7 < (x1.length : Int) then (if 0 ≤ x7 then ((dactylref06_Cells.f k ((rd_T45 x1 x7).f0) ((rd_T45 x1 x7).f1) x7).bind fun t109 => (if x5.length + t109.length < 3518437208883 then (dactylref07_Of.l1 k x1 (x5 ++ t109) (wrap64 (x7 + 1))) else (none))) else (none)) else (some x5)
end
def dactylref07_Of.f (k : Nat) (l0 : List (S45)) (l1 : List (S45)) : Option ((List (S93))) := dactylref07_Of.l0 k l0 l1 ([] : List (S93)) 0
theorem dactylref07_Of.mono_l : ∀ k, (∀ y0 y1 y2 y3, LeO (dactylref07_Of.l0 k y0 y1 y2 y3) (dactylref07_Of.l0 (k + 1) y0 y1 y2 y3)) ∧ (∀ y0 y1 y2, LeO (dactylref07_Of.l1 k y0 y1 y2) (dactylref07_Of.l1 (k + 1) y0 y1 y2))
  | 0 => ⟨fun _ _ _ _ r h => by simp [dactylref07_Of.l0] at h, fun _ _ _ r h => by simp [dactylref07_Of.l1] at h⟩
  | k + 1 => by
    obtain ⟨ih0, ih1⟩ := dactylref07_Of.mono_l k
    refine ⟨?_, ?_⟩
    · intro y0 y1 y2 y3
      unfold dactylref07_Of.l0
      repeat' first
      | (with_reducible exact ih0 _ _ _ _)
      | (with_reducible exact ih1 _ _ _)
      | (with_reducible exact dactylref06_Cells.mono _ _ _ _)
      | (with_reducible exact LeO.refl _)
      | (with_reducible exact LeO.none _)
      | (with_reducible refine LeO.ite ?_ ?_)
      | (with_reducible refine LeO.bind ?_ (fun _ => ?_))
      | exact ih0 _ _ _ _
      | exact ih1 _ _ _
      | exact dactylref06_Cells.mono _ _ _ _
      | exact LeO.none _
      | refine LeO.ite ?_ ?_
      | refine LeO.bind ?_ (fun _ => ?_)
    · intro y0 y1 y2
      unfold dactylref07_Of.l1
      repeat' first
      | (with_reducible exact ih0 _ _ _ _)
      | (with_reducible exact ih1 _ _ _)
      | (with_reducible exact dactylref06_Cells.mono _ _ _ _)
      | (with_reducible exact LeO.refl _)
      | (with_reducible exact LeO.none _)
      | (with_reducible refine LeO.ite ?_ ?_)
      | (with_reducible refine LeO.bind ?_ (fun _ => ?_))
      | exact ih0 _ _ _ _
      | exact ih1 _ _ _
      | exact dactylref06_Cells.mono _ _ _ _
      | exact LeO.none _
      | refine LeO.ite ?_ ?_
      | refine LeO.bind ?_ (fun _ => ?_)
theorem dactylref07_Of.mono : ∀ a0 a1 k, LeO (dactylref07_Of.f k a0 a1) (dactylref07_Of.f (k + 1) a0 a1) := by
  intro a0 a1 k
  obtain ⟨ih0, ih1⟩ := dactylref07_Of.mono_l k
  unfold dactylref07_Of.f
  repeat' first
      | (with_reducible exact ih0 _ _ _ _)
      | (with_reducible exact ih1 _ _ _)
      | (with_reducible exact dactylref06_Cells.mono _ _ _ _)
      | (with_reducible exact LeO.refl _)
      | (with_reducible exact LeO.none _)
      | (with_reducible refine LeO.ite ?_ ?_)
      | (with_reducible refine LeO.bind ?_ (fun _ => ?_))
      | exact ih0 _ _ _ _
      | exact ih1 _ _ _
      | exact dactylref06_Cells.mono _ _ _ _
      | exact LeO.none _
      | refine LeO.ite ?_ ?_
      | refine LeO.bind ?_ (fun _ => ?_)
set_option maxHeartbeats 8000000 in
set_option maxRecDepth 100000 in
theorem dactylref07_Of.calls (k : Nat) (A0 : Option Addr) (c0 : Nat) (l0 : List (S45)) (A1 : Option Addr) (c1 : Nat) (l1 : List (S45)) (r : List (S93)) (w : World) (hr0 : Kd.C k45 w A0 l0.length l0) (hc0 : l0.length ≤ c0) (hr1 : Kd.C k45 w A1 l1.length l1) (hc1 : l1.length ≤ c1) (h : dactylref07_Of.f k l0 l1 = some r) :
    Calls Try.prog 43 #[.slice A0 l0.length c0, .slice A1 l1.length c1] w fun e w' => ∃ v0_ : Value, e = .returned (v0_) ∧ Kd.R k93 93 w' w.heap.size (fun _ => True) v0_ r ∧ Below w.heap.size w w' := by
  have hu45 := Try.underlying45
  have HR0 := Aside0.mk hr0
  have HC0 := Aside0.mk hc0
  clear hr0 hc0
  have HR1 := Aside0.mk hr1
  have HC1 := Aside0.mk hc1
  clear hr1 hc1
  have HB := Aside0.mk (Below.refl w.heap.size w)
  have H : (dactylref07_Of.l0 k l0 l1 ([] : List (S93)) 0) = some r := h
  clear h
  have H' := Aside0.mk H
  clear H
  go_enter Try.func43, Try.ntmps43
  go_wp2
  go_loopg [5, 6] k (fun kq v5 v6 w' => ∃ (x5_1 : List (S93)) (x6_1 : Int), v6 = .int .i64 x6_1 ∧ Aside0 (dactylref07_Of.l0 kq l0 l1 x5_1 x6_1 = some r) ∧ Aside0 (kq ≤ k) ∧ Aside0 (Kd.R k93 93 w' w.heap.size (fun _ => True) v5 x5_1) ∧ Aside0 (Below w.heap.size w w'))
  case atStart => exact ⟨(([] : List (S93))), (0), (by first | rfl | (simp; done) | (simp [*]; done)), H', ⟨Nat.le_refl _⟩, ⟨by first | exact Kd.R_nil _ _ _ _ _ | exact Kd.N_nil _ _ _ _ _ | exact Kd.V_nil _ _ _ _ _ | exact Kd.Q_nil _ _ _ _ _ | exact Kd.S_nil _ _ _ _ _⟩, ⟨by repeat (first | (with_reducible first | exact HB.out | apply below_alloc | apply pw_below_drewN | apply below_drew1) | exact HB.out)⟩⟩
  case round =>
    clear H'
    try clear c1
    try clear p2
    obtain ⟨x5_1, x6_1, rfl, HA, HK1, HO_5, HB⟩ := hrel
    cases gk with
    | zero => exact absurd HA.out (by simp [dactylref07_Of.l0])
    | succ k1 =>
      have H := HA.out
      clear HA
      simp only [dactylref07_Of.l0] at H
      by_cases c3 : x6_1 < (l0.length : Int)
      · rw [if_pos c3] at H
        have c3b0 : decide (x6_1 < (l0.length : Int)) = true := decide_eq_true c3
        clear c3
        by_cases c4 : 0 ≤ x6_1
        · rw [if_pos c4] at H
          have c4b0 : decide (0 ≤ x6_1) = true := decide_eq_true c4
          clear c4
          replace H := Option.bind_eq_some_iff.mp H
          obtain ⟨t102, A50, H⟩ := H
          replace H : (if x5_1.length + t102.length < 3518437208883 then (dactylref07_Of.l0 k1 l0 l1 (x5_1 ++ t102) (wrap64 (x6_1 + 1))) else (none)) = some r := H
          have A5 := Aside0.mk A50
          clear A50
          by_cases c6 : x5_1.length + t102.length < 3518437208883
          · rw [if_pos c6] at H
            have LMc6 := Aside0.mk c6
            clear c6
            obtain ⟨y105, hy105⟩ : ∃ y_ : List (S93), y_ = (x5_1 ++ t102) := ⟨_, rfl⟩
            replace H : (dactylref07_Of.l0 k1 l0 l1 y105 (wrap64 (x6_1 + 1))) = some r := by first | (rw [hy105]; with_reducible exact H) | (have H2_ := (Option.bind_some _ _).symm.trans H; rw [hy105]; with_reducible exact H2_) | (have H2_ := (Option.bind_some _ _).symm.trans H; with_reducible exact H2_) | with_reducible exact H | (rw [hy105]; exact H) | exact H
            have Ny105 := Aside0.mk hy105
            clear hy105
            have H' := Aside0.mk H
            clear H
            have p101 : 0 ≤ (x6_1 : Int) := of_decide_eq_true (by first | (with_reducible assumption) | assumption)
            have q101 : x6_1 < (l0.length : Int) := of_decide_eq_true (by first | (with_reducible assumption) | assumption)
            obtain ⟨ad101, e101, hx101_0, hx101_1⟩ := at_T45 HR0.out x6_1 p101 q101
            cases e101
            replace hx101_0 := (HB.out.cell (World.block_lt_of_cell? w _ hx101_0)).trans hx101_0
            replace hx101_1 := (HB.out.cell (World.block_lt_of_cell? w _ hx101_1)).trans hx101_1
            replace p101 := eq_true p101
            replace q101 := eq_true q101
            go_wp2_with (first | ((with_reducible refine gate_callee (f := 26) rfl ?_); refine goesL_ (some 19) rfl rfl Try.func26 (by kernel_rfl) rfl #[.agg #[.int .i64 ((rd_T45 l0 x6_1).f0), .int .i64 ((rd_T45 l0 x6_1).f1)], .int .i64 (-1)] rfl (by (try simp only [List.map_toArray, List.map_cons, List.map_nil]); first | done | rfl | (simp only [List.length_drop, List.length_take]; rfl)) ?_; (with_reducible refine (dactylref06_Cells.calls k1 ((rd_T45 l0 x6_1).f0) ((rd_T45 l0 x6_1).f1) (-1) t102 _ A5.out).mono ?_); rintro e w7 ⟨v103, rfl, ho0, hb⟩; refine ⟨_, rfl, ?_⟩; have n0_ := Aside0.mk (Kd.R_elder' (by (with_reducible repeat (first | apply Kd.R_alloc | apply Kd.R_drewN | apply Kd.R_drew)); exact HO_5.out) (Kd.R_base ho0) hb); have n1_ := Aside0.mk (Kd.R_lower (Kd.R_new' ho0 (Kd.R_lt (by (with_reducible repeat (first | apply Kd.R_alloc | apply Kd.R_drewN | apply Kd.R_drew)); exact HO_5.out))) (below_size (by repeat (first | (with_reducible first | exact HB.out | apply below_alloc | apply pw_below_drewN | apply below_drew1) | exact HB.out)))); have n2_ := Aside0.mk (below_step (by repeat (first | (with_reducible first | exact HB.out | apply below_alloc | apply pw_below_drewN | apply below_drew1) | exact HB.out)) hb); clear HO_5; clear HB; have HO_5 := n0_; have HO104 := n1_; have HB := n2_; clear n0_ n1_ n2_; (try clear hb); (try clear hb2); (try clear hk); (try clear hi); (try clear ho0); obtain ⟨Ao9, co9, eo9⟩ := Kd.R_slice HO104.out; subst eo9) | ((with_reducible refine gate_builtin (b := .append) (xs := #[.tmp 14, .tmp 19]) rfl ?_); at_builtin; refine Kd.R_append_rows k93 (w0 := w) w.heap.size rfl (.tmp 14) (.tmp 19) 46 93 (.agg #[(.int .i64 0), (.int .i64 0), (.int .i64 0), (.int .i64 0), (.int .i64 0)]) 40 rfl Try.underlying46 info93 rfl (by decide) (by omega) u5 x5_1 t102 _ _ _ (fun k_ => some k_ ≠ (.slice Ao9 t102.length co9 : Value).ownBlock) (fun _ => False) rfl rfl ?aO ?aR (fun _ _ h => h) (fun _ h => h.elim) ?aF ?aB ?aS ?aL ?_; (case aR => repeat (first | exact (Kd.R_reads' HO104.out).2.2 | (with_reducible refine Kd.C_alloc ?_ _) | (with_reducible refine Kd.C_drewN ?_ _) | (with_reducible refine Kd.C_drew ?_))); (case aB => exact (by repeat (first | (with_reducible first | exact HB.out | apply below_alloc | apply pw_below_drewN | apply below_drew1) | exact HB.out))); (case aF => exact (fun k_ hk => Kd.fresh' (Kd.R_lt (by (with_reducible repeat (first | apply Kd.R_alloc | apply Kd.R_drewN | apply Kd.R_drew)); exact HO104.out)) k_ hk)); (case aO => exact (by (with_reducible repeat (first | apply Kd.R_alloc | apply Kd.R_drewN | apply Kd.R_drew)); exact Kd.R_mono HO_5.out (fun _ hk => hk.2))); (case aS => exact (below_size (by repeat (first | (with_reducible first | exact HB.out | apply below_alloc | apply pw_below_drewN | apply below_drew1) | exact HB.out)))); (case aL => have := LMc6.out; omega); intro v106 w8 ho hb hg hat; rw [← Ny105.out] at ho; have n0_ := Aside0.mk (Kd.R_after (ok := (fun _ => True)) (by (with_reducible repeat (first | apply Kd.R_alloc | apply Kd.R_drewN | apply Kd.R_drew)); exact HO104.out) hg hat); have n1_ := Aside0.mk (hb); have n2_ := Aside0.mk (ho); clear HO104; clear HB; clear HO_5; have HO104 := n0_; have HB := n1_; have HO107 := n2_; clear n0_ n1_ n2_; clear ho hb hg hat))
            go_roundg k1
            case measure => have := HK1.out; omega
            case rel => exact ⟨(y105), (wrap64 (x6_1 + 1)), (by first | rfl | (simp; done) | (simp [*]; done)), H', ⟨by have := HK1.out; omega⟩, ⟨by (with_reducible repeat (first | apply Kd.R_alloc | apply Kd.R_drewN | apply Kd.R_drew)); exact Kd.R_mono HO107.out (fun _ hk => trivial)⟩, ⟨by repeat (first | (with_reducible first | exact HB.out | apply below_alloc | apply pw_below_drewN | apply below_drew1) | exact HB.out)⟩⟩
          · rw [if_neg c6] at H
            exact absurd H (by simp)
        · rw [if_neg c4] at H
          exact absurd H (by simp)
      · rw [if_neg c3] at H
        have c3b0 : decide (x6_1 < (l0.length : Int)) = false := decide_eq_false c3
        clear c3
        have H' := Aside0.mk H
        clear H
        go_wp2
        go_loopg [5, 7] k1 (fun kq v5 v7 w' => ∃ (x5_2 : List (S93)) (x7_2 : Int), v7 = .int .i64 x7_2 ∧ Aside0 (dactylref07_Of.l1 kq l1 x5_2 x7_2 = some r) ∧ Aside0 (kq ≤ k1) ∧ Aside0 (Kd.R k93 93 w' w.heap.size (fun _ => True) v5 x5_2) ∧ Aside0 (Below w.heap.size w w'))
        case atStart => exact ⟨(x5_1), (0), (by first | rfl | (simp; done) | (simp [*]; done)), H', ⟨Nat.le_refl _⟩, ⟨by (with_reducible repeat (first | apply Kd.R_alloc | apply Kd.R_drewN | apply Kd.R_drew)); exact HO_5.out⟩, ⟨by repeat (first | (with_reducible first | exact HB.out | apply below_alloc | apply pw_below_drewN | apply below_drew1) | exact HB.out)⟩⟩
        case round =>
          clear H'
          try clear c1
          try clear p1
          try clear q1
          try clear hx1
          try clear c2
          try clear p2
          try clear c3
          try clear c3b0
          try clear c4
          try clear c4b0
          try clear c6
          try clear p6
          try clear hx101_0
          try clear hx101_1
          try clear p101
          try clear p2
          try clear q101
          obtain ⟨x5_2, x7_2, rfl, HA, HK2, HO_5, HB⟩ := hrel
          cases gk with
          | zero => exact absurd HA.out (by simp [dactylref07_Of.l1])
          | succ k2 =>
            have H := HA.out
            clear HA
            simp only [dactylref07_Of.l1] at H
            by_cases c10 : x7_2 < (l1.length : Int)
            · rw [if_pos c10] at H
              have c10b0 : decide (x7_2 < (l1.length : Int)) = true := decide_eq_true c10
              clear c10
              by_cases c11 : 0 ≤ x7_2
              · rw [if_pos c11] at H
                have c11b0 : decide (0 ≤ x7_2) = true := decide_eq_true c11
                clear c11
                replace H := Option.bind_eq_some_iff.mp H
                obtain ⟨t109, A120, H⟩ := H
                replace H : (if x5_2.length + t109.length < 3518437208883 then (dactylref07_Of.l1 k2 l1 (x5_2 ++ t109) (wrap64 (x7_2 + 1))) else (none)) = some r := H
                have A12 := Aside0.mk A120
                clear A120
                by_cases c13 : x5_2.length + t109.length < 3518437208883
                · rw [if_pos c13] at H
                  have LMc13 := Aside0.mk c13
                  clear c13
                  obtain ⟨y112, hy112⟩ : ∃ y_ : List (S93), y_ = (x5_2 ++ t109) := ⟨_, rfl⟩
                  replace H : (dactylref07_Of.l1 k2 l1 y112 (wrap64 (x7_2 + 1))) = some r := by first | (rw [hy112]; with_reducible exact H) | (have H2_ := (Option.bind_some _ _).symm.trans H; rw [hy112]; with_reducible exact H2_) | (have H2_ := (Option.bind_some _ _).symm.trans H; with_reducible exact H2_) | with_reducible exact H | (rw [hy112]; exact H) | exact H
                  have Ny112 := Aside0.mk hy112
                  clear hy112
                  have H' := Aside0.mk H
                  clear H
                  have p108 : 0 ≤ (x7_2 : Int) := of_decide_eq_true (by first | (with_reducible assumption) | assumption)
                  have q108 : x7_2 < (l1.length : Int) := of_decide_eq_true (by first | (with_reducible assumption) | assumption)
                  obtain ⟨ad108, e108, hx108_0, hx108_1⟩ := at_T45 HR1.out x7_2 p108 q108
                  cases e108
                  replace hx108_0 := (HB.out.cell (World.block_lt_of_cell? w _ hx108_0)).trans hx108_0
                  replace hx108_1 := (HB.out.cell (World.block_lt_of_cell? w _ hx108_1)).trans hx108_1
                  replace p108 := eq_true p108
                  replace q108 := eq_true q108
                  go_wp2_with (first | ((with_reducible refine gate_callee (f := 26) rfl ?_); refine goesL_ (some 33) rfl rfl Try.func26 (by kernel_rfl) rfl #[.agg #[.int .i64 ((rd_T45 l1 x7_2).f0), .int .i64 ((rd_T45 l1 x7_2).f1)], .int .i64 x7_2] rfl (by (try simp only [List.map_toArray, List.map_cons, List.map_nil]); first | done | rfl | (simp only [List.length_drop, List.length_take]; rfl)) ?_; (with_reducible refine (dactylref06_Cells.calls k2 ((rd_T45 l1 x7_2).f0) ((rd_T45 l1 x7_2).f1) x7_2 t109 _ A12.out).mono ?_); rintro e w14 ⟨v110, rfl, ho0, hb⟩; refine ⟨_, rfl, ?_⟩; have n0_ := Aside0.mk (Kd.R_elder' (by (with_reducible repeat (first | apply Kd.R_alloc | apply Kd.R_drewN | apply Kd.R_drew)); exact HO_5.out) (Kd.R_base ho0) hb); have n1_ := Aside0.mk (Kd.R_lower (Kd.R_new' ho0 (Kd.R_lt (by (with_reducible repeat (first | apply Kd.R_alloc | apply Kd.R_drewN | apply Kd.R_drew)); exact HO_5.out))) (below_size (by repeat (first | (with_reducible first | exact HB.out | apply below_alloc | apply pw_below_drewN | apply below_drew1) | exact HB.out)))); have n2_ := Aside0.mk (below_step (by repeat (first | (with_reducible first | exact HB.out | apply below_alloc | apply pw_below_drewN | apply below_drew1) | exact HB.out)) hb); clear HO_5; clear HB; have HO_5 := n0_; have HO111 := n1_; have HB := n2_; clear n0_ n1_ n2_; (try clear hb); (try clear hb2); (try clear hk); (try clear hi); (try clear ho0); obtain ⟨Ao16, co16, eo16⟩ := Kd.R_slice HO111.out; subst eo16) | ((with_reducible refine gate_builtin (b := .append) (xs := #[.tmp 27, .tmp 33]) rfl ?_); at_builtin; refine Kd.R_append_rows k93 (w0 := w) w.heap.size rfl (.tmp 27) (.tmp 33) 46 93 (.agg #[(.int .i64 0), (.int .i64 0), (.int .i64 0), (.int .i64 0), (.int .i64 0)]) 40 rfl Try.underlying46 info93 rfl (by decide) (by omega) u5 x5_2 t109 _ _ _ (fun k_ => some k_ ≠ (.slice Ao16 t109.length co16 : Value).ownBlock) (fun _ => False) rfl rfl ?aO ?aR (fun _ _ h => h) (fun _ h => h.elim) ?aF ?aB ?aS ?aL ?_; (case aR => repeat (first | exact (Kd.R_reads' HO111.out).2.2 | (with_reducible refine Kd.C_alloc ?_ _) | (with_reducible refine Kd.C_drewN ?_ _) | (with_reducible refine Kd.C_drew ?_))); (case aB => exact (by repeat (first | (with_reducible first | exact HB.out | apply below_alloc | apply pw_below_drewN | apply below_drew1) | exact HB.out))); (case aF => exact (fun k_ hk => Kd.fresh' (Kd.R_lt (by (with_reducible repeat (first | apply Kd.R_alloc | apply Kd.R_drewN | apply Kd.R_drew)); exact HO111.out)) k_ hk)); (case aO => exact (by (with_reducible repeat (first | apply Kd.R_alloc | apply Kd.R_drewN | apply Kd.R_drew)); exact Kd.R_mono HO_5.out (fun _ hk => hk.2))); (case aS => exact (below_size (by repeat (first | (with_reducible first | exact HB.out | apply below_alloc | apply pw_below_drewN | apply below_drew1) | exact HB.out)))); (case aL => have := LMc13.out; omega); intro v113 w15 ho hb hg hat; rw [← Ny112.out] at ho; have n0_ := Aside0.mk (Kd.R_after (ok := (fun _ => True)) (by (with_reducible repeat (first | apply Kd.R_alloc | apply Kd.R_drewN | apply Kd.R_drew)); exact HO111.out) hg hat); have n1_ := Aside0.mk (hb); have n2_ := Aside0.mk (ho); clear HO111; clear HB; clear HO_5; have HO111 := n0_; have HB := n1_; have HO114 := n2_; clear n0_ n1_ n2_; clear ho hb hg hat))
                  go_roundg k2
                  case measure => have := HK1.out; have := HK2.out; omega
                  case rel => exact ⟨(y112), (wrap64 (x7_2 + 1)), (by first | rfl | (simp; done) | (simp [*]; done)), H', ⟨by have := HK1.out; have := HK2.out; omega⟩, ⟨by (with_reducible repeat (first | apply Kd.R_alloc | apply Kd.R_drewN | apply Kd.R_drew)); exact Kd.R_mono HO114.out (fun _ hk => trivial)⟩, ⟨by repeat (first | (with_reducible first | exact HB.out | apply below_alloc | apply pw_below_drewN | apply below_drew1) | exact HB.out)⟩⟩
                · rw [if_neg c13] at H
                  exact absurd H (by simp)
              · rw [if_neg c11] at H
                exact absurd H (by simp)
            · rw [if_neg c10] at H
              have c10b0 : decide (x7_2 < (l1.length : Int)) = false := decide_eq_false c10
              clear c10
              obtain rfl := Option.some.inj H
              go_wp2
              go_ret
              exact ⟨_, by first | rfl | (simp [errW_none, errW_some] <;> rfl) | (simp [*, errW_none, errW_some] <;> rfl), by (with_reducible repeat (first | apply Kd.R_alloc | apply Kd.R_drewN | apply Kd.R_drew)); exact HO_5.out, by repeat (first | (with_reducible first | exact HB.out | apply below_alloc | apply pw_below_drewN | apply below_drew1) | exact HB.out)⟩

end Go.Proofs.Ytemoocoedibbpaa.X

namespace Go.Proofs.Ytemoocoedibbpaa.X
open Go.RowKit Go.Proofs.YtemoocoedibbpaaW.PrintWords Go.Proofs.YtemoocoedibbpaaW.PrintLast Go.Proofs.YtemoocoedibbpaaW.PrintMore
attribute [local go_sem] max2_int min2_int max_two min_two max_three min_three max_four min_four
set_option linter.unusedVariables false
set_option linter.unusedSimpArgs false

theorem RefOf_l1 (l : List S45) (hl : l.length ≤ 100000) : ∀ (d k i : Nat) (acc : List S93), d + i = l.length → d + 60 < k → acc.length ≤ 100000000 + 25 * i → dactylref07_Of.l1 k l acc (i : Int) = some (acc ++ lineCells i (l.drop i)) := by
  intro d
  induction d with
  | zero =>
    intro k i acc h1 h2 h3
    obtain ⟨k, rfl⟩ : ∃ m, k = m + 1 := ⟨k - 1, by omega⟩
    simp only [dactylref07_Of.l1]
    rw [if_neg (by omega), List.drop_of_length_le (by omega), lineCells, List.append_nil]
  | succ d ih =>
    intro k i acc h1 h2 h3
    obtain ⟨k, rfl⟩ : ∃ m, k = m + 1 := ⟨k - 1, by omega⟩
    have e1 : wrap64 ((i : Int) + 1) = ((i + 1 : Nat) : Int) := by rw [w64 (by omega) (by omega)]; omega
    have ed : l.drop i = l[i] :: l.drop (i + 1) := by rw [List.drop_eq_getElem_cons (by omega)]
    have hs := cellsOf_small (l[i]).f0 (l[i]).f1 i
    simp only [dactylref07_Of.l1]
    rw [if_pos (by omega), if_pos (by omega), rd_sign l i (by omega), ref_Cells_f _ _ _ k (by omega), Option.bind_some, if_pos (by omega), e1, ih k (i + 1) _ (by omega) (by omega) (by rw [List.length_append]; omega), ed, lineCells, List.append_assoc]
    rfl
theorem RefOf_l0 (l p : List S45) (hl : l.length ≤ 100000) (hp : p.length ≤ 100000) : ∀ (d k i : Nat) (acc : List S93), d + i = p.length → d + l.length + 70 < k → acc.length ≤ 25 * i → dactylref07_Of.l0 k p l acc (i : Int) = some (acc ++ promptCells (p.drop i) ++ lineCells 0 l) := by
  intro d
  induction d with
  | zero =>
    intro k i acc h1 h2 h3
    obtain ⟨k, rfl⟩ : ∃ m, k = m + 1 := ⟨k - 1, by omega⟩
    have := RefOf_l1 l hl l.length k 0 acc (by omega) (by omega) (by omega)
    simp only [dactylref07_Of.l0]
    rw [if_neg (by omega), List.drop_of_length_le (by omega), show ((0 : Int)) = ((0 : Nat) : Int) from rfl, this]
    simp [promptCells]
  | succ d ih =>
    intro k i acc h1 h2 h3
    obtain ⟨k, rfl⟩ : ∃ m, k = m + 1 := ⟨k - 1, by omega⟩
    have e1 : wrap64 ((i : Int) + 1) = ((i + 1 : Nat) : Int) := by rw [w64 (by omega) (by omega)]; omega
    have ed : p.drop i = p[i] :: p.drop (i + 1) := by rw [List.drop_eq_getElem_cons (by omega)]
    have hs := cellsOf_small (p[i]).f0 (p[i]).f1 (-1)
    simp only [dactylref07_Of.l0]
    rw [if_pos (by omega), if_pos (by omega), rd_sign p i (by omega), ref_Cells_f _ _ _ k (by omega), Option.bind_some, if_pos (by omega), e1, ih k (i + 1) _ (by omega) (by omega) (by rw [List.length_append]; omega), ed, promptCells_cons]
    simp only [List.append_assoc]
theorem ref_Of7_f (p l : List S45) (hl : l.length ≤ 100000) (hp : p.length ≤ 100000) (k : Nat) (hk : p.length + l.length + 80 < k) : dactylref07_Of.f k p l = some (viewC p l) := by
  have h0 := RefOf_l0 l p hl hp p.length k 0 [] (by omega) (by omega) (by simp)
  unfold dactylref07_Of.f viewC
  rw [show ((0 : Int)) = ((0 : Nat) : Int) from rfl, h0]
  simp
def sumCols (l : List S45) : Int := (l.map fun s => colsV s.f0).sum
theorem colsV_range (v : Int) : 0 ≤ colsV v ∧ colsV v ≤ 25 := by
  have := cellsOf_len v 0 0
  have := cellsOf_small v 0 0
  omega
theorem sumCols_cons (s : S45) (l : List S45) : sumCols (s :: l) = colsV s.f0 + sumCols l := by simp [sumCols]
theorem sumCols_range (l : List S45) : 0 ≤ sumCols l ∧ sumCols l ≤ 25 * l.length := by
  induction l with
  | nil => simp [sumCols]
  | cons s l ih =>
    have := colsV_range s.f0
    rw [sumCols_cons, List.length_cons]
    omega
theorem promptCells_len (l : List S45) : ((promptCells l).length : Int) = sumCols l := by
  induction l with
  | nil => rfl
  | cons s l ih => rw [promptCells_cons, List.length_append, sumCols_cons, ← ih, ← cellsOf_len s.f0 s.f1 (-1)]; omega
theorem lineCells_len (l : List S45) : ∀ i, ((lineCells i l).length : Int) = sumCols l := by
  induction l with
  | nil => intro i; rfl
  | cons s l ih => intro i; rw [lineCells, List.length_append, sumCols_cons, ← ih (i + 1), ← cellsOf_len s.f0 s.f1 i]; omega
theorem viewC_len (p l : List S45) : ((viewC p l).length : Int) = sumCols p + sumCols l := by
  unfold viewC
  rw [List.length_append, ← promptCells_len, ← lineCells_len l 0]; omega
theorem Cols_l0 (l : List S45) (hl : l.length ≤ 100000) : ∀ (d k i : Nat) (acc : Int), d + i = l.length → d + 61 < k → 0 ≤ acc → acc ≤ 25 * i → view_Cols.l0 k acc l (l.length : Int) (i : Int) = some (acc + sumCols (l.drop i)) := by
  intro d
  induction d with
  | zero =>
    intro k i acc h1 h2 h3 h4
    obtain ⟨k, rfl⟩ : ∃ m, k = m + 1 := ⟨k - 1, by omega⟩
    simp only [view_Cols.l0]
    rw [if_neg (by omega), List.drop_of_length_le (by omega)]
    simp [sumCols]
  | succ d ih =>
    intro k i acc h1 h2 h3 h4
    obtain ⟨k, rfl⟩ : ∃ m, k = m + 1 := ⟨k - 1, by omega⟩
    have e1 : wrap64 ((i : Int) + 1) = ((i + 1 : Nat) : Int) := by rw [w64 (by omega) (by omega)]; omega
    have ed : l.drop i = l[i] :: l.drop (i + 1) := by rw [List.drop_eq_getElem_cons (by omega)]
    have hs := colsV_range (l[i]).f0
    simp only [view_Cols.l0]
    rw [if_pos (by omega), if_pos (by omega), if_pos (by omega), rd_sign l i (by omega), show_Cols_f _ k (by omega), Option.bind_some, w64 (by omega) (by omega), e1, ih k (i + 1) _ (by omega) (by omega) (by omega) (by omega), ed, sumCols_cons]
    congr 1; omega
theorem view_Cols_f (l : List S45) (hl : l.length ≤ 100000) (k : Nat) (hk : l.length + 61 < k) : view_Cols.f k l = some (sumCols l) := by
  have := Cols_l0 l hl l.length k 0 0 (by omega) (by omega) (by omega) (by omega)
  simpa [view_Cols.f] using this

end Go.Proofs.Ytemoocoedibbpaa.X

namespace Go.Proofs.Ytemoocoedibbpaa.X
open Go.RowKit Go.Proofs.YtemoocoedibbpaaW.PrintWords Go.Proofs.YtemoocoedibbpaaW.PrintLast Go.Proofs.YtemoocoedibbpaaW.PrintMore
attribute [local go_sem] max2_int min2_int max_two min_two max_three min_three max_four min_four
set_option linter.unusedVariables false
set_option linter.unusedSimpArgs false

theorem cellsOf_own (v l own : Int) : ∀ x ∈ cellsOf v l own, x.f2 = own := by
  intro x hx
  unfold cellsOf toldCells at hx
  (repeat' split at hx) <;> simp at hx
  · rcases hx with h | h <;> rw [h]
  · rw [hx]
  · obtain ⟨i, _, rfl⟩ := hx; rfl
theorem promptCells_own (l : List S45) : ∀ x ∈ promptCells l, x.f2 = -1 := by
  intro x hx
  unfold promptCells at hx
  obtain ⟨s, _, h⟩ := List.mem_flatMap.1 hx
  exact cellsOf_own _ _ _ x h
theorem lineCells_own (l : List S45) : ∀ i, ∀ x ∈ lineCells i l, i ≤ x.f2 ∧ x.f2 < i + l.length := by
  induction l with
  | nil => intro i x hx; simp [lineCells] at hx
  | cons s l ih =>
    intro i x hx
    rw [lineCells, List.mem_append] at hx
    rw [List.length_cons]
    rcases hx with h | h
    · have := cellsOf_own _ _ _ x h; omega
    · have := ih _ x h; omega
theorem lineCells_append (a b : List S45) : ∀ i, lineCells i (a ++ b) = lineCells i a ++ lineCells (i + a.length) b := by
  induction a with
  | nil => intro i; simp [lineCells]
  | cons s a ih => intro i; rw [List.cons_append, lineCells, lineCells, ih, List.append_assoc, List.length_cons, show i + 1 + (a.length : Int) = i + ((a.length + 1 : Nat) : Int) by omega]
theorem txt_danger (v : Int) (h : 3 < cls v) : 1 ≤ (txt v).size := by
  have s1 : (⟨#[94]⟩ : ByteArray).size = 1 := rfl
  have s2 : (⟨#[92, 120]⟩ : ByteArray).size = 2 := rfl
  have s3 : (⟨#[60, 85, 43]⟩ : ByteArray).size = 3 := rfl
  have s5 : (⟨#[94, 63]⟩ : ByteArray).size = 2 := rfl
  unfold txt
  rw [if_neg (show ¬ cls v = 0 by omega), if_neg (show ¬ cls v ≤ 3 by omega)]
  (repeat' split) <;> (try simp only [ByteArray.size_append]) <;> omega
theorem colsV_right (v : Int) (h : rightB v = true) : 1 ≤ colsV v := by
  have h0 : cls v ≠ 0 := by
    rcases cls_says v with h' | h' | h' | h' | h'
    · rw [h'.2] at h; cases h
    · omega
    · omega
    · omega
    · omega
  have h1 : 0 ≤ cls v := by rcases cls_says v with h' | h' | h' | h' | h' <;> omega
  have h2 := txt_danger v
  unfold colsV
  (repeat' split) <;> omega
theorem first_split {α : Type} (p : α → Bool) (A B : List α) (hA : ∀ x ∈ A, p x = false) (hB : ∀ x ∈ B, p x = true) : (if idxP p (A ++ B) < 0 then ((A ++ B).length : Int) else idxP p (A ++ B)) = A.length := by
  cases B with
  | nil =>
    rw [List.append_nil, idxP_miss p A (fun j hj => hA _ (List.getElem_mem hj))]
    rfl
  | cons b B =>
    have := idxP_hit p (A ++ b :: B) A.length (by simp) (by simpa using hB b (by simp)) (fun j hj => by
      rw [List.getElem_append_left hj]; exact hA _ (List.getElem_mem hj))
    rw [this, if_neg (by omega)]
theorem sumCols_append (a b : List S45) : sumCols (a ++ b) = sumCols a + sumCols b := by simp [sumCols]
theorem view_First_view (p l : List S45) (i : Nat) (hi : i ≤ l.length) : view_First.f (viewC p l) (i : Int) = some (sumCols p + sumCols (l.take i)) := by
  have hs : viewC p l = (promptCells p ++ lineCells 0 (l.take i)) ++ lineCells i (l.drop i) := by
    unfold viewC
    conv => lhs; rw [← List.take_append_drop i l, lineCells_append]
    rw [List.append_assoc, List.length_take, Nat.min_eq_left hi, Int.zero_add]
  unfold view_First.f
  rw [hs, first_split (ownP (i : Int)) _ _ (fun x hx => by
    rw [List.mem_append] at hx
    unfold ownP
    rw [decide_eq_false_iff_not]
    rcases hx with h | h
    · have := promptCells_own p x h; omega
    · have := lineCells_own _ _ x h; rw [List.length_take] at this; omega) (fun x hx => by
    have := lineCells_own _ _ x hx
    unfold ownP
    rw [decide_eq_true_eq]; omega), List.length_append]
  have e1 := promptCells_len p
  have e2 := lineCells_len (l.take i) 0
  congr 1
  omega
theorem sumCols_take (l : List S45) (i : Nat) (hi : i < l.length) : sumCols (l.take (i + 1)) = sumCols (l.take i) + colsV (l[i]).f0 := by
  rw [List.take_succ_eq_append_getElem hi, sumCols_append]
  simp [sumCols]
theorem sumCols_take_range (l : List S45) (i : Nat) (hi : i ≤ l.length) : 0 ≤ sumCols (l.take i) ∧ sumCols (l.take i) ≤ 25 * i := by
  have := sumCols_range (l.take i)
  rw [List.length_take] at this
  omega
theorem view_Own_view (p l : List S45) (hp : p.length ≤ 100000) (hl : l.length ≤ 100000) (i : Nat) (hi : i < l.length) (k : Int) (h0 : sumCols p + sumCols (l.take i) ≤ k) (h1 : k < sumCols p + sumCols (l.take (i + 1))) : view_Own.f (viewC p l) k = some (i : Int) := by
  have e1 := promptCells_len p
  have e2 := lineCells_len (l.take i) 0
  have e3 := sumCols_take l i hi
  have e4 := cellsOf_len (l[i]).f0 (l[i]).f1 i
  have r1 := sumCols_range p
  have r2 := sumCols_take_range l i (by omega)
  have hs : viewC p l = (promptCells p ++ lineCells 0 (l.take i)) ++ (cellsOf (l[i]).f0 (l[i]).f1 i ++ lineCells (i + 1) (l.drop (i + 1))) := by
    unfold viewC
    conv => lhs; rw [← List.take_append_drop i l, lineCells_append, List.drop_eq_getElem_cons hi, lineCells]
    rw [List.append_assoc, List.length_take, Nat.min_eq_left (by omega), Int.zero_add]
  have hA : ((promptCells p ++ lineCells 0 (l.take i)).length : Int) = sumCols p + sumCols (l.take i) := by rw [List.length_append]; omega
  generalize hAA : promptCells p ++ lineCells 0 (l.take i) = A at hs hA
  generalize hBB : cellsOf (l[i]).f0 (l[i]).f1 i = B at hs e4
  have hlen : (viewC p l).length = A.length + (B.length + (lineCells (i + 1) (l.drop (i + 1))).length) := by rw [hs, List.length_append, List.length_append]
  have hB : ∀ x ∈ B, x.f2 = (i : Int) := by rw [← hBB]; exact cellsOf_own _ _ _
  have hk : ∃ n : Nat, k = n := ⟨k.toNat, by omega⟩
  obtain ⟨n, rfl⟩ := hk
  unfold view_Own.f
  rw [if_neg (by omega), if_neg (by omega), if_neg (by omega), if_pos (by omega), if_pos (by omega), rd_cell _ n (by omega)]
  congr 1
  have hn : n < (viewC p l).length := by omega
  have : (viewC p l)[n] = B[n - A.length]'(by omega) := by
    simp only [hs]
    rw [List.getElem_append_right (by omega), List.getElem_append_left (by omega)]
  rw [this]
  exact hB _ (List.getElem_mem _)

end Go.Proofs.Ytemoocoedibbpaa.X

namespace Go.Proofs.Ytemoocoedibbpaa.X
open Go.RowKit Go.Proofs.YtemoocoedibbpaaW.PrintWords Go.Proofs.YtemoocoedibbpaaW.PrintLast Go.Proofs.YtemoocoedibbpaaW.PrintMore
attribute [local go_sem] max2_int min2_int max_two min_two max_three min_three max_four min_four
set_option linter.unusedVariables false
set_option linter.unusedSimpArgs false

theorem str_append (a b : List Int) : strOfNums (a ++ b) = strOfNums a ++ strOfNums b := by
  apply ByteArray.ext
  rw [ByteArray.data_append]
  simp [strOfNums]
def digV (x : Int) : Int := if x < 10 then x + 48 else x + 55
theorem digB_list (x : Int) (h0 : 0 ≤ x) (h1 : x < 16) : digB x = strOfNums [digV x] := by
  obtain ⟨n, rfl⟩ : ∃ n : Nat, x = n := ⟨x.toNat, by omega⟩
  have hn : n < 16 := by omega
  have : ∀ n : Nat, n < 16 → (digB (n : Int)).data.toList = (strOfNums [digV (n : Int)]).data.toList := by decide +kernel
  apply ByteArray.ext
  exact Array.toList_inj.1 (this n hn)
def hexL : Nat → Int → Int → List Int
  | 0, _, _ => []
  | g + 1, least, u => if u > 0 ∨ 0 < least then hexL g (least - 1) (u / 16) ++ [digV (u % 16)] else []
theorem laid_list (g : Nat) : ∀ (least u : Int), 0 ≤ u → laidF g 16 least u ⟨#[]⟩ = strOfNums (hexL g least u) := by
  induction g with
  | zero => intro least u _; rfl
  | succ g ih =>
    intro least u h0
    unfold hexL
    by_cases c : u > 0 ∨ 0 < least
    · rw [if_pos c, laid_step g least u h0 c, ih _ _ (by omega), digB_list _ (by omega) (by omega), str_append]
    · rw [if_neg c, show u = 0 by omega, laid_nil _ _ (by omega)]
      rfl
theorem hexL_bytes (g : Nat) : ∀ (least u : Int), 0 ≤ u → ∀ x ∈ hexL g least u, (48 ≤ x ∧ x ≤ 57) ∨ (65 ≤ x ∧ x ≤ 70) := by
  induction g with
  | zero => intro least u _ x hx; simp [hexL] at hx
  | succ g ih =>
    intro least u h0 x hx
    unfold hexL at hx
    split at hx
    · rw [List.mem_append] at hx
      rcases hx with h | h
      · exact ih _ _ (by omega) x h
      · rw [List.mem_singleton] at h
        subst h
        unfold digV
        split <;> omega
    · simp at hx
def unV (x : Int) : Int := if x < 58 then x - 48 else x - 55
def unhexL (l : List Int) : Int := l.foldl (fun a x => 16 * a + unV x) 0
theorem unhex_hex (g : Nat) : ∀ (least u : Int), 0 ≤ u → u < 16 ^ g → unhexL (hexL g least u) = u := by
  induction g with
  | zero => intro least u h0 h1; simp at h1; simp [hexL, unhexL]; omega
  | succ g ih =>
    intro least u h0 h1
    unfold hexL
    split
    · have h2 : u / 16 < 16 ^ g := by rw [Int.pow_succ] at h1; omega
      have := ih (least - 1) (u / 16) (by omega) h2
      unfold unhexL at this ⊢
      rw [List.foldl_append, this]
      have : unV (digV (u % 16)) = u % 16 := by unfold unV digV; (repeat' split) <;> omega
      simp only [List.foldl_cons, List.foldl_nil, this]
      omega
    · simp [unhexL]; omega
def txtL (v : Int) : List Int := if cls v = 4 then [94, v + 64] else if cls v = 5 then [94, 63] else if cls v = 12 then [92, 120] ++ hexL 16 2 (v - 1114112) else [60, 85, 43] ++ hexL 16 4 v ++ [62]
theorem danger_says (v : Int) (h : 3 < cls v) : rightB v = true ∧ ((0 ≤ v ∧ v ≤ 31 ∧ cls v = 4) ∨ (0 ≤ v ∧ v ≤ 1114111 ∧ 5 ≤ cls v ∧ cls v ≤ 11) ∨ (1114240 ≤ v ∧ v ≤ 1114367 ∧ cls v = 12)) := by
  rcases cls_says v with h' | h' | h' | h' | h' <;> first | (exfalso; omega) | exact ⟨h'.1, by omega⟩
theorem txt_list (v : Int) (h : 3 < cls v) : txt v = strOfNums (txtL v) := by
  have hd := danger_says v h
  unfold txt txtL
  rw [if_neg (by omega), if_neg (by omega)]
  split
  · rfl
  · split
    · rfl
    · split
      · rw [laid_list 16 2 _ (by omega), str_append]; rfl
      · rw [laid_list 16 4 _ (by omega), str_append, str_append]; rfl
theorem txtL_bytes (v : Int) (h : 3 < cls v) : ∀ x ∈ txtL v, 1 ≤ x ∧ x ≤ 126 := by
  have hd := danger_says v h
  intro x hx
  unfold txtL at hx
  split at hx
  · simp only [List.mem_cons, List.not_mem_nil, or_false] at hx; omega
  · split at hx
    · simp only [List.mem_cons, List.not_mem_nil, or_false] at hx; omega
    · split at hx
      · rw [List.mem_append] at hx
        rcases hx with hx | hx
        · simp only [List.mem_cons, List.not_mem_nil, or_false] at hx; omega
        · have := hexL_bytes _ _ _ (by omega) x hx; omega
      · rw [List.mem_append, List.mem_append] at hx
        rcases hx with (hx | hx) | hx
        · simp only [List.mem_cons, List.not_mem_nil, or_false] at hx; omega
        · have := hexL_bytes _ _ _ (by omega) x hx; omega
        · simp only [List.mem_cons, List.not_mem_nil, or_false] at hx; omega
theorem bt_str (l : List Int) (i : Nat) (hi : i < l.length) (h : ∀ x ∈ l, 0 ≤ x ∧ x ≤ 255) : bt (strOfNums l) (i : Int) = l[i] := by
  have hx := h _ (List.getElem_mem hi)
  unfold bt
  rw [dif_pos (by rw [strOfNums_size]; simpa using hi)]
  show (((strOfNums l).data[i]'(by simpa [strOfNums] using hi)).toNat : Int) = l[i]
  simp only [strOfNums]
  rw [List.getElem_toArray, List.getElem_map, UInt8.toNat_ofNat']
  omega
theorem told_list (l : List Int) (lk own v : Int) (h : ∀ x ∈ l, 0 ≤ x ∧ x ≤ 255) : toldCells (strOfNums l) lk own v = l.mapIdx fun i x => ⟨x, lk, own, v, (i : Int)⟩ := by
  unfold toldCells
  rw [strOfNums_size]
  apply List.ext_getElem (by simp)
  intro i h1 h2
  simp only [List.length_map, List.length_range] at h1
  have hx := h _ (List.getElem_mem h1)
  rw [List.getElem_map, List.getElem_range, List.getElem_mapIdx, bt_str l i h1 h, w64 (by omega) (by omega)]

end Go.Proofs.Ytemoocoedibbpaa.X

namespace Go.Proofs.Ytemoocoedibbpaa.X
open Go.RowKit Go.Proofs.YtemoocoedibbpaaW.PrintWords Go.Proofs.YtemoocoedibbpaaW.PrintLast Go.Proofs.YtemoocoedibbpaaW.PrintMore
attribute [local go_sem] max2_int min2_int max_two min_two max_three min_three max_four min_four
set_option linter.unusedVariables false
set_option linter.unusedSimpArgs false

def sayOf (x : S93) : ByteArray := if x.f0 > 0 then strOfNums (encAll [x.f0]) else if x.f0 = 0 then (⟨#[32]⟩ : ByteArray) else ⟨#[]⟩
def saysC : List S93 → ByteArray
  | [] => ⟨#[]⟩
  | x :: l => sayOf x ++ saysC l
theorem saysC_append (a b : List S93) : saysC (a ++ b) = saysC a ++ saysC b := by
  induction a with
  | nil => exact (ByteArray.empty_append (b := saysC b)).symm
  | cons x a ih => rw [List.cons_append, saysC, saysC, ih, ba_assoc]
theorem encAll_one_len (v : Int) : (encAll [v]).length ≤ 4 := by
  have := encAll_len [v]
  simpa using this
theorem sayOf_size (x : S93) : (sayOf x).size ≤ 4 := by
  have h1 : (⟨#[32]⟩ : ByteArray).size = 1 := rfl
  have := encAll_one_len x.f0
  unfold sayOf
  (repeat' split)
  · rw [strOfNums_size]; exact this
  · omega
  · rw [e0size]; omega
theorem Text_l0 (l : List S93) (hl : l.length ≤ 100000) : ∀ (d k i : Nat) (acc : ByteArray), d + i = l.length → d + 10 < k → acc.size ≤ 4 * i → view_Text.l0 k acc l (l.length : Int) (i : Int) = some (acc ++ saysC (l.drop i)) := by
  intro d
  induction d with
  | zero =>
    intro k i acc h1 h2 h3
    obtain ⟨k, rfl⟩ : ∃ m, k = m + 1 := ⟨k - 1, by omega⟩
    simp only [view_Text.l0]
    rw [if_neg (by omega), List.drop_of_length_le (by omega), saysC]
    congr 1
    exact (ByteArray.append_empty (b := acc)).symm
  | succ d ih =>
    intro k i acc h1 h2 h3
    obtain ⟨k, rfl⟩ : ∃ m, k = m + 1 := ⟨k - 1, by omega⟩
    have e1 : wrap64 ((i : Int) + 1) = ((i + 1 : Nat) : Int) := by rw [w64 (by omega) (by omega)]; omega
    have ed : l.drop i = l[i] :: l.drop (i + 1) := by rw [List.drop_eq_getElem_cons (by omega)]
    have hz := sayOf_size l[i]
    have hE : utf_Encode.f k [(l[i]).f0] = some (strOfNums (encAll [(l[i]).f0])) := utf_Encode_f _ (by simp) k (by simp; omega)
    have h1' : (⟨#[32]⟩ : ByteArray).size = 1 := rfl
    simp only [view_Text.l0]
    rw [if_pos (by omega), if_pos (by omega), if_pos (by omega), rd_cell l i (by omega), ed, saysC, ← ba_assoc, hE, Option.bind_some, e1]
    by_cases c1 : (l[i]).f0 > 0
    · have hs : sayOf l[i] = strOfNums (encAll [(l[i]).f0]) := by unfold sayOf; rw [if_pos c1]
      rw [if_pos c1, ← hs, if_pos (by omega)]
      exact ih k (i + 1) _ (by omega) (by omega) (by rw [ByteArray.size_append]; omega)
    · rw [if_neg c1]
      by_cases c2 : (l[i]).f0 = 0
      · have hs : sayOf l[i] = (⟨#[32]⟩ : ByteArray) := by unfold sayOf; rw [if_neg c1, if_pos c2]
        rw [if_pos c2, if_pos (by omega), ← hs]
        exact ih k (i + 1) _ (by omega) (by omega) (by rw [ByteArray.size_append]; omega)
      · have hs : sayOf l[i] = (⟨#[]⟩ : ByteArray) := by unfold sayOf; rw [if_neg c1, if_neg c2]
        rw [if_neg c2, hs, show acc ++ (⟨#[]⟩ : ByteArray) = acc from ByteArray.append_empty]
        exact ih k (i + 1) _ (by omega) (by omega) (by omega)
theorem view_Text_f (l : List S93) (hl : l.length ≤ 100000) (k : Nat) (hk : l.length + 10 < k) : view_Text.f k l = some (saysC l) := by
  have := Text_l0 l hl l.length k 0 ⟨#[]⟩ (by omega) (by omega) (by rw [e0size]; omega)
  unfold view_Text.f
  rw [show ((0 : Int)) = ((0 : Nat) : Int) from rfl, this, List.drop_zero]
  exact congrArg some ByteArray.empty_append
theorem cls_zero : cls 0 = 4 := by decide +kernel
theorem says_mapIdx (l : List Int) (lk own v : Int) (h : ∀ x ∈ l, 1 ≤ x ∧ x ≤ 126) : ∀ n : Nat, saysC (l.mapIdx fun i x => (⟨x, lk, own, v, ((i + n : Nat) : Int)⟩ : S93)) = strOfNums l := by
  induction l with
  | nil => intro n; rfl
  | cons x l ih =>
    intro n
    have hx := h x (by simp)
    have hr : rightB x = true := (rightB_iff x).2 (by omega)
    have he : encL x = [x] := by unfold encL; rw [if_pos (by omega)]
    have := ih (fun y hy => h y (by simp [hy])) (n + 1)
    rw [List.mapIdx_cons, saysC]
    have e2 : (fun (i : Nat) (x : Int) => (⟨x, lk, own, v, ((i + 1 + n : Nat) : Int)⟩ : S93)) = fun i x => ⟨x, lk, own, v, ((i + (n + 1) : Nat) : Int)⟩ := by funext i x; congr 2; omega
    rw [e2, this]
    unfold sayOf
    rw [if_pos (by show x > 0; omega), encAll_cons, if_pos hr, he, encAll_nil, List.append_nil, ← str_append]
    rfl
theorem says_cells (v l own : Int) : saysC (cellsOf v l own) = txt v := by
  have hz : cls v ≠ 4 → v ≠ 0 := fun h e => h (by rw [e]; exact cls_zero)
  unfold cellsOf
  rcases cls_says v with h | h | h | h | h
  · unfold txt; simp [h.1, saysC]
  · have h0 : ¬ cls v = 0 := by omega
    have h3 : cls v ≤ 3 := by omega
    have hv := hz (by omega)
    have hs : ∀ a b c d e : Int, a = v → sayOf ⟨a, b, c, d, e⟩ = strOfNums (encL v) := by
      intro a b c d e ha
      subst ha
      unfold sayOf
      rw [if_pos (by show a > 0; omega), encAll_cons, if_pos h.1, encAll_nil, List.append_nil]
    have hm : ∀ b c d e : Int, sayOf ⟨-1, b, c, d, e⟩ = (⟨#[]⟩ : ByteArray) := fun b c d e => rfl
    have ht : txt v = strOfNums (encL v) := by unfold txt; rw [if_neg h0, if_pos h3]
    rw [ht, if_neg h0]
    split
    · rw [saysC, saysC, saysC, hs _ _ _ _ _ rfl, hm]
      exact (congrArg (strOfNums (encL v) ++ ·) ByteArray.append_empty).trans ByteArray.append_empty
    · (try rw [if_pos h3]); rw [saysC, saysC, hs _ _ _ _ _ rfl]
      exact ByteArray.append_empty
  all_goals
    have h5 : ¬ cls v = 2 ∧ ¬ cls v = 0 ∧ ¬ cls v ≤ 3 := by omega
    have h6 : 3 < cls v := by omega
    simp only [h5, if_false]
    rw [txt_list v h6, told_list _ _ _ _ (fun x hx => by have := txtL_bytes v h6 x hx; omega)]
    exact says_mapIdx _ _ _ _ (txtL_bytes v h6) 0
def txtAll : List S45 → ByteArray
  | [] => ⟨#[]⟩
  | s :: l => txt s.f0 ++ txtAll l
theorem txtAll_append (a b : List S45) : txtAll (a ++ b) = txtAll a ++ txtAll b := by
  induction a with
  | nil => exact (ByteArray.empty_append (b := txtAll b)).symm
  | cons x a ih => rw [List.cons_append, txtAll, txtAll, ih, ba_assoc]
theorem says_prompt (l : List S45) : saysC (promptCells l) = txtAll l := by
  induction l with
  | nil => rfl
  | cons s l ih => rw [promptCells_cons, saysC_append, says_cells, ih, txtAll]
theorem says_line (l : List S45) : ∀ i, saysC (lineCells i l) = txtAll l := by
  induction l with
  | nil => intro i; rfl
  | cons s l ih => intro i; rw [lineCells, saysC_append, says_cells, ih, txtAll]
theorem says_view (p l : List S45) : saysC (viewC p l) = txtAll (p ++ l) := by
  unfold viewC
  rw [saysC_append, says_prompt, says_line, txtAll_append]
theorem Text_law (c : List S93) (hc : c.length ≤ 100000) (l : List S45) (hl : l.length ≤ 100000) (he : saysC c = txtAll l) : ∀ (d k i : Nat) (acc : ByteArray), d + i = l.length → d + c.length + 100 < k → acc.size ≤ 25 * i → acc ++ txtAll (l.drop i) = saysC c → dactyllaw07_ViewText.l0 k c 0 acc l (i : Int) = some true := by
  intro d
  induction d with
  | zero =>
    intro k i acc h1 h2 h3 h4
    obtain ⟨k, rfl⟩ : ∃ m, k = m + 1 := ⟨k - 1, by omega⟩
    have aw : dactyllaw07_awake.f = some true := rfl
    rw [List.drop_of_length_le (by omega), txtAll, show acc ++ (⟨#[]⟩ : ByteArray) = acc from ByteArray.append_empty] at h4
    simp only [dactyllaw07_ViewText.l0]
    rw [if_neg (by omega), aw, Option.bind_some, if_pos rfl, if_pos trivial, view_Text_f c hc k (by omega), Option.bind_some, h4, beq_self_eq_true]
  | succ d ih =>
    intro k i acc h1 h2 h3 h4
    obtain ⟨k, rfl⟩ : ∃ m, k = m + 1 := ⟨k - 1, by omega⟩
    have e1 : wrap64 ((i : Int) + 1) = ((i + 1 : Nat) : Int) := by rw [w64 (by omega) (by omega)]; omega
    have ed : l.drop i = l[i] :: l.drop (i + 1) := by rw [List.drop_eq_getElem_cons (by omega)]
    have hz := txt_size (l[i]).f0
    rw [ed, txtAll, ← ba_assoc] at h4
    simp only [dactyllaw07_ViewText.l0]
    rw [if_pos (by omega), if_pos (by omega), rd_sign l i (by omega), ref_Text_f _ k (by omega), Option.bind_some, if_pos (by omega), e1]
    exact ih k (i + 1) _ (by omega) (by omega) (by rw [ByteArray.size_append]; omega) h4
theorem Pure_ViewText : dactyllaw07_ViewText.Pure := by
  intro p l _ _
  refine ⟨100 * p.length + 100 * l.length + 300, ?_⟩
  have aw : dactyllaw07_awake.f = some true := rfl
  unfold dactyllaw07_ViewText.f
  obtain ⟨k, hk⟩ : ∃ k, 100 * p.length + 100 * l.length + 300 = k + 1 := ⟨100 * p.length + 100 * l.length + 299, by omega⟩
  rw [hk]
  simp only [dactyllaw07_ViewText.j0, aw, Option.bind_some, if_true]
  by_cases c1 : (p.length : Int) > 30
  · rw [if_pos c1]
  · rw [if_neg c1]
    by_cases c2 : (l.length : Int) > 60
    · rw [if_pos c2]
    · rw [if_neg c2, view_Of_f p l (by omega) (by omega) _ (by omega), Option.bind_some, ref_AllS_f p (by omega) _ (by omega), Option.bind_some, ref_AllS_f l (by omega) _ (by omega), Option.bind_some]
      cases hp : allB p
      · simp
      · cases hl : allB l
        · simp
        · have hlen := viewC_len p l
          have s1 := sumCols_range p
          have s2 := sumCols_range l
          simp only [and_self, if_true, Bool.not_true, Bool.false_eq_true, if_false]
          have hj : dactylref04_Join.f p l = some (p ++ l) := by
            unfold dactylref04_Join.f
            simp only [Option.bind_some, List.length_nil, List.nil_append]
            rw [if_pos (by omega), if_pos (by omega)]
          rw [hj, Option.bind_some]
          refine Text_law (viewC p l) (by omega) (p ++ l) (by rw [List.length_append]; omega) (says_view p l) (p ++ l).length k 0 _ (by omega) (by rw [List.length_append]; omega) (by rw [e0size]; omega) ?_
          rw [List.drop_zero, says_view]
          exact ByteArray.empty_append

end Go.Proofs.Ytemoocoedibbpaa.X
