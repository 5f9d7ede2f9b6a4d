/- Written by a program of this session (wip/tools/hp.py, pack.py) and by this session: what the law ViewApart reaches, function by function: a Lean function with the same answers, and the proof that the machine's call gives them. No condition but the ones the theorems state. -/
import Derived.Test.YtemoocoedibbpaaQViewApart2
namespace Go.Proofs.Ytemoocoedibbpaa.X
open Go.RowKit Go.Proofs.YtemoocoedibbpaaW.PrintWords Go.Proofs.YtemoocoedibbpaaW.PrintLast Go.Proofs.YtemoocoedibbpaaW.PrintMore
attribute [local go_sem] max2_int min2_int max_two min_two max_three min_three max_four min_four
set_option linter.unusedVariables false
set_option linter.unusedSimpArgs false

/-! ### dactylref03_odd: function 114 -/
def dactylref03_odd.j0 : Nat → Int → Bool → Option (Int)
  | 0, _, _ => none
  | k + 1, x0, x12 => if x12 = true then (some 6) else ((dactylref03_within.f k x0 (([160, 160, 5760, 5760, 8192, 8202, 8232, 8233, 8239, 8239, 8287, 8287, 12288, 12288] : List Int))).bind fun t104 => (if t104 = true then (some 10) else ((dactylref03_within.f k x0 (([173, 173, 6155, 6158, 8203, 8205, 8288, 8292, 65279, 65279, 65529, 65531] : List Int))).bind fun t108 => (if t108 = true then (some 8) else ((dactylref03_within.f k x0 (([1564, 1564, 8206, 8207, 8234, 8238, 8294, 8297] : List Int))).bind fun t112 => (if t112 = true then (some 7) else ((dactylref03_within.f k x0 (([768, 879, 1155, 1161, 1425, 1469, 1552, 1562, 1611, 1631, 1750, 1756, 6832, 6862, 7616, 7679, 8400, 8432, 12330, 12335, 12441, 12442, 65024, 65039, 65056, 65071] : List Int))).bind fun t116 => (if t116 = true then (some 9) else ((dactylref03_within.f k x0 (([57344, 63743, 64976, 65007, 65520, 65528, 65534, 65535, 131070, 131071, 262142, 1114111] : List Int))).bind fun t120 => (if t120 = true then (some 11) else (some 0)))))))))))
def dactylref03_odd.f (k : Nat) (a0 : Int) : Option (Int) := if a0 ≤ 31 then (some 4) else (if a0 = 127 then (some 5) else (if a0 ≥ 128 then (dactylref03_odd.j0 k a0 (decide (a0 ≤ 159))) else (dactylref03_odd.j0 k a0 false)))
theorem dactylref03_odd.mono_l : ∀ k, (∀ y0 y1, LeO (dactylref03_odd.j0 k y0 y1) (dactylref03_odd.j0 (k + 1) y0 y1))
  | 0 => fun _ _ r h => by simp [dactylref03_odd.j0] at h
  | k + 1 => by
    have ih0 := dactylref03_odd.mono_l k
    · intro y0 y1
      unfold dactylref03_odd.j0
      repeat' first
      | (with_reducible exact ih0 _ _)
      | (with_reducible exact dactylref03_within.mono _ _ _)
      | (with_reducible exact LeO.refl _)
      | (with_reducible exact LeO.none _)
      | (with_reducible refine LeO.ite ?_ ?_)
      | (with_reducible refine LeO.bind ?_ (fun _ => ?_))
      | exact ih0 _ _
      | exact dactylref03_within.mono _ _ _
      | exact LeO.none _
      | refine LeO.ite ?_ ?_
      | refine LeO.bind ?_ (fun _ => ?_)
theorem dactylref03_odd.mono : ∀ a0 k, LeO (dactylref03_odd.f k a0) (dactylref03_odd.f (k + 1) a0) := by
  intro a0 k
  have ih0 := dactylref03_odd.mono_l k
  unfold dactylref03_odd.f
  repeat' first
      | (with_reducible exact ih0 _ _)
      | (with_reducible exact dactylref03_within.mono _ _ _)
      | (with_reducible exact LeO.refl _)
      | (with_reducible exact LeO.none _)
      | (with_reducible refine LeO.ite ?_ ?_)
      | (with_reducible refine LeO.bind ?_ (fun _ => ?_))
      | exact ih0 _ _
      | exact dactylref03_within.mono _ _ _
      | exact LeO.none _
      | refine LeO.ite ?_ ?_
      | refine LeO.bind ?_ (fun _ => ?_)
set_option maxHeartbeats 8000000 in
set_option maxRecDepth 100000 in
theorem dactylref03_odd.calls (k : Nat) (a0 : Int) (r : Int) (w : World) (h : dactylref03_odd.f k a0 = some r) :
    Calls Try.prog 114 #[.int .i64 a0] w fun e w' => e = .returned (.int .i64 r) ∧ Below w.heap.size w w' := by
  have HB := Aside0.mk (Below.refl w.heap.size w)
  have H : (if a0 ≤ 31 then (some 4) else (if a0 = 127 then (some 5) else (if a0 ≥ 128 then (dactylref03_odd.j0 k a0 (decide (a0 ≤ 159))) else (dactylref03_odd.j0 k a0 false)))) = some r := h
  clear h
  by_cases c2 : a0 ≤ 31
  · rw [if_pos c2] at H
    have c2b0 : decide (a0 ≤ 31) = true := decide_eq_true c2
    clear c2
    obtain rfl := Option.some.inj H
    go_enter Try.func114, Try.ntmps114
    go_wp2
    go_ret
    exact ⟨by first | rfl | (simp [errW_none, errW_some] <;> rfl) | (simp [*, errW_none, errW_some] <;> rfl), by repeat (first | (with_reducible first | exact HB.out | apply below_alloc | apply pw_below_drewN | apply below_drew1) | exact HB.out)⟩
  · rw [if_neg c2] at H
    have c2b0 : decide (a0 ≤ 31) = false := decide_eq_false c2
    clear c2
    by_cases c3 : a0 = 127
    · rw [if_pos c3] at H
      have c3b0 : (a0 == 127) = true := beq_iff_eq.mpr c3
      have c3b1 : (a0 != 127) = false := bne_eq_false_iff_eq.mpr c3
      clear c3
      obtain rfl := Option.some.inj H
      go_enter Try.func114, Try.ntmps114
      go_wp2
      go_ret
      exact ⟨by first | rfl | (simp [errW_none, errW_some] <;> rfl) | (simp [*, errW_none, errW_some] <;> rfl), by repeat (first | (with_reducible first | exact HB.out | apply below_alloc | apply pw_below_drewN | apply below_drew1) | exact HB.out)⟩
    · rw [if_neg c3] at H
      have c3b0 : (a0 == 127) = false := beq_eq_false_iff_ne.mpr c3
      have c3b1 : (a0 != 127) = true := bne_iff_ne.mpr c3
      have HC4 := Aside0.mk H
      clear H
      go_enter Try.func114, Try.ntmps114
      go_upto_region 5 with (fail)
      go_cut [12] (fun v12 wc => ∃ (kq : Nat) (x12_3 : Bool), v12 = .bool x12_3 ∧ Aside0 (dactylref03_odd.j0 kq a0 x12_3 = some r) ∧ Aside0 (kq ≤ k) ∧ Aside0 (Below w.heap.size w wc))
      case first =>
        have H := HC4.out
        clear HC4
        by_cases c5 : a0 ≥ 128
        · rw [if_pos c5] at H
          have c5b0 : decide (128 ≤ a0) = true := decide_eq_true c5
          clear c5
          (first | rw [c5b0] | (simp only [i64_w, i32_w]; rw [c5b0]) | skip)
          have H' := Aside0.mk H
          clear H
          go_wp2
          go_meet
          case rel => exact ⟨_, (decide (a0 ≤ 159)), (by first | rfl | (simp; done) | (simp [*]; done)), H', ⟨by first | omega | exact Nat.le_refl _⟩, ⟨by repeat (first | (with_reducible first | exact HB.out | apply below_alloc | apply pw_below_drewN | apply below_drew1) | exact HB.out)⟩⟩
        · rw [if_neg c5] at H
          have c5b0 : decide (128 ≤ a0) = false := decide_eq_false c5
          clear c5
          (first | rw [c5b0] | (simp only [i64_w, i32_w]; rw [c5b0]) | skip)
          have H' := Aside0.mk H
          clear H
          go_wp2
          go_meet
          case rel => exact ⟨_, (false), (by first | rfl | (simp; done) | (simp [*]; done)), H', ⟨by first | omega | exact Nat.le_refl _⟩, ⟨by repeat (first | (with_reducible first | exact HB.out | apply below_alloc | apply pw_below_drewN | apply below_drew1) | exact HB.out)⟩⟩
      case rest =>
        clear HC4
        try clear c1
        try clear c2
        try clear c2b0
        try clear p2
        try clear c3
        try clear c3b0
        try clear c3b1
        try clear c5
        try clear c5b0
        obtain ⟨kq, x12_3, rfl, HA, HJ3, HB⟩ := hcut
        cases kq with
        | zero => exact absurd HA.out (by simp [dactylref03_odd.j0])
        | succ kj3 =>
          have H := HA.out
          clear HA
          simp only [dactylref03_odd.j0] at H
          by_cases c6 : x12_3 = true
          · subst c6
            have H1 : (some 6) = some r := by rw [if_pos rfl] at H; exact H
            clear H
            have H := H1
            clear H1
            obtain rfl := Option.some.inj H
            go_wp2
            go_ret
            exact ⟨by first | rfl | (simp [errW_none, errW_some] <;> rfl) | (simp [*, errW_none, errW_some] <;> rfl), by repeat (first | (with_reducible first | exact HB.out | apply below_alloc | apply pw_below_drewN | apply below_drew1) | exact HB.out)⟩
          · replace c6 := Bool.eq_false_iff.mpr c6
            subst c6
            have H1 : ((dactylref03_within.f kj3 a0 (([160, 160, 5760, 5760, 8192, 8202, 8232, 8233, 8239, 8239, 8287, 8287, 12288, 12288] : List Int))).bind fun t104 => (if t104 = true then (some 10) else ((dactylref03_within.f kj3 a0 (([173, 173, 6155, 6158, 8203, 8205, 8288, 8292, 65279, 65279, 65529, 65531] : List Int))).bind fun t108 => (if t108 = true then (some 8) else ((dactylref03_within.f kj3 a0 (([1564, 1564, 8206, 8207, 8234, 8238, 8294, 8297] : List Int))).bind fun t112 => (if t112 = true then (some 7) else ((dactylref03_within.f kj3 a0 (([768, 879, 1155, 1161, 1425, 1469, 1552, 1562, 1611, 1631, 1750, 1756, 6832, 6862, 7616, 7679, 8400, 8432, 12330, 12335, 12441, 12442, 65024, 65039, 65056, 65071] : List Int))).bind fun t116 => (if t116 = true then (some 9) else ((dactylref03_within.f kj3 a0 (([57344, 63743, 64976, 65007, 65520, 65528, 65534, 65535, 131070, 131071, 262142, 1114111] : List Int))).bind fun t120 => (if t120 = true then (some 11) else (some 0))))))))))) = some r := by rw [if_neg (show ¬ (false = true) by decide)] at H; exact H
            clear H
            have H := H1
            clear H1
            obtain ⟨y101, hy101⟩ : ∃ y_ : List Int, y_ = (([160, 160, 5760, 5760, 8192, 8202, 8232, 8233, 8239, 8239, 8287, 8287, 12288, 12288] : List Int)) := ⟨_, rfl⟩
            replace H : ((dactylref03_within.f kj3 a0 y101).bind fun t104 => (if t104 = true then (some 10) else ((dactylref03_within.f kj3 a0 (([173, 173, 6155, 6158, 8203, 8205, 8288, 8292, 65279, 65279, 65529, 65531] : List Int))).bind fun t108 => (if t108 = true then (some 8) else ((dactylref03_within.f kj3 a0 (([1564, 1564, 8206, 8207, 8234, 8238, 8294, 8297] : List Int))).bind fun t112 => (if t112 = true then (some 7) else ((dactylref03_within.f kj3 a0 (([768, 879, 1155, 1161, 1425, 1469, 1552, 1562, 1611, 1631, 1750, 1756, 6832, 6862, 7616, 7679, 8400, 8432, 12330, 12335, 12441, 12442, 65024, 65039, 65056, 65071] : List Int))).bind fun t116 => (if t116 = true then (some 9) else ((dactylref03_within.f kj3 a0 (([57344, 63743, 64976, 65007, 65520, 65528, 65534, 65535, 131070, 131071, 262142, 1114111] : List Int))).bind fun t120 => (if t120 = true then (some 11) else (some 0))))))))))) = some r := by first | (rw [hy101]; with_reducible exact H) | (have H2_ := (Option.bind_some _ _).symm.trans H; rw [hy101]; with_reducible exact H2_) | (have H2_ := (Option.bind_some _ _).symm.trans H; with_reducible exact H2_) | with_reducible exact H | (rw [hy101]; exact H) | exact H
            have Ny101 := Aside0.mk hy101
            clear hy101
            replace H := Option.bind_eq_some_iff.mp H
            obtain ⟨t104, A70, H⟩ := H
            replace H : (if t104 = true then (some 10) else ((dactylref03_within.f kj3 a0 (([173, 173, 6155, 6158, 8203, 8205, 8288, 8292, 65279, 65279, 65529, 65531] : List Int))).bind fun t108 => (if t108 = true then (some 8) else ((dactylref03_within.f kj3 a0 (([1564, 1564, 8206, 8207, 8234, 8238, 8294, 8297] : List Int))).bind fun t112 => (if t112 = true then (some 7) else ((dactylref03_within.f kj3 a0 (([768, 879, 1155, 1161, 1425, 1469, 1552, 1562, 1611, 1631, 1750, 1756, 6832, 6862, 7616, 7679, 8400, 8432, 12330, 12335, 12441, 12442, 65024, 65039, 65056, 65071] : List Int))).bind fun t116 => (if t116 = true then (some 9) else ((dactylref03_within.f kj3 a0 (([57344, 63743, 64976, 65007, 65520, 65528, 65534, 65535, 131070, 131071, 262142, 1114111] : List Int))).bind fun t120 => (if t120 = true then (some 11) else (some 0)))))))))) = some r := H
            have A7 := Aside0.mk A70
            clear A70
            by_cases c8 : t104 = true
            · subst c8
              have H1 : (some 10) = some r := by rw [if_pos rfl] at H; exact H
              clear H
              have H := H1
              clear H1
              obtain rfl := Option.some.inj H
              go_wp2_with (first | ((with_reducible refine gate_dst (N := 14) rfl ?_); refine Kd.R_lit (Kd.int .i64) _ 3 ?hg (N := 14) ?hd (xs := ([160, 160, 5760, 5760, 8192, 8202, 8232, 8233, 8239, 8239, 8287, 8287, 12288, 12288] : List Int)) (inner := [.int .i64 160, .int .i64 160, .int .i64 5760, .int .i64 5760, .int .i64 8192, .int .i64 8202, .int .i64 8232, .int .i64 8233, .int .i64 8239, .int .i64 8239, .int .i64 8287, .int .i64 8287, .int .i64 12288, .int .i64 12288]) (ok := fun _ => True) (okp := fun _ => True) ?hr ?hp (fun _ hk => hk) trivial (Below.refl _ _) (Nat.le_refl _) (by simp) ?_; (case hd => rfl); (case hg => rfl); (case hr => first | (go_simp; done) | (go_simp; rfl)); (case hp => exact (Reps.one (show Kd.M (Kd.int .i64) _ _ _ 160 [.int .i64 160] from rfl) (Reps.one (show Kd.M (Kd.int .i64) _ _ _ 160 [.int .i64 160] from rfl) (Reps.one (show Kd.M (Kd.int .i64) _ _ _ 5760 [.int .i64 5760] from rfl) (Reps.one (show Kd.M (Kd.int .i64) _ _ _ 5760 [.int .i64 5760] from rfl) (Reps.one (show Kd.M (Kd.int .i64) _ _ _ 8192 [.int .i64 8192] from rfl) (Reps.one (show Kd.M (Kd.int .i64) _ _ _ 8202 [.int .i64 8202] from rfl) (Reps.one (show Kd.M (Kd.int .i64) _ _ _ 8232 [.int .i64 8232] from rfl) (Reps.one (show Kd.M (Kd.int .i64) _ _ _ 8233 [.int .i64 8233] from rfl) (Reps.one (show Kd.M (Kd.int .i64) _ _ _ 8239 [.int .i64 8239] from rfl) (Reps.one (show Kd.M (Kd.int .i64) _ _ _ 8239 [.int .i64 8239] from rfl) (Reps.one (show Kd.M (Kd.int .i64) _ _ _ 8287 [.int .i64 8287] from rfl) (Reps.one (show Kd.M (Kd.int .i64) _ _ _ 8287 [.int .i64 8287] from rfl) (Reps.one (show Kd.M (Kd.int .i64) _ _ _ 12288 [.int .i64 12288] from rfl) (Reps.one (show Kd.M (Kd.int .i64) _ _ _ 12288 [.int .i64 12288] from rfl) (Reps.none _ _)))))))))))))))); intro v102 w9 ho10 hb hg_ hnew_; clear hg_ hnew_; (first | rw [← Ny101.out] at ho10 | (simp only [Int.reduceToNat] at ho10; rw [← Ny101.out] at ho10)); have n0_ := Aside0.mk (Kd.R_lower ho10 (below_size (by repeat (first | (with_reducible first | exact HB.out | apply below_alloc | apply pw_below_drewN | apply below_drew1) | exact HB.out)))); have n1_ := Aside0.mk (below_step (by repeat (first | (with_reducible first | exact HB.out | apply below_alloc | apply pw_below_drewN | apply below_drew1) | exact HB.out)) hb); clear HB; have HO103 := n0_; have HB := n1_; clear n0_ n1_; clear hb ho10; obtain ⟨Ao11, co11, eo11⟩ := Kd.R_slice HO103.out; subst eo11) | ((with_reducible refine gate_callee (f := 116) rfl ?_); refine goesL_ (some 15) rfl rfl Try.func116 (by kernel_rfl) rfl #[.int .i64 a0, .slice Ao11 y101.length co11] rfl (by (try simp only [List.map_toArray, List.map_cons, List.map_nil]); first | done | rfl | (simp only [List.length_drop, List.length_take]; rfl)) ?_; (with_reducible refine (dactylref03_within.calls kj3 a0 _ _ y101 true _ ?side1 ?side2 A7.out).mono ?_); (case side1 => repeat (first | exact (Kd.R_reads' HO103.out).2.2 | (with_reducible refine Kd.C_alloc ?_ _) | (with_reducible refine Kd.C_drewN ?_ _) | (with_reducible refine Kd.C_drew ?_))); (case side2 => exact (Kd.R_reads' HO103.out).2.1); rintro e w' ⟨rfl, ⟨nd, rfl⟩⟩; refine ⟨_, rfl, ?_⟩))
              go_ret
              exact ⟨by first | rfl | (simp [errW_none, errW_some] <;> rfl) | (simp [*, errW_none, errW_some] <;> rfl), by repeat (first | (with_reducible first | exact HB.out | apply below_alloc | apply pw_below_drewN | apply below_drew1) | exact HB.out)⟩
            · replace c8 := Bool.eq_false_iff.mpr c8
              subst c8
              have H1 : ((dactylref03_within.f kj3 a0 (([173, 173, 6155, 6158, 8203, 8205, 8288, 8292, 65279, 65279, 65529, 65531] : List Int))).bind fun t108 => (if t108 = true then (some 8) else ((dactylref03_within.f kj3 a0 (([1564, 1564, 8206, 8207, 8234, 8238, 8294, 8297] : List Int))).bind fun t112 => (if t112 = true then (some 7) else ((dactylref03_within.f kj3 a0 (([768, 879, 1155, 1161, 1425, 1469, 1552, 1562, 1611, 1631, 1750, 1756, 6832, 6862, 7616, 7679, 8400, 8432, 12330, 12335, 12441, 12442, 65024, 65039, 65056, 65071] : List Int))).bind fun t116 => (if t116 = true then (some 9) else ((dactylref03_within.f kj3 a0 (([57344, 63743, 64976, 65007, 65520, 65528, 65534, 65535, 131070, 131071, 262142, 1114111] : List Int))).bind fun t120 => (if t120 = true then (some 11) else (some 0))))))))) = some r := by rw [if_neg (show ¬ (false = true) by decide)] at H; exact H
              clear H
              have H := H1
              clear H1
              obtain ⟨y105, hy105⟩ : ∃ y_ : List Int, y_ = (([173, 173, 6155, 6158, 8203, 8205, 8288, 8292, 65279, 65279, 65529, 65531] : List Int)) := ⟨_, rfl⟩
              replace H : ((dactylref03_within.f kj3 a0 y105).bind fun t108 => (if t108 = true then (some 8) else ((dactylref03_within.f kj3 a0 (([1564, 1564, 8206, 8207, 8234, 8238, 8294, 8297] : List Int))).bind fun t112 => (if t112 = true then (some 7) else ((dactylref03_within.f kj3 a0 (([768, 879, 1155, 1161, 1425, 1469, 1552, 1562, 1611, 1631, 1750, 1756, 6832, 6862, 7616, 7679, 8400, 8432, 12330, 12335, 12441, 12442, 65024, 65039, 65056, 65071] : List Int))).bind fun t116 => (if t116 = true then (some 9) else ((dactylref03_within.f kj3 a0 (([57344, 63743, 64976, 65007, 65520, 65528, 65534, 65535, 131070, 131071, 262142, 1114111] : List Int))).bind fun t120 => (if t120 = true then (some 11) else (some 0))))))))) = some r := by first | (rw [hy105]; with_reducible exact H) | (have H2_ := (Option.bind_some _ _).symm.trans H; rw [hy105]; with_reducible exact H2_) | (have H2_ := (Option.bind_some _ _).symm.trans H; with_reducible exact H2_) | with_reducible exact H | (rw [hy105]; exact H) | exact H
              have Ny105 := Aside0.mk hy105
              clear hy105
              replace H := Option.bind_eq_some_iff.mp H
              obtain ⟨t108, A120, H⟩ := H
              replace H : (if t108 = true then (some 8) else ((dactylref03_within.f kj3 a0 (([1564, 1564, 8206, 8207, 8234, 8238, 8294, 8297] : List Int))).bind fun t112 => (if t112 = true then (some 7) else ((dactylref03_within.f kj3 a0 (([768, 879, 1155, 1161, 1425, 1469, 1552, 1562, 1611, 1631, 1750, 1756, 6832, 6862, 7616, 7679, 8400, 8432, 12330, 12335, 12441, 12442, 65024, 65039, 65056, 65071] : List Int))).bind fun t116 => (if t116 = true then (some 9) else ((dactylref03_within.f kj3 a0 (([57344, 63743, 64976, 65007, 65520, 65528, 65534, 65535, 131070, 131071, 262142, 1114111] : List Int))).bind fun t120 => (if t120 = true then (some 11) else (some 0)))))))) = some r := H
              have A12 := Aside0.mk A120
              clear A120
              by_cases c13 : t108 = true
              · subst c13
                have H1 : (some 8) = some r := by rw [if_pos rfl] at H; exact H
                clear H
                have H := H1
                clear H1
                obtain rfl := Option.some.inj H
                go_wp2_with (first | ((with_reducible refine gate_dst (N := 14) rfl ?_); refine Kd.R_lit (Kd.int .i64) _ 3 ?hg (N := 14) ?hd (xs := ([160, 160, 5760, 5760, 8192, 8202, 8232, 8233, 8239, 8239, 8287, 8287, 12288, 12288] : List Int)) (inner := [.int .i64 160, .int .i64 160, .int .i64 5760, .int .i64 5760, .int .i64 8192, .int .i64 8202, .int .i64 8232, .int .i64 8233, .int .i64 8239, .int .i64 8239, .int .i64 8287, .int .i64 8287, .int .i64 12288, .int .i64 12288]) (ok := fun _ => True) (okp := fun _ => True) ?hr ?hp (fun _ hk => hk) trivial (Below.refl _ _) (Nat.le_refl _) (by simp) ?_; (case hd => rfl); (case hg => rfl); (case hr => first | (go_simp; done) | (go_simp; rfl)); (case hp => exact (Reps.one (show Kd.M (Kd.int .i64) _ _ _ 160 [.int .i64 160] from rfl) (Reps.one (show Kd.M (Kd.int .i64) _ _ _ 160 [.int .i64 160] from rfl) (Reps.one (show Kd.M (Kd.int .i64) _ _ _ 5760 [.int .i64 5760] from rfl) (Reps.one (show Kd.M (Kd.int .i64) _ _ _ 5760 [.int .i64 5760] from rfl) (Reps.one (show Kd.M (Kd.int .i64) _ _ _ 8192 [.int .i64 8192] from rfl) (Reps.one (show Kd.M (Kd.int .i64) _ _ _ 8202 [.int .i64 8202] from rfl) (Reps.one (show Kd.M (Kd.int .i64) _ _ _ 8232 [.int .i64 8232] from rfl) (Reps.one (show Kd.M (Kd.int .i64) _ _ _ 8233 [.int .i64 8233] from rfl) (Reps.one (show Kd.M (Kd.int .i64) _ _ _ 8239 [.int .i64 8239] from rfl) (Reps.one (show Kd.M (Kd.int .i64) _ _ _ 8239 [.int .i64 8239] from rfl) (Reps.one (show Kd.M (Kd.int .i64) _ _ _ 8287 [.int .i64 8287] from rfl) (Reps.one (show Kd.M (Kd.int .i64) _ _ _ 8287 [.int .i64 8287] from rfl) (Reps.one (show Kd.M (Kd.int .i64) _ _ _ 12288 [.int .i64 12288] from rfl) (Reps.one (show Kd.M (Kd.int .i64) _ _ _ 12288 [.int .i64 12288] from rfl) (Reps.none _ _)))))))))))))))); intro v102 w14 ho15 hb hg_ hnew_; clear hg_ hnew_; (first | rw [← Ny101.out] at ho15 | (simp only [Int.reduceToNat] at ho15; rw [← Ny101.out] at ho15)); have n0_ := Aside0.mk (Kd.R_lower ho15 (below_size (by repeat (first | (with_reducible first | exact HB.out | apply below_alloc | apply pw_below_drewN | apply below_drew1) | exact HB.out)))); have n1_ := Aside0.mk (below_step (by repeat (first | (with_reducible first | exact HB.out | apply below_alloc | apply pw_below_drewN | apply below_drew1) | exact HB.out)) hb); clear HB; have HO103 := n0_; have HB := n1_; clear n0_ n1_; clear hb ho15; obtain ⟨Ao16, co16, eo16⟩ := Kd.R_slice HO103.out; subst eo16) | ((with_reducible refine gate_callee (f := 116) rfl ?_); refine goesL_ (some 15) rfl rfl Try.func116 (by kernel_rfl) rfl #[.int .i64 a0, .slice Ao16 y101.length co16] rfl (by (try simp only [List.map_toArray, List.map_cons, List.map_nil]); first | done | rfl | (simp only [List.length_drop, List.length_take]; rfl)) ?_; (with_reducible refine (dactylref03_within.calls kj3 a0 _ _ y101 false _ ?side1 ?side2 A7.out).mono ?_); (case side1 => repeat (first | exact (Kd.R_reads' HO103.out).2.2 | (with_reducible refine Kd.C_alloc ?_ _) | (with_reducible refine Kd.C_drewN ?_ _) | (with_reducible refine Kd.C_drew ?_))); (case side2 => exact (Kd.R_reads' HO103.out).2.1); rintro e w' ⟨rfl, ⟨nd, rfl⟩⟩; refine ⟨_, rfl, ?_⟩) | ((with_reducible refine gate_dst (N := 17) rfl ?_); refine Kd.R_lit (Kd.int .i64) _ 3 ?hg (N := 17) ?hd (xs := ([173, 173, 6155, 6158, 8203, 8205, 8288, 8292, 65279, 65279, 65529, 65531] : List Int)) (inner := [.int .i64 173, .int .i64 173, .int .i64 6155, .int .i64 6158, .int .i64 8203, .int .i64 8205, .int .i64 8288, .int .i64 8292, .int .i64 65279, .int .i64 65279, .int .i64 65529, .int .i64 65531]) (ok := fun _ => True) (okp := fun _ => True) ?hr ?hp (fun _ hk => hk) trivial (Below.refl _ _) (Nat.le_refl _) (by simp) ?_; (case hd => rfl); (case hg => rfl); (case hr => first | (go_simp; done) | (go_simp; rfl)); (case hp => exact (Reps.one (show Kd.M (Kd.int .i64) _ _ _ 173 [.int .i64 173] from rfl) (Reps.one (show Kd.M (Kd.int .i64) _ _ _ 173 [.int .i64 173] from rfl) (Reps.one (show Kd.M (Kd.int .i64) _ _ _ 6155 [.int .i64 6155] from rfl) (Reps.one (show Kd.M (Kd.int .i64) _ _ _ 6158 [.int .i64 6158] from rfl) (Reps.one (show Kd.M (Kd.int .i64) _ _ _ 8203 [.int .i64 8203] from rfl) (Reps.one (show Kd.M (Kd.int .i64) _ _ _ 8205 [.int .i64 8205] from rfl) (Reps.one (show Kd.M (Kd.int .i64) _ _ _ 8288 [.int .i64 8288] from rfl) (Reps.one (show Kd.M (Kd.int .i64) _ _ _ 8292 [.int .i64 8292] from rfl) (Reps.one (show Kd.M (Kd.int .i64) _ _ _ 65279 [.int .i64 65279] from rfl) (Reps.one (show Kd.M (Kd.int .i64) _ _ _ 65279 [.int .i64 65279] from rfl) (Reps.one (show Kd.M (Kd.int .i64) _ _ _ 65529 [.int .i64 65529] from rfl) (Reps.one (show Kd.M (Kd.int .i64) _ _ _ 65531 [.int .i64 65531] from rfl) (Reps.none _ _)))))))))))))); intro v106 w17 ho18 hb hg_ hnew_; clear hg_ hnew_; (first | rw [← Ny105.out] at ho18 | (simp only [Int.reduceToNat] at ho18; rw [← Ny105.out] at ho18)); have n0_ := Aside0.mk (Kd.R_elder' (by (with_reducible repeat (first | apply Kd.R_alloc | apply Kd.R_drewN | apply Kd.R_drew)); exact HO103.out) (Kd.R_base ho18) hb); have n1_ := Aside0.mk (Kd.R_lower (Kd.R_new' ho18 (Kd.R_lt (by (with_reducible repeat (first | apply Kd.R_alloc | apply Kd.R_drewN | apply Kd.R_drew)); exact HO103.out))) (below_size (by repeat (first | (with_reducible first | exact HB.out | apply below_alloc | apply pw_below_drewN | apply below_drew1) | exact HB.out)))); have n2_ := Aside0.mk (below_step (by repeat (first | (with_reducible first | exact HB.out | apply below_alloc | apply pw_below_drewN | apply below_drew1) | exact HB.out)) hb); clear HO103; clear HB; have HO103 := n0_; have HO107 := n1_; have HB := n2_; clear n0_ n1_ n2_; clear hb ho18; obtain ⟨Ao19, co19, eo19⟩ := Kd.R_slice HO107.out; subst eo19) | ((with_reducible refine gate_callee (f := 116) rfl ?_); refine goesL_ (some 18) rfl rfl Try.func116 (by kernel_rfl) rfl #[.int .i64 a0, .slice Ao19 y105.length co19] rfl (by (try simp only [List.map_toArray, List.map_cons, List.map_nil]); first | done | rfl | (simp only [List.length_drop, List.length_take]; rfl)) ?_; (with_reducible refine (dactylref03_within.calls kj3 a0 _ _ y105 true _ ?side1 ?side2 A12.out).mono ?_); (case side1 => repeat (first | exact (Kd.R_reads' HO107.out).2.2 | (with_reducible refine Kd.C_alloc ?_ _) | (with_reducible refine Kd.C_drewN ?_ _) | (with_reducible refine Kd.C_drew ?_))); (case side2 => exact (Kd.R_reads' HO107.out).2.1); rintro e w' ⟨rfl, ⟨nd, rfl⟩⟩; refine ⟨_, rfl, ?_⟩))
                go_ret
                exact ⟨by first | rfl | (simp [errW_none, errW_some] <;> rfl) | (simp [*, errW_none, errW_some] <;> rfl), by repeat (first | (with_reducible first | exact HB.out | apply below_alloc | apply pw_below_drewN | apply below_drew1) | exact HB.out)⟩
              · replace c13 := Bool.eq_false_iff.mpr c13
                subst c13
                have H1 : ((dactylref03_within.f kj3 a0 (([1564, 1564, 8206, 8207, 8234, 8238, 8294, 8297] : List Int))).bind fun t112 => (if t112 = true then (some 7) else ((dactylref03_within.f kj3 a0 (([768, 879, 1155, 1161, 1425, 1469, 1552, 1562, 1611, 1631, 1750, 1756, 6832, 6862, 7616, 7679, 8400, 8432, 12330, 12335, 12441, 12442, 65024, 65039, 65056, 65071] : List Int))).bind fun t116 => (if t116 = true then (some 9) else ((dactylref03_within.f kj3 a0 (([57344, 63743, 64976, 65007, 65520, 65528, 65534, 65535, 131070, 131071, 262142, 1114111] : List Int))).bind fun t120 => (if t120 = true then (some 11) else (some 0))))))) = some r := by rw [if_neg (show ¬ (false = true) by decide)] at H; exact H
                clear H
                have H := H1
                clear H1
                obtain ⟨y109, hy109⟩ : ∃ y_ : List Int, y_ = (([1564, 1564, 8206, 8207, 8234, 8238, 8294, 8297] : List Int)) := ⟨_, rfl⟩
                replace H : ((dactylref03_within.f kj3 a0 y109).bind fun t112 => (if t112 = true then (some 7) else ((dactylref03_within.f kj3 a0 (([768, 879, 1155, 1161, 1425, 1469, 1552, 1562, 1611, 1631, 1750, 1756, 6832, 6862, 7616, 7679, 8400, 8432, 12330, 12335, 12441, 12442, 65024, 65039, 65056, 65071] : List Int))).bind fun t116 => (if t116 = true then (some 9) else ((dactylref03_within.f kj3 a0 (([57344, 63743, 64976, 65007, 65520, 65528, 65534, 65535, 131070, 131071, 262142, 1114111] : List Int))).bind fun t120 => (if t120 = true then (some 11) else (some 0))))))) = some r := by first | (rw [hy109]; with_reducible exact H) | (have H2_ := (Option.bind_some _ _).symm.trans H; rw [hy109]; with_reducible exact H2_) | (have H2_ := (Option.bind_some _ _).symm.trans H; with_reducible exact H2_) | with_reducible exact H | (rw [hy109]; exact H) | exact H
                have Ny109 := Aside0.mk hy109
                clear hy109
                replace H := Option.bind_eq_some_iff.mp H
                obtain ⟨t112, A200, H⟩ := H
                replace H : (if t112 = true then (some 7) else ((dactylref03_within.f kj3 a0 (([768, 879, 1155, 1161, 1425, 1469, 1552, 1562, 1611, 1631, 1750, 1756, 6832, 6862, 7616, 7679, 8400, 8432, 12330, 12335, 12441, 12442, 65024, 65039, 65056, 65071] : List Int))).bind fun t116 => (if t116 = true then (some 9) else ((dactylref03_within.f kj3 a0 (([57344, 63743, 64976, 65007, 65520, 65528, 65534, 65535, 131070, 131071, 262142, 1114111] : List Int))).bind fun t120 => (if t120 = true then (some 11) else (some 0)))))) = some r := H
                have A20 := Aside0.mk A200
                clear A200
                by_cases c21 : t112 = true
                · subst c21
                  have H1 : (some 7) = some r := by rw [if_pos rfl] at H; exact H
                  clear H
                  have H := H1
                  clear H1
                  obtain rfl := Option.some.inj H
                  go_wp2_with (first | ((with_reducible refine gate_dst (N := 14) rfl ?_); refine Kd.R_lit (Kd.int .i64) _ 3 ?hg (N := 14) ?hd (xs := ([160, 160, 5760, 5760, 8192, 8202, 8232, 8233, 8239, 8239, 8287, 8287, 12288, 12288] : List Int)) (inner := [.int .i64 160, .int .i64 160, .int .i64 5760, .int .i64 5760, .int .i64 8192, .int .i64 8202, .int .i64 8232, .int .i64 8233, .int .i64 8239, .int .i64 8239, .int .i64 8287, .int .i64 8287, .int .i64 12288, .int .i64 12288]) (ok := fun _ => True) (okp := fun _ => True) ?hr ?hp (fun _ hk => hk) trivial (Below.refl _ _) (Nat.le_refl _) (by simp) ?_; (case hd => rfl); (case hg => rfl); (case hr => first | (go_simp; done) | (go_simp; rfl)); (case hp => exact (Reps.one (show Kd.M (Kd.int .i64) _ _ _ 160 [.int .i64 160] from rfl) (Reps.one (show Kd.M (Kd.int .i64) _ _ _ 160 [.int .i64 160] from rfl) (Reps.one (show Kd.M (Kd.int .i64) _ _ _ 5760 [.int .i64 5760] from rfl) (Reps.one (show Kd.M (Kd.int .i64) _ _ _ 5760 [.int .i64 5760] from rfl) (Reps.one (show Kd.M (Kd.int .i64) _ _ _ 8192 [.int .i64 8192] from rfl) (Reps.one (show Kd.M (Kd.int .i64) _ _ _ 8202 [.int .i64 8202] from rfl) (Reps.one (show Kd.M (Kd.int .i64) _ _ _ 8232 [.int .i64 8232] from rfl) (Reps.one (show Kd.M (Kd.int .i64) _ _ _ 8233 [.int .i64 8233] from rfl) (Reps.one (show Kd.M (Kd.int .i64) _ _ _ 8239 [.int .i64 8239] from rfl) (Reps.one (show Kd.M (Kd.int .i64) _ _ _ 8239 [.int .i64 8239] from rfl) (Reps.one (show Kd.M (Kd.int .i64) _ _ _ 8287 [.int .i64 8287] from rfl) (Reps.one (show Kd.M (Kd.int .i64) _ _ _ 8287 [.int .i64 8287] from rfl) (Reps.one (show Kd.M (Kd.int .i64) _ _ _ 12288 [.int .i64 12288] from rfl) (Reps.one (show Kd.M (Kd.int .i64) _ _ _ 12288 [.int .i64 12288] from rfl) (Reps.none _ _)))))))))))))))); intro v102 w22 ho23 hb hg_ hnew_; clear hg_ hnew_; (first | rw [← Ny101.out] at ho23 | (simp only [Int.reduceToNat] at ho23; rw [← Ny101.out] at ho23)); have n0_ := Aside0.mk (Kd.R_lower ho23 (below_size (by repeat (first | (with_reducible first | exact HB.out | apply below_alloc | apply pw_below_drewN | apply below_drew1) | exact HB.out)))); have n1_ := Aside0.mk (below_step (by repeat (first | (with_reducible first | exact HB.out | apply below_alloc | apply pw_below_drewN | apply below_drew1) | exact HB.out)) hb); clear HB; have HO103 := n0_; have HB := n1_; clear n0_ n1_; clear hb ho23; obtain ⟨Ao24, co24, eo24⟩ := Kd.R_slice HO103.out; subst eo24) | ((with_reducible refine gate_callee (f := 116) rfl ?_); refine goesL_ (some 15) rfl rfl Try.func116 (by kernel_rfl) rfl #[.int .i64 a0, .slice Ao24 y101.length co24] rfl (by (try simp only [List.map_toArray, List.map_cons, List.map_nil]); first | done | rfl | (simp only [List.length_drop, List.length_take]; rfl)) ?_; (with_reducible refine (dactylref03_within.calls kj3 a0 _ _ y101 false _ ?side1 ?side2 A7.out).mono ?_); (case side1 => repeat (first | exact (Kd.R_reads' HO103.out).2.2 | (with_reducible refine Kd.C_alloc ?_ _) | (with_reducible refine Kd.C_drewN ?_ _) | (with_reducible refine Kd.C_drew ?_))); (case side2 => exact (Kd.R_reads' HO103.out).2.1); rintro e w' ⟨rfl, ⟨nd, rfl⟩⟩; refine ⟨_, rfl, ?_⟩) | ((with_reducible refine gate_dst (N := 17) rfl ?_); refine Kd.R_lit (Kd.int .i64) _ 3 ?hg (N := 17) ?hd (xs := ([173, 173, 6155, 6158, 8203, 8205, 8288, 8292, 65279, 65279, 65529, 65531] : List Int)) (inner := [.int .i64 173, .int .i64 173, .int .i64 6155, .int .i64 6158, .int .i64 8203, .int .i64 8205, .int .i64 8288, .int .i64 8292, .int .i64 65279, .int .i64 65279, .int .i64 65529, .int .i64 65531]) (ok := fun _ => True) (okp := fun _ => True) ?hr ?hp (fun _ hk => hk) trivial (Below.refl _ _) (Nat.le_refl _) (by simp) ?_; (case hd => rfl); (case hg => rfl); (case hr => first | (go_simp; done) | (go_simp; rfl)); (case hp => exact (Reps.one (show Kd.M (Kd.int .i64) _ _ _ 173 [.int .i64 173] from rfl) (Reps.one (show Kd.M (Kd.int .i64) _ _ _ 173 [.int .i64 173] from rfl) (Reps.one (show Kd.M (Kd.int .i64) _ _ _ 6155 [.int .i64 6155] from rfl) (Reps.one (show Kd.M (Kd.int .i64) _ _ _ 6158 [.int .i64 6158] from rfl) (Reps.one (show Kd.M (Kd.int .i64) _ _ _ 8203 [.int .i64 8203] from rfl) (Reps.one (show Kd.M (Kd.int .i64) _ _ _ 8205 [.int .i64 8205] from rfl) (Reps.one (show Kd.M (Kd.int .i64) _ _ _ 8288 [.int .i64 8288] from rfl) (Reps.one (show Kd.M (Kd.int .i64) _ _ _ 8292 [.int .i64 8292] from rfl) (Reps.one (show Kd.M (Kd.int .i64) _ _ _ 65279 [.int .i64 65279] from rfl) (Reps.one (show Kd.M (Kd.int .i64) _ _ _ 65279 [.int .i64 65279] from rfl) (Reps.one (show Kd.M (Kd.int .i64) _ _ _ 65529 [.int .i64 65529] from rfl) (Reps.one (show Kd.M (Kd.int .i64) _ _ _ 65531 [.int .i64 65531] from rfl) (Reps.none _ _)))))))))))))); intro v106 w25 ho26 hb hg_ hnew_; clear hg_ hnew_; (first | rw [← Ny105.out] at ho26 | (simp only [Int.reduceToNat] at ho26; rw [← Ny105.out] at ho26)); have n0_ := Aside0.mk (Kd.R_elder' (by (with_reducible repeat (first | apply Kd.R_alloc | apply Kd.R_drewN | apply Kd.R_drew)); exact HO103.out) (Kd.R_base ho26) hb); have n1_ := Aside0.mk (Kd.R_lower (Kd.R_new' ho26 (Kd.R_lt (by (with_reducible repeat (first | apply Kd.R_alloc | apply Kd.R_drewN | apply Kd.R_drew)); exact HO103.out))) (below_size (by repeat (first | (with_reducible first | exact HB.out | apply below_alloc | apply pw_below_drewN | apply below_drew1) | exact HB.out)))); have n2_ := Aside0.mk (below_step (by repeat (first | (with_reducible first | exact HB.out | apply below_alloc | apply pw_below_drewN | apply below_drew1) | exact HB.out)) hb); clear HO103; clear HB; have HO103 := n0_; have HO107 := n1_; have HB := n2_; clear n0_ n1_ n2_; clear hb ho26; obtain ⟨Ao27, co27, eo27⟩ := Kd.R_slice HO107.out; subst eo27) | ((with_reducible refine gate_callee (f := 116) rfl ?_); refine goesL_ (some 18) rfl rfl Try.func116 (by kernel_rfl) rfl #[.int .i64 a0, .slice Ao27 y105.length co27] rfl (by (try simp only [List.map_toArray, List.map_cons, List.map_nil]); first | done | rfl | (simp only [List.length_drop, List.length_take]; rfl)) ?_; (with_reducible refine (dactylref03_within.calls kj3 a0 _ _ y105 false _ ?side1 ?side2 A12.out).mono ?_); (case side1 => repeat (first | exact (Kd.R_reads' HO107.out).2.2 | (with_reducible refine Kd.C_alloc ?_ _) | (with_reducible refine Kd.C_drewN ?_ _) | (with_reducible refine Kd.C_drew ?_))); (case side2 => exact (Kd.R_reads' HO107.out).2.1); rintro e w' ⟨rfl, ⟨nd, rfl⟩⟩; refine ⟨_, rfl, ?_⟩) | ((with_reducible refine gate_dst (N := 20) rfl ?_); refine Kd.R_lit (Kd.int .i64) _ 3 ?hg (N := 20) ?hd (xs := ([1564, 1564, 8206, 8207, 8234, 8238, 8294, 8297] : List Int)) (inner := [.int .i64 1564, .int .i64 1564, .int .i64 8206, .int .i64 8207, .int .i64 8234, .int .i64 8238, .int .i64 8294, .int .i64 8297]) (ok := fun _ => True) (okp := fun _ => True) ?hr ?hp (fun _ hk => hk) trivial (Below.refl _ _) (Nat.le_refl _) (by simp) ?_; (case hd => rfl); (case hg => rfl); (case hr => first | (go_simp; done) | (go_simp; rfl)); (case hp => exact (Reps.one (show Kd.M (Kd.int .i64) _ _ _ 1564 [.int .i64 1564] from rfl) (Reps.one (show Kd.M (Kd.int .i64) _ _ _ 1564 [.int .i64 1564] from rfl) (Reps.one (show Kd.M (Kd.int .i64) _ _ _ 8206 [.int .i64 8206] from rfl) (Reps.one (show Kd.M (Kd.int .i64) _ _ _ 8207 [.int .i64 8207] from rfl) (Reps.one (show Kd.M (Kd.int .i64) _ _ _ 8234 [.int .i64 8234] from rfl) (Reps.one (show Kd.M (Kd.int .i64) _ _ _ 8238 [.int .i64 8238] from rfl) (Reps.one (show Kd.M (Kd.int .i64) _ _ _ 8294 [.int .i64 8294] from rfl) (Reps.one (show Kd.M (Kd.int .i64) _ _ _ 8297 [.int .i64 8297] from rfl) (Reps.none _ _)))))))))); intro v110 w28 ho29 hb hg_ hnew_; clear hg_ hnew_; (first | rw [← Ny109.out] at ho29 | (simp only [Int.reduceToNat] at ho29; rw [← Ny109.out] at ho29)); have n0_ := Aside0.mk (Kd.R_elder' (by (with_reducible repeat (first | apply Kd.R_alloc | apply Kd.R_drewN | apply Kd.R_drew)); exact HO103.out) (Kd.R_base ho29) hb); have n1_ := Aside0.mk (Kd.R_elder' (by (with_reducible repeat (first | apply Kd.R_alloc | apply Kd.R_drewN | apply Kd.R_drew)); exact HO107.out) (Kd.R_base ho29) hb); have n2_ := Aside0.mk (Kd.R_lower (Kd.R_new' (Kd.R_new' ho29 (Kd.R_lt (by (with_reducible repeat (first | apply Kd.R_alloc | apply Kd.R_drewN | apply Kd.R_drew)); exact HO103.out))) (Kd.R_lt (by (with_reducible repeat (first | apply Kd.R_alloc | apply Kd.R_drewN | apply Kd.R_drew)); exact HO107.out))) (below_size (by repeat (first | (with_reducible first | exact HB.out | apply below_alloc | apply pw_below_drewN | apply below_drew1) | exact HB.out)))); have n3_ := Aside0.mk (below_step (by repeat (first | (with_reducible first | exact HB.out | apply below_alloc | apply pw_below_drewN | apply below_drew1) | exact HB.out)) hb); clear HO103; clear HO107; clear HB; have HO103 := n0_; have HO107 := n1_; have HO111 := n2_; have HB := n3_; clear n0_ n1_ n2_ n3_; clear hb ho29; obtain ⟨Ao30, co30, eo30⟩ := Kd.R_slice HO111.out; subst eo30) | ((with_reducible refine gate_callee (f := 116) rfl ?_); refine goesL_ (some 21) rfl rfl Try.func116 (by kernel_rfl) rfl #[.int .i64 a0, .slice Ao30 y109.length co30] rfl (by (try simp only [List.map_toArray, List.map_cons, List.map_nil]); first | done | rfl | (simp only [List.length_drop, List.length_take]; rfl)) ?_; (with_reducible refine (dactylref03_within.calls kj3 a0 _ _ y109 true _ ?side1 ?side2 A20.out).mono ?_); (case side1 => repeat (first | exact (Kd.R_reads' HO111.out).2.2 | (with_reducible refine Kd.C_alloc ?_ _) | (with_reducible refine Kd.C_drewN ?_ _) | (with_reducible refine Kd.C_drew ?_))); (case side2 => exact (Kd.R_reads' HO111.out).2.1); rintro e w' ⟨rfl, ⟨nd, rfl⟩⟩; refine ⟨_, rfl, ?_⟩))
                  go_ret
                  exact ⟨by first | rfl | (simp [errW_none, errW_some] <;> rfl) | (simp [*, errW_none, errW_some] <;> rfl), by repeat (first | (with_reducible first | exact HB.out | apply below_alloc | apply pw_below_drewN | apply below_drew1) | exact HB.out)⟩
                · replace c21 := Bool.eq_false_iff.mpr c21
                  subst c21
                  have H1 : ((dactylref03_within.f kj3 a0 (([768, 879, 1155, 1161, 1425, 1469, 1552, 1562, 1611, 1631, 1750, 1756, 6832, 6862, 7616, 7679, 8400, 8432, 12330, 12335, 12441, 12442, 65024, 65039, 65056, 65071] : List Int))).bind fun t116 => (if t116 = true then (some 9) else ((dactylref03_within.f kj3 a0 (([57344, 63743, 64976, 65007, 65520, 65528, 65534, 65535, 131070, 131071, 262142, 1114111] : List Int))).bind fun t120 => (if t120 = true then (some 11) else (some 0))))) = some r := by rw [if_neg (show ¬ (false = true) by decide)] at H; exact H
                  clear H
                  have H := H1
                  clear H1
                  obtain ⟨y113, hy113⟩ : ∃ y_ : List Int, y_ = (([768, 879, 1155, 1161, 1425, 1469, 1552, 1562, 1611, 1631, 1750, 1756, 6832, 6862, 7616, 7679, 8400, 8432, 12330, 12335, 12441, 12442, 65024, 65039, 65056, 65071] : List Int)) := ⟨_, rfl⟩
                  replace H : ((dactylref03_within.f kj3 a0 y113).bind fun t116 => (if t116 = true then (some 9) else ((dactylref03_within.f kj3 a0 (([57344, 63743, 64976, 65007, 65520, 65528, 65534, 65535, 131070, 131071, 262142, 1114111] : List Int))).bind fun t120 => (if t120 = true then (some 11) else (some 0))))) = some r := by first | (rw [hy113]; with_reducible exact H) | (have H2_ := (Option.bind_some _ _).symm.trans H; rw [hy113]; with_reducible exact H2_) | (have H2_ := (Option.bind_some _ _).symm.trans H; with_reducible exact H2_) | with_reducible exact H | (rw [hy113]; exact H) | exact H
                  have Ny113 := Aside0.mk hy113
                  clear hy113
                  replace H := Option.bind_eq_some_iff.mp H
                  obtain ⟨t116, A310, H⟩ := H
                  replace H : (if t116 = true then (some 9) else ((dactylref03_within.f kj3 a0 (([57344, 63743, 64976, 65007, 65520, 65528, 65534, 65535, 131070, 131071, 262142, 1114111] : List Int))).bind fun t120 => (if t120 = true then (some 11) else (some 0)))) = some r := H
                  have A31 := Aside0.mk A310
                  clear A310
                  by_cases c32 : t116 = true
                  · subst c32
                    have H1 : (some 9) = some r := by rw [if_pos rfl] at H; exact H
                    clear H
                    have H := H1
                    clear H1
                    obtain rfl := Option.some.inj H
                    go_wp2_with (first | ((with_reducible refine gate_dst (N := 14) rfl ?_); refine Kd.R_lit (Kd.int .i64) _ 3 ?hg (N := 14) ?hd (xs := ([160, 160, 5760, 5760, 8192, 8202, 8232, 8233, 8239, 8239, 8287, 8287, 12288, 12288] : List Int)) (inner := [.int .i64 160, .int .i64 160, .int .i64 5760, .int .i64 5760, .int .i64 8192, .int .i64 8202, .int .i64 8232, .int .i64 8233, .int .i64 8239, .int .i64 8239, .int .i64 8287, .int .i64 8287, .int .i64 12288, .int .i64 12288]) (ok := fun _ => True) (okp := fun _ => True) ?hr ?hp (fun _ hk => hk) trivial (Below.refl _ _) (Nat.le_refl _) (by simp) ?_; (case hd => rfl); (case hg => rfl); (case hr => first | (go_simp; done) | (go_simp; rfl)); (case hp => exact (Reps.one (show Kd.M (Kd.int .i64) _ _ _ 160 [.int .i64 160] from rfl) (Reps.one (show Kd.M (Kd.int .i64) _ _ _ 160 [.int .i64 160] from rfl) (Reps.one (show Kd.M (Kd.int .i64) _ _ _ 5760 [.int .i64 5760] from rfl) (Reps.one (show Kd.M (Kd.int .i64) _ _ _ 5760 [.int .i64 5760] from rfl) (Reps.one (show Kd.M (Kd.int .i64) _ _ _ 8192 [.int .i64 8192] from rfl) (Reps.one (show Kd.M (Kd.int .i64) _ _ _ 8202 [.int .i64 8202] from rfl) (Reps.one (show Kd.M (Kd.int .i64) _ _ _ 8232 [.int .i64 8232] from rfl) (Reps.one (show Kd.M (Kd.int .i64) _ _ _ 8233 [.int .i64 8233] from rfl) (Reps.one (show Kd.M (Kd.int .i64) _ _ _ 8239 [.int .i64 8239] from rfl) (Reps.one (show Kd.M (Kd.int .i64) _ _ _ 8239 [.int .i64 8239] from rfl) (Reps.one (show Kd.M (Kd.int .i64) _ _ _ 8287 [.int .i64 8287] from rfl) (Reps.one (show Kd.M (Kd.int .i64) _ _ _ 8287 [.int .i64 8287] from rfl) (Reps.one (show Kd.M (Kd.int .i64) _ _ _ 12288 [.int .i64 12288] from rfl) (Reps.one (show Kd.M (Kd.int .i64) _ _ _ 12288 [.int .i64 12288] from rfl) (Reps.none _ _)))))))))))))))); intro v102 w33 ho34 hb hg_ hnew_; clear hg_ hnew_; (first | rw [← Ny101.out] at ho34 | (simp only [Int.reduceToNat] at ho34; rw [← Ny101.out] at ho34)); have n0_ := Aside0.mk (Kd.R_lower ho34 (below_size (by repeat (first | (with_reducible first | exact HB.out | apply below_alloc | apply pw_below_drewN | apply below_drew1) | exact HB.out)))); have n1_ := Aside0.mk (below_step (by repeat (first | (with_reducible first | exact HB.out | apply below_alloc | apply pw_below_drewN | apply below_drew1) | exact HB.out)) hb); clear HB; have HO103 := n0_; have HB := n1_; clear n0_ n1_; clear hb ho34; obtain ⟨Ao35, co35, eo35⟩ := Kd.R_slice HO103.out; subst eo35) | ((with_reducible refine gate_callee (f := 116) rfl ?_); refine goesL_ (some 15) rfl rfl Try.func116 (by kernel_rfl) rfl #[.int .i64 a0, .slice Ao35 y101.length co35] rfl (by (try simp only [List.map_toArray, List.map_cons, List.map_nil]); first | done | rfl | (simp only [List.length_drop, List.length_take]; rfl)) ?_; (with_reducible refine (dactylref03_within.calls kj3 a0 _ _ y101 false _ ?side1 ?side2 A7.out).mono ?_); (case side1 => repeat (first | exact (Kd.R_reads' HO103.out).2.2 | (with_reducible refine Kd.C_alloc ?_ _) | (with_reducible refine Kd.C_drewN ?_ _) | (with_reducible refine Kd.C_drew ?_))); (case side2 => exact (Kd.R_reads' HO103.out).2.1); rintro e w' ⟨rfl, ⟨nd, rfl⟩⟩; refine ⟨_, rfl, ?_⟩) | ((with_reducible refine gate_dst (N := 17) rfl ?_); refine Kd.R_lit (Kd.int .i64) _ 3 ?hg (N := 17) ?hd (xs := ([173, 173, 6155, 6158, 8203, 8205, 8288, 8292, 65279, 65279, 65529, 65531] : List Int)) (inner := [.int .i64 173, .int .i64 173, .int .i64 6155, .int .i64 6158, .int .i64 8203, .int .i64 8205, .int .i64 8288, .int .i64 8292, .int .i64 65279, .int .i64 65279, .int .i64 65529, .int .i64 65531]) (ok := fun _ => True) (okp := fun _ => True) ?hr ?hp (fun _ hk => hk) trivial (Below.refl _ _) (Nat.le_refl _) (by simp) ?_; (case hd => rfl); (case hg => rfl); (case hr => first | (go_simp; done) | (go_simp; rfl)); (case hp => exact (Reps.one (show Kd.M (Kd.int .i64) _ _ _ 173 [.int .i64 173] from rfl) (Reps.one (show Kd.M (Kd.int .i64) _ _ _ 173 [.int .i64 173] from rfl) (Reps.one (show Kd.M (Kd.int .i64) _ _ _ 6155 [.int .i64 6155] from rfl) (Reps.one (show Kd.M (Kd.int .i64) _ _ _ 6158 [.int .i64 6158] from rfl) (Reps.one (show Kd.M (Kd.int .i64) _ _ _ 8203 [.int .i64 8203] from rfl) (Reps.one (show Kd.M (Kd.int .i64) _ _ _ 8205 [.int .i64 8205] from rfl) (Reps.one (show Kd.M (Kd.int .i64) _ _ _ 8288 [.int .i64 8288] from rfl) (Reps.one (show Kd.M (Kd.int .i64) _ _ _ 8292 [.int .i64 8292] from rfl) (Reps.one (show Kd.M (Kd.int .i64) _ _ _ 65279 [.int .i64 65279] from rfl) (Reps.one (show Kd.M (Kd.int .i64) _ _ _ 65279 [.int .i64 65279] from rfl) (Reps.one (show Kd.M (Kd.int .i64) _ _ _ 65529 [.int .i64 65529] from rfl) (Reps.one (show Kd.M (Kd.int .i64) _ _ _ 65531 [.int .i64 65531] from rfl) (Reps.none _ _)))))))))))))); intro v106 w36 ho37 hb hg_ hnew_; clear hg_ hnew_; (first | rw [← Ny105.out] at ho37 | (simp only [Int.reduceToNat] at ho37; rw [← Ny105.out] at ho37)); have n0_ := Aside0.mk (Kd.R_elder' (by (with_reducible repeat (first | apply Kd.R_alloc | apply Kd.R_drewN | apply Kd.R_drew)); exact HO103.out) (Kd.R_base ho37) hb); have n1_ := Aside0.mk (Kd.R_lower (Kd.R_new' ho37 (Kd.R_lt (by (with_reducible repeat (first | apply Kd.R_alloc | apply Kd.R_drewN | apply Kd.R_drew)); exact HO103.out))) (below_size (by repeat (first | (with_reducible first | exact HB.out | apply below_alloc | apply pw_below_drewN | apply below_drew1) | exact HB.out)))); have n2_ := Aside0.mk (below_step (by repeat (first | (with_reducible first | exact HB.out | apply below_alloc | apply pw_below_drewN | apply below_drew1) | exact HB.out)) hb); clear HO103; clear HB; have HO103 := n0_; have HO107 := n1_; have HB := n2_; clear n0_ n1_ n2_; clear hb ho37; obtain ⟨Ao38, co38, eo38⟩ := Kd.R_slice HO107.out; subst eo38) | ((with_reducible refine gate_callee (f := 116) rfl ?_); refine goesL_ (some 18) rfl rfl Try.func116 (by kernel_rfl) rfl #[.int .i64 a0, .slice Ao38 y105.length co38] rfl (by (try simp only [List.map_toArray, List.map_cons, List.map_nil]); first | done | rfl | (simp only [List.length_drop, List.length_take]; rfl)) ?_; (with_reducible refine (dactylref03_within.calls kj3 a0 _ _ y105 false _ ?side1 ?side2 A12.out).mono ?_); (case side1 => repeat (first | exact (Kd.R_reads' HO107.out).2.2 | (with_reducible refine Kd.C_alloc ?_ _) | (with_reducible refine Kd.C_drewN ?_ _) | (with_reducible refine Kd.C_drew ?_))); (case side2 => exact (Kd.R_reads' HO107.out).2.1); rintro e w' ⟨rfl, ⟨nd, rfl⟩⟩; refine ⟨_, rfl, ?_⟩) | ((with_reducible refine gate_dst (N := 20) rfl ?_); refine Kd.R_lit (Kd.int .i64) _ 3 ?hg (N := 20) ?hd (xs := ([1564, 1564, 8206, 8207, 8234, 8238, 8294, 8297] : List Int)) (inner := [.int .i64 1564, .int .i64 1564, .int .i64 8206, .int .i64 8207, .int .i64 8234, .int .i64 8238, .int .i64 8294, .int .i64 8297]) (ok := fun _ => True) (okp := fun _ => True) ?hr ?hp (fun _ hk => hk) trivial (Below.refl _ _) (Nat.le_refl _) (by simp) ?_; (case hd => rfl); (case hg => rfl); (case hr => first | (go_simp; done) | (go_simp; rfl)); (case hp => exact (Reps.one (show Kd.M (Kd.int .i64) _ _ _ 1564 [.int .i64 1564] from rfl) (Reps.one (show Kd.M (Kd.int .i64) _ _ _ 1564 [.int .i64 1564] from rfl) (Reps.one (show Kd.M (Kd.int .i64) _ _ _ 8206 [.int .i64 8206] from rfl) (Reps.one (show Kd.M (Kd.int .i64) _ _ _ 8207 [.int .i64 8207] from rfl) (Reps.one (show Kd.M (Kd.int .i64) _ _ _ 8234 [.int .i64 8234] from rfl) (Reps.one (show Kd.M (Kd.int .i64) _ _ _ 8238 [.int .i64 8238] from rfl) (Reps.one (show Kd.M (Kd.int .i64) _ _ _ 8294 [.int .i64 8294] from rfl) (Reps.one (show Kd.M (Kd.int .i64) _ _ _ 8297 [.int .i64 8297] from rfl) (Reps.none _ _)))))))))); intro v110 w39 ho40 hb hg_ hnew_; clear hg_ hnew_; (first | rw [← Ny109.out] at ho40 | (simp only [Int.reduceToNat] at ho40; rw [← Ny109.out] at ho40)); have n0_ := Aside0.mk (Kd.R_elder' (by (with_reducible repeat (first | apply Kd.R_alloc | apply Kd.R_drewN | apply Kd.R_drew)); exact HO103.out) (Kd.R_base ho40) hb); have n1_ := Aside0.mk (Kd.R_elder' (by (with_reducible repeat (first | apply Kd.R_alloc | apply Kd.R_drewN | apply Kd.R_drew)); exact HO107.out) (Kd.R_base ho40) hb); have n2_ := Aside0.mk (Kd.R_lower (Kd.R_new' (Kd.R_new' ho40 (Kd.R_lt (by (with_reducible repeat (first | apply Kd.R_alloc | apply Kd.R_drewN | apply Kd.R_drew)); exact HO103.out))) (Kd.R_lt (by (with_reducible repeat (first | apply Kd.R_alloc | apply Kd.R_drewN | apply Kd.R_drew)); exact HO107.out))) (below_size (by repeat (first | (with_reducible first | exact HB.out | apply below_alloc | apply pw_below_drewN | apply below_drew1) | exact HB.out)))); have n3_ := Aside0.mk (below_step (by repeat (first | (with_reducible first | exact HB.out | apply below_alloc | apply pw_below_drewN | apply below_drew1) | exact HB.out)) hb); clear HO103; clear HO107; clear HB; have HO103 := n0_; have HO107 := n1_; have HO111 := n2_; have HB := n3_; clear n0_ n1_ n2_ n3_; clear hb ho40; obtain ⟨Ao41, co41, eo41⟩ := Kd.R_slice HO111.out; subst eo41) | ((with_reducible refine gate_callee (f := 116) rfl ?_); refine goesL_ (some 21) rfl rfl Try.func116 (by kernel_rfl) rfl #[.int .i64 a0, .slice Ao41 y109.length co41] rfl (by (try simp only [List.map_toArray, List.map_cons, List.map_nil]); first | done | rfl | (simp only [List.length_drop, List.length_take]; rfl)) ?_; (with_reducible refine (dactylref03_within.calls kj3 a0 _ _ y109 false _ ?side1 ?side2 A20.out).mono ?_); (case side1 => repeat (first | exact (Kd.R_reads' HO111.out).2.2 | (with_reducible refine Kd.C_alloc ?_ _) | (with_reducible refine Kd.C_drewN ?_ _) | (with_reducible refine Kd.C_drew ?_))); (case side2 => exact (Kd.R_reads' HO111.out).2.1); rintro e w' ⟨rfl, ⟨nd, rfl⟩⟩; refine ⟨_, rfl, ?_⟩) | ((with_reducible refine gate_dst (N := 23) rfl ?_); refine Kd.R_lit (Kd.int .i64) _ 3 ?hg (N := 23) ?hd (xs := ([768, 879, 1155, 1161, 1425, 1469, 1552, 1562, 1611, 1631, 1750, 1756, 6832, 6862, 7616, 7679, 8400, 8432, 12330, 12335, 12441, 12442, 65024, 65039, 65056, 65071] : List Int)) (inner := [.int .i64 768, .int .i64 879, .int .i64 1155, .int .i64 1161, .int .i64 1425, .int .i64 1469, .int .i64 1552, .int .i64 1562, .int .i64 1611, .int .i64 1631, .int .i64 1750, .int .i64 1756, .int .i64 6832, .int .i64 6862, .int .i64 7616, .int .i64 7679, .int .i64 8400, .int .i64 8432, .int .i64 12330, .int .i64 12335, .int .i64 12441, .int .i64 12442, .int .i64 65024, .int .i64 65039, .int .i64 65056, .int .i64 65071]) (ok := fun _ => True) (okp := fun _ => True) ?hr ?hp (fun _ hk => hk) trivial (Below.refl _ _) (Nat.le_refl _) (by simp) ?_; (case hd => rfl); (case hg => rfl); (case hr => first | (go_simp; done) | (go_simp; rfl)); (case hp => exact (Reps.one (show Kd.M (Kd.int .i64) _ _ _ 768 [.int .i64 768] from rfl) (Reps.one (show Kd.M (Kd.int .i64) _ _ _ 879 [.int .i64 879] from rfl) (Reps.one (show Kd.M (Kd.int .i64) _ _ _ 1155 [.int .i64 1155] from rfl) (Reps.one (show Kd.M (Kd.int .i64) _ _ _ 1161 [.int .i64 1161] from rfl) (Reps.one (show Kd.M (Kd.int .i64) _ _ _ 1425 [.int .i64 1425] from rfl) (Reps.one (show Kd.M (Kd.int .i64) _ _ _ 1469 [.int .i64 1469] from rfl) (Reps.one (show Kd.M (Kd.int .i64) _ _ _ 1552 [.int .i64 1552] from rfl) (Reps.one (show Kd.M (Kd.int .i64) _ _ _ 1562 [.int .i64 1562] from rfl) (Reps.one (show Kd.M (Kd.int .i64) _ _ _ 1611 [.int .i64 1611] from rfl) (Reps.one (show Kd.M (Kd.int .i64) _ _ _ 1631 [.int .i64 1631] from rfl) (Reps.one (show Kd.M (Kd.int .i64) _ _ _ 1750 [.int .i64 1750] from rfl) (Reps.one (show Kd.M (Kd.int .i64) _ _ _ 1756 [.int .i64 1756] from rfl) (Reps.one (show Kd.M (Kd.int .i64) _ _ _ 6832 [.int .i64 6832] from rfl) (Reps.one (show Kd.M (Kd.int .i64) _ _ _ 6862 [.int .i64 6862] from rfl) (Reps.one (show Kd.M (Kd.int .i64) _ _ _ 7616 [.int .i64 7616] from rfl) (Reps.one (show Kd.M (Kd.int .i64) _ _ _ 7679 [.int .i64 7679] from rfl) (Reps.one (show Kd.M (Kd.int .i64) _ _ _ 8400 [.int .i64 8400] from rfl) (Reps.one (show Kd.M (Kd.int .i64) _ _ _ 8432 [.int .i64 8432] from rfl) (Reps.one (show Kd.M (Kd.int .i64) _ _ _ 12330 [.int .i64 12330] from rfl) (Reps.one (show Kd.M (Kd.int .i64) _ _ _ 12335 [.int .i64 12335] from rfl) (Reps.one (show Kd.M (Kd.int .i64) _ _ _ 12441 [.int .i64 12441] from rfl) (Reps.one (show Kd.M (Kd.int .i64) _ _ _ 12442 [.int .i64 12442] from rfl) (Reps.one (show Kd.M (Kd.int .i64) _ _ _ 65024 [.int .i64 65024] from rfl) (Reps.one (show Kd.M (Kd.int .i64) _ _ _ 65039 [.int .i64 65039] from rfl) (Reps.one (show Kd.M (Kd.int .i64) _ _ _ 65056 [.int .i64 65056] from rfl) (Reps.one (show Kd.M (Kd.int .i64) _ _ _ 65071 [.int .i64 65071] from rfl) (Reps.none _ _)))))))))))))))))))))))))))); intro v114 w42 ho43 hb hg_ hnew_; clear hg_ hnew_; (first | rw [← Ny113.out] at ho43 | (simp only [Int.reduceToNat] at ho43; rw [← Ny113.out] at ho43)); have n0_ := Aside0.mk (Kd.R_elder' (by (with_reducible repeat (first | apply Kd.R_alloc | apply Kd.R_drewN | apply Kd.R_drew)); exact HO103.out) (Kd.R_base ho43) hb); have n1_ := Aside0.mk (Kd.R_elder' (by (with_reducible repeat (first | apply Kd.R_alloc | apply Kd.R_drewN | apply Kd.R_drew)); exact HO107.out) (Kd.R_base ho43) hb); have n2_ := Aside0.mk (Kd.R_elder' (by (with_reducible repeat (first | apply Kd.R_alloc | apply Kd.R_drewN | apply Kd.R_drew)); exact HO111.out) (Kd.R_base ho43) hb); have n3_ := Aside0.mk (Kd.R_lower (Kd.R_new' (Kd.R_new' (Kd.R_new' ho43 (Kd.R_lt (by (with_reducible repeat (first | apply Kd.R_alloc | apply Kd.R_drewN | apply Kd.R_drew)); exact HO103.out))) (Kd.R_lt (by (with_reducible repeat (first | apply Kd.R_alloc | apply Kd.R_drewN | apply Kd.R_drew)); exact HO107.out))) (Kd.R_lt (by (with_reducible repeat (first | apply Kd.R_alloc | apply Kd.R_drewN | apply Kd.R_drew)); exact HO111.out))) (below_size (by repeat (first | (with_reducible first | exact HB.out | apply below_alloc | apply pw_below_drewN | apply below_drew1) | exact HB.out)))); have n4_ := Aside0.mk (below_step (by repeat (first | (with_reducible first | exact HB.out | apply below_alloc | apply pw_below_drewN | apply below_drew1) | exact HB.out)) hb); clear HO103; clear HO107; clear HO111; clear HB; have HO103 := n0_; have HO107 := n1_; have HO111 := n2_; have HO115 := n3_; have HB := n4_; clear n0_ n1_ n2_ n3_ n4_; clear hb ho43; obtain ⟨Ao44, co44, eo44⟩ := Kd.R_slice HO115.out; subst eo44) | ((with_reducible refine gate_callee (f := 116) rfl ?_); refine goesL_ (some 24) rfl rfl Try.func116 (by kernel_rfl) rfl #[.int .i64 a0, .slice Ao44 y113.length co44] rfl (by (try simp only [List.map_toArray, List.map_cons, List.map_nil]); first | done | rfl | (simp only [List.length_drop, List.length_take]; rfl)) ?_; (with_reducible refine (dactylref03_within.calls kj3 a0 _ _ y113 true _ ?side1 ?side2 A31.out).mono ?_); (case side1 => repeat (first | exact (Kd.R_reads' HO115.out).2.2 | (with_reducible refine Kd.C_alloc ?_ _) | (with_reducible refine Kd.C_drewN ?_ _) | (with_reducible refine Kd.C_drew ?_))); (case side2 => exact (Kd.R_reads' HO115.out).2.1); rintro e w' ⟨rfl, ⟨nd, rfl⟩⟩; refine ⟨_, rfl, ?_⟩))
                    go_ret
                    exact ⟨by first | rfl | (simp [errW_none, errW_some] <;> rfl) | (simp [*, errW_none, errW_some] <;> rfl), by repeat (first | (with_reducible first | exact HB.out | apply below_alloc | apply pw_below_drewN | apply below_drew1) | exact HB.out)⟩
                  · replace c32 := Bool.eq_false_iff.mpr c32
                    subst c32
                    have H1 : ((dactylref03_within.f kj3 a0 (([57344, 63743, 64976, 65007, 65520, 65528, 65534, 65535, 131070, 131071, 262142, 1114111] : List Int))).bind fun t120 => (if t120 = true then (some 11) else (some 0))) = some r := by rw [if_neg (show ¬ (false = true) by decide)] at H; exact H
                    clear H
                    have H := H1
                    clear H1
                    obtain ⟨y117, hy117⟩ : ∃ y_ : List Int, y_ = (([57344, 63743, 64976, 65007, 65520, 65528, 65534, 65535, 131070, 131071, 262142, 1114111] : List Int)) := ⟨_, rfl⟩
                    replace H : ((dactylref03_within.f kj3 a0 y117).bind fun t120 => (if t120 = true then (some 11) else (some 0))) = some r := by first | (rw [hy117]; with_reducible exact H) | (have H2_ := (Option.bind_some _ _).symm.trans H; rw [hy117]; with_reducible exact H2_) | (have H2_ := (Option.bind_some _ _).symm.trans H; with_reducible exact H2_) | with_reducible exact H | (rw [hy117]; exact H) | exact H
                    have Ny117 := Aside0.mk hy117
                    clear hy117
                    replace H := Option.bind_eq_some_iff.mp H
                    obtain ⟨t120, A450, H⟩ := H
                    replace H : (if t120 = true then (some 11) else (some 0)) = some r := H
                    have A45 := Aside0.mk A450
                    clear A450
                    by_cases c46 : t120 = true
                    · subst c46
                      have H1 : (some 11) = some r := by rw [if_pos rfl] at H; exact H
                      clear H
                      have H := H1
                      clear H1
                      obtain rfl := Option.some.inj H
                      go_wp2_with (first | ((with_reducible refine gate_dst (N := 14) rfl ?_); refine Kd.R_lit (Kd.int .i64) _ 3 ?hg (N := 14) ?hd (xs := ([160, 160, 5760, 5760, 8192, 8202, 8232, 8233, 8239, 8239, 8287, 8287, 12288, 12288] : List Int)) (inner := [.int .i64 160, .int .i64 160, .int .i64 5760, .int .i64 5760, .int .i64 8192, .int .i64 8202, .int .i64 8232, .int .i64 8233, .int .i64 8239, .int .i64 8239, .int .i64 8287, .int .i64 8287, .int .i64 12288, .int .i64 12288]) (ok := fun _ => True) (okp := fun _ => True) ?hr ?hp (fun _ hk => hk) trivial (Below.refl _ _) (Nat.le_refl _) (by simp) ?_; (case hd => rfl); (case hg => rfl); (case hr => first | (go_simp; done) | (go_simp; rfl)); (case hp => exact (Reps.one (show Kd.M (Kd.int .i64) _ _ _ 160 [.int .i64 160] from rfl) (Reps.one (show Kd.M (Kd.int .i64) _ _ _ 160 [.int .i64 160] from rfl) (Reps.one (show Kd.M (Kd.int .i64) _ _ _ 5760 [.int .i64 5760] from rfl) (Reps.one (show Kd.M (Kd.int .i64) _ _ _ 5760 [.int .i64 5760] from rfl) (Reps.one (show Kd.M (Kd.int .i64) _ _ _ 8192 [.int .i64 8192] from rfl) (Reps.one (show Kd.M (Kd.int .i64) _ _ _ 8202 [.int .i64 8202] from rfl) (Reps.one (show Kd.M (Kd.int .i64) _ _ _ 8232 [.int .i64 8232] from rfl) (Reps.one (show Kd.M (Kd.int .i64) _ _ _ 8233 [.int .i64 8233] from rfl) (Reps.one (show Kd.M (Kd.int .i64) _ _ _ 8239 [.int .i64 8239] from rfl) (Reps.one (show Kd.M (Kd.int .i64) _ _ _ 8239 [.int .i64 8239] from rfl) (Reps.one (show Kd.M (Kd.int .i64) _ _ _ 8287 [.int .i64 8287] from rfl) (Reps.one (show Kd.M (Kd.int .i64) _ _ _ 8287 [.int .i64 8287] from rfl) (Reps.one (show Kd.M (Kd.int .i64) _ _ _ 12288 [.int .i64 12288] from rfl) (Reps.one (show Kd.M (Kd.int .i64) _ _ _ 12288 [.int .i64 12288] from rfl) (Reps.none _ _)))))))))))))))); intro v102 w47 ho48 hb hg_ hnew_; clear hg_ hnew_; (first | rw [← Ny101.out] at ho48 | (simp only [Int.reduceToNat] at ho48; rw [← Ny101.out] at ho48)); have n0_ := Aside0.mk (Kd.R_lower ho48 (below_size (by repeat (first | (with_reducible first | exact HB.out | apply below_alloc | apply pw_below_drewN | apply below_drew1) | exact HB.out)))); have n1_ := Aside0.mk (below_step (by repeat (first | (with_reducible first | exact HB.out | apply below_alloc | apply pw_below_drewN | apply below_drew1) | exact HB.out)) hb); clear HB; have HO103 := n0_; have HB := n1_; clear n0_ n1_; clear hb ho48; obtain ⟨Ao49, co49, eo49⟩ := Kd.R_slice HO103.out; subst eo49) | ((with_reducible refine gate_callee (f := 116) rfl ?_); refine goesL_ (some 15) rfl rfl Try.func116 (by kernel_rfl) rfl #[.int .i64 a0, .slice Ao49 y101.length co49] rfl (by (try simp only [List.map_toArray, List.map_cons, List.map_nil]); first | done | rfl | (simp only [List.length_drop, List.length_take]; rfl)) ?_; (with_reducible refine (dactylref03_within.calls kj3 a0 _ _ y101 false _ ?side1 ?side2 A7.out).mono ?_); (case side1 => repeat (first | exact (Kd.R_reads' HO103.out).2.2 | (with_reducible refine Kd.C_alloc ?_ _) | (with_reducible refine Kd.C_drewN ?_ _) | (with_reducible refine Kd.C_drew ?_))); (case side2 => exact (Kd.R_reads' HO103.out).2.1); rintro e w' ⟨rfl, ⟨nd, rfl⟩⟩; refine ⟨_, rfl, ?_⟩) | ((with_reducible refine gate_dst (N := 17) rfl ?_); refine Kd.R_lit (Kd.int .i64) _ 3 ?hg (N := 17) ?hd (xs := ([173, 173, 6155, 6158, 8203, 8205, 8288, 8292, 65279, 65279, 65529, 65531] : List Int)) (inner := [.int .i64 173, .int .i64 173, .int .i64 6155, .int .i64 6158, .int .i64 8203, .int .i64 8205, .int .i64 8288, .int .i64 8292, .int .i64 65279, .int .i64 65279, .int .i64 65529, .int .i64 65531]) (ok := fun _ => True) (okp := fun _ => True) ?hr ?hp (fun _ hk => hk) trivial (Below.refl _ _) (Nat.le_refl _) (by simp) ?_; (case hd => rfl); (case hg => rfl); (case hr => first | (go_simp; done) | (go_simp; rfl)); (case hp => exact (Reps.one (show Kd.M (Kd.int .i64) _ _ _ 173 [.int .i64 173] from rfl) (Reps.one (show Kd.M (Kd.int .i64) _ _ _ 173 [.int .i64 173] from rfl) (Reps.one (show Kd.M (Kd.int .i64) _ _ _ 6155 [.int .i64 6155] from rfl) (Reps.one (show Kd.M (Kd.int .i64) _ _ _ 6158 [.int .i64 6158] from rfl) (Reps.one (show Kd.M (Kd.int .i64) _ _ _ 8203 [.int .i64 8203] from rfl) (Reps.one (show Kd.M (Kd.int .i64) _ _ _ 8205 [.int .i64 8205] from rfl) (Reps.one (show Kd.M (Kd.int .i64) _ _ _ 8288 [.int .i64 8288] from rfl) (Reps.one (show Kd.M (Kd.int .i64) _ _ _ 8292 [.int .i64 8292] from rfl) (Reps.one (show Kd.M (Kd.int .i64) _ _ _ 65279 [.int .i64 65279] from rfl) (Reps.one (show Kd.M (Kd.int .i64) _ _ _ 65279 [.int .i64 65279] from rfl) (Reps.one (show Kd.M (Kd.int .i64) _ _ _ 65529 [.int .i64 65529] from rfl) (Reps.one (show Kd.M (Kd.int .i64) _ _ _ 65531 [.int .i64 65531] from rfl) (Reps.none _ _)))))))))))))); intro v106 w50 ho51 hb hg_ hnew_; clear hg_ hnew_; (first | rw [← Ny105.out] at ho51 | (simp only [Int.reduceToNat] at ho51; rw [← Ny105.out] at ho51)); have n0_ := Aside0.mk (Kd.R_elder' (by (with_reducible repeat (first | apply Kd.R_alloc | apply Kd.R_drewN | apply Kd.R_drew)); exact HO103.out) (Kd.R_base ho51) hb); have n1_ := Aside0.mk (Kd.R_lower (Kd.R_new' ho51 (Kd.R_lt (by (with_reducible repeat (first | apply Kd.R_alloc | apply Kd.R_drewN | apply Kd.R_drew)); exact HO103.out))) (below_size (by repeat (first | (with_reducible first | exact HB.out | apply below_alloc | apply pw_below_drewN | apply below_drew1) | exact HB.out)))); have n2_ := Aside0.mk (below_step (by repeat (first | (with_reducible first | exact HB.out | apply below_alloc | apply pw_below_drewN | apply below_drew1) | exact HB.out)) hb); clear HO103; clear HB; have HO103 := n0_; have HO107 := n1_; have HB := n2_; clear n0_ n1_ n2_; clear hb ho51; obtain ⟨Ao52, co52, eo52⟩ := Kd.R_slice HO107.out; subst eo52) | ((with_reducible refine gate_callee (f := 116) rfl ?_); refine goesL_ (some 18) rfl rfl Try.func116 (by kernel_rfl) rfl #[.int .i64 a0, .slice Ao52 y105.length co52] rfl (by (try simp only [List.map_toArray, List.map_cons, List.map_nil]); first | done | rfl | (simp only [List.length_drop, List.length_take]; rfl)) ?_; (with_reducible refine (dactylref03_within.calls kj3 a0 _ _ y105 false _ ?side1 ?side2 A12.out).mono ?_); (case side1 => repeat (first | exact (Kd.R_reads' HO107.out).2.2 | (with_reducible refine Kd.C_alloc ?_ _) | (with_reducible refine Kd.C_drewN ?_ _) | (with_reducible refine Kd.C_drew ?_))); (case side2 => exact (Kd.R_reads' HO107.out).2.1); rintro e w' ⟨rfl, ⟨nd, rfl⟩⟩; refine ⟨_, rfl, ?_⟩) | ((with_reducible refine gate_dst (N := 20) rfl ?_); refine Kd.R_lit (Kd.int .i64) _ 3 ?hg (N := 20) ?hd (xs := ([1564, 1564, 8206, 8207, 8234, 8238, 8294, 8297] : List Int)) (inner := [.int .i64 1564, .int .i64 1564, .int .i64 8206, .int .i64 8207, .int .i64 8234, .int .i64 8238, .int .i64 8294, .int .i64 8297]) (ok := fun _ => True) (okp := fun _ => True) ?hr ?hp (fun _ hk => hk) trivial (Below.refl _ _) (Nat.le_refl _) (by simp) ?_; (case hd => rfl); (case hg => rfl); (case hr => first | (go_simp; done) | (go_simp; rfl)); (case hp => exact (Reps.one (show Kd.M (Kd.int .i64) _ _ _ 1564 [.int .i64 1564] from rfl) (Reps.one (show Kd.M (Kd.int .i64) _ _ _ 1564 [.int .i64 1564] from rfl) (Reps.one (show Kd.M (Kd.int .i64) _ _ _ 8206 [.int .i64 8206] from rfl) (Reps.one (show Kd.M (Kd.int .i64) _ _ _ 8207 [.int .i64 8207] from rfl) (Reps.one (show Kd.M (Kd.int .i64) _ _ _ 8234 [.int .i64 8234] from rfl) (Reps.one (show Kd.M (Kd.int .i64) _ _ _ 8238 [.int .i64 8238] from rfl) (Reps.one (show Kd.M (Kd.int .i64) _ _ _ 8294 [.int .i64 8294] from rfl) (Reps.one (show Kd.M (Kd.int .i64) _ _ _ 8297 [.int .i64 8297] from rfl) (Reps.none _ _)))))))))); intro v110 w53 ho54 hb hg_ hnew_; clear hg_ hnew_; (first | rw [← Ny109.out] at ho54 | (simp only [Int.reduceToNat] at ho54; rw [← Ny109.out] at ho54)); have n0_ := Aside0.mk (Kd.R_elder' (by (with_reducible repeat (first | apply Kd.R_alloc | apply Kd.R_drewN | apply Kd.R_drew)); exact HO103.out) (Kd.R_base ho54) hb); have n1_ := Aside0.mk (Kd.R_elder' (by (with_reducible repeat (first | apply Kd.R_alloc | apply Kd.R_drewN | apply Kd.R_drew)); exact HO107.out) (Kd.R_base ho54) hb); have n2_ := Aside0.mk (Kd.R_lower (Kd.R_new' (Kd.R_new' ho54 (Kd.R_lt (by (with_reducible repeat (first | apply Kd.R_alloc | apply Kd.R_drewN | apply Kd.R_drew)); exact HO103.out))) (Kd.R_lt (by (with_reducible repeat (first | apply Kd.R_alloc | apply Kd.R_drewN | apply Kd.R_drew)); exact HO107.out))) (below_size (by repeat (first | (with_reducible first | exact HB.out | apply below_alloc | apply pw_below_drewN | apply below_drew1) | exact HB.out)))); have n3_ := Aside0.mk (below_step (by repeat (first | (with_reducible first | exact HB.out | apply below_alloc | apply pw_below_drewN | apply below_drew1) | exact HB.out)) hb); clear HO103; clear HO107; clear HB; have HO103 := n0_; have HO107 := n1_; have HO111 := n2_; have HB := n3_; clear n0_ n1_ n2_ n3_; clear hb ho54; obtain ⟨Ao55, co55, eo55⟩ := Kd.R_slice HO111.out; subst eo55) | ((with_reducible refine gate_callee (f := 116) rfl ?_); refine goesL_ (some 21) rfl rfl Try.func116 (by kernel_rfl) rfl #[.int .i64 a0, .slice Ao55 y109.length co55] rfl (by (try simp only [List.map_toArray, List.map_cons, List.map_nil]); first | done | rfl | (simp only [List.length_drop, List.length_take]; rfl)) ?_; (with_reducible refine (dactylref03_within.calls kj3 a0 _ _ y109 false _ ?side1 ?side2 A20.out).mono ?_); (case side1 => repeat (first | exact (Kd.R_reads' HO111.out).2.2 | (with_reducible refine Kd.C_alloc ?_ _) | (with_reducible refine Kd.C_drewN ?_ _) | (with_reducible refine Kd.C_drew ?_))); (case side2 => exact (Kd.R_reads' HO111.out).2.1); rintro e w' ⟨rfl, ⟨nd, rfl⟩⟩; refine ⟨_, rfl, ?_⟩) | ((with_reducible refine gate_dst (N := 23) rfl ?_); refine Kd.R_lit (Kd.int .i64) _ 3 ?hg (N := 23) ?hd (xs := ([768, 879, 1155, 1161, 1425, 1469, 1552, 1562, 1611, 1631, 1750, 1756, 6832, 6862, 7616, 7679, 8400, 8432, 12330, 12335, 12441, 12442, 65024, 65039, 65056, 65071] : List Int)) (inner := [.int .i64 768, .int .i64 879, .int .i64 1155, .int .i64 1161, .int .i64 1425, .int .i64 1469, .int .i64 1552, .int .i64 1562, .int .i64 1611, .int .i64 1631, .int .i64 1750, .int .i64 1756, .int .i64 6832, .int .i64 6862, .int .i64 7616, .int .i64 7679, .int .i64 8400, .int .i64 8432, .int .i64 12330, .int .i64 12335, .int .i64 12441, .int .i64 12442, .int .i64 65024, .int .i64 65039, .int .i64 65056, .int .i64 65071]) (ok := fun _ => True) (okp := fun _ => True) ?hr ?hp (fun _ hk => hk) trivial (Below.refl _ _) (Nat.le_refl _) (by simp) ?_; (case hd => rfl); (case hg => rfl); (case hr => first | (go_simp; done) | (go_simp; rfl)); (case hp => exact (Reps.one (show Kd.M (Kd.int .i64) _ _ _ 768 [.int .i64 768] from rfl) (Reps.one (show Kd.M (Kd.int .i64) _ _ _ 879 [.int .i64 879] from rfl) (Reps.one (show Kd.M (Kd.int .i64) _ _ _ 1155 [.int .i64 1155] from rfl) (Reps.one (show Kd.M (Kd.int .i64) _ _ _ 1161 [.int .i64 1161] from rfl) (Reps.one (show Kd.M (Kd.int .i64) _ _ _ 1425 [.int .i64 1425] from rfl) (Reps.one (show Kd.M (Kd.int .i64) _ _ _ 1469 [.int .i64 1469] from rfl) (Reps.one (show Kd.M (Kd.int .i64) _ _ _ 1552 [.int .i64 1552] from rfl) (Reps.one (show Kd.M (Kd.int .i64) _ _ _ 1562 [.int .i64 1562] from rfl) (Reps.one (show Kd.M (Kd.int .i64) _ _ _ 1611 [.int .i64 1611] from rfl) (Reps.one (show Kd.M (Kd.int .i64) _ _ _ 1631 [.int .i64 1631] from rfl) (Reps.one (show Kd.M (Kd.int .i64) _ _ _ 1750 [.int .i64 1750] from rfl) (Reps.one (show Kd.M (Kd.int .i64) _ _ _ 1756 [.int .i64 1756] from rfl) (Reps.one (show Kd.M (Kd.int .i64) _ _ _ 6832 [.int .i64 6832] from rfl) (Reps.one (show Kd.M (Kd.int .i64) _ _ _ 6862 [.int .i64 6862] from rfl) (Reps.one (show Kd.M (Kd.int .i64) _ _ _ 7616 [.int .i64 7616] from rfl) (Reps.one (show Kd.M (Kd.int .i64) _ _ _ 7679 [.int .i64 7679] from rfl) (Reps.one (show Kd.M (Kd.int .i64) _ _ _ 8400 [.int .i64 8400] from rfl) (Reps.one (show Kd.M (Kd.int .i64) _ _ _ 8432 [.int .i64 8432] from rfl) (Reps.one (show Kd.M (Kd.int .i64) _ _ _ 12330 [.int .i64 12330] from rfl) (Reps.one (show Kd.M (Kd.int .i64) _ _ _ 12335 [.int .i64 12335] from rfl) (Reps.one (show Kd.M (Kd.int .i64) _ _ _ 12441 [.int .i64 12441] from rfl) (Reps.one (show Kd.M (Kd.int .i64) _ _ _ 12442 [.int .i64 12442] from rfl) (Reps.one (show Kd.M (Kd.int .i64) _ _ _ 65024 [.int .i64 65024] from rfl) (Reps.one (show Kd.M (Kd.int .i64) _ _ _ 65039 [.int .i64 65039] from rfl) (Reps.one (show Kd.M (Kd.int .i64) _ _ _ 65056 [.int .i64 65056] from rfl) (Reps.one (show Kd.M (Kd.int .i64) _ _ _ 65071 [.int .i64 65071] from rfl) (Reps.none _ _)))))))))))))))))))))))))))); intro v114 w56 ho57 hb hg_ hnew_; clear hg_ hnew_; (first | rw [← Ny113.out] at ho57 | (simp only [Int.reduceToNat] at ho57; rw [← Ny113.out] at ho57)); have n0_ := Aside0.mk (Kd.R_elder' (by (with_reducible repeat (first | apply Kd.R_alloc | apply Kd.R_drewN | apply Kd.R_drew)); exact HO103.out) (Kd.R_base ho57) hb); have n1_ := Aside0.mk (Kd.R_elder' (by (with_reducible repeat (first | apply Kd.R_alloc | apply Kd.R_drewN | apply Kd.R_drew)); exact HO107.out) (Kd.R_base ho57) hb); have n2_ := Aside0.mk (Kd.R_elder' (by (with_reducible repeat (first | apply Kd.R_alloc | apply Kd.R_drewN | apply Kd.R_drew)); exact HO111.out) (Kd.R_base ho57) hb); have n3_ := Aside0.mk (Kd.R_lower (Kd.R_new' (Kd.R_new' (Kd.R_new' ho57 (Kd.R_lt (by (with_reducible repeat (first | apply Kd.R_alloc | apply Kd.R_drewN | apply Kd.R_drew)); exact HO103.out))) (Kd.R_lt (by (with_reducible repeat (first | apply Kd.R_alloc | apply Kd.R_drewN | apply Kd.R_drew)); exact HO107.out))) (Kd.R_lt (by (with_reducible repeat (first | apply Kd.R_alloc | apply Kd.R_drewN | apply Kd.R_drew)); exact HO111.out))) (below_size (by repeat (first | (with_reducible first | exact HB.out | apply below_alloc | apply pw_below_drewN | apply below_drew1) | exact HB.out)))); have n4_ := Aside0.mk (below_step (by repeat (first | (with_reducible first | exact HB.out | apply below_alloc | apply pw_below_drewN | apply below_drew1) | exact HB.out)) hb); clear HO103; clear HO107; clear HO111; clear HB; have HO103 := n0_; have HO107 := n1_; have HO111 := n2_; have HO115 := n3_; have HB := n4_; clear n0_ n1_ n2_ n3_ n4_; clear hb ho57; obtain ⟨Ao58, co58, eo58⟩ := Kd.R_slice HO115.out; subst eo58) | ((with_reducible refine gate_callee (f := 116) rfl ?_); refine goesL_ (some 24) rfl rfl Try.func116 (by kernel_rfl) rfl #[.int .i64 a0, .slice Ao58 y113.length co58] rfl (by (try simp only [List.map_toArray, List.map_cons, List.map_nil]); first | done | rfl | (simp only [List.length_drop, List.length_take]; rfl)) ?_; (with_reducible refine (dactylref03_within.calls kj3 a0 _ _ y113 false _ ?side1 ?side2 A31.out).mono ?_); (case side1 => repeat (first | exact (Kd.R_reads' HO115.out).2.2 | (with_reducible refine Kd.C_alloc ?_ _) | (with_reducible refine Kd.C_drewN ?_ _) | (with_reducible refine Kd.C_drew ?_))); (case side2 => exact (Kd.R_reads' HO115.out).2.1); rintro e w' ⟨rfl, ⟨nd, rfl⟩⟩; refine ⟨_, rfl, ?_⟩) | ((with_reducible refine gate_dst (N := 26) rfl ?_); refine Kd.R_lit (Kd.int .i64) _ 3 ?hg (N := 26) ?hd (xs := ([57344, 63743, 64976, 65007, 65520, 65528, 65534, 65535, 131070, 131071, 262142, 1114111] : List Int)) (inner := [.int .i64 57344, .int .i64 63743, .int .i64 64976, .int .i64 65007, .int .i64 65520, .int .i64 65528, .int .i64 65534, .int .i64 65535, .int .i64 131070, .int .i64 131071, .int .i64 262142, .int .i64 1114111]) (ok := fun _ => True) (okp := fun _ => True) ?hr ?hp (fun _ hk => hk) trivial (Below.refl _ _) (Nat.le_refl _) (by simp) ?_; (case hd => rfl); (case hg => rfl); (case hr => first | (go_simp; done) | (go_simp; rfl)); (case hp => exact (Reps.one (show Kd.M (Kd.int .i64) _ _ _ 57344 [.int .i64 57344] from rfl) (Reps.one (show Kd.M (Kd.int .i64) _ _ _ 63743 [.int .i64 63743] from rfl) (Reps.one (show Kd.M (Kd.int .i64) _ _ _ 64976 [.int .i64 64976] from rfl) (Reps.one (show Kd.M (Kd.int .i64) _ _ _ 65007 [.int .i64 65007] from rfl) (Reps.one (show Kd.M (Kd.int .i64) _ _ _ 65520 [.int .i64 65520] from rfl) (Reps.one (show Kd.M (Kd.int .i64) _ _ _ 65528 [.int .i64 65528] from rfl) (Reps.one (show Kd.M (Kd.int .i64) _ _ _ 65534 [.int .i64 65534] from rfl) (Reps.one (show Kd.M (Kd.int .i64) _ _ _ 65535 [.int .i64 65535] from rfl) (Reps.one (show Kd.M (Kd.int .i64) _ _ _ 131070 [.int .i64 131070] from rfl) (Reps.one (show Kd.M (Kd.int .i64) _ _ _ 131071 [.int .i64 131071] from rfl) (Reps.one (show Kd.M (Kd.int .i64) _ _ _ 262142 [.int .i64 262142] from rfl) (Reps.one (show Kd.M (Kd.int .i64) _ _ _ 1114111 [.int .i64 1114111] from rfl) (Reps.none _ _)))))))))))))); intro v118 w59 ho60 hb hg_ hnew_; clear hg_ hnew_; (first | rw [← Ny117.out] at ho60 | (simp only [Int.reduceToNat] at ho60; rw [← Ny117.out] at ho60)); have n0_ := Aside0.mk (Kd.R_elder' (by (with_reducible repeat (first | apply Kd.R_alloc | apply Kd.R_drewN | apply Kd.R_drew)); exact HO103.out) (Kd.R_base ho60) hb); have n1_ := Aside0.mk (Kd.R_elder' (by (with_reducible repeat (first | apply Kd.R_alloc | apply Kd.R_drewN | apply Kd.R_drew)); exact HO107.out) (Kd.R_base ho60) hb); have n2_ := Aside0.mk (Kd.R_elder' (by (with_reducible repeat (first | apply Kd.R_alloc | apply Kd.R_drewN | apply Kd.R_drew)); exact HO111.out) (Kd.R_base ho60) hb); have n3_ := Aside0.mk (Kd.R_elder' (by (with_reducible repeat (first | apply Kd.R_alloc | apply Kd.R_drewN | apply Kd.R_drew)); exact HO115.out) (Kd.R_base ho60) hb); have n4_ := Aside0.mk (Kd.R_lower (Kd.R_new' (Kd.R_new' (Kd.R_new' (Kd.R_new' ho60 (Kd.R_lt (by (with_reducible repeat (first | apply Kd.R_alloc | apply Kd.R_drewN | apply Kd.R_drew)); exact HO103.out))) (Kd.R_lt (by (with_reducible repeat (first | apply Kd.R_alloc | apply Kd.R_drewN | apply Kd.R_drew)); exact HO107.out))) (Kd.R_lt (by (with_reducible repeat (first | apply Kd.R_alloc | apply Kd.R_drewN | apply Kd.R_drew)); exact HO111.out))) (Kd.R_lt (by (with_reducible repeat (first | apply Kd.R_alloc | apply Kd.R_drewN | apply Kd.R_drew)); exact HO115.out))) (below_size (by repeat (first | (with_reducible first | exact HB.out | apply below_alloc | apply pw_below_drewN | apply below_drew1) | exact HB.out)))); have n5_ := Aside0.mk (below_step (by repeat (first | (with_reducible first | exact HB.out | apply below_alloc | apply pw_below_drewN | apply below_drew1) | exact HB.out)) hb); clear HO103; clear HO107; clear HO111; clear HO115; clear HB; have HO103 := n0_; have HO107 := n1_; have HO111 := n2_; have HO115 := n3_; have HO119 := n4_; have HB := n5_; clear n0_ n1_ n2_ n3_ n4_ n5_; clear hb ho60; obtain ⟨Ao61, co61, eo61⟩ := Kd.R_slice HO119.out; subst eo61) | ((with_reducible refine gate_callee (f := 116) rfl ?_); refine goesL_ (some 27) rfl rfl Try.func116 (by kernel_rfl) rfl #[.int .i64 a0, .slice Ao61 y117.length co61] rfl (by (try simp only [List.map_toArray, List.map_cons, List.map_nil]); first | done | rfl | (simp only [List.length_drop, List.length_take]; rfl)) ?_; (with_reducible refine (dactylref03_within.calls kj3 a0 _ _ y117 true _ ?side1 ?side2 A45.out).mono ?_); (case side1 => repeat (first | exact (Kd.R_reads' HO119.out).2.2 | (with_reducible refine Kd.C_alloc ?_ _) | (with_reducible refine Kd.C_drewN ?_ _) | (with_reducible refine Kd.C_drew ?_))); (case side2 => exact (Kd.R_reads' HO119.out).2.1); rintro e w' ⟨rfl, ⟨nd, rfl⟩⟩; refine ⟨_, rfl, ?_⟩))
                      go_ret
                      exact ⟨by first | rfl | (simp [errW_none, errW_some] <;> rfl) | (simp [*, errW_none, errW_some] <;> rfl), by repeat (first | (with_reducible first | exact HB.out | apply below_alloc | apply pw_below_drewN | apply below_drew1) | exact HB.out)⟩
                    · replace c46 := Bool.eq_false_iff.mpr c46
                      subst c46
                      have H1 : (some 0) = some r := by rw [if_neg (show ¬ (false = true) by decide)] at H; exact H
                      clear H
                      have H := H1
                      clear H1
                      obtain rfl := Option.some.inj H
                      go_wp2_with (first | ((with_reducible refine gate_dst (N := 14) rfl ?_); refine Kd.R_lit (Kd.int .i64) _ 3 ?hg (N := 14) ?hd (xs := ([160, 160, 5760, 5760, 8192, 8202, 8232, 8233, 8239, 8239, 8287, 8287, 12288, 12288] : List Int)) (inner := [.int .i64 160, .int .i64 160, .int .i64 5760, .int .i64 5760, .int .i64 8192, .int .i64 8202, .int .i64 8232, .int .i64 8233, .int .i64 8239, .int .i64 8239, .int .i64 8287, .int .i64 8287, .int .i64 12288, .int .i64 12288]) (ok := fun _ => True) (okp := fun _ => True) ?hr ?hp (fun _ hk => hk) trivial (Below.refl _ _) (Nat.le_refl _) (by simp) ?_; (case hd => rfl); (case hg => rfl); (case hr => first | (go_simp; done) | (go_simp; rfl)); (case hp => exact (Reps.one (show Kd.M (Kd.int .i64) _ _ _ 160 [.int .i64 160] from rfl) (Reps.one (show Kd.M (Kd.int .i64) _ _ _ 160 [.int .i64 160] from rfl) (Reps.one (show Kd.M (Kd.int .i64) _ _ _ 5760 [.int .i64 5760] from rfl) (Reps.one (show Kd.M (Kd.int .i64) _ _ _ 5760 [.int .i64 5760] from rfl) (Reps.one (show Kd.M (Kd.int .i64) _ _ _ 8192 [.int .i64 8192] from rfl) (Reps.one (show Kd.M (Kd.int .i64) _ _ _ 8202 [.int .i64 8202] from rfl) (Reps.one (show Kd.M (Kd.int .i64) _ _ _ 8232 [.int .i64 8232] from rfl) (Reps.one (show Kd.M (Kd.int .i64) _ _ _ 8233 [.int .i64 8233] from rfl) (Reps.one (show Kd.M (Kd.int .i64) _ _ _ 8239 [.int .i64 8239] from rfl) (Reps.one (show Kd.M (Kd.int .i64) _ _ _ 8239 [.int .i64 8239] from rfl) (Reps.one (show Kd.M (Kd.int .i64) _ _ _ 8287 [.int .i64 8287] from rfl) (Reps.one (show Kd.M (Kd.int .i64) _ _ _ 8287 [.int .i64 8287] from rfl) (Reps.one (show Kd.M (Kd.int .i64) _ _ _ 12288 [.int .i64 12288] from rfl) (Reps.one (show Kd.M (Kd.int .i64) _ _ _ 12288 [.int .i64 12288] from rfl) (Reps.none _ _)))))))))))))))); intro v102 w62 ho63 hb hg_ hnew_; clear hg_ hnew_; (first | rw [← Ny101.out] at ho63 | (simp only [Int.reduceToNat] at ho63; rw [← Ny101.out] at ho63)); have n0_ := Aside0.mk (Kd.R_lower ho63 (below_size (by repeat (first | (with_reducible first | exact HB.out | apply below_alloc | apply pw_below_drewN | apply below_drew1) | exact HB.out)))); have n1_ := Aside0.mk (below_step (by repeat (first | (with_reducible first | exact HB.out | apply below_alloc | apply pw_below_drewN | apply below_drew1) | exact HB.out)) hb); clear HB; have HO103 := n0_; have HB := n1_; clear n0_ n1_; clear hb ho63; obtain ⟨Ao64, co64, eo64⟩ := Kd.R_slice HO103.out; subst eo64) | ((with_reducible refine gate_callee (f := 116) rfl ?_); refine goesL_ (some 15) rfl rfl Try.func116 (by kernel_rfl) rfl #[.int .i64 a0, .slice Ao64 y101.length co64] rfl (by (try simp only [List.map_toArray, List.map_cons, List.map_nil]); first | done | rfl | (simp only [List.length_drop, List.length_take]; rfl)) ?_; (with_reducible refine (dactylref03_within.calls kj3 a0 _ _ y101 false _ ?side1 ?side2 A7.out).mono ?_); (case side1 => repeat (first | exact (Kd.R_reads' HO103.out).2.2 | (with_reducible refine Kd.C_alloc ?_ _) | (with_reducible refine Kd.C_drewN ?_ _) | (with_reducible refine Kd.C_drew ?_))); (case side2 => exact (Kd.R_reads' HO103.out).2.1); rintro e w' ⟨rfl, ⟨nd, rfl⟩⟩; refine ⟨_, rfl, ?_⟩) | ((with_reducible refine gate_dst (N := 17) rfl ?_); refine Kd.R_lit (Kd.int .i64) _ 3 ?hg (N := 17) ?hd (xs := ([173, 173, 6155, 6158, 8203, 8205, 8288, 8292, 65279, 65279, 65529, 65531] : List Int)) (inner := [.int .i64 173, .int .i64 173, .int .i64 6155, .int .i64 6158, .int .i64 8203, .int .i64 8205, .int .i64 8288, .int .i64 8292, .int .i64 65279, .int .i64 65279, .int .i64 65529, .int .i64 65531]) (ok := fun _ => True) (okp := fun _ => True) ?hr ?hp (fun _ hk => hk) trivial (Below.refl _ _) (Nat.le_refl _) (by simp) ?_; (case hd => rfl); (case hg => rfl); (case hr => first | (go_simp; done) | (go_simp; rfl)); (case hp => exact (Reps.one (show Kd.M (Kd.int .i64) _ _ _ 173 [.int .i64 173] from rfl) (Reps.one (show Kd.M (Kd.int .i64) _ _ _ 173 [.int .i64 173] from rfl) (Reps.one (show Kd.M (Kd.int .i64) _ _ _ 6155 [.int .i64 6155] from rfl) (Reps.one (show Kd.M (Kd.int .i64) _ _ _ 6158 [.int .i64 6158] from rfl) (Reps.one (show Kd.M (Kd.int .i64) _ _ _ 8203 [.int .i64 8203] from rfl) (Reps.one (show Kd.M (Kd.int .i64) _ _ _ 8205 [.int .i64 8205] from rfl) (Reps.one (show Kd.M (Kd.int .i64) _ _ _ 8288 [.int .i64 8288] from rfl) (Reps.one (show Kd.M (Kd.int .i64) _ _ _ 8292 [.int .i64 8292] from rfl) (Reps.one (show Kd.M (Kd.int .i64) _ _ _ 65279 [.int .i64 65279] from rfl) (Reps.one (show Kd.M (Kd.int .i64) _ _ _ 65279 [.int .i64 65279] from rfl) (Reps.one (show Kd.M (Kd.int .i64) _ _ _ 65529 [.int .i64 65529] from rfl) (Reps.one (show Kd.M (Kd.int .i64) _ _ _ 65531 [.int .i64 65531] from rfl) (Reps.none _ _)))))))))))))); intro v106 w65 ho66 hb hg_ hnew_; clear hg_ hnew_; (first | rw [← Ny105.out] at ho66 | (simp only [Int.reduceToNat] at ho66; rw [← Ny105.out] at ho66)); have n0_ := Aside0.mk (Kd.R_elder' (by (with_reducible repeat (first | apply Kd.R_alloc | apply Kd.R_drewN | apply Kd.R_drew)); exact HO103.out) (Kd.R_base ho66) hb); have n1_ := Aside0.mk (Kd.R_lower (Kd.R_new' ho66 (Kd.R_lt (by (with_reducible repeat (first | apply Kd.R_alloc | apply Kd.R_drewN | apply Kd.R_drew)); exact HO103.out))) (below_size (by repeat (first | (with_reducible first | exact HB.out | apply below_alloc | apply pw_below_drewN | apply below_drew1) | exact HB.out)))); have n2_ := Aside0.mk (below_step (by repeat (first | (with_reducible first | exact HB.out | apply below_alloc | apply pw_below_drewN | apply below_drew1) | exact HB.out)) hb); clear HO103; clear HB; have HO103 := n0_; have HO107 := n1_; have HB := n2_; clear n0_ n1_ n2_; clear hb ho66; obtain ⟨Ao67, co67, eo67⟩ := Kd.R_slice HO107.out; subst eo67) | ((with_reducible refine gate_callee (f := 116) rfl ?_); refine goesL_ (some 18) rfl rfl Try.func116 (by kernel_rfl) rfl #[.int .i64 a0, .slice Ao67 y105.length co67] rfl (by (try simp only [List.map_toArray, List.map_cons, List.map_nil]); first | done | rfl | (simp only [List.length_drop, List.length_take]; rfl)) ?_; (with_reducible refine (dactylref03_within.calls kj3 a0 _ _ y105 false _ ?side1 ?side2 A12.out).mono ?_); (case side1 => repeat (first | exact (Kd.R_reads' HO107.out).2.2 | (with_reducible refine Kd.C_alloc ?_ _) | (with_reducible refine Kd.C_drewN ?_ _) | (with_reducible refine Kd.C_drew ?_))); (case side2 => exact (Kd.R_reads' HO107.out).2.1); rintro e w' ⟨rfl, ⟨nd, rfl⟩⟩; refine ⟨_, rfl, ?_⟩) | ((with_reducible refine gate_dst (N := 20) rfl ?_); refine Kd.R_lit (Kd.int .i64) _ 3 ?hg (N := 20) ?hd (xs := ([1564, 1564, 8206, 8207, 8234, 8238, 8294, 8297] : List Int)) (inner := [.int .i64 1564, .int .i64 1564, .int .i64 8206, .int .i64 8207, .int .i64 8234, .int .i64 8238, .int .i64 8294, .int .i64 8297]) (ok := fun _ => True) (okp := fun _ => True) ?hr ?hp (fun _ hk => hk) trivial (Below.refl _ _) (Nat.le_refl _) (by simp) ?_; (case hd => rfl); (case hg => rfl); (case hr => first | (go_simp; done) | (go_simp; rfl)); (case hp => exact (Reps.one (show Kd.M (Kd.int .i64) _ _ _ 1564 [.int .i64 1564] from rfl) (Reps.one (show Kd.M (Kd.int .i64) _ _ _ 1564 [.int .i64 1564] from rfl) (Reps.one (show Kd.M (Kd.int .i64) _ _ _ 8206 [.int .i64 8206] from rfl) (Reps.one (show Kd.M (Kd.int .i64) _ _ _ 8207 [.int .i64 8207] from rfl) (Reps.one (show Kd.M (Kd.int .i64) _ _ _ 8234 [.int .i64 8234] from rfl) (Reps.one (show Kd.M (Kd.int .i64) _ _ _ 8238 [.int .i64 8238] from rfl) (Reps.one (show Kd.M (Kd.int .i64) _ _ _ 8294 [.int .i64 8294] from rfl) (Reps.one (show Kd.M (Kd.int .i64) _ _ _ 8297 [.int .i64 8297] from rfl) (Reps.none _ _)))))))))); intro v110 w68 ho69 hb hg_ hnew_; clear hg_ hnew_; (first | rw [← Ny109.out] at ho69 | (simp only [Int.reduceToNat] at ho69; rw [← Ny109.out] at ho69)); have n0_ := Aside0.mk (Kd.R_elder' (by (with_reducible repeat (first | apply Kd.R_alloc | apply Kd.R_drewN | apply Kd.R_drew)); exact HO103.out) (Kd.R_base ho69) hb); have n1_ := Aside0.mk (Kd.R_elder' (by (with_reducible repeat (first | apply Kd.R_alloc | apply Kd.R_drewN | apply Kd.R_drew)); exact HO107.out) (Kd.R_base ho69) hb); have n2_ := Aside0.mk (Kd.R_lower (Kd.R_new' (Kd.R_new' ho69 (Kd.R_lt (by (with_reducible repeat (first | apply Kd.R_alloc | apply Kd.R_drewN | apply Kd.R_drew)); exact HO103.out))) (Kd.R_lt (by (with_reducible repeat (first | apply Kd.R_alloc | apply Kd.R_drewN | apply Kd.R_drew)); exact HO107.out))) (below_size (by repeat (first | (with_reducible first | exact HB.out | apply below_alloc | apply pw_below_drewN | apply below_drew1) | exact HB.out)))); have n3_ := Aside0.mk (below_step (by repeat (first | (with_reducible first | exact HB.out | apply below_alloc | apply pw_below_drewN | apply below_drew1) | exact HB.out)) hb); clear HO103; clear HO107; clear HB; have HO103 := n0_; have HO107 := n1_; have HO111 := n2_; have HB := n3_; clear n0_ n1_ n2_ n3_; clear hb ho69; obtain ⟨Ao70, co70, eo70⟩ := Kd.R_slice HO111.out; subst eo70) | ((with_reducible refine gate_callee (f := 116) rfl ?_); refine goesL_ (some 21) rfl rfl Try.func116 (by kernel_rfl) rfl #[.int .i64 a0, .slice Ao70 y109.length co70] rfl (by (try simp only [List.map_toArray, List.map_cons, List.map_nil]); first | done | rfl | (simp only [List.length_drop, List.length_take]; rfl)) ?_; (with_reducible refine (dactylref03_within.calls kj3 a0 _ _ y109 false _ ?side1 ?side2 A20.out).mono ?_); (case side1 => repeat (first | exact (Kd.R_reads' HO111.out).2.2 | (with_reducible refine Kd.C_alloc ?_ _) | (with_reducible refine Kd.C_drewN ?_ _) | (with_reducible refine Kd.C_drew ?_))); (case side2 => exact (Kd.R_reads' HO111.out).2.1); rintro e w' ⟨rfl, ⟨nd, rfl⟩⟩; refine ⟨_, rfl, ?_⟩) | ((with_reducible refine gate_dst (N := 23) rfl ?_); refine Kd.R_lit (Kd.int .i64) _ 3 ?hg (N := 23) ?hd (xs := ([768, 879, 1155, 1161, 1425, 1469, 1552, 1562, 1611, 1631, 1750, 1756, 6832, 6862, 7616, 7679, 8400, 8432, 12330, 12335, 12441, 12442, 65024, 65039, 65056, 65071] : List Int)) (inner := [.int .i64 768, .int .i64 879, .int .i64 1155, .int .i64 1161, .int .i64 1425, .int .i64 1469, .int .i64 1552, .int .i64 1562, .int .i64 1611, .int .i64 1631, .int .i64 1750, .int .i64 1756, .int .i64 6832, .int .i64 6862, .int .i64 7616, .int .i64 7679, .int .i64 8400, .int .i64 8432, .int .i64 12330, .int .i64 12335, .int .i64 12441, .int .i64 12442, .int .i64 65024, .int .i64 65039, .int .i64 65056, .int .i64 65071]) (ok := fun _ => True) (okp := fun _ => True) ?hr ?hp (fun _ hk => hk) trivial (Below.refl _ _) (Nat.le_refl _) (by simp) ?_; (case hd => rfl); (case hg => rfl); (case hr => first | (go_simp; done) | (go_simp; rfl)); (case hp => exact (Reps.one (show Kd.M (Kd.int .i64) _ _ _ 768 [.int .i64 768] from rfl) (Reps.one (show Kd.M (Kd.int .i64) _ _ _ 879 [.int .i64 879] from rfl) (Reps.one (show Kd.M (Kd.int .i64) _ _ _ 1155 [.int .i64 1155] from rfl) (Reps.one (show Kd.M (Kd.int .i64) _ _ _ 1161 [.int .i64 1161] from rfl) (Reps.one (show Kd.M (Kd.int .i64) _ _ _ 1425 [.int .i64 1425] from rfl) (Reps.one (show Kd.M (Kd.int .i64) _ _ _ 1469 [.int .i64 1469] from rfl) (Reps.one (show Kd.M (Kd.int .i64) _ _ _ 1552 [.int .i64 1552] from rfl) (Reps.one (show Kd.M (Kd.int .i64) _ _ _ 1562 [.int .i64 1562] from rfl) (Reps.one (show Kd.M (Kd.int .i64) _ _ _ 1611 [.int .i64 1611] from rfl) (Reps.one (show Kd.M (Kd.int .i64) _ _ _ 1631 [.int .i64 1631] from rfl) (Reps.one (show Kd.M (Kd.int .i64) _ _ _ 1750 [.int .i64 1750] from rfl) (Reps.one (show Kd.M (Kd.int .i64) _ _ _ 1756 [.int .i64 1756] from rfl) (Reps.one (show Kd.M (Kd.int .i64) _ _ _ 6832 [.int .i64 6832] from rfl) (Reps.one (show Kd.M (Kd.int .i64) _ _ _ 6862 [.int .i64 6862] from rfl) (Reps.one (show Kd.M (Kd.int .i64) _ _ _ 7616 [.int .i64 7616] from rfl) (Reps.one (show Kd.M (Kd.int .i64) _ _ _ 7679 [.int .i64 7679] from rfl) (Reps.one (show Kd.M (Kd.int .i64) _ _ _ 8400 [.int .i64 8400] from rfl) (Reps.one (show Kd.M (Kd.int .i64) _ _ _ 8432 [.int .i64 8432] from rfl) (Reps.one (show Kd.M (Kd.int .i64) _ _ _ 12330 [.int .i64 12330] from rfl) (Reps.one (show Kd.M (Kd.int .i64) _ _ _ 12335 [.int .i64 12335] from rfl) (Reps.one (show Kd.M (Kd.int .i64) _ _ _ 12441 [.int .i64 12441] from rfl) (Reps.one (show Kd.M (Kd.int .i64) _ _ _ 12442 [.int .i64 12442] from rfl) (Reps.one (show Kd.M (Kd.int .i64) _ _ _ 65024 [.int .i64 65024] from rfl) (Reps.one (show Kd.M (Kd.int .i64) _ _ _ 65039 [.int .i64 65039] from rfl) (Reps.one (show Kd.M (Kd.int .i64) _ _ _ 65056 [.int .i64 65056] from rfl) (Reps.one (show Kd.M (Kd.int .i64) _ _ _ 65071 [.int .i64 65071] from rfl) (Reps.none _ _)))))))))))))))))))))))))))); intro v114 w71 ho72 hb hg_ hnew_; clear hg_ hnew_; (first | rw [← Ny113.out] at ho72 | (simp only [Int.reduceToNat] at ho72; rw [← Ny113.out] at ho72)); have n0_ := Aside0.mk (Kd.R_elder' (by (with_reducible repeat (first | apply Kd.R_alloc | apply Kd.R_drewN | apply Kd.R_drew)); exact HO103.out) (Kd.R_base ho72) hb); have n1_ := Aside0.mk (Kd.R_elder' (by (with_reducible repeat (first | apply Kd.R_alloc | apply Kd.R_drewN | apply Kd.R_drew)); exact HO107.out) (Kd.R_base ho72) hb); have n2_ := Aside0.mk (Kd.R_elder' (by (with_reducible repeat (first | apply Kd.R_alloc | apply Kd.R_drewN | apply Kd.R_drew)); exact HO111.out) (Kd.R_base ho72) hb); have n3_ := Aside0.mk (Kd.R_lower (Kd.R_new' (Kd.R_new' (Kd.R_new' ho72 (Kd.R_lt (by (with_reducible repeat (first | apply Kd.R_alloc | apply Kd.R_drewN | apply Kd.R_drew)); exact HO103.out))) (Kd.R_lt (by (with_reducible repeat (first | apply Kd.R_alloc | apply Kd.R_drewN | apply Kd.R_drew)); exact HO107.out))) (Kd.R_lt (by (with_reducible repeat (first | apply Kd.R_alloc | apply Kd.R_drewN | apply Kd.R_drew)); exact HO111.out))) (below_size (by repeat (first | (with_reducible first | exact HB.out | apply below_alloc | apply pw_below_drewN | apply below_drew1) | exact HB.out)))); have n4_ := Aside0.mk (below_step (by repeat (first | (with_reducible first | exact HB.out | apply below_alloc | apply pw_below_drewN | apply below_drew1) | exact HB.out)) hb); clear HO103; clear HO107; clear HO111; clear HB; have HO103 := n0_; have HO107 := n1_; have HO111 := n2_; have HO115 := n3_; have HB := n4_; clear n0_ n1_ n2_ n3_ n4_; clear hb ho72; obtain ⟨Ao73, co73, eo73⟩ := Kd.R_slice HO115.out; subst eo73) | ((with_reducible refine gate_callee (f := 116) rfl ?_); refine goesL_ (some 24) rfl rfl Try.func116 (by kernel_rfl) rfl #[.int .i64 a0, .slice Ao73 y113.length co73] rfl (by (try simp only [List.map_toArray, List.map_cons, List.map_nil]); first | done | rfl | (simp only [List.length_drop, List.length_take]; rfl)) ?_; (with_reducible refine (dactylref03_within.calls kj3 a0 _ _ y113 false _ ?side1 ?side2 A31.out).mono ?_); (case side1 => repeat (first | exact (Kd.R_reads' HO115.out).2.2 | (with_reducible refine Kd.C_alloc ?_ _) | (with_reducible refine Kd.C_drewN ?_ _) | (with_reducible refine Kd.C_drew ?_))); (case side2 => exact (Kd.R_reads' HO115.out).2.1); rintro e w' ⟨rfl, ⟨nd, rfl⟩⟩; refine ⟨_, rfl, ?_⟩) | ((with_reducible refine gate_dst (N := 26) rfl ?_); refine Kd.R_lit (Kd.int .i64) _ 3 ?hg (N := 26) ?hd (xs := ([57344, 63743, 64976, 65007, 65520, 65528, 65534, 65535, 131070, 131071, 262142, 1114111] : List Int)) (inner := [.int .i64 57344, .int .i64 63743, .int .i64 64976, .int .i64 65007, .int .i64 65520, .int .i64 65528, .int .i64 65534, .int .i64 65535, .int .i64 131070, .int .i64 131071, .int .i64 262142, .int .i64 1114111]) (ok := fun _ => True) (okp := fun _ => True) ?hr ?hp (fun _ hk => hk) trivial (Below.refl _ _) (Nat.le_refl _) (by simp) ?_; (case hd => rfl); (case hg => rfl); (case hr => first | (go_simp; done) | (go_simp; rfl)); (case hp => exact (Reps.one (show Kd.M (Kd.int .i64) _ _ _ 57344 [.int .i64 57344] from rfl) (Reps.one (show Kd.M (Kd.int .i64) _ _ _ 63743 [.int .i64 63743] from rfl) (Reps.one (show Kd.M (Kd.int .i64) _ _ _ 64976 [.int .i64 64976] from rfl) (Reps.one (show Kd.M (Kd.int .i64) _ _ _ 65007 [.int .i64 65007] from rfl) (Reps.one (show Kd.M (Kd.int .i64) _ _ _ 65520 [.int .i64 65520] from rfl) (Reps.one (show Kd.M (Kd.int .i64) _ _ _ 65528 [.int .i64 65528] from rfl) (Reps.one (show Kd.M (Kd.int .i64) _ _ _ 65534 [.int .i64 65534] from rfl) (Reps.one (show Kd.M (Kd.int .i64) _ _ _ 65535 [.int .i64 65535] from rfl) (Reps.one (show Kd.M (Kd.int .i64) _ _ _ 131070 [.int .i64 131070] from rfl) (Reps.one (show Kd.M (Kd.int .i64) _ _ _ 131071 [.int .i64 131071] from rfl) (Reps.one (show Kd.M (Kd.int .i64) _ _ _ 262142 [.int .i64 262142] from rfl) (Reps.one (show Kd.M (Kd.int .i64) _ _ _ 1114111 [.int .i64 1114111] from rfl) (Reps.none _ _)))))))))))))); intro v118 w74 ho75 hb hg_ hnew_; clear hg_ hnew_; (first | rw [← Ny117.out] at ho75 | (simp only [Int.reduceToNat] at ho75; rw [← Ny117.out] at ho75)); have n0_ := Aside0.mk (Kd.R_elder' (by (with_reducible repeat (first | apply Kd.R_alloc | apply Kd.R_drewN | apply Kd.R_drew)); exact HO103.out) (Kd.R_base ho75) hb); have n1_ := Aside0.mk (Kd.R_elder' (by (with_reducible repeat (first | apply Kd.R_alloc | apply Kd.R_drewN | apply Kd.R_drew)); exact HO107.out) (Kd.R_base ho75) hb); have n2_ := Aside0.mk (Kd.R_elder' (by (with_reducible repeat (first | apply Kd.R_alloc | apply Kd.R_drewN | apply Kd.R_drew)); exact HO111.out) (Kd.R_base ho75) hb); have n3_ := Aside0.mk (Kd.R_elder' (by (with_reducible repeat (first | apply Kd.R_alloc | apply Kd.R_drewN | apply Kd.R_drew)); exact HO115.out) (Kd.R_base ho75) hb); have n4_ := Aside0.mk (Kd.R_lower (Kd.R_new' (Kd.R_new' (Kd.R_new' (Kd.R_new' ho75 (Kd.R_lt (by (with_reducible repeat (first | apply Kd.R_alloc | apply Kd.R_drewN | apply Kd.R_drew)); exact HO103.out))) (Kd.R_lt (by (with_reducible repeat (first | apply Kd.R_alloc | apply Kd.R_drewN | apply Kd.R_drew)); exact HO107.out))) (Kd.R_lt (by (with_reducible repeat (first | apply Kd.R_alloc | apply Kd.R_drewN | apply Kd.R_drew)); exact HO111.out))) (Kd.R_lt (by (with_reducible repeat (first | apply Kd.R_alloc | apply Kd.R_drewN | apply Kd.R_drew)); exact HO115.out))) (below_size (by repeat (first | (with_reducible first | exact HB.out | apply below_alloc | apply pw_below_drewN | apply below_drew1) | exact HB.out)))); have n5_ := Aside0.mk (below_step (by repeat (first | (with_reducible first | exact HB.out | apply below_alloc | apply pw_below_drewN | apply below_drew1) | exact HB.out)) hb); clear HO103; clear HO107; clear HO111; clear HO115; clear HB; have HO103 := n0_; have HO107 := n1_; have HO111 := n2_; have HO115 := n3_; have HO119 := n4_; have HB := n5_; clear n0_ n1_ n2_ n3_ n4_ n5_; clear hb ho75; obtain ⟨Ao76, co76, eo76⟩ := Kd.R_slice HO119.out; subst eo76) | ((with_reducible refine gate_callee (f := 116) rfl ?_); refine goesL_ (some 27) rfl rfl Try.func116 (by kernel_rfl) rfl #[.int .i64 a0, .slice Ao76 y117.length co76] rfl (by (try simp only [List.map_toArray, List.map_cons, List.map_nil]); first | done | rfl | (simp only [List.length_drop, List.length_take]; rfl)) ?_; (with_reducible refine (dactylref03_within.calls kj3 a0 _ _ y117 false _ ?side1 ?side2 A45.out).mono ?_); (case side1 => repeat (first | exact (Kd.R_reads' HO119.out).2.2 | (with_reducible refine Kd.C_alloc ?_ _) | (with_reducible refine Kd.C_drewN ?_ _) | (with_reducible refine Kd.C_drew ?_))); (case side2 => exact (Kd.R_reads' HO119.out).2.1); rintro e w' ⟨rfl, ⟨nd, rfl⟩⟩; refine ⟨_, rfl, ?_⟩))
                      go_ret
                      exact ⟨by first | rfl | (simp [errW_none, errW_some] <;> rfl) | (simp [*, errW_none, errW_some] <;> rfl), by repeat (first | (with_reducible first | exact HB.out | apply below_alloc | apply pw_below_drewN | apply below_drew1) | exact HB.out)⟩

end Go.Proofs.Ytemoocoedibbpaa.X

namespace Go.Proofs.Ytemoocoedibbpaa.X
open Go.RowKit Go.Proofs.YtemoocoedibbpaaW.PrintWords Go.Proofs.YtemoocoedibbpaaW.PrintLast Go.Proofs.YtemoocoedibbpaaW.PrintMore
attribute [local go_sem] max2_int min2_int max_two min_two max_three min_three max_four min_four
set_option linter.unusedVariables false
set_option linter.unusedSimpArgs false

/-! ### dactylref03_Skeleton: function 115 -/
def dactylref03_Skeleton.l0 : Nat → Int → List Int → ByteArray → Int → Option (Int)
  | 0, _, _, _, _ => none
  | k + 1, x0, x3, x4, x5 => if x5 < (x3.length : Int) then (if 0 ≤ x5 then (if (rd x3 x5) = x0 then (if x5 < (x4.size : Int) then (some (wrap64 (bt x4 x5))) else (none)) else (dactylref03_Skeleton.l0 k x0 x3 x4 (wrap64 (x5 + 1)))) else (none)) else (some x0)
def dactylref03_Skeleton.f (k : Nat) (a0 : Int) : Option (Int) := dactylref03_Skeleton.l0 k a0 (([913, 914, 917, 918, 919, 921, 922, 924, 925, 927, 929, 932, 933, 935, 957, 959, 961, 1029, 1030, 1032, 1040, 1042, 1045, 1050, 1052, 1053, 1054, 1056, 1057, 1058, 1061, 1072, 1077, 1086, 1088, 1089, 1091, 1093, 1109, 1110, 1112, 1281, 1307, 1309, 894, 8208, 8722, 8260, 8725, 8228, 8218] : List Int)) (⟨#[65, 66, 69, 90, 72, 73, 75, 77, 78, 79, 80, 84, 89, 88, 118, 111, 112, 83, 73, 74, 65, 66, 69, 75, 77, 72, 79, 80, 67, 84, 88, 97, 101, 111, 112, 99, 121, 120, 115, 105, 106, 100, 113, 119, 59, 45, 45, 47, 47, 46, 44]⟩ : ByteArray) 0
theorem dactylref03_Skeleton.mono_l : ∀ k, (∀ y0 y1 y2 y3, LeO (dactylref03_Skeleton.l0 k y0 y1 y2 y3) (dactylref03_Skeleton.l0 (k + 1) y0 y1 y2 y3))
  | 0 => fun _ _ _ _ r h => by simp [dactylref03_Skeleton.l0] at h
  | k + 1 => by
    have ih0 := dactylref03_Skeleton.mono_l k
    · intro y0 y1 y2 y3
      unfold dactylref03_Skeleton.l0
      repeat' first
      | (with_reducible exact ih0 _ _ _ _)
      | (with_reducible exact LeO.refl _)
      | (with_reducible exact LeO.none _)
      | (with_reducible refine LeO.ite ?_ ?_)
      | (with_reducible refine LeO.bind ?_ (fun _ => ?_))
      | exact ih0 _ _ _ _
      | exact LeO.none _
      | refine LeO.ite ?_ ?_
      | refine LeO.bind ?_ (fun _ => ?_)
theorem dactylref03_Skeleton.mono : ∀ a0 k, LeO (dactylref03_Skeleton.f k a0) (dactylref03_Skeleton.f (k + 1) a0) := by
  intro a0 k
  have ih0 := dactylref03_Skeleton.mono_l k
  unfold dactylref03_Skeleton.f
  repeat' first
      | (with_reducible exact ih0 _ _ _ _)
      | (with_reducible exact LeO.refl _)
      | (with_reducible exact LeO.none _)
      | (with_reducible refine LeO.ite ?_ ?_)
      | (with_reducible refine LeO.bind ?_ (fun _ => ?_))
      | exact ih0 _ _ _ _
      | exact LeO.none _
      | refine LeO.ite ?_ ?_
      | refine LeO.bind ?_ (fun _ => ?_)
set_option maxHeartbeats 8000000 in
set_option maxRecDepth 100000 in
theorem dactylref03_Skeleton.calls (k : Nat) (a0 : Int) (r : Int) (w : World) (h : dactylref03_Skeleton.f k a0 = some r) :
    Calls Try.prog 115 #[.int .i64 a0] w fun e w' => e = .returned (.int .i64 r) ∧ Below w.heap.size w w' := by
  have HB := Aside0.mk (Below.refl w.heap.size w)
  have H : (dactylref03_Skeleton.l0 k a0 (([913, 914, 917, 918, 919, 921, 922, 924, 925, 927, 929, 932, 933, 935, 957, 959, 961, 1029, 1030, 1032, 1040, 1042, 1045, 1050, 1052, 1053, 1054, 1056, 1057, 1058, 1061, 1072, 1077, 1086, 1088, 1089, 1091, 1093, 1109, 1110, 1112, 1281, 1307, 1309, 894, 8208, 8722, 8260, 8725, 8228, 8218] : List Int)) (⟨#[65, 66, 69, 90, 72, 73, 75, 77, 78, 79, 80, 84, 89, 88, 118, 111, 112, 83, 73, 74, 65, 66, 69, 75, 77, 72, 79, 80, 67, 84, 88, 97, 101, 111, 112, 99, 121, 120, 115, 105, 106, 100, 113, 119, 59, 45, 45, 47, 47, 46, 44]⟩ : ByteArray) 0) = some r := h
  clear h
  obtain ⟨y101, hy101⟩ : ∃ y_ : List Int, y_ = (([913, 914, 917, 918, 919, 921, 922, 924, 925, 927, 929, 932, 933, 935, 957, 959, 961, 1029, 1030, 1032, 1040, 1042, 1045, 1050, 1052, 1053, 1054, 1056, 1057, 1058, 1061, 1072, 1077, 1086, 1088, 1089, 1091, 1093, 1109, 1110, 1112, 1281, 1307, 1309, 894, 8208, 8722, 8260, 8725, 8228, 8218] : List Int)) := ⟨_, rfl⟩
  replace H : (dactylref03_Skeleton.l0 k a0 y101 (⟨#[65, 66, 69, 90, 72, 73, 75, 77, 78, 79, 80, 84, 89, 88, 118, 111, 112, 83, 73, 74, 65, 66, 69, 75, 77, 72, 79, 80, 67, 84, 88, 97, 101, 111, 112, 99, 121, 120, 115, 105, 106, 100, 113, 119, 59, 45, 45, 47, 47, 46, 44]⟩ : ByteArray) 0) = some r := by first | (rw [hy101]; with_reducible exact H) | (have H2_ := (Option.bind_some _ _).symm.trans H; rw [hy101]; with_reducible exact H2_) | (have H2_ := (Option.bind_some _ _).symm.trans H; with_reducible exact H2_) | with_reducible exact H | (rw [hy101]; exact H) | exact H
  have Ny101 := Aside0.mk hy101
  clear hy101
  have H' := Aside0.mk H
  clear H
  go_enter Try.func115, Try.ntmps115
  go_wp2_with (first | ((with_reducible refine gate_dst (N := 6) rfl ?_); refine Kd.R_lit (Kd.int .i64) _ 3 ?hg (N := 6) ?hd (xs := ([913, 914, 917, 918, 919, 921, 922, 924, 925, 927, 929, 932, 933, 935, 957, 959, 961, 1029, 1030, 1032, 1040, 1042, 1045, 1050, 1052, 1053, 1054, 1056, 1057, 1058, 1061, 1072, 1077, 1086, 1088, 1089, 1091, 1093, 1109, 1110, 1112, 1281, 1307, 1309, 894, 8208, 8722, 8260, 8725, 8228, 8218] : List Int)) (inner := [.int .i64 913, .int .i64 914, .int .i64 917, .int .i64 918, .int .i64 919, .int .i64 921, .int .i64 922, .int .i64 924, .int .i64 925, .int .i64 927, .int .i64 929, .int .i64 932, .int .i64 933, .int .i64 935, .int .i64 957, .int .i64 959, .int .i64 961, .int .i64 1029, .int .i64 1030, .int .i64 1032, .int .i64 1040, .int .i64 1042, .int .i64 1045, .int .i64 1050, .int .i64 1052, .int .i64 1053, .int .i64 1054, .int .i64 1056, .int .i64 1057, .int .i64 1058, .int .i64 1061, .int .i64 1072, .int .i64 1077, .int .i64 1086, .int .i64 1088, .int .i64 1089, .int .i64 1091, .int .i64 1093, .int .i64 1109, .int .i64 1110, .int .i64 1112, .int .i64 1281, .int .i64 1307, .int .i64 1309, .int .i64 894, .int .i64 8208, .int .i64 8722, .int .i64 8260, .int .i64 8725, .int .i64 8228, .int .i64 8218]) (ok := fun _ => True) (okp := fun _ => True) ?hr ?hp (fun _ hk => hk) trivial (Below.refl _ _) (Nat.le_refl _) (by simp) ?_; (case hd => rfl); (case hg => rfl); (case hr => first | (go_simp; done) | (go_simp; rfl)); (case hp => exact (Reps.one (show Kd.M (Kd.int .i64) _ _ _ 913 [.int .i64 913] from rfl) (Reps.one (show Kd.M (Kd.int .i64) _ _ _ 914 [.int .i64 914] from rfl) (Reps.one (show Kd.M (Kd.int .i64) _ _ _ 917 [.int .i64 917] from rfl) (Reps.one (show Kd.M (Kd.int .i64) _ _ _ 918 [.int .i64 918] from rfl) (Reps.one (show Kd.M (Kd.int .i64) _ _ _ 919 [.int .i64 919] from rfl) (Reps.one (show Kd.M (Kd.int .i64) _ _ _ 921 [.int .i64 921] from rfl) (Reps.one (show Kd.M (Kd.int .i64) _ _ _ 922 [.int .i64 922] from rfl) (Reps.one (show Kd.M (Kd.int .i64) _ _ _ 924 [.int .i64 924] from rfl) (Reps.one (show Kd.M (Kd.int .i64) _ _ _ 925 [.int .i64 925] from rfl) (Reps.one (show Kd.M (Kd.int .i64) _ _ _ 927 [.int .i64 927] from rfl) (Reps.one (show Kd.M (Kd.int .i64) _ _ _ 929 [.int .i64 929] from rfl) (Reps.one (show Kd.M (Kd.int .i64) _ _ _ 932 [.int .i64 932] from rfl) (Reps.one (show Kd.M (Kd.int .i64) _ _ _ 933 [.int .i64 933] from rfl) (Reps.one (show Kd.M (Kd.int .i64) _ _ _ 935 [.int .i64 935] from rfl) (Reps.one (show Kd.M (Kd.int .i64) _ _ _ 957 [.int .i64 957] from rfl) (Reps.one (show Kd.M (Kd.int .i64) _ _ _ 959 [.int .i64 959] from rfl) (Reps.one (show Kd.M (Kd.int .i64) _ _ _ 961 [.int .i64 961] from rfl) (Reps.one (show Kd.M (Kd.int .i64) _ _ _ 1029 [.int .i64 1029] from rfl) (Reps.one (show Kd.M (Kd.int .i64) _ _ _ 1030 [.int .i64 1030] from rfl) (Reps.one (show Kd.M (Kd.int .i64) _ _ _ 1032 [.int .i64 1032] from rfl) (Reps.one (show Kd.M (Kd.int .i64) _ _ _ 1040 [.int .i64 1040] from rfl) (Reps.one (show Kd.M (Kd.int .i64) _ _ _ 1042 [.int .i64 1042] from rfl) (Reps.one (show Kd.M (Kd.int .i64) _ _ _ 1045 [.int .i64 1045] from rfl) (Reps.one (show Kd.M (Kd.int .i64) _ _ _ 1050 [.int .i64 1050] from rfl) (Reps.one (show Kd.M (Kd.int .i64) _ _ _ 1052 [.int .i64 1052] from rfl) (Reps.one (show Kd.M (Kd.int .i64) _ _ _ 1053 [.int .i64 1053] from rfl) (Reps.one (show Kd.M (Kd.int .i64) _ _ _ 1054 [.int .i64 1054] from rfl) (Reps.one (show Kd.M (Kd.int .i64) _ _ _ 1056 [.int .i64 1056] from rfl) (Reps.one (show Kd.M (Kd.int .i64) _ _ _ 1057 [.int .i64 1057] from rfl) (Reps.one (show Kd.M (Kd.int .i64) _ _ _ 1058 [.int .i64 1058] from rfl) (Reps.one (show Kd.M (Kd.int .i64) _ _ _ 1061 [.int .i64 1061] from rfl) (Reps.one (show Kd.M (Kd.int .i64) _ _ _ 1072 [.int .i64 1072] from rfl) (Reps.one (show Kd.M (Kd.int .i64) _ _ _ 1077 [.int .i64 1077] from rfl) (Reps.one (show Kd.M (Kd.int .i64) _ _ _ 1086 [.int .i64 1086] from rfl) (Reps.one (show Kd.M (Kd.int .i64) _ _ _ 1088 [.int .i64 1088] from rfl) (Reps.one (show Kd.M (Kd.int .i64) _ _ _ 1089 [.int .i64 1089] from rfl) (Reps.one (show Kd.M (Kd.int .i64) _ _ _ 1091 [.int .i64 1091] from rfl) (Reps.one (show Kd.M (Kd.int .i64) _ _ _ 1093 [.int .i64 1093] from rfl) (Reps.one (show Kd.M (Kd.int .i64) _ _ _ 1109 [.int .i64 1109] from rfl) (Reps.one (show Kd.M (Kd.int .i64) _ _ _ 1110 [.int .i64 1110] from rfl) (Reps.one (show Kd.M (Kd.int .i64) _ _ _ 1112 [.int .i64 1112] from rfl) (Reps.one (show Kd.M (Kd.int .i64) _ _ _ 1281 [.int .i64 1281] from rfl) (Reps.one (show Kd.M (Kd.int .i64) _ _ _ 1307 [.int .i64 1307] from rfl) (Reps.one (show Kd.M (Kd.int .i64) _ _ _ 1309 [.int .i64 1309] from rfl) (Reps.one (show Kd.M (Kd.int .i64) _ _ _ 894 [.int .i64 894] from rfl) (Reps.one (show Kd.M (Kd.int .i64) _ _ _ 8208 [.int .i64 8208] from rfl) (Reps.one (show Kd.M (Kd.int .i64) _ _ _ 8722 [.int .i64 8722] from rfl) (Reps.one (show Kd.M (Kd.int .i64) _ _ _ 8260 [.int .i64 8260] from rfl) (Reps.one (show Kd.M (Kd.int .i64) _ _ _ 8725 [.int .i64 8725] from rfl) (Reps.one (show Kd.M (Kd.int .i64) _ _ _ 8228 [.int .i64 8228] from rfl) (Reps.one (show Kd.M (Kd.int .i64) _ _ _ 8218 [.int .i64 8218] from rfl) (Reps.none _ _))))))))))))))))))))))))))))))))))))))))))))))))))))); intro v102 w2 ho3 hb hg_ hnew_; clear hg_ hnew_; (first | rw [← Ny101.out] at ho3 | (simp only [Int.reduceToNat] at ho3; rw [← Ny101.out] at ho3)); have n0_ := Aside0.mk (Kd.R_lower ho3 (below_size (by repeat (first | (with_reducible first | exact HB.out | apply below_alloc | apply pw_below_drewN | apply below_drew1) | exact HB.out)))); have n1_ := Aside0.mk (below_step (by repeat (first | (with_reducible first | exact HB.out | apply below_alloc | apply pw_below_drewN | apply below_drew1) | exact HB.out)) hb); clear HB; have HO103 := n0_; have HB := n1_; clear n0_ n1_; clear hb ho3))
  go_loopg [5] k (fun kq v5 w' => ∃ (x5_1 : Int), v5 = .int .i64 x5_1 ∧ Aside0 (dactylref03_Skeleton.l0 kq a0 y101 (⟨#[65, 66, 69, 90, 72, 73, 75, 77, 78, 79, 80, 84, 89, 88, 118, 111, 112, 83, 73, 74, 65, 66, 69, 75, 77, 72, 79, 80, 67, 84, 88, 97, 101, 111, 112, 99, 121, 120, 115, 105, 106, 100, 113, 119, 59, 45, 45, 47, 47, 46, 44]⟩ : ByteArray) x5_1 = some r) ∧ Aside0 (kq ≤ k) ∧ Aside0 (Kd.R (Kd.int .i64) 3 w' w.heap.size (fun _ => True) v102 y101) ∧ Aside0 (Below w.heap.size w w'))
  case atStart => exact ⟨(0), (by first | rfl | (simp; done) | (simp [*]; done)), H', ⟨Nat.le_refl _⟩, ⟨by (with_reducible repeat (first | apply Kd.R_alloc | apply Kd.R_drewN | apply Kd.R_drew)); exact HO103.out⟩, ⟨by repeat (first | (with_reducible first | exact HB.out | apply below_alloc | apply pw_below_drewN | apply below_drew1) | exact HB.out)⟩⟩
  case round =>
    clear H'
    try clear c1
    try clear p2
    obtain ⟨x5_1, rfl, HA, HK1, HO_3, HB⟩ := hrel
    cases gk with
    | zero => exact absurd HA.out (by simp [dactylref03_Skeleton.l0])
    | succ k1 =>
      have H := HA.out
      clear HA
      simp only [dactylref03_Skeleton.l0] at H
      by_cases c4 : x5_1 < (y101.length : Int)
      · rw [if_pos c4] at H
        have c4b0 : decide (x5_1 < (y101.length : Int)) = true := decide_eq_true c4
        clear c4
        by_cases c5 : 0 ≤ x5_1
        · rw [if_pos c5] at H
          have c5b0 : decide (0 ≤ x5_1) = true := decide_eq_true c5
          clear c5
          by_cases c6 : (rd y101 x5_1) = a0
          · rw [if_pos c6] at H
            have c6b0 : ((rd y101 x5_1) == a0) = true := beq_iff_eq.mpr c6
            have c6b1 : ((rd y101 x5_1) != a0) = false := bne_eq_false_iff_eq.mpr c6
            clear c6
            by_cases c7 : x5_1 < ((⟨#[65, 66, 69, 90, 72, 73, 75, 77, 78, 79, 80, 84, 89, 88, 118, 111, 112, 83, 73, 74, 65, 66, 69, 75, 77, 72, 79, 80, 67, 84, 88, 97, 101, 111, 112, 99, 121, 120, 115, 105, 106, 100, 113, 119, 59, 45, 45, 47, 47, 46, 44]⟩ : ByteArray).size : Int)
            · rw [if_pos c7] at H
              have c7b0 : decide (x5_1 < ((⟨#[65, 66, 69, 90, 72, 73, 75, 77, 78, 79, 80, 84, 89, 88, 118, 111, 112, 83, 73, 74, 65, 66, 69, 75, 77, 72, 79, 80, 67, 84, 88, 97, 101, 111, 112, 99, 121, 120, 115, 105, 106, 100, 113, 119, 59, 45, 45, 47, 47, 46, 44]⟩ : ByteArray).size : Int)) = true := decide_eq_true c7
              clear c7
              obtain rfl := Option.some.inj H
              obtain ⟨Ao9, co9, eo9⟩ := Kd.R_slice HO_3.out
              subst eo9
              have p104 : 0 ≤ (x5_1 : Int) := of_decide_eq_true (by first | (with_reducible assumption) | assumption)
              have q104 : x5_1 < (y101.length : Int) := of_decide_eq_true (by first | (with_reducible assumption) | assumption)
              obtain ⟨ad104, e104, hx104_0⟩ := Kd.at_int (Kd.R_reads' HO_3.out).2.2 x5_1 p104 q104
              cases e104
              replace p104 := eq_true p104
              replace q104 := eq_true q104
              have p8 : 0 ≤ (x5_1 : Int) := of_decide_eq_true (by first | (with_reducible assumption) | assumption)
              have q8 : x5_1 < (51 : Int) := of_decide_eq_true (by first | (with_reducible assumption) | assumption)
              have hx8 := bt_at (⟨#[65, 66, 69, 90, 72, 73, 75, 77, 78, 79, 80, 84, 89, 88, 118, 111, 112, 83, 73, 74, 65, 66, 69, 75, 77, 72, 79, 80, 67, 84, 88, 97, 101, 111, 112, 99, 121, 120, 115, 105, 106, 100, 113, 119, 59, 45, 45, 47, 47, 46, 44]⟩ : ByteArray) x5_1
              replace p8 := eq_true p8
              replace q8 := eq_true q8
              go_wp2
              go_ret
              exact ⟨by first | rfl | (simp [errW_none, errW_some] <;> rfl) | (simp [*, errW_none, errW_some] <;> rfl), by repeat (first | (with_reducible first | exact HB.out | apply below_alloc | apply pw_below_drewN | apply below_drew1) | exact HB.out)⟩
            · rw [if_neg c7] at H
              exact absurd H (by simp)
          · rw [if_neg c6] at H
            have c6b0 : ((rd y101 x5_1) == a0) = false := beq_eq_false_iff_ne.mpr c6
            have c6b1 : ((rd y101 x5_1) != a0) = true := bne_iff_ne.mpr c6
            have H' := Aside0.mk H
            clear H
            obtain ⟨Ao10, co10, eo10⟩ := Kd.R_slice HO_3.out
            subst eo10
            have p104 : 0 ≤ (x5_1 : Int) := of_decide_eq_true (by first | (with_reducible assumption) | assumption)
            have q104 : x5_1 < (y101.length : Int) := of_decide_eq_true (by first | (with_reducible assumption) | assumption)
            obtain ⟨ad104, e104, hx104_0⟩ := Kd.at_int (Kd.R_reads' HO_3.out).2.2 x5_1 p104 q104
            cases e104
            replace p104 := eq_true p104
            replace q104 := eq_true q104
            go_wp2
            go_roundg k1
            case measure => have := HK1.out; omega
            case rel => exact ⟨(wrap64 (x5_1 + 1)), (by first | rfl | (simp; done) | (simp [*]; done)), H', ⟨by have := HK1.out; omega⟩, ⟨by (with_reducible repeat (first | apply Kd.R_alloc | apply Kd.R_drewN | apply Kd.R_drew)); exact HO_3.out⟩, ⟨by repeat (first | (with_reducible first | exact HB.out | apply below_alloc | apply pw_below_drewN | apply below_drew1) | exact HB.out)⟩⟩
        · rw [if_neg c5] at H
          exact absurd H (by simp)
      · rw [if_neg c4] at H
        have c4b0 : decide (x5_1 < (y101.length : Int)) = false := decide_eq_false c4
        clear c4
        obtain rfl := Option.some.inj H
        obtain ⟨Ao11, co11, eo11⟩ := Kd.R_slice HO_3.out
        subst eo11
        go_wp2
        go_ret
        exact ⟨by first | rfl | (simp [errW_none, errW_some] <;> rfl) | (simp [*, errW_none, errW_some] <;> rfl), by repeat (first | (with_reducible first | exact HB.out | apply below_alloc | apply pw_below_drewN | apply below_drew1) | exact HB.out)⟩

end Go.Proofs.Ytemoocoedibbpaa.X

namespace Go.Proofs.Ytemoocoedibbpaa.X
open Go.RowKit Go.Proofs.YtemoocoedibbpaaW.PrintWords Go.Proofs.YtemoocoedibbpaaW.PrintLast Go.Proofs.YtemoocoedibbpaaW.PrintMore
attribute [local go_sem] max2_int min2_int max_two min_two max_three min_three max_four min_four
set_option linter.unusedVariables false
set_option linter.unusedSimpArgs false

/-! ### dactylref03_Of: function 71 -/
def dactylref03_Of.f (k : Nat) (a0 : Int) : Option (Int) := (dactylref02_Right.f a0).bind fun t101 => (if t101 = true then (if a0 > 1114111 then (some 12) else ((dactylref03_odd.f k a0).bind fun t102 => (if t102 > 0 then (some t102) else ((dactylref03_Skeleton.f k a0).bind fun t103 => (if t103 = a0 then ((dactylref03_within.f k a0 (([4352, 4447, 8986, 8987, 11904, 12287, 12289, 12350, 12353, 13311, 13312, 19903, 19968, 42191, 43360, 43391, 44032, 55203, 63744, 64255, 65072, 65135, 65280, 65376, 65504, 65510, 127744, 128591, 128640, 128767, 129280, 129535, 131072, 262141] : List Int))).bind fun t107 => (if t107 = true then (some 2) else (some 1))) else (some 3)))))) else (some 0))
theorem dactylref03_Of.mono : ∀ a0 k, LeO (dactylref03_Of.f k a0) (dactylref03_Of.f (k + 1) a0) := by
  intro a0 k
  unfold dactylref03_Of.f
  repeat' first
      | (with_reducible exact dactylref03_Skeleton.mono _ _)
      | (with_reducible exact dactylref03_odd.mono _ _)
      | (with_reducible exact dactylref03_within.mono _ _ _)
      | (with_reducible exact LeO.refl _)
      | (with_reducible exact LeO.none _)
      | (with_reducible refine LeO.ite ?_ ?_)
      | (with_reducible refine LeO.bind ?_ (fun _ => ?_))
      | exact dactylref03_Skeleton.mono _ _
      | exact dactylref03_odd.mono _ _
      | exact dactylref03_within.mono _ _ _
      | exact LeO.none _
      | refine LeO.ite ?_ ?_
      | refine LeO.bind ?_ (fun _ => ?_)
set_option maxHeartbeats 8000000 in
set_option maxRecDepth 100000 in
theorem dactylref03_Of.calls (k : Nat) (a0 : Int) (r : Int) (w : World) (h : dactylref03_Of.f k a0 = some r) :
    Calls Try.prog 71 #[.int .i64 a0] w fun e w' => e = .returned (.int .i64 r) ∧ Below w.heap.size w w' := by
  have HB := Aside0.mk (Below.refl w.heap.size w)
  have H : ((dactylref02_Right.f a0).bind fun t101 => (if t101 = true then (if a0 > 1114111 then (some 12) else ((dactylref03_odd.f k a0).bind fun t102 => (if t102 > 0 then (some t102) else ((dactylref03_Skeleton.f k a0).bind fun t103 => (if t103 = a0 then ((dactylref03_within.f k a0 (([4352, 4447, 8986, 8987, 11904, 12287, 12289, 12350, 12353, 13311, 13312, 19903, 19968, 42191, 43360, 43391, 44032, 55203, 63744, 64255, 65072, 65135, 65280, 65376, 65504, 65510, 127744, 128591, 128640, 128767, 129280, 129535, 131072, 262141] : List Int))).bind fun t107 => (if t107 = true then (some 2) else (some 1))) else (some 3)))))) else (some 0))) = some r := h
  clear h
  replace H := Option.bind_eq_some_iff.mp H
  obtain ⟨t101, A20, H⟩ := H
  replace H : (if t101 = true then (if a0 > 1114111 then (some 12) else ((dactylref03_odd.f k a0).bind fun t102 => (if t102 > 0 then (some t102) else ((dactylref03_Skeleton.f k a0).bind fun t103 => (if t103 = a0 then ((dactylref03_within.f k a0 (([4352, 4447, 8986, 8987, 11904, 12287, 12289, 12350, 12353, 13311, 13312, 19903, 19968, 42191, 43360, 43391, 44032, 55203, 63744, 64255, 65072, 65135, 65280, 65376, 65504, 65510, 127744, 128591, 128640, 128767, 129280, 129535, 131072, 262141] : List Int))).bind fun t107 => (if t107 = true then (some 2) else (some 1))) else (some 3)))))) else (some 0)) = some r := H
  have A2 := Aside0.mk A20
  clear A20
  by_cases c3 : t101 = true
  · subst c3
    have H1 : (if a0 > 1114111 then (some 12) else ((dactylref03_odd.f k a0).bind fun t102 => (if t102 > 0 then (some t102) else ((dactylref03_Skeleton.f k a0).bind fun t103 => (if t103 = a0 then ((dactylref03_within.f k a0 (([4352, 4447, 8986, 8987, 11904, 12287, 12289, 12350, 12353, 13311, 13312, 19903, 19968, 42191, 43360, 43391, 44032, 55203, 63744, 64255, 65072, 65135, 65280, 65376, 65504, 65510, 127744, 128591, 128640, 128767, 129280, 129535, 131072, 262141] : List Int))).bind fun t107 => (if t107 = true then (some 2) else (some 1))) else (some 3)))))) = some r := by rw [if_pos rfl] at H; exact H
    clear H
    have H := H1
    clear H1
    by_cases c4 : a0 > 1114111
    · rw [if_pos c4] at H
      have c4b0 : decide (1114111 < a0) = true := decide_eq_true c4
      clear c4
      obtain rfl := Option.some.inj H
      go_enter Try.func71, Try.ntmps71
      go_wp2_with (first | ((with_reducible refine gate_callee (f := 97) rfl ?_); refine goesL_ (some 5) rfl rfl Try.func97 (by kernel_rfl) rfl #[.int .i64 a0] rfl (by (try simp only [List.map_toArray, List.map_cons, List.map_nil]); first | done | rfl | (simp only [List.length_drop, List.length_take]; rfl)) ?_; (with_reducible refine (dactylref02_Right.calls a0 true _ A2.out).mono ?_); rintro e w' ⟨rfl, ⟨nd, rfl⟩⟩; refine ⟨_, rfl, ?_⟩))
      go_ret
      exact ⟨by first | rfl | (simp [errW_none, errW_some] <;> rfl) | (simp [*, errW_none, errW_some] <;> rfl), by repeat (first | (with_reducible first | exact HB.out | apply below_alloc | apply pw_below_drewN | apply below_drew1) | exact HB.out)⟩
    · rw [if_neg c4] at H
      have c4b0 : decide (1114111 < a0) = false := decide_eq_false c4
      clear c4
      replace H := Option.bind_eq_some_iff.mp H
      obtain ⟨t102, A50, H⟩ := H
      replace H : (if t102 > 0 then (some t102) else ((dactylref03_Skeleton.f k a0).bind fun t103 => (if t103 = a0 then ((dactylref03_within.f k a0 (([4352, 4447, 8986, 8987, 11904, 12287, 12289, 12350, 12353, 13311, 13312, 19903, 19968, 42191, 43360, 43391, 44032, 55203, 63744, 64255, 65072, 65135, 65280, 65376, 65504, 65510, 127744, 128591, 128640, 128767, 129280, 129535, 131072, 262141] : List Int))).bind fun t107 => (if t107 = true then (some 2) else (some 1))) else (some 3)))) = some r := H
      have A5 := Aside0.mk A50
      clear A50
      by_cases c6 : t102 > 0
      · rw [if_pos c6] at H
        have c6b0 : decide (0 < t102) = true := decide_eq_true c6
        clear c6
        obtain rfl := Option.some.inj H
        go_enter Try.func71, Try.ntmps71
        go_wp2_with (first | ((with_reducible refine gate_callee (f := 97) rfl ?_); refine goesL_ (some 5) rfl rfl Try.func97 (by kernel_rfl) rfl #[.int .i64 a0] rfl (by (try simp only [List.map_toArray, List.map_cons, List.map_nil]); first | done | rfl | (simp only [List.length_drop, List.length_take]; rfl)) ?_; (with_reducible refine (dactylref02_Right.calls a0 true _ A2.out).mono ?_); rintro e w' ⟨rfl, ⟨nd, rfl⟩⟩; refine ⟨_, rfl, ?_⟩) | ((with_reducible refine gate_callee (f := 114) rfl ?_); refine goesL_ (some 10) rfl rfl Try.func114 (by kernel_rfl) rfl #[.int .i64 a0] rfl (by (try simp only [List.map_toArray, List.map_cons, List.map_nil]); first | done | rfl | (simp only [List.length_drop, List.length_take]; rfl)) ?_; (with_reducible refine (dactylref03_odd.calls k a0 t102 _ A5.out).mono ?_); rintro e w7 ⟨rfl, hb⟩; refine ⟨_, rfl, ?_⟩; have n0_ := Aside0.mk (below_step (by repeat (first | (with_reducible first | exact HB.out | apply below_alloc | apply pw_below_drewN | apply below_drew1) | exact HB.out)) hb); clear HB; have HB := n0_; clear n0_; (try clear hb); (try clear hb2); (try clear hk); (try clear hi)))
        go_ret
        exact ⟨by first | rfl | (simp [errW_none, errW_some] <;> rfl) | (simp [*, errW_none, errW_some] <;> rfl), by repeat (first | (with_reducible first | exact HB.out | apply below_alloc | apply pw_below_drewN | apply below_drew1) | exact HB.out)⟩
      · rw [if_neg c6] at H
        have c6b0 : decide (0 < t102) = false := decide_eq_false c6
        clear c6
        replace H := Option.bind_eq_some_iff.mp H
        obtain ⟨t103, A80, H⟩ := H
        replace H : (if t103 = a0 then ((dactylref03_within.f k a0 (([4352, 4447, 8986, 8987, 11904, 12287, 12289, 12350, 12353, 13311, 13312, 19903, 19968, 42191, 43360, 43391, 44032, 55203, 63744, 64255, 65072, 65135, 65280, 65376, 65504, 65510, 127744, 128591, 128640, 128767, 129280, 129535, 131072, 262141] : List Int))).bind fun t107 => (if t107 = true then (some 2) else (some 1))) else (some 3)) = some r := H
        have A8 := Aside0.mk A80
        clear A80
        by_cases c9 : t103 = a0
        · rw [if_pos c9] at H
          have c9b0 : (t103 == a0) = true := beq_iff_eq.mpr c9
          have c9b1 : (t103 != a0) = false := bne_eq_false_iff_eq.mpr c9
          clear c9
          obtain ⟨y104, hy104⟩ : ∃ y_ : List Int, y_ = (([4352, 4447, 8986, 8987, 11904, 12287, 12289, 12350, 12353, 13311, 13312, 19903, 19968, 42191, 43360, 43391, 44032, 55203, 63744, 64255, 65072, 65135, 65280, 65376, 65504, 65510, 127744, 128591, 128640, 128767, 129280, 129535, 131072, 262141] : List Int)) := ⟨_, rfl⟩
          replace H : ((dactylref03_within.f k a0 y104).bind fun t107 => (if t107 = true then (some 2) else (some 1))) = some r := by first | (rw [hy104]; with_reducible exact H) | (have H2_ := (Option.bind_some _ _).symm.trans H; rw [hy104]; with_reducible exact H2_) | (have H2_ := (Option.bind_some _ _).symm.trans H; with_reducible exact H2_) | with_reducible exact H | (rw [hy104]; exact H) | exact H
          have Ny104 := Aside0.mk hy104
          clear hy104
          replace H := Option.bind_eq_some_iff.mp H
          obtain ⟨t107, A100, H⟩ := H
          replace H : (if t107 = true then (some 2) else (some 1)) = some r := H
          have A10 := Aside0.mk A100
          clear A100
          by_cases c11 : t107 = true
          · subst c11
            have H1 : (some 2) = some r := by rw [if_pos rfl] at H; exact H
            clear H
            have H := H1
            clear H1
            obtain rfl := Option.some.inj H
            go_enter Try.func71, Try.ntmps71
            go_wp2_with (first | ((with_reducible refine gate_callee (f := 97) rfl ?_); refine goesL_ (some 5) rfl rfl Try.func97 (by kernel_rfl) rfl #[.int .i64 a0] rfl (by (try simp only [List.map_toArray, List.map_cons, List.map_nil]); first | done | rfl | (simp only [List.length_drop, List.length_take]; rfl)) ?_; (with_reducible refine (dactylref02_Right.calls a0 true _ A2.out).mono ?_); rintro e w' ⟨rfl, ⟨nd, rfl⟩⟩; refine ⟨_, rfl, ?_⟩) | ((with_reducible refine gate_callee (f := 114) rfl ?_); refine goesL_ (some 10) rfl rfl Try.func114 (by kernel_rfl) rfl #[.int .i64 a0] rfl (by (try simp only [List.map_toArray, List.map_cons, List.map_nil]); first | done | rfl | (simp only [List.length_drop, List.length_take]; rfl)) ?_; (with_reducible refine (dactylref03_odd.calls k a0 t102 _ A5.out).mono ?_); rintro e w12 ⟨rfl, hb⟩; refine ⟨_, rfl, ?_⟩; have n0_ := Aside0.mk (below_step (by repeat (first | (with_reducible first | exact HB.out | apply below_alloc | apply pw_below_drewN | apply below_drew1) | exact HB.out)) hb); clear HB; have HB := n0_; clear n0_; (try clear hb); (try clear hb2); (try clear hk); (try clear hi)) | ((with_reducible refine gate_callee (f := 115) rfl ?_); refine goesL_ (some 15) rfl rfl Try.func115 (by kernel_rfl) rfl #[.int .i64 a0] rfl (by (try simp only [List.map_toArray, List.map_cons, List.map_nil]); first | done | rfl | (simp only [List.length_drop, List.length_take]; rfl)) ?_; (with_reducible refine (dactylref03_Skeleton.calls k a0 t103 _ A8.out).mono ?_); rintro e w13 ⟨rfl, hb⟩; refine ⟨_, rfl, ?_⟩; have n0_ := Aside0.mk (below_step (by repeat (first | (with_reducible first | exact HB.out | apply below_alloc | apply pw_below_drewN | apply below_drew1) | exact HB.out)) hb); clear HB; have HB := n0_; clear n0_; (try clear hb); (try clear hb2); (try clear hk); (try clear hi)) | ((with_reducible refine gate_dst (N := 19) rfl ?_); refine Kd.R_lit (Kd.int .i64) _ 3 ?hg (N := 19) ?hd (xs := ([4352, 4447, 8986, 8987, 11904, 12287, 12289, 12350, 12353, 13311, 13312, 19903, 19968, 42191, 43360, 43391, 44032, 55203, 63744, 64255, 65072, 65135, 65280, 65376, 65504, 65510, 127744, 128591, 128640, 128767, 129280, 129535, 131072, 262141] : List Int)) (inner := [.int .i64 4352, .int .i64 4447, .int .i64 8986, .int .i64 8987, .int .i64 11904, .int .i64 12287, .int .i64 12289, .int .i64 12350, .int .i64 12353, .int .i64 13311, .int .i64 13312, .int .i64 19903, .int .i64 19968, .int .i64 42191, .int .i64 43360, .int .i64 43391, .int .i64 44032, .int .i64 55203, .int .i64 63744, .int .i64 64255, .int .i64 65072, .int .i64 65135, .int .i64 65280, .int .i64 65376, .int .i64 65504, .int .i64 65510, .int .i64 127744, .int .i64 128591, .int .i64 128640, .int .i64 128767, .int .i64 129280, .int .i64 129535, .int .i64 131072, .int .i64 262141]) (ok := fun _ => True) (okp := fun _ => True) ?hr ?hp (fun _ hk => hk) trivial (Below.refl _ _) (Nat.le_refl _) (by simp) ?_; (case hd => rfl); (case hg => rfl); (case hr => first | (go_simp; done) | (go_simp; rfl)); (case hp => exact (Reps.one (show Kd.M (Kd.int .i64) _ _ _ 4352 [.int .i64 4352] from rfl) (Reps.one (show Kd.M (Kd.int .i64) _ _ _ 4447 [.int .i64 4447] from rfl) (Reps.one (show Kd.M (Kd.int .i64) _ _ _ 8986 [.int .i64 8986] from rfl) (Reps.one (show Kd.M (Kd.int .i64) _ _ _ 8987 [.int .i64 8987] from rfl) (Reps.one (show Kd.M (Kd.int .i64) _ _ _ 11904 [.int .i64 11904] from rfl) (Reps.one (show Kd.M (Kd.int .i64) _ _ _ 12287 [.int .i64 12287] from rfl) (Reps.one (show Kd.M (Kd.int .i64) _ _ _ 12289 [.int .i64 12289] from rfl) (Reps.one (show Kd.M (Kd.int .i64) _ _ _ 12350 [.int .i64 12350] from rfl) (Reps.one (show Kd.M (Kd.int .i64) _ _ _ 12353 [.int .i64 12353] from rfl) (Reps.one (show Kd.M (Kd.int .i64) _ _ _ 13311 [.int .i64 13311] from rfl) (Reps.one (show Kd.M (Kd.int .i64) _ _ _ 13312 [.int .i64 13312] from rfl) (Reps.one (show Kd.M (Kd.int .i64) _ _ _ 19903 [.int .i64 19903] from rfl) (Reps.one (show Kd.M (Kd.int .i64) _ _ _ 19968 [.int .i64 19968] from rfl) (Reps.one (show Kd.M (Kd.int .i64) _ _ _ 42191 [.int .i64 42191] from rfl) (Reps.one (show Kd.M (Kd.int .i64) _ _ _ 43360 [.int .i64 43360] from rfl) (Reps.one (show Kd.M (Kd.int .i64) _ _ _ 43391 [.int .i64 43391] from rfl) (Reps.one (show Kd.M (Kd.int .i64) _ _ _ 44032 [.int .i64 44032] from rfl) (Reps.one (show Kd.M (Kd.int .i64) _ _ _ 55203 [.int .i64 55203] from rfl) (Reps.one (show Kd.M (Kd.int .i64) _ _ _ 63744 [.int .i64 63744] from rfl) (Reps.one (show Kd.M (Kd.int .i64) _ _ _ 64255 [.int .i64 64255] from rfl) (Reps.one (show Kd.M (Kd.int .i64) _ _ _ 65072 [.int .i64 65072] from rfl) (Reps.one (show Kd.M (Kd.int .i64) _ _ _ 65135 [.int .i64 65135] from rfl) (Reps.one (show Kd.M (Kd.int .i64) _ _ _ 65280 [.int .i64 65280] from rfl) (Reps.one (show Kd.M (Kd.int .i64) _ _ _ 65376 [.int .i64 65376] from rfl) (Reps.one (show Kd.M (Kd.int .i64) _ _ _ 65504 [.int .i64 65504] from rfl) (Reps.one (show Kd.M (Kd.int .i64) _ _ _ 65510 [.int .i64 65510] from rfl) (Reps.one (show Kd.M (Kd.int .i64) _ _ _ 127744 [.int .i64 127744] from rfl) (Reps.one (show Kd.M (Kd.int .i64) _ _ _ 128591 [.int .i64 128591] from rfl) (Reps.one (show Kd.M (Kd.int .i64) _ _ _ 128640 [.int .i64 128640] from rfl) (Reps.one (show Kd.M (Kd.int .i64) _ _ _ 128767 [.int .i64 128767] from rfl) (Reps.one (show Kd.M (Kd.int .i64) _ _ _ 129280 [.int .i64 129280] from rfl) (Reps.one (show Kd.M (Kd.int .i64) _ _ _ 129535 [.int .i64 129535] from rfl) (Reps.one (show Kd.M (Kd.int .i64) _ _ _ 131072 [.int .i64 131072] from rfl) (Reps.one (show Kd.M (Kd.int .i64) _ _ _ 262141 [.int .i64 262141] from rfl) (Reps.none _ _)))))))))))))))))))))))))))))))))))); intro v105 w14 ho15 hb hg_ hnew_; clear hg_ hnew_; (first | rw [← Ny104.out] at ho15 | (simp only [Int.reduceToNat] at ho15; rw [← Ny104.out] at ho15)); have n0_ := Aside0.mk (Kd.R_lower ho15 (below_size (by repeat (first | (with_reducible first | exact HB.out | apply below_alloc | apply pw_below_drewN | apply below_drew1) | exact HB.out)))); have n1_ := Aside0.mk (below_step (by repeat (first | (with_reducible first | exact HB.out | apply below_alloc | apply pw_below_drewN | apply below_drew1) | exact HB.out)) hb); clear HB; have HO106 := n0_; have HB := n1_; clear n0_ n1_; clear hb ho15; obtain ⟨Ao16, co16, eo16⟩ := Kd.R_slice HO106.out; subst eo16) | ((with_reducible refine gate_callee (f := 116) rfl ?_); refine goesL_ (some 20) rfl rfl Try.func116 (by kernel_rfl) rfl #[.int .i64 a0, .slice Ao16 y104.length co16] rfl (by (try simp only [List.map_toArray, List.map_cons, List.map_nil]); first | done | rfl | (simp only [List.length_drop, List.length_take]; rfl)) ?_; (with_reducible refine (dactylref03_within.calls k a0 _ _ y104 true _ ?side1 ?side2 A10.out).mono ?_); (case side1 => repeat (first | exact (Kd.R_reads' HO106.out).2.2 | (with_reducible refine Kd.C_alloc ?_ _) | (with_reducible refine Kd.C_drewN ?_ _) | (with_reducible refine Kd.C_drew ?_))); (case side2 => exact (Kd.R_reads' HO106.out).2.1); rintro e w' ⟨rfl, ⟨nd, rfl⟩⟩; refine ⟨_, rfl, ?_⟩))
            go_ret
            exact ⟨by first | rfl | (simp [errW_none, errW_some] <;> rfl) | (simp [*, errW_none, errW_some] <;> rfl), by repeat (first | (with_reducible first | exact HB.out | apply below_alloc | apply pw_below_drewN | apply below_drew1) | exact HB.out)⟩
          · replace c11 := Bool.eq_false_iff.mpr c11
            subst c11
            have H1 : (some 1) = some r := by rw [if_neg (show ¬ (false = true) by decide)] at H; exact H
            clear H
            have H := H1
            clear H1
            obtain rfl := Option.some.inj H
            go_enter Try.func71, Try.ntmps71
            go_wp2_with (first | ((with_reducible refine gate_callee (f := 97) rfl ?_); refine goesL_ (some 5) rfl rfl Try.func97 (by kernel_rfl) rfl #[.int .i64 a0] rfl (by (try simp only [List.map_toArray, List.map_cons, List.map_nil]); first | done | rfl | (simp only [List.length_drop, List.length_take]; rfl)) ?_; (with_reducible refine (dactylref02_Right.calls a0 true _ A2.out).mono ?_); rintro e w' ⟨rfl, ⟨nd, rfl⟩⟩; refine ⟨_, rfl, ?_⟩) | ((with_reducible refine gate_callee (f := 114) rfl ?_); refine goesL_ (some 10) rfl rfl Try.func114 (by kernel_rfl) rfl #[.int .i64 a0] rfl (by (try simp only [List.map_toArray, List.map_cons, List.map_nil]); first | done | rfl | (simp only [List.length_drop, List.length_take]; rfl)) ?_; (with_reducible refine (dactylref03_odd.calls k a0 t102 _ A5.out).mono ?_); rintro e w17 ⟨rfl, hb⟩; refine ⟨_, rfl, ?_⟩; have n0_ := Aside0.mk (below_step (by repeat (first | (with_reducible first | exact HB.out | apply below_alloc | apply pw_below_drewN | apply below_drew1) | exact HB.out)) hb); clear HB; have HB := n0_; clear n0_; (try clear hb); (try clear hb2); (try clear hk); (try clear hi)) | ((with_reducible refine gate_callee (f := 115) rfl ?_); refine goesL_ (some 15) rfl rfl Try.func115 (by kernel_rfl) rfl #[.int .i64 a0] rfl (by (try simp only [List.map_toArray, List.map_cons, List.map_nil]); first | done | rfl | (simp only [List.length_drop, List.length_take]; rfl)) ?_; (with_reducible refine (dactylref03_Skeleton.calls k a0 t103 _ A8.out).mono ?_); rintro e w18 ⟨rfl, hb⟩; refine ⟨_, rfl, ?_⟩; have n0_ := Aside0.mk (below_step (by repeat (first | (with_reducible first | exact HB.out | apply below_alloc | apply pw_below_drewN | apply below_drew1) | exact HB.out)) hb); clear HB; have HB := n0_; clear n0_; (try clear hb); (try clear hb2); (try clear hk); (try clear hi)) | ((with_reducible refine gate_dst (N := 19) rfl ?_); refine Kd.R_lit (Kd.int .i64) _ 3 ?hg (N := 19) ?hd (xs := ([4352, 4447, 8986, 8987, 11904, 12287, 12289, 12350, 12353, 13311, 13312, 19903, 19968, 42191, 43360, 43391, 44032, 55203, 63744, 64255, 65072, 65135, 65280, 65376, 65504, 65510, 127744, 128591, 128640, 128767, 129280, 129535, 131072, 262141] : List Int)) (inner := [.int .i64 4352, .int .i64 4447, .int .i64 8986, .int .i64 8987, .int .i64 11904, .int .i64 12287, .int .i64 12289, .int .i64 12350, .int .i64 12353, .int .i64 13311, .int .i64 13312, .int .i64 19903, .int .i64 19968, .int .i64 42191, .int .i64 43360, .int .i64 43391, .int .i64 44032, .int .i64 55203, .int .i64 63744, .int .i64 64255, .int .i64 65072, .int .i64 65135, .int .i64 65280, .int .i64 65376, .int .i64 65504, .int .i64 65510, .int .i64 127744, .int .i64 128591, .int .i64 128640, .int .i64 128767, .int .i64 129280, .int .i64 129535, .int .i64 131072, .int .i64 262141]) (ok := fun _ => True) (okp := fun _ => True) ?hr ?hp (fun _ hk => hk) trivial (Below.refl _ _) (Nat.le_refl _) (by simp) ?_; (case hd => rfl); (case hg => rfl); (case hr => first | (go_simp; done) | (go_simp; rfl)); (case hp => exact (Reps.one (show Kd.M (Kd.int .i64) _ _ _ 4352 [.int .i64 4352] from rfl) (Reps.one (show Kd.M (Kd.int .i64) _ _ _ 4447 [.int .i64 4447] from rfl) (Reps.one (show Kd.M (Kd.int .i64) _ _ _ 8986 [.int .i64 8986] from rfl) (Reps.one (show Kd.M (Kd.int .i64) _ _ _ 8987 [.int .i64 8987] from rfl) (Reps.one (show Kd.M (Kd.int .i64) _ _ _ 11904 [.int .i64 11904] from rfl) (Reps.one (show Kd.M (Kd.int .i64) _ _ _ 12287 [.int .i64 12287] from rfl) (Reps.one (show Kd.M (Kd.int .i64) _ _ _ 12289 [.int .i64 12289] from rfl) (Reps.one (show Kd.M (Kd.int .i64) _ _ _ 12350 [.int .i64 12350] from rfl) (Reps.one (show Kd.M (Kd.int .i64) _ _ _ 12353 [.int .i64 12353] from rfl) (Reps.one (show Kd.M (Kd.int .i64) _ _ _ 13311 [.int .i64 13311] from rfl) (Reps.one (show Kd.M (Kd.int .i64) _ _ _ 13312 [.int .i64 13312] from rfl) (Reps.one (show Kd.M (Kd.int .i64) _ _ _ 19903 [.int .i64 19903] from rfl) (Reps.one (show Kd.M (Kd.int .i64) _ _ _ 19968 [.int .i64 19968] from rfl) (Reps.one (show Kd.M (Kd.int .i64) _ _ _ 42191 [.int .i64 42191] from rfl) (Reps.one (show Kd.M (Kd.int .i64) _ _ _ 43360 [.int .i64 43360] from rfl) (Reps.one (show Kd.M (Kd.int .i64) _ _ _ 43391 [.int .i64 43391] from rfl) (Reps.one (show Kd.M (Kd.int .i64) _ _ _ 44032 [.int .i64 44032] from rfl) (Reps.one (show Kd.M (Kd.int .i64) _ _ _ 55203 [.int .i64 55203] from rfl) (Reps.one (show Kd.M (Kd.int .i64) _ _ _ 63744 [.int .i64 63744] from rfl) (Reps.one (show Kd.M (Kd.int .i64) _ _ _ 64255 [.int .i64 64255] from rfl) (Reps.one (show Kd.M (Kd.int .i64) _ _ _ 65072 [.int .i64 65072] from rfl) (Reps.one (show Kd.M (Kd.int .i64) _ _ _ 65135 [.int .i64 65135] from rfl) (Reps.one (show Kd.M (Kd.int .i64) _ _ _ 65280 [.int .i64 65280] from rfl) (Reps.one (show Kd.M (Kd.int .i64) _ _ _ 65376 [.int .i64 65376] from rfl) (Reps.one (show Kd.M (Kd.int .i64) _ _ _ 65504 [.int .i64 65504] from rfl) (Reps.one (show Kd.M (Kd.int .i64) _ _ _ 65510 [.int .i64 65510] from rfl) (Reps.one (show Kd.M (Kd.int .i64) _ _ _ 127744 [.int .i64 127744] from rfl) (Reps.one (show Kd.M (Kd.int .i64) _ _ _ 128591 [.int .i64 128591] from rfl) (Reps.one (show Kd.M (Kd.int .i64) _ _ _ 128640 [.int .i64 128640] from rfl) (Reps.one (show Kd.M (Kd.int .i64) _ _ _ 128767 [.int .i64 128767] from rfl) (Reps.one (show Kd.M (Kd.int .i64) _ _ _ 129280 [.int .i64 129280] from rfl) (Reps.one (show Kd.M (Kd.int .i64) _ _ _ 129535 [.int .i64 129535] from rfl) (Reps.one (show Kd.M (Kd.int .i64) _ _ _ 131072 [.int .i64 131072] from rfl) (Reps.one (show Kd.M (Kd.int .i64) _ _ _ 262141 [.int .i64 262141] from rfl) (Reps.none _ _)))))))))))))))))))))))))))))))))))); intro v105 w19 ho20 hb hg_ hnew_; clear hg_ hnew_; (first | rw [← Ny104.out] at ho20 | (simp only [Int.reduceToNat] at ho20; rw [← Ny104.out] at ho20)); have n0_ := Aside0.mk (Kd.R_lower ho20 (below_size (by repeat (first | (with_reducible first | exact HB.out | apply below_alloc | apply pw_below_drewN | apply below_drew1) | exact HB.out)))); have n1_ := Aside0.mk (below_step (by repeat (first | (with_reducible first | exact HB.out | apply below_alloc | apply pw_below_drewN | apply below_drew1) | exact HB.out)) hb); clear HB; have HO106 := n0_; have HB := n1_; clear n0_ n1_; clear hb ho20; obtain ⟨Ao21, co21, eo21⟩ := Kd.R_slice HO106.out; subst eo21) | ((with_reducible refine gate_callee (f := 116) rfl ?_); refine goesL_ (some 20) rfl rfl Try.func116 (by kernel_rfl) rfl #[.int .i64 a0, .slice Ao21 y104.length co21] rfl (by (try simp only [List.map_toArray, List.map_cons, List.map_nil]); first | done | rfl | (simp only [List.length_drop, List.length_take]; rfl)) ?_; (with_reducible refine (dactylref03_within.calls k a0 _ _ y104 false _ ?side1 ?side2 A10.out).mono ?_); (case side1 => repeat (first | exact (Kd.R_reads' HO106.out).2.2 | (with_reducible refine Kd.C_alloc ?_ _) | (with_reducible refine Kd.C_drewN ?_ _) | (with_reducible refine Kd.C_drew ?_))); (case side2 => exact (Kd.R_reads' HO106.out).2.1); rintro e w' ⟨rfl, ⟨nd, rfl⟩⟩; refine ⟨_, rfl, ?_⟩))
            go_ret
            exact ⟨by first | rfl | (simp [errW_none, errW_some] <;> rfl) | (simp [*, errW_none, errW_some] <;> rfl), by repeat (first | (with_reducible first | exact HB.out | apply below_alloc | apply pw_below_drewN | apply below_drew1) | exact HB.out)⟩
        · rw [if_neg c9] at H
          have c9b0 : (t103 == a0) = false := beq_eq_false_iff_ne.mpr c9
          have c9b1 : (t103 != a0) = true := bne_iff_ne.mpr c9
          obtain rfl := Option.some.inj H
          go_enter Try.func71, Try.ntmps71
          go_wp2_with (first | ((with_reducible refine gate_callee (f := 97) rfl ?_); refine goesL_ (some 5) rfl rfl Try.func97 (by kernel_rfl) rfl #[.int .i64 a0] rfl (by (try simp only [List.map_toArray, List.map_cons, List.map_nil]); first | done | rfl | (simp only [List.length_drop, List.length_take]; rfl)) ?_; (with_reducible refine (dactylref02_Right.calls a0 true _ A2.out).mono ?_); rintro e w' ⟨rfl, ⟨nd, rfl⟩⟩; refine ⟨_, rfl, ?_⟩) | ((with_reducible refine gate_callee (f := 114) rfl ?_); refine goesL_ (some 10) rfl rfl Try.func114 (by kernel_rfl) rfl #[.int .i64 a0] rfl (by (try simp only [List.map_toArray, List.map_cons, List.map_nil]); first | done | rfl | (simp only [List.length_drop, List.length_take]; rfl)) ?_; (with_reducible refine (dactylref03_odd.calls k a0 t102 _ A5.out).mono ?_); rintro e w22 ⟨rfl, hb⟩; refine ⟨_, rfl, ?_⟩; have n0_ := Aside0.mk (below_step (by repeat (first | (with_reducible first | exact HB.out | apply below_alloc | apply pw_below_drewN | apply below_drew1) | exact HB.out)) hb); clear HB; have HB := n0_; clear n0_; (try clear hb); (try clear hb2); (try clear hk); (try clear hi)) | ((with_reducible refine gate_callee (f := 115) rfl ?_); refine goesL_ (some 15) rfl rfl Try.func115 (by kernel_rfl) rfl #[.int .i64 a0] rfl (by (try simp only [List.map_toArray, List.map_cons, List.map_nil]); first | done | rfl | (simp only [List.length_drop, List.length_take]; rfl)) ?_; (with_reducible refine (dactylref03_Skeleton.calls k a0 t103 _ A8.out).mono ?_); rintro e w23 ⟨rfl, hb⟩; refine ⟨_, rfl, ?_⟩; have n0_ := Aside0.mk (below_step (by repeat (first | (with_reducible first | exact HB.out | apply below_alloc | apply pw_below_drewN | apply below_drew1) | exact HB.out)) hb); clear HB; have HB := n0_; clear n0_; (try clear hb); (try clear hb2); (try clear hk); (try clear hi)))
          go_ret
          exact ⟨by first | rfl | (simp [errW_none, errW_some] <;> rfl) | (simp [*, errW_none, errW_some] <;> rfl), by repeat (first | (with_reducible first | exact HB.out | apply below_alloc | apply pw_below_drewN | apply below_drew1) | exact HB.out)⟩
  · replace c3 := Bool.eq_false_iff.mpr c3
    subst c3
    have H1 : (some 0) = some r := by rw [if_neg (show ¬ (false = true) by decide)] at H; exact H
    clear H
    have H := H1
    clear H1
    obtain rfl := Option.some.inj H
    go_enter Try.func71, Try.ntmps71
    go_wp2_with (first | ((with_reducible refine gate_callee (f := 97) rfl ?_); refine goesL_ (some 5) rfl rfl Try.func97 (by kernel_rfl) rfl #[.int .i64 a0] rfl (by (try simp only [List.map_toArray, List.map_cons, List.map_nil]); first | done | rfl | (simp only [List.length_drop, List.length_take]; rfl)) ?_; (with_reducible refine (dactylref02_Right.calls a0 false _ A2.out).mono ?_); rintro e w' ⟨rfl, ⟨nd, rfl⟩⟩; refine ⟨_, rfl, ?_⟩))
    go_ret
    exact ⟨by first | rfl | (simp [errW_none, errW_some] <;> rfl) | (simp [*, errW_none, errW_some] <;> rfl), by repeat (first | (with_reducible first | exact HB.out | apply below_alloc | apply pw_below_drewN | apply below_drew1) | exact HB.out)⟩

end Go.Proofs.Ytemoocoedibbpaa.X

namespace Go.Proofs.Ytemoocoedibbpaa.X
open Go.RowKit Go.Proofs.YtemoocoedibbpaaW.PrintWords Go.Proofs.YtemoocoedibbpaaW.PrintLast Go.Proofs.YtemoocoedibbpaaW.PrintMore
attribute [local go_sem] max2_int min2_int max_two min_two max_three min_three max_four min_four
set_option linter.unusedVariables false
set_option linter.unusedSimpArgs false

theorem w64 {x : Int} (h0 : -9223372036854775808 ≤ x) (h1 : x ≤ 9223372036854775807) : wrap64 x = x := by unfold wrap64; omega
theorem Ev.all {α : Type} {g : Nat → Option α} {r : α} (K : Nat) (h : ∀ k, K ≤ k → g k = some r) : Ev g r := ⟨K, h⟩
theorem Ev.ite {α : Type} {c : Prop} [Decidable c] {g f : Nat → Option α} {r : α} (h1 : c → Ev g r) (h2 : ¬ c → Ev f r) : Ev (fun k => if c then g k else f k) r := by
  by_cases h : c
  · simp only [if_pos h]; exact h1 h
  · simp only [if_neg h]; exact h2 h
theorem Ev.bind1 {α β : Type} {a : α} {o : Option α} {f : Nat → α → Option β} {r : β} (h : o = some a) (k : Ev (fun n => f n a) r) : Ev (fun n => o.bind (f n)) r := by subst h; exact k
/-! ### pairs of a table -/
def withinB (v : Int) : List Int → Bool
  | a :: b :: r => (decide (a ≤ v) && decide (v ≤ b)) || withinB v r
  | _ => false
theorem within_l0 (v : Int) (l : List Int) (hl : l.length ≤ 1000) : ∀ (d k i : Nat), 2 * d + i = l.length → d < k → dactylref03_within.l0 k v l (i : Int) = some (withinB v (l.drop i)) := by
  intro d
  induction d with
  | zero =>
    intro k i h1 h2
    obtain ⟨k, rfl⟩ : ∃ m, k = m + 1 := ⟨k - 1, by omega⟩
    simp only [dactylref03_within.l0]
    rw [w64 (by omega) (by omega), if_neg (by omega), List.drop_of_length_le (by omega)]
    rfl
  | succ d ih =>
    intro k i h1 h2
    obtain ⟨k, rfl⟩ : ∃ m, k = m + 1 := ⟨k - 1, by omega⟩
    have hi := ih k (i + 2) (by omega) (by omega)
    have e1 : wrap64 ((i : Int) + 1) = ((i + 1 : Nat) : Int) := by rw [w64 (by omega) (by omega)]; omega
    have e2 : wrap64 ((i : Int) + 2) = ((i + 2 : Nat) : Int) := by rw [w64 (by omega) (by omega)]; omega
    have ed : l.drop i = l[i] :: l[i + 1] :: l.drop (i + 2) := by rw [List.drop_eq_getElem_cons (by omega), List.drop_eq_getElem_cons (by omega)]
    have r0 : rd l (i : Int) = l[i] := by simp [rd, List.getD, show i < l.length by omega]
    have r1 : rd l ((i + 1 : Nat) : Int) = l[i + 1] := by simp only [rd, Int.toNat_natCast]; simp [List.getD, show i + 1 < l.length by omega]
    simp only [dactylref03_within.l0]
    rw [e1, e2, if_pos (by omega), if_pos (by omega), if_pos (by omega), r0, r1, hi, ed]
    by_cases c1 : v ≥ l[i]
    · rw [if_pos c1, if_pos (by omega)]
      by_cases c2 : v ≤ l[i + 1]
      · rw [if_pos c2]; simp [withinB, c1, c2]
      · rw [if_neg c2]; simp [withinB, c2]
    · rw [if_neg c1]; simp [withinB, c1]
theorem within_f (v : Int) (l : List Int) (d : Nat) (hd : 2 * d = l.length) (hl : l.length ≤ 1000) (k : Nat) (hk : d < k) : dactylref03_within.f k v l = some (withinB v l) := by
  have := within_l0 v l hl d k 0 (by omega) hk
  simpa [dactylref03_within.f] using this
/-! ### break points -/
def flo (B : List Int) (v : Int) : Int := (B.filter (fun b => decide (b ≤ v))).foldl max (-1)
theorem foldl_max (l : List Int) (a : Int) : a ≤ l.foldl max a ∧ (∀ b ∈ l, b ≤ l.foldl max a) ∧ (l.foldl max a = a ∨ l.foldl max a ∈ l) := by
  induction l generalizing a with
  | nil => simp
  | cons x l ih =>
    obtain ⟨h1, h2, h3⟩ := ih (max a x)
    simp only [List.foldl_cons]
    refine ⟨by omega, fun b hb => ?_, ?_⟩
    · rcases List.mem_cons.1 hb with rfl | hb
      · omega
      · exact h2 b hb
    · rcases h3 with h3 | h3
      · rw [h3]
        by_cases h : a ≤ x
        · right; rw [Int.max_eq_right h]; exact List.mem_cons_self
        · left; omega
      · exact .inr (List.mem_cons_of_mem _ h3)
theorem flo_le (B : List Int) (v : Int) (hv : -1 ≤ v) : flo B v ≤ v := by
  rcases (foldl_max (B.filter (fun b => decide (b ≤ v))) (-1)).2.2 with h | h
  · unfold flo; omega
  · have := (List.mem_filter.1 h).2
    simpa [flo] using this
theorem flo_iff (B : List Int) (v : Int) (hv : -1 ≤ v) (a : Int) (ha : a ∈ B) : a ≤ v ↔ a ≤ flo B v :=
  ⟨fun h => (foldl_max (B.filter (fun b => decide (b ≤ v))) (-1)).2.1 a (List.mem_filter.2 ⟨ha, by simpa using h⟩), fun h => by have := flo_le B v hv; omega⟩
theorem flo_mem (B : List Int) (v : Int) (hv : 0 ≤ v) (h0 : 0 ∈ B) : flo B v ∈ B := by
  rcases (foldl_max (B.filter (fun b => decide (b ≤ v))) (-1)).2.2 with h | h
  · have := (flo_iff B v (by omega) 0 h0).1 hv
    unfold flo at this
    omega
  · exact (List.mem_filter.1 h).1
def okL (B : List Int) : List Int → Bool
  | a :: b :: r => B.contains a && B.contains (b + 1) && okL B r
  | _ => true
theorem withinB_flo (B : List Int) (v : Int) (hv : 0 ≤ v) (l : List Int) (h : okL B l = true) : withinB v l = withinB (flo B v) l := by
  induction l using okL.induct with
  | case1 a b r ih =>
    simp only [okL, Bool.and_eq_true, List.contains_iff_mem] at h
    obtain ⟨⟨h1, h2⟩, h3⟩ := h
    have e1 := flo_iff B v (by omega) a h1
    have e2 := flo_iff B v (by omega) (b + 1) h2
    simp only [withinB, ih h3]
    congr 2
    · exact decide_eq_decide.mpr e1
    · exact decide_eq_decide.mpr (by omega)
  | case2 l hl => rw [withinB.eq_2 _ _ hl, withinB.eq_2 _ _ hl]
/-! ### the program's class, as one total function -/
def rightB (v : Int) : Bool := decide (0 ≤ v ∧ v < 55296 ∨ 57343 < v ∧ v ≤ 1114111) || decide (1114240 ≤ v ∧ v ≤ 1114367)
theorem utf_point_f (v : Int) : utf_point.f v = some (decide (0 ≤ v ∧ v < 55296 ∨ 57343 < v ∧ v ≤ 1114111)) := by
  unfold utf_point.f
  by_cases h1 : v ≥ 0
  · rw [if_pos h1]
    by_cases h2 : v ≤ 1114111
    · rw [if_pos h2]
      by_cases h3 : v < 55296
      · rw [if_pos h3]; congr 1; exact (decide_eq_true (by omega)).symm
      · rw [if_neg h3]; congr 1; exact decide_eq_decide.mpr (by omega)
    · rw [if_neg h2]; congr 1; exact (decide_eq_false (by omega)).symm
  · rw [if_neg h1]; congr 1; exact (decide_eq_false (by omega)).symm
theorem utf_Right_f (v : Int) : utf_Right.f v = some (rightB v) := by
  unfold utf_Right.f
  rw [utf_point_f, Option.bind_some]
  unfold rightB
  by_cases h : (0 ≤ v ∧ v < 55296 ∨ 57343 < v ∧ v ≤ 1114111)
  · rw [decide_eq_true h]; simp
  · rw [decide_eq_false h]
    simp only [Bool.false_or, if_neg (show ¬ (false = true) by decide)]
    by_cases h2 : v ≥ 1114240
    · rw [if_pos h2]; congr 1; exact decide_eq_decide.mpr (by omega)
    · rw [if_neg h2]; congr 1; exact (decide_eq_false (by omega)).symm
theorem ref_Right_f (v : Int) : dactylref02_Right.f v = some (rightB v) := by
  unfold dactylref02_Right.f rightB
  repeat' split
  all_goals (congr 1; simp only [Bool.or_eq_true, decide_eq_true_eq, eq_comm (a := true), ← Bool.decide_or]; first | omega | (exact decide_eq_decide.mpr (by omega)) | (simp; omega))
def clsIn (v : Int) (l : List S138) : Int := if idxP (inP v) l < 0 then 0 else (rd_T138 l (idxP (inP v) l)).f2
def spansL : List S138 := (class_spans.f).getD []
def widesL : List S138 := (class_wides.f).getD []
theorem class_in_f (v : Int) (l : List S138) : class_in.f v l = some (clsIn v l) := rfl
def skel (v : Int) : Int := if idxP (lookP v) looksL < 0 then v else (rd_T144 looksL (idxP (lookP v) looksL)).f1
def cls (v : Int) : Int := if rightB v = true then (if v > 1114111 then 12 else if 31 < v ∧ v < 127 then 1 else if clsIn v spansL = 0 then (if skel v = v then (if clsIn v widesL = 0 then 1 else clsIn v widesL) else 3) else clsIn v spansL) else 0
theorem class_Of_f (v : Int) (k : Nat) (hk : 1 ≤ k) : class_Of.f k v = some (cls v) := by
  obtain ⟨k, rfl⟩ : ∃ m, k = m + 1 := ⟨k - 1, by omega⟩
  have hj : class_Of.j0 (k + 1) v = some (if clsIn v spansL = 0 then (if skel v = v then (if clsIn v widesL = 0 then 1 else clsIn v widesL) else 3) else clsIn v spansL) := by
    simp only [class_Of.j0]
    rw [show class_spans.f = some spansL from rfl, Option.bind_some, class_in_f, Option.bind_some, show class_Skeleton.f v = some (skel v) from rfl, Option.bind_some, show class_wides.f = some widesL from rfl, Option.bind_some, class_in_f, Option.bind_some]
    by_cases h1 : clsIn v spansL = 0
    · rw [if_pos h1, if_pos h1]
      by_cases h2 : skel v = v
      · rw [if_pos h2, if_pos h2]; split <;> rfl
      · rw [if_neg h2, if_neg h2]
    · rw [if_neg h1, if_neg h1]
  unfold class_Of.f cls
  rw [utf_Right_f, Option.bind_some, hj]
  by_cases h1 : rightB v = true
  · rw [if_pos h1, if_pos h1]
    by_cases h2 : v > 1114111
    · rw [if_pos h2, if_pos h2]
    · rw [if_neg h2, if_neg h2]
      by_cases h3 : v > 31
      · rw [if_pos h3]
        by_cases h4 : v < 127
        · rw [if_pos h4, if_pos ⟨h3, h4⟩]
        · rw [if_neg h4, if_neg (show ¬ (31 < v ∧ v < 127) by omega)]
      · rw [if_neg h3, if_neg (show ¬ (31 < v ∧ v < 127) by omega)]
  · rw [if_neg h1, if_neg h1]
/-! ### the reference's -/
theorem skel_l0 (v : Int) (l : List S144) (xs : List Int) (s : ByteArray) (hx : xs = l.map (·.f0)) (hs : s.size = l.length) (hb : ∀ i, (h : i < l.length) → bt s (i : Int) = (l[i]).f1) (hl : l.length ≤ 1000) :
    ∀ (d k i : Nat), d + i = l.length → d < k → dactylref03_Skeleton.l0 k v xs s (i : Int) = some (if idxP (lookP v) (l.drop i) < 0 then v else (rd_T144 (l.drop i) (idxP (lookP v) (l.drop i))).f1) := by
  have hxl : xs.length = l.length := by rw [hx, List.length_map]
  intro d
  induction d with
  | zero =>
    intro k i h1 h2
    obtain ⟨k, rfl⟩ : ∃ m, k = m + 1 := ⟨k - 1, by omega⟩
    simp only [dactylref03_Skeleton.l0]
    rw [if_neg (by omega), List.drop_of_length_le (by omega)]
    rfl
  | succ d ih =>
    intro k i h1 h2
    obtain ⟨k, rfl⟩ : ∃ m, k = m + 1 := ⟨k - 1, by omega⟩
    have hi := ih k (i + 1) (by omega) (by omega)
    have e1 : wrap64 ((i : Int) + 1) = ((i + 1 : Nat) : Int) := by rw [w64 (by omega) (by omega)]; omega
    have ed : l.drop i = l[i] :: l.drop (i + 1) := by rw [List.drop_eq_getElem_cons (by omega)]
    have r0 : rd xs (i : Int) = (l[i]).f0 := by subst hx; simp [rd, List.getD, show i < l.length by omega]
    simp only [dactylref03_Skeleton.l0]
    rw [if_pos (by omega), if_pos (by omega), r0, e1, hi, ed]
    by_cases c : (l[i]).f0 = v
    · rw [if_pos c, if_pos (by omega), hb i (by omega)]
      have : lookP v l[i] = true := by simp [lookP, c]
      simp only [idxP, this, if_true]
      rw [if_neg (by omega)]
      have hr : -9223372036854775808 ≤ (l[i]).f1 ∧ (l[i]).f1 ≤ 9223372036854775807 := by rw [← hb i (by omega)]; have := bt_range s (i : Int); omega
      rw [w64 hr.1 hr.2]
      rfl
    · rw [if_neg c]
      have hp : lookP v l[i] = false := by simp [lookP, c]
      have hg := idxP_ge (lookP v) (l.drop (i + 1))
      simp only [idxP, hp]
      by_cases h : idxP (lookP v) (l.drop (i + 1)) < 0
      · simp [h]
      · simp only [if_neg h, Bool.false_eq_true, if_false]
        rw [if_neg (by omega)]
        congr 2
        simp only [rd_T144, List.getD]
        rw [show (idxP (lookP v) (l.drop (i + 1)) + 1).toNat = (idxP (lookP v) (l.drop (i + 1))).toNat + 1 by omega, List.getElem?_cons_succ]
theorem ref_Skeleton_f (v : Int) (k : Nat) (hk : 52 ≤ k) : dactylref03_Skeleton.f k v = some (skel v) := by
  unfold dactylref03_Skeleton.f
  have := skel_l0 v looksL ([913, 914, 917, 918, 919, 921, 922, 924, 925, 927, 929, 932, 933, 935, 957, 959, 961, 1029, 1030, 1032, 1040, 1042, 1045, 1050, 1052, 1053, 1054, 1056, 1057, 1058, 1061, 1072, 1077, 1086, 1088, 1089, 1091, 1093, 1109, 1110, 1112, 1281, 1307, 1309, 894, 8208, 8722, 8260, 8725, 8228, 8218]) (⟨#[65, 66, 69, 90, 72, 73, 75, 77, 78, 79, 80, 84, 89, 88, 118, 111, 112, 83, 73, 74, 65, 66, 69, 75, 77, 72, 79, 80, 67, 84, 88, 97, 101, 111, 112, 99, 121, 120, 115, 105, 106, 100, 113, 119, 59, 45, 45, 47, 47, 46, 44]⟩ : ByteArray) (by decide +kernel) (by decide +kernel) (by decide +kernel) (by decide +kernel) 51 k 0 (by decide +kernel) (by omega)
  exact this
def oddB (v : Int) : Int := if v ≤ 31 then 4 else if v = 127 then 5 else if 128 ≤ v ∧ v ≤ 159 then 6 else
  if withinB v [160, 160, 5760, 5760, 8192, 8202, 8232, 8233, 8239, 8239, 8287, 8287, 12288, 12288] = true then 10 else
  if withinB v [173, 173, 6155, 6158, 8203, 8205, 8288, 8292, 65279, 65279, 65529, 65531] = true then 8 else
  if withinB v [1564, 1564, 8206, 8207, 8234, 8238, 8294, 8297] = true then 7 else
  if withinB v [768, 879, 1155, 1161, 1425, 1469, 1552, 1562, 1611, 1631, 1750, 1756, 6832, 6862, 7616, 7679, 8400, 8432, 12330, 12335, 12441, 12442, 65024, 65039, 65056, 65071] = true then 9 else
  if withinB v [57344, 63743, 64976, 65007, 65520, 65528, 65534, 65535, 131070, 131071, 262142, 1114111] = true then 11 else 0
def widesR : List Int := [4352, 4447, 8986, 8987, 11904, 12287, 12289, 12350, 12353, 13311, 13312, 19903, 19968, 42191, 43360, 43391, 44032, 55203, 63744, 64255, 65072, 65135, 65280, 65376, 65504, 65510, 127744, 128591, 128640, 128767, 129280, 129535, 131072, 262141]
theorem ref_odd_f (v : Int) (k : Nat) (hk : 52 ≤ k) : dactylref03_odd.f k v = some (oddB v) := by
  have hj : ∀ b : Bool, dactylref03_odd.j0 k v b = some (if b = true then 6 else
      if withinB v [160, 160, 5760, 5760, 8192, 8202, 8232, 8233, 8239, 8239, 8287, 8287, 12288, 12288] = true then 10 else
      if withinB v [173, 173, 6155, 6158, 8203, 8205, 8288, 8292, 65279, 65279, 65529, 65531] = true then 8 else
      if withinB v [1564, 1564, 8206, 8207, 8234, 8238, 8294, 8297] = true then 7 else
      if withinB v [768, 879, 1155, 1161, 1425, 1469, 1552, 1562, 1611, 1631, 1750, 1756, 6832, 6862, 7616, 7679, 8400, 8432, 12330, 12335, 12441, 12442, 65024, 65039, 65056, 65071] = true then 9 else
      if withinB v [57344, 63743, 64976, 65007, 65520, 65528, 65534, 65535, 131070, 131071, 262142, 1114111] = true then 11 else 0) := by
    obtain ⟨k, rfl⟩ : ∃ m, k = m + 1 := ⟨k - 1, by omega⟩
    intro b
    simp only [dactylref03_odd.j0]
    rw [within_f v _ 7 rfl (by decide) k (by omega), within_f v _ 6 rfl (by decide) k (by omega), within_f v _ 4 rfl (by decide) k (by omega), within_f v _ 13 rfl (by decide) k (by omega), within_f v _ 6 rfl (by decide) k (by omega)]
    simp only [Option.bind_some]
    repeat' (split <;> try rfl)
  unfold dactylref03_odd.f oddB
  rw [hj, hj]
  by_cases h1 : v ≤ 31
  · rw [if_pos h1, if_pos h1]
  · rw [if_neg h1, if_neg h1]
    by_cases h2 : v = 127
    · rw [if_pos h2, if_pos h2]
    · rw [if_neg h2, if_neg h2]
      by_cases h3 : v ≥ 128
      · rw [if_pos h3]
        by_cases h4 : v ≤ 159
        · rw [decide_eq_true h4, if_pos rfl, if_pos ⟨h3, h4⟩]
        · rw [decide_eq_false h4, if_neg (show ¬ (false = true) by decide), if_neg (show ¬ (128 ≤ v ∧ v ≤ 159) by omega)]
      · rw [if_neg h3, if_neg (show ¬ (false = true) by decide), if_neg (show ¬ (128 ≤ v ∧ v ≤ 159) by omega)]
/-- Where the classes change. -/
def brk : List Int := [0, 32, 127, 128, 160, 161, 173, 174, 768, 880, 1155, 1162, 1425, 1470, 1552, 1563, 1564, 1565, 1611, 1632, 1750, 1757, 4352, 4448, 5760, 5761, 6155, 6159, 6832, 6863, 7616, 7680, 8192, 8203, 8206, 8208, 8232, 8234, 8239, 8240, 8287, 8288, 8293, 8294, 8298, 8400, 8433, 8986, 8988, 11904, 12288, 12289, 12330, 12336, 12351, 12353, 12441, 12443, 13312, 19904, 19968, 42192, 43360, 43392, 44032, 55204, 57344, 63744, 64256, 64976, 65008, 65024, 65040, 65056, 65072, 65136, 65279, 65280, 65377, 65504, 65511, 65520, 65529, 65532, 65534, 65536, 127744, 128592, 128640, 128768, 129280, 129536, 131070, 131072, 262142, 1114112]
theorem idxP_congr {α : Type} (p q : α → Bool) (l : List α) (h : ∀ x ∈ l, p x = q x) : idxP p l = idxP q l := by
  induction l with
  | nil => rfl
  | cons x l ih => simp only [idxP, h x List.mem_cons_self, ih (fun y hy => h y (List.mem_cons_of_mem _ hy))]
theorem clsIn_flo (v : Int) (hv : 0 ≤ v) (l : List S138) (h : (l.all fun s => brk.contains s.f0 && brk.contains (s.f1 + 1)) = true) : clsIn v l = clsIn (flo brk v) l := by
  have : idxP (inP v) l = idxP (inP (flo brk v)) l := idxP_congr _ _ l (fun s hs => by
    have hb := List.all_eq_true.1 h s hs
    simp only [Bool.and_eq_true, List.contains_iff_mem] at hb
    have e1 := flo_iff brk v (by omega) s.f0 hb.1
    have e2 := flo_iff brk v (by omega) (s.f1 + 1) hb.2
    unfold inP
    congr 1
    · exact decide_eq_decide.mpr e1
    · exact decide_eq_decide.mpr (by omega))
  unfold clsIn
  rw [this]
theorem oddB_flo (v : Int) (hv : 0 ≤ v) : oddB v = oddB (flo brk v) := by
  have e1 := flo_iff brk v (by omega) 32 (by decide +kernel)
  have e2 := flo_iff brk v (by omega) 127 (by decide +kernel)
  have e3 := flo_iff brk v (by omega) 128 (by decide +kernel)
  have e4 := flo_iff brk v (by omega) 160 (by decide +kernel)
  unfold oddB
  rw [withinB_flo brk v hv _ (by decide +kernel), withinB_flo brk v hv [173, 173, 6155, 6158, 8203, 8205, 8288, 8292, 65279, 65279, 65529, 65531] (by decide +kernel), withinB_flo brk v hv [1564, 1564, 8206, 8207, 8234, 8238, 8294, 8297] (by decide +kernel), withinB_flo brk v hv [768, 879, 1155, 1161, 1425, 1469, 1552, 1562, 1611, 1631, 1750, 1756, 6832, 6862, 7616, 7679, 8400, 8432, 12330, 12335, 12441, 12442, 65024, 65039, 65056, 65071] (by decide +kernel), withinB_flo brk v hv [57344, 63743, 64976, 65007, 65520, 65528, 65534, 65535, 131070, 131071, 262142, 1114111] (by decide +kernel)]
  by_cases h1 : v ≤ 31
  · rw [if_pos h1, if_pos (show flo brk v ≤ 31 by omega)]
  · rw [if_neg h1, if_neg (show ¬ flo brk v ≤ 31 by omega)]
    by_cases h2 : v = 127
    · rw [if_pos h2, if_pos (show flo brk v = 127 by omega)]
    · rw [if_neg h2, if_neg (show ¬ flo brk v = 127 by omega)]
      by_cases h3 : 128 ≤ v ∧ v ≤ 159
      · rw [if_pos h3, if_pos (show 128 ≤ flo brk v ∧ flo brk v ≤ 159 by omega)]
      · rw [if_neg h3, if_neg (show ¬ (128 ≤ flo brk v ∧ flo brk v ≤ 159) by omega)]
/-- The two tables say the same at the points where the classes change. -/
def sameAt (b : Int) : Bool := (decide (31 < b ∧ b < 127) || decide (clsIn b spansL = oddB b)) && (!decide (31 < b ∧ b < 127) || (decide (oddB b = 0) && !withinB b widesR)) && decide (clsIn b widesL = if withinB b widesR = true then 2 else 0)
theorem same_brk : (brk.all fun b => decide (b > 1114111) || sameAt b) = true := by decide +kernel
theorem same_all (v : Int) (h0 : 0 ≤ v) (h1 : v ≤ 1114111) : (¬ (31 < v ∧ v < 127) → clsIn v spansL = oddB v) ∧ ((31 < v ∧ v < 127) → oddB v = 0 ∧ withinB v widesR = false) ∧ clsIn v widesL = (if withinB v widesR = true then 2 else 0) := by
  have e1 := flo_iff brk v (by omega) 32 (by decide +kernel)
  have e2 := flo_iff brk v (by omega) 127 (by decide +kernel)
  have hm := flo_mem brk v h0 (by decide +kernel)
  have hle := flo_le brk v (by omega)
  rw [clsIn_flo v h0 spansL (by decide +kernel), clsIn_flo v h0 widesL (by decide +kernel), oddB_flo v h0, withinB_flo brk v h0 widesR (by decide +kernel)]
  have := List.all_eq_true.1 same_brk _ hm
  rw [decide_eq_false (show ¬ flo brk v > 1114111 by omega), Bool.false_or] at this
  unfold sameAt at this
  simp only [Bool.and_eq_true, Bool.or_eq_true, decide_eq_true_eq, Bool.not_eq_true'] at this
  obtain ⟨⟨h2, h3⟩, h4⟩ := this
  refine ⟨fun h => ?_, fun h => ?_, h4⟩
  · rcases h2 with h2 | h2
    · omega
    · exact h2
  · rcases h3 with h3 | h3
    · have := of_decide_eq_false h3; omega
    · exact h3
theorem skel_low (v : Int) (h : v < 894) : skel v = v := by
  have : idxP (lookP v) looksL = -1 := idxP_miss _ _ (fun j hj => by
    have hb : (looksL.all fun s => decide (894 ≤ s.f0)) = true := by decide +kernel
    have := List.all_eq_true.1 hb _ (List.getElem_mem hj)
    simp only [decide_eq_true_eq] at this
    simp only [lookP, beq_eq_false_iff_ne]
    omega)
  unfold skel
  rw [this, if_pos (by decide)]
theorem oddB_range (v : Int) : 0 ≤ oddB v := by unfold oddB; (repeat' split) <;> decide
theorem ref_Of_f (v : Int) (k : Nat) (hk : 52 ≤ k) : dactylref03_Of.f k v = some (cls v) := by
  unfold dactylref03_Of.f cls
  rw [ref_Right_f, Option.bind_some]
  by_cases h1 : rightB v = true
  · rw [if_pos h1, if_pos h1]
    by_cases h2 : v > 1114111
    · rw [if_pos h2, if_pos h2]
    · rw [if_neg h2, if_neg h2, ref_odd_f v k hk, Option.bind_some]
      have h0 : 0 ≤ v := by unfold rightB at h1; simp only [Bool.or_eq_true, decide_eq_true_eq] at h1; omega
      obtain ⟨s1, s2, s3⟩ := same_all v h0 (by omega)
      rw [ref_Skeleton_f v k hk, Option.bind_some, within_f v _ 17 rfl (by decide) k (by omega), Option.bind_some, show withinB v [4352, 4447, 8986, 8987, 11904, 12287, 12289, 12350, 12353, 13311, 13312, 19903, 19968, 42191, 43360, 43391, 44032, 55203, 63744, 64255, 65072, 65135, 65280, 65376, 65504, 65510, 127744, 128591, 128640, 128767, 129280, 129535, 131072, 262141] = withinB v widesR from rfl]
      by_cases h3 : 31 < v ∧ v < 127
      · obtain ⟨t1, t2⟩ := s2 h3
        rw [if_pos h3, t1, t2, skel_low v (by omega), if_neg (by decide), if_pos rfl, if_neg (by decide)]
      · rw [if_neg h3, s1 h3, s3]
        have := oddB_range v
        by_cases h4 : oddB v > 0
        · rw [if_pos h4, if_neg (show ¬ oddB v = 0 by omega)]
        · rw [if_neg h4, if_pos (show oddB v = 0 by omega)]
          by_cases h5 : skel v = v
          · rw [if_pos h5, if_pos h5]
            cases withinB v widesR <;> rfl
          · rw [if_neg h5, if_neg h5]
  · rw [if_neg h1, if_neg h1]

end Go.Proofs.Ytemoocoedibbpaa.X

namespace Go.Proofs.Ytemoocoedibbpaa.X
open Go.RowKit Go.Proofs.YtemoocoedibbpaaW.PrintWords Go.Proofs.YtemoocoedibbpaaW.PrintLast Go.Proofs.YtemoocoedibbpaaW.PrintMore
attribute [local go_sem] max2_int min2_int max_two min_two max_three min_three max_four min_four
set_option linter.unusedVariables false
set_option linter.unusedSimpArgs false

/-! ### dactylref02_Bytes: function 91 -/
def dactylref02_Bytes.f (a0 : Int) : Option (ByteArray) := if a0 < 128 then (some (strOfNums (([(a0) % 256] : List Int)))) else (if a0 < 2048 then (some (strOfNums (([(wrap64 (192 + (wrap64 (Int.tdiv a0 64)))) % 256, (wrap64 (128 + (Int.tmod a0 64))) % 256] : List Int)))) else (if a0 < 65536 then (some (strOfNums (([(wrap64 (224 + (wrap64 (Int.tdiv a0 4096)))) % 256, (wrap64 (128 + (Int.tmod (wrap64 (Int.tdiv a0 64)) 64))) % 256, (wrap64 (128 + (Int.tmod a0 64))) % 256] : List Int)))) else (if a0 ≤ 1114111 then (some (strOfNums (([(wrap64 (240 + (wrap64 (Int.tdiv a0 262144)))) % 256, (wrap64 (128 + (Int.tmod (wrap64 (Int.tdiv a0 4096)) 64))) % 256, (wrap64 (128 + (Int.tmod (wrap64 (Int.tdiv a0 64)) 64))) % 256, (wrap64 (128 + (Int.tmod a0 64))) % 256] : List Int)))) else (some (strOfNums (([(wrap64 (a0 - 1114112)) % 256] : List Int)))))))
set_option maxHeartbeats 8000000 in
set_option maxRecDepth 100000 in
theorem dactylref02_Bytes.calls (a0 : Int) (r : ByteArray) (w : World) (h : dactylref02_Bytes.f a0 = some r) :
    Calls Try.prog 91 #[.int .i64 a0] w fun e w' => e = .returned (.string r) ∧ Below w.heap.size w w' := by
  have HB := Aside0.mk (Below.refl w.heap.size w)
  have H : (if a0 < 128 then (some (strOfNums (([(a0) % 256] : List Int)))) else (if a0 < 2048 then (some (strOfNums (([(wrap64 (192 + (wrap64 (Int.tdiv a0 64)))) % 256, (wrap64 (128 + (Int.tmod a0 64))) % 256] : List Int)))) else (if a0 < 65536 then (some (strOfNums (([(wrap64 (224 + (wrap64 (Int.tdiv a0 4096)))) % 256, (wrap64 (128 + (Int.tmod (wrap64 (Int.tdiv a0 64)) 64))) % 256, (wrap64 (128 + (Int.tmod a0 64))) % 256] : List Int)))) else (if a0 ≤ 1114111 then (some (strOfNums (([(wrap64 (240 + (wrap64 (Int.tdiv a0 262144)))) % 256, (wrap64 (128 + (Int.tmod (wrap64 (Int.tdiv a0 4096)) 64))) % 256, (wrap64 (128 + (Int.tmod (wrap64 (Int.tdiv a0 64)) 64))) % 256, (wrap64 (128 + (Int.tmod a0 64))) % 256] : List Int)))) else (some (strOfNums (([(wrap64 (a0 - 1114112)) % 256] : List Int)))))))) = some r := h
  clear h
  by_cases c2 : a0 < 128
  · rw [if_pos c2] at H
    have c2b0 : decide (a0 < 128) = true := decide_eq_true c2
    clear c2
    obtain ⟨y101, hy101⟩ : ∃ y_ : List Int, y_ = (([(a0) % 256] : List Int)) := ⟨_, rfl⟩
    replace H : (some (strOfNums y101)) = some r := by first | (rw [hy101]; with_reducible exact H) | (have H2_ := (Option.bind_some _ _).symm.trans H; rw [hy101]; with_reducible exact H2_) | (have H2_ := (Option.bind_some _ _).symm.trans H; with_reducible exact H2_) | with_reducible exact H | (rw [hy101]; exact H) | exact H
    have Ny101 := Aside0.mk hy101
    clear hy101
    obtain rfl := Option.some.inj H
    go_enter Try.func91, Try.ntmps91
    go_wp2_with (first | ((with_reducible refine gate_dst (N := 7) rfl ?_); refine Kd.R_lit (Kd.int .u8) _ 5 ?hg (N := 7) ?hd (xs := ([(a0) % 256] : List Int)) (inner := [.int .u8 ((a0) % 256)]) (ok := fun _ => True) (okp := fun _ => True) ?hr ?hp (fun _ hk => hk) trivial (Below.refl _ _) (Nat.le_refl _) (by simp) ?_; (case hd => rfl); (case hg => rfl); (case hr => first | (go_simp; done) | (go_simp; rfl)); (case hp => exact (Reps.one (show Kd.M (Kd.int .u8) _ _ _ ((a0) % 256) [.int .u8 ((a0) % 256)] from rfl) (Reps.none _ _))); intro v102 w3 ho4 hb hg_ hnew_; clear hg_ hnew_; (first | rw [← Ny101.out] at ho4 | (simp only [Int.reduceToNat] at ho4; rw [← Ny101.out] at ho4)); have n0_ := Aside0.mk (Kd.R_lower ho4 (below_size (by repeat (first | (with_reducible first | exact HB.out | apply below_alloc | apply pw_below_drewN | apply below_drew1) | exact HB.out)))); have n1_ := Aside0.mk (below_step (by repeat (first | (with_reducible first | exact HB.out | apply below_alloc | apply pw_below_drewN | apply below_drew1) | exact HB.out)) hb); clear HB; have HO103 := n0_; have HB := n1_; clear n0_ n1_; clear hb ho4; have hcv5 := own_string (P := Try.prog) Try.underlying108 Try.underlying5 Try.underlying9 (Kd.own_of_R HO103.out)))
    go_ret
    exact ⟨by first | rfl | (simp [errW_none, errW_some] <;> rfl) | (simp [*, errW_none, errW_some] <;> rfl), by repeat (first | (with_reducible first | exact HB.out | apply below_alloc | apply pw_below_drewN | apply below_drew1) | exact HB.out)⟩
  · rw [if_neg c2] at H
    have c2b0 : decide (a0 < 128) = false := decide_eq_false c2
    clear c2
    by_cases c6 : a0 < 2048
    · rw [if_pos c6] at H
      have c6b0 : decide (a0 < 2048) = true := decide_eq_true c6
      clear c6
      obtain ⟨y104, hy104⟩ : ∃ y_ : List Int, y_ = (([(wrap64 (192 + (wrap64 (Int.tdiv a0 64)))) % 256, (wrap64 (128 + (Int.tmod a0 64))) % 256] : List Int)) := ⟨_, rfl⟩
      replace H : (some (strOfNums y104)) = some r := by first | (rw [hy104]; with_reducible exact H) | (have H2_ := (Option.bind_some _ _).symm.trans H; rw [hy104]; with_reducible exact H2_) | (have H2_ := (Option.bind_some _ _).symm.trans H; with_reducible exact H2_) | with_reducible exact H | (rw [hy104]; exact H) | exact H
      have Ny104 := Aside0.mk hy104
      clear hy104
      obtain rfl := Option.some.inj H
      go_enter Try.func91, Try.ntmps91
      go_wp2_with (first | ((with_reducible refine gate_dst (N := 19) rfl ?_); refine Kd.R_lit (Kd.int .u8) _ 5 ?hg (N := 19) ?hd (xs := ([(wrap64 (192 + (wrap64 (Int.tdiv a0 64)))) % 256, (wrap64 (128 + (Int.tmod a0 64))) % 256] : List Int)) (inner := [.int .u8 ((wrap64 (192 + (wrap64 (Int.tdiv a0 64)))) % 256), .int .u8 ((wrap64 (128 + (Int.tmod a0 64))) % 256)]) (ok := fun _ => True) (okp := fun _ => True) ?hr ?hp (fun _ hk => hk) trivial (Below.refl _ _) (Nat.le_refl _) (by simp) ?_; (case hd => rfl); (case hg => rfl); (case hr => first | (go_simp; done) | (go_simp; rfl)); (case hp => exact (Reps.one (show Kd.M (Kd.int .u8) _ _ _ ((wrap64 (192 + (wrap64 (Int.tdiv a0 64)))) % 256) [.int .u8 ((wrap64 (192 + (wrap64 (Int.tdiv a0 64)))) % 256)] from rfl) (Reps.one (show Kd.M (Kd.int .u8) _ _ _ ((wrap64 (128 + (Int.tmod a0 64))) % 256) [.int .u8 ((wrap64 (128 + (Int.tmod a0 64))) % 256)] from rfl) (Reps.none _ _)))); intro v105 w7 ho8 hb hg_ hnew_; clear hg_ hnew_; (first | rw [← Ny104.out] at ho8 | (simp only [Int.reduceToNat] at ho8; rw [← Ny104.out] at ho8)); have n0_ := Aside0.mk (Kd.R_lower ho8 (below_size (by repeat (first | (with_reducible first | exact HB.out | apply below_alloc | apply pw_below_drewN | apply below_drew1) | exact HB.out)))); have n1_ := Aside0.mk (below_step (by repeat (first | (with_reducible first | exact HB.out | apply below_alloc | apply pw_below_drewN | apply below_drew1) | exact HB.out)) hb); clear HB; have HO106 := n0_; have HB := n1_; clear n0_ n1_; clear hb ho8; have hcv9 := own_string (P := Try.prog) Try.underlying108 Try.underlying5 Try.underlying9 (Kd.own_of_R HO106.out)))
      go_ret
      exact ⟨by first | rfl | (simp [errW_none, errW_some] <;> rfl) | (simp [*, errW_none, errW_some] <;> rfl), by repeat (first | (with_reducible first | exact HB.out | apply below_alloc | apply pw_below_drewN | apply below_drew1) | exact HB.out)⟩
    · rw [if_neg c6] at H
      have c6b0 : decide (a0 < 2048) = false := decide_eq_false c6
      clear c6
      by_cases c10 : a0 < 65536
      · rw [if_pos c10] at H
        have c10b0 : decide (a0 < 65536) = true := decide_eq_true c10
        clear c10
        obtain ⟨y107, hy107⟩ : ∃ y_ : List Int, y_ = (([(wrap64 (224 + (wrap64 (Int.tdiv a0 4096)))) % 256, (wrap64 (128 + (Int.tmod (wrap64 (Int.tdiv a0 64)) 64))) % 256, (wrap64 (128 + (Int.tmod a0 64))) % 256] : List Int)) := ⟨_, rfl⟩
        replace H : (some (strOfNums y107)) = some r := by first | (rw [hy107]; with_reducible exact H) | (have H2_ := (Option.bind_some _ _).symm.trans H; rw [hy107]; with_reducible exact H2_) | (have H2_ := (Option.bind_some _ _).symm.trans H; with_reducible exact H2_) | with_reducible exact H | (rw [hy107]; exact H) | exact H
        have Ny107 := Aside0.mk hy107
        clear hy107
        obtain rfl := Option.some.inj H
        go_enter Try.func91, Try.ntmps91
        go_wp2_with (first | ((with_reducible refine gate_dst (N := 36) rfl ?_); refine Kd.R_lit (Kd.int .u8) _ 5 ?hg (N := 36) ?hd (xs := ([(wrap64 (224 + (wrap64 (Int.tdiv a0 4096)))) % 256, (wrap64 (128 + (Int.tmod (wrap64 (Int.tdiv a0 64)) 64))) % 256, (wrap64 (128 + (Int.tmod a0 64))) % 256] : List Int)) (inner := [.int .u8 ((wrap64 (224 + (wrap64 (Int.tdiv a0 4096)))) % 256), .int .u8 ((wrap64 (128 + (Int.tmod (wrap64 (Int.tdiv a0 64)) 64))) % 256), .int .u8 ((wrap64 (128 + (Int.tmod a0 64))) % 256)]) (ok := fun _ => True) (okp := fun _ => True) ?hr ?hp (fun _ hk => hk) trivial (Below.refl _ _) (Nat.le_refl _) (by simp) ?_; (case hd => rfl); (case hg => rfl); (case hr => first | (go_simp; done) | (go_simp; rfl)); (case hp => exact (Reps.one (show Kd.M (Kd.int .u8) _ _ _ ((wrap64 (224 + (wrap64 (Int.tdiv a0 4096)))) % 256) [.int .u8 ((wrap64 (224 + (wrap64 (Int.tdiv a0 4096)))) % 256)] from rfl) (Reps.one (show Kd.M (Kd.int .u8) _ _ _ ((wrap64 (128 + (Int.tmod (wrap64 (Int.tdiv a0 64)) 64))) % 256) [.int .u8 ((wrap64 (128 + (Int.tmod (wrap64 (Int.tdiv a0 64)) 64))) % 256)] from rfl) (Reps.one (show Kd.M (Kd.int .u8) _ _ _ ((wrap64 (128 + (Int.tmod a0 64))) % 256) [.int .u8 ((wrap64 (128 + (Int.tmod a0 64))) % 256)] from rfl) (Reps.none _ _))))); intro v108 w11 ho12 hb hg_ hnew_; clear hg_ hnew_; (first | rw [← Ny107.out] at ho12 | (simp only [Int.reduceToNat] at ho12; rw [← Ny107.out] at ho12)); have n0_ := Aside0.mk (Kd.R_lower ho12 (below_size (by repeat (first | (with_reducible first | exact HB.out | apply below_alloc | apply pw_below_drewN | apply below_drew1) | exact HB.out)))); have n1_ := Aside0.mk (below_step (by repeat (first | (with_reducible first | exact HB.out | apply below_alloc | apply pw_below_drewN | apply below_drew1) | exact HB.out)) hb); clear HB; have HO109 := n0_; have HB := n1_; clear n0_ n1_; clear hb ho12; have hcv13 := own_string (P := Try.prog) Try.underlying108 Try.underlying5 Try.underlying9 (Kd.own_of_R HO109.out)))
        go_ret
        exact ⟨by first | rfl | (simp [errW_none, errW_some] <;> rfl) | (simp [*, errW_none, errW_some] <;> rfl), by repeat (first | (with_reducible first | exact HB.out | apply below_alloc | apply pw_below_drewN | apply below_drew1) | exact HB.out)⟩
      · rw [if_neg c10] at H
        have c10b0 : decide (a0 < 65536) = false := decide_eq_false c10
        clear c10
        by_cases c14 : a0 ≤ 1114111
        · rw [if_pos c14] at H
          have c14b0 : decide (a0 ≤ 1114111) = true := decide_eq_true c14
          clear c14
          obtain ⟨y110, hy110⟩ : ∃ y_ : List Int, y_ = (([(wrap64 (240 + (wrap64 (Int.tdiv a0 262144)))) % 256, (wrap64 (128 + (Int.tmod (wrap64 (Int.tdiv a0 4096)) 64))) % 256, (wrap64 (128 + (Int.tmod (wrap64 (Int.tdiv a0 64)) 64))) % 256, (wrap64 (128 + (Int.tmod a0 64))) % 256] : List Int)) := ⟨_, rfl⟩
          replace H : (some (strOfNums y110)) = some r := by first | (rw [hy110]; with_reducible exact H) | (have H2_ := (Option.bind_some _ _).symm.trans H; rw [hy110]; with_reducible exact H2_) | (have H2_ := (Option.bind_some _ _).symm.trans H; with_reducible exact H2_) | with_reducible exact H | (rw [hy110]; exact H) | exact H
          have Ny110 := Aside0.mk hy110
          clear hy110
          obtain rfl := Option.some.inj H
          go_enter Try.func91, Try.ntmps91
          go_wp2_with (first | ((with_reducible refine gate_dst (N := 58) rfl ?_); refine Kd.R_lit (Kd.int .u8) _ 5 ?hg (N := 58) ?hd (xs := ([(wrap64 (240 + (wrap64 (Int.tdiv a0 262144)))) % 256, (wrap64 (128 + (Int.tmod (wrap64 (Int.tdiv a0 4096)) 64))) % 256, (wrap64 (128 + (Int.tmod (wrap64 (Int.tdiv a0 64)) 64))) % 256, (wrap64 (128 + (Int.tmod a0 64))) % 256] : List Int)) (inner := [.int .u8 ((wrap64 (240 + (wrap64 (Int.tdiv a0 262144)))) % 256), .int .u8 ((wrap64 (128 + (Int.tmod (wrap64 (Int.tdiv a0 4096)) 64))) % 256), .int .u8 ((wrap64 (128 + (Int.tmod (wrap64 (Int.tdiv a0 64)) 64))) % 256), .int .u8 ((wrap64 (128 + (Int.tmod a0 64))) % 256)]) (ok := fun _ => True) (okp := fun _ => True) ?hr ?hp (fun _ hk => hk) trivial (Below.refl _ _) (Nat.le_refl _) (by simp) ?_; (case hd => rfl); (case hg => rfl); (case hr => first | (go_simp; done) | (go_simp; rfl)); (case hp => exact (Reps.one (show Kd.M (Kd.int .u8) _ _ _ ((wrap64 (240 + (wrap64 (Int.tdiv a0 262144)))) % 256) [.int .u8 ((wrap64 (240 + (wrap64 (Int.tdiv a0 262144)))) % 256)] from rfl) (Reps.one (show Kd.M (Kd.int .u8) _ _ _ ((wrap64 (128 + (Int.tmod (wrap64 (Int.tdiv a0 4096)) 64))) % 256) [.int .u8 ((wrap64 (128 + (Int.tmod (wrap64 (Int.tdiv a0 4096)) 64))) % 256)] from rfl) (Reps.one (show Kd.M (Kd.int .u8) _ _ _ ((wrap64 (128 + (Int.tmod (wrap64 (Int.tdiv a0 64)) 64))) % 256) [.int .u8 ((wrap64 (128 + (Int.tmod (wrap64 (Int.tdiv a0 64)) 64))) % 256)] from rfl) (Reps.one (show Kd.M (Kd.int .u8) _ _ _ ((wrap64 (128 + (Int.tmod a0 64))) % 256) [.int .u8 ((wrap64 (128 + (Int.tmod a0 64))) % 256)] from rfl) (Reps.none _ _)))))); intro v111 w15 ho16 hb hg_ hnew_; clear hg_ hnew_; (first | rw [← Ny110.out] at ho16 | (simp only [Int.reduceToNat] at ho16; rw [← Ny110.out] at ho16)); have n0_ := Aside0.mk (Kd.R_lower ho16 (below_size (by repeat (first | (with_reducible first | exact HB.out | apply below_alloc | apply pw_below_drewN | apply below_drew1) | exact HB.out)))); have n1_ := Aside0.mk (below_step (by repeat (first | (with_reducible first | exact HB.out | apply below_alloc | apply pw_below_drewN | apply below_drew1) | exact HB.out)) hb); clear HB; have HO112 := n0_; have HB := n1_; clear n0_ n1_; clear hb ho16; have hcv17 := own_string (P := Try.prog) Try.underlying108 Try.underlying5 Try.underlying9 (Kd.own_of_R HO112.out)))
          go_ret
          exact ⟨by first | rfl | (simp [errW_none, errW_some] <;> rfl) | (simp [*, errW_none, errW_some] <;> rfl), by repeat (first | (with_reducible first | exact HB.out | apply below_alloc | apply pw_below_drewN | apply below_drew1) | exact HB.out)⟩
        · rw [if_neg c14] at H
          have c14b0 : decide (a0 ≤ 1114111) = false := decide_eq_false c14
          clear c14
          obtain ⟨y113, hy113⟩ : ∃ y_ : List Int, y_ = (([(wrap64 (a0 - 1114112)) % 256] : List Int)) := ⟨_, rfl⟩
          replace H : (some (strOfNums y113)) = some r := by first | (rw [hy113]; with_reducible exact H) | (have H2_ := (Option.bind_some _ _).symm.trans H; rw [hy113]; with_reducible exact H2_) | (have H2_ := (Option.bind_some _ _).symm.trans H; with_reducible exact H2_) | with_reducible exact H | (rw [hy113]; exact H) | exact H
          have Ny113 := Aside0.mk hy113
          clear hy113
          obtain rfl := Option.some.inj H
          go_enter Try.func91, Try.ntmps91
          go_wp2_with (first | ((with_reducible refine gate_dst (N := 63) rfl ?_); refine Kd.R_lit (Kd.int .u8) _ 5 ?hg (N := 63) ?hd (xs := ([(wrap64 (a0 - 1114112)) % 256] : List Int)) (inner := [.int .u8 ((wrap64 (a0 - 1114112)) % 256)]) (ok := fun _ => True) (okp := fun _ => True) ?hr ?hp (fun _ hk => hk) trivial (Below.refl _ _) (Nat.le_refl _) (by simp) ?_; (case hd => rfl); (case hg => rfl); (case hr => first | (go_simp; done) | (go_simp; rfl)); (case hp => exact (Reps.one (show Kd.M (Kd.int .u8) _ _ _ ((wrap64 (a0 - 1114112)) % 256) [.int .u8 ((wrap64 (a0 - 1114112)) % 256)] from rfl) (Reps.none _ _))); intro v114 w18 ho19 hb hg_ hnew_; clear hg_ hnew_; (first | rw [← Ny113.out] at ho19 | (simp only [Int.reduceToNat] at ho19; rw [← Ny113.out] at ho19)); have n0_ := Aside0.mk (Kd.R_lower ho19 (below_size (by repeat (first | (with_reducible first | exact HB.out | apply below_alloc | apply pw_below_drewN | apply below_drew1) | exact HB.out)))); have n1_ := Aside0.mk (below_step (by repeat (first | (with_reducible first | exact HB.out | apply below_alloc | apply pw_below_drewN | apply below_drew1) | exact HB.out)) hb); clear HB; have HO115 := n0_; have HB := n1_; clear n0_ n1_; clear hb ho19; have hcv20 := own_string (P := Try.prog) Try.underlying108 Try.underlying5 Try.underlying9 (Kd.own_of_R HO115.out)))
          go_ret
          exact ⟨by first | rfl | (simp [errW_none, errW_some] <;> rfl) | (simp [*, errW_none, errW_some] <;> rfl), by repeat (first | (with_reducible first | exact HB.out | apply below_alloc | apply pw_below_drewN | apply below_drew1) | exact HB.out)⟩

end Go.Proofs.Ytemoocoedibbpaa.X

namespace Go.Proofs.Ytemoocoedibbpaa.X
open Go.RowKit Go.Proofs.YtemoocoedibbpaaW.PrintWords Go.Proofs.YtemoocoedibbpaaW.PrintLast Go.Proofs.YtemoocoedibbpaaW.PrintMore
attribute [local go_sem] max2_int min2_int max_two min_two max_three min_three max_four min_four
set_option linter.unusedVariables false
set_option linter.unusedSimpArgs false

/-! ### dactylref01_Digit: function 122 -/
def dactylref01_Digit.f (a0 : Int) : Option (ByteArray) := if 0 ≤ a0 then (if a0 ≤ (wrap64 (a0 + 1)) then (if (wrap64 (a0 + 1)) ≤ 16 then (some ((⟨#[48, 49, 50, 51, 52, 53, 54, 55, 56, 57, 65, 66, 67, 68, 69, 70]⟩ : ByteArray).extract (a0 : Int).toNat ((wrap64 (a0 + 1)) : Int).toNat)) else (none)) else (none)) else (none)
set_option maxHeartbeats 8000000 in
set_option maxRecDepth 100000 in
theorem dactylref01_Digit.calls (a0 : Int) (r : ByteArray) (w : World) (h : dactylref01_Digit.f a0 = some r) :
    Calls Try.prog 122 #[.int .i64 a0] w fun e w' => e = .returned (.string r) ∧ Drawn0 w w' := by
  have H : (if 0 ≤ a0 then (if a0 ≤ (wrap64 (a0 + 1)) then (if (wrap64 (a0 + 1)) ≤ 16 then (some ((⟨#[48, 49, 50, 51, 52, 53, 54, 55, 56, 57, 65, 66, 67, 68, 69, 70]⟩ : ByteArray).extract (a0 : Int).toNat ((wrap64 (a0 + 1)) : Int).toNat)) else (none)) else (none)) else (none)) = some r := h
  clear h
  by_cases c2 : 0 ≤ a0
  · rw [if_pos c2] at H
    have c2b0 := eq_true c2
    have c2b1 : decide (0 ≤ a0) = true := decide_eq_true c2
    clear c2
    by_cases c3 : a0 ≤ (wrap64 (a0 + 1))
    · rw [if_pos c3] at H
      have c3b0 := eq_true c3
      have c3b1 : decide (a0 ≤ (wrap64 (a0 + 1))) = true := decide_eq_true c3
      by_cases c4 : (wrap64 (a0 + 1)) ≤ 16
      · rw [if_pos c4] at H
        have c4b0 := eq_true c4
        have c4b1 : decide ((wrap64 (a0 + 1)) ≤ 16) = true := decide_eq_true c4
        obtain rfl := Option.some.inj H
        go_enter Try.func122, Try.ntmps122
        go_wp2
        go_ret
        exact ⟨by first | rfl | (simp; done) | (simp [*]; done), by repeat (first | exact Drawn0.refl _ | apply Drawn0.step)⟩
      · rw [if_neg c4] at H
        exact absurd H (by simp)
    · rw [if_neg c3] at H
      exact absurd H (by simp)
  · rw [if_neg c2] at H
    exact absurd H (by simp)

end Go.Proofs.Ytemoocoedibbpaa.X

namespace Go.Proofs.Ytemoocoedibbpaa.X
open Go.RowKit Go.Proofs.YtemoocoedibbpaaW.PrintWords Go.Proofs.YtemoocoedibbpaaW.PrintLast Go.Proofs.YtemoocoedibbpaaW.PrintMore
attribute [local go_sem] max2_int min2_int max_two min_two max_three min_three max_four min_four
set_option linter.unusedVariables false
set_option linter.unusedSimpArgs false

/-! ### dactylref01_Hex: function 92 -/
mutual
def dactylref01_Hex.j0 : Nat → Int → Int → Bool → Option (ByteArray)
  | 0, _, _, _ => none
  | k + 1, x0, x1, x10 => if x10 = true then ((dactylref01_Digit.f x0).bind fun t101 => (some t101)) else ((dactylref01_Hex.f k (wrap64 (Int.tdiv x0 16)) (wrap64 (x1 - 1))).bind fun t102 => ((dactylref01_Digit.f (Int.tmod x0 16)).bind fun t103 => (if t102.size + t103.size ≤ 9223372036854775807 then (some (t102 ++ t103)) else (none))))
def dactylref01_Hex.f : Nat → Int → Int → Option (ByteArray)
  | 0, _, _ => none
  | k + 1, a0, a1 => if a0 < 16 then (dactylref01_Hex.j0 k a0 a1 (decide (a1 ≤ 1))) else (dactylref01_Hex.j0 k a0 a1 false)
end
theorem dactylref01_Hex.mono_l : ∀ k, (∀ y0 y1, LeO (dactylref01_Hex.f k y0 y1) (dactylref01_Hex.f (k + 1) y0 y1)) ∧ (∀ y0 y1 y2, LeO (dactylref01_Hex.j0 k y0 y1 y2) (dactylref01_Hex.j0 (k + 1) y0 y1 y2))
  | 0 => ⟨fun _ _ r h => by simp [dactylref01_Hex.f] at h, fun _ _ _ r h => by simp [dactylref01_Hex.j0] at h⟩
  | k + 1 => by
    obtain ⟨ih0, ih1⟩ := dactylref01_Hex.mono_l k
    refine ⟨?_, ?_⟩
    · intro y0 y1
      unfold dactylref01_Hex.f
      repeat' first
      | (with_reducible exact ih0 _ _)
      | (with_reducible exact ih1 _ _ _)
      | (with_reducible exact LeO.refl _)
      | (with_reducible exact LeO.none _)
      | (with_reducible refine LeO.ite ?_ ?_)
      | (with_reducible refine LeO.bind ?_ (fun _ => ?_))
      | exact ih0 _ _
      | exact ih1 _ _ _
      | exact LeO.none _
      | refine LeO.ite ?_ ?_
      | refine LeO.bind ?_ (fun _ => ?_)
    · intro y0 y1 y2
      unfold dactylref01_Hex.j0
      repeat' first
      | (with_reducible exact ih0 _ _)
      | (with_reducible exact ih1 _ _ _)
      | (with_reducible exact LeO.refl _)
      | (with_reducible exact LeO.none _)
      | (with_reducible refine LeO.ite ?_ ?_)
      | (with_reducible refine LeO.bind ?_ (fun _ => ?_))
      | exact ih0 _ _
      | exact ih1 _ _ _
      | exact LeO.none _
      | refine LeO.ite ?_ ?_
      | refine LeO.bind ?_ (fun _ => ?_)
theorem dactylref01_Hex.mono : ∀ a0 a1 k, LeO (dactylref01_Hex.f k a0 a1) (dactylref01_Hex.f (k + 1) a0 a1) := by
  intro a0 a1 k
  obtain ⟨ih0, ih1⟩ := dactylref01_Hex.mono_l k
  exact ih0 a0 a1
set_option maxHeartbeats 8000000 in
set_option maxRecDepth 100000 in
theorem dactylref01_Hex.calls (k : Nat) : ∀ (a0 : Int) (a1 : Int) (r : ByteArray) (w : World) (h : dactylref01_Hex.f k a0 a1 = some r),
    Calls Try.prog 92 #[.int .i64 a0, .int .i64 a1] w fun e w' => e = .returned (.string r) ∧ Drawn0 w w' := by
  induction k using Nat.strongRecOn with
  | _ k ih =>
  intro a0 a1 r w h
  cases k with
  | zero => exact absurd h (by simp [dactylref01_Hex.f])
  | succ k =>
  simp only [dactylref01_Hex.f] at h
  have H : (if a0 < 16 then (dactylref01_Hex.j0 k a0 a1 (decide (a1 ≤ 1))) else (dactylref01_Hex.j0 k a0 a1 false)) = some r := h
  clear h
  have HC3 := Aside0.mk H
  clear H
  go_enter Try.func92, Try.ntmps92
  go_upto_region 1 with (fail)
  go_cut [10] (fun v10 wc => ∃ (kq : Nat) (x10_2 : Bool), v10 = .bool x10_2 ∧ Aside0 (dactylref01_Hex.j0 kq a0 a1 x10_2 = some r) ∧ Aside0 (kq ≤ k) ∧ Drawn0 w wc)
  case first =>
    have H := HC3.out
    clear HC3
    by_cases c4 : a0 < 16
    · rw [if_pos c4] at H
      have c4b0 : decide (a0 < 16) = true := decide_eq_true c4
      clear c4
      (first | rw [c4b0] | (simp only [i64_w, i32_w]; rw [c4b0]) | skip)
      have H' := Aside0.mk H
      clear H
      go_wp2
      go_meet
      case rel => exact ⟨_, (decide (a1 ≤ 1)), (by first | rfl | (simp; done) | (simp [*]; done)), H', ⟨by first | omega | exact Nat.le_refl _⟩, by repeat (first | exact Drawn0.refl _ | apply Drawn0.step)⟩
    · rw [if_neg c4] at H
      have c4b0 : decide (a0 < 16) = false := decide_eq_false c4
      clear c4
      (first | rw [c4b0] | (simp only [i64_w, i32_w]; rw [c4b0]) | skip)
      have H' := Aside0.mk H
      clear H
      go_wp2
      go_meet
      case rel => exact ⟨_, (false), (by first | rfl | (simp; done) | (simp [*]; done)), H', ⟨by first | omega | exact Nat.le_refl _⟩, by repeat (first | exact Drawn0.refl _ | apply Drawn0.step)⟩
  case rest =>
    clear HC3
    try clear p2
    try clear c4
    try clear c4b0
    obtain ⟨kq, x10_2, rfl, HA, HJ2, ⟨mc2, rfl⟩⟩ := hcut
    cases kq with
    | zero => exact absurd HA.out (by simp [dactylref01_Hex.j0])
    | succ kj2 =>
      have H := HA.out
      clear HA
      simp only [dactylref01_Hex.j0] at H
      by_cases c5 : x10_2 = true
      · subst c5
        have H1 : ((dactylref01_Digit.f a0).bind fun t101 => (some t101)) = some r := by rw [if_pos rfl] at H; exact H
        clear H
        have H := H1
        clear H1
        replace H := Option.bind_eq_some_iff.mp H
        obtain ⟨t101, A60, H⟩ := H
        replace H : (some t101) = some r := H
        have A6 := Aside0.mk A60
        clear A60
        obtain rfl := Option.some.inj H
        go_wp2_with (first | ((with_reducible refine gate_callee (f := 122) rfl ?_); refine goesL_ (some 12) rfl rfl Try.func122 (by kernel_rfl) rfl #[.int .i64 a0] rfl (by (try simp only [List.map_toArray, List.map_cons, List.map_nil]); first | done | rfl | (simp only [List.length_drop, List.length_take]; rfl)) ?_; (with_reducible refine (dactylref01_Digit.calls a0 t101 _ A6.out).mono ?_); rintro e w' ⟨rfl, ⟨nd, rfl⟩⟩; refine ⟨_, rfl, ?_⟩))
        go_ret
        exact ⟨by first | rfl | (simp; done) | (simp [*]; done), by repeat (first | exact Drawn0.refl _ | apply Drawn0.step)⟩
      · replace c5 := Bool.eq_false_iff.mpr c5
        subst c5
        have H1 : ((dactylref01_Hex.f kj2 (wrap64 (Int.tdiv a0 16)) (wrap64 (a1 - 1))).bind fun t102 => ((dactylref01_Digit.f (Int.tmod a0 16)).bind fun t103 => (if t102.size + t103.size ≤ 9223372036854775807 then (some (t102 ++ t103)) else (none)))) = some r := by rw [if_neg (show ¬ (false = true) by decide)] at H; exact H
        clear H
        have H := H1
        clear H1
        replace H := Option.bind_eq_some_iff.mp H
        obtain ⟨t102, A70, H⟩ := H
        replace H : ((dactylref01_Digit.f (Int.tmod a0 16)).bind fun t103 => (if t102.size + t103.size ≤ 9223372036854775807 then (some (t102 ++ t103)) else (none))) = some r := H
        have A7 := Aside0.mk A70
        clear A70
        replace H := Option.bind_eq_some_iff.mp H
        obtain ⟨t103, A80, H⟩ := H
        replace H : (if t102.size + t103.size ≤ 9223372036854775807 then (some (t102 ++ t103)) else (none)) = some r := H
        have A8 := Aside0.mk A80
        clear A80
        by_cases c9 : t102.size + t103.size ≤ 9223372036854775807
        · rw [if_pos c9] at H
          have c9b0 := eq_true c9
          have c9b1 : decide (t102.size + t103.size ≤ 9223372036854775807) = true := decide_eq_true c9
          try have c9b2 : (9223372036854775807 < t102.size + t103.size) = False := eq_false (Nat.not_lt.2 c9)
          obtain rfl := Option.some.inj H
          go_wp2_with (first | ((with_reducible refine gate_callee (f := 92) rfl ?_); refine goesL_ (some 17) rfl rfl Try.func92 (by kernel_rfl) rfl #[.int .i64 (wrap64 (Int.tdiv a0 16)), .int .i64 (wrap64 (a1 - 1))] rfl (by (try simp only [List.map_toArray, List.map_cons, List.map_nil]); first | done | rfl | (simp only [List.length_drop, List.length_take]; rfl)) ?_; (with_reducible refine (ih kj2 (by have := HJ2.out; omega) (wrap64 (Int.tdiv a0 16)) (wrap64 (a1 - 1)) t102 _ A7.out).mono ?_); rintro e w' ⟨rfl, ⟨nd, rfl⟩⟩; refine ⟨_, rfl, ?_⟩) | ((with_reducible refine gate_callee (f := 122) rfl ?_); refine goesL_ (some 20) rfl rfl Try.func122 (by kernel_rfl) rfl #[.int .i64 (Int.tmod a0 16)] rfl (by (try simp only [List.map_toArray, List.map_cons, List.map_nil]); first | done | rfl | (simp only [List.length_drop, List.length_take]; rfl)) ?_; (with_reducible refine (dactylref01_Digit.calls (Int.tmod a0 16) t103 _ A8.out).mono ?_); rintro e w' ⟨rfl, ⟨nd, rfl⟩⟩; refine ⟨_, rfl, ?_⟩))
          go_ret
          exact ⟨by first | rfl | (simp; done) | (simp [*]; done), by repeat (first | exact Drawn0.refl _ | apply Drawn0.step)⟩
        · rw [if_neg c9] at H
          exact absurd H (by simp)

end Go.Proofs.Ytemoocoedibbpaa.X

namespace Go.Proofs.Ytemoocoedibbpaa.X
open Go.RowKit Go.Proofs.YtemoocoedibbpaaW.PrintWords Go.Proofs.YtemoocoedibbpaaW.PrintLast Go.Proofs.YtemoocoedibbpaaW.PrintMore
attribute [local go_sem] max2_int min2_int max_two min_two max_three min_three max_four min_four
set_option linter.unusedVariables false
set_option linter.unusedSimpArgs false

/-! ### dactylref06_Text: function 48 -/
def dactylref06_Text.f (k : Nat) (a0 : Int) : Option (ByteArray) := (dactylref03_Of.f k a0).bind fun t101 => (if t101 = 0 then (some (⟨#[]⟩ : ByteArray)) else (if t101 ≤ 3 then ((dactylref02_Bytes.f a0).bind fun t102 => (some t102)) else (if t101 = 4 then ((some (([(wrap64 (a0 + 64)) % 256] : List Int) : List Int)).bind fun y103 => (if 1 + (strOfNums y103).size ≤ 9223372036854775807 then (some ((⟨#[94]⟩ : ByteArray) ++ (strOfNums y103))) else (none))) else (if t101 = 5 then (some (⟨#[94, 63]⟩ : ByteArray)) else (if t101 = 12 then ((dactylref01_Hex.f k (wrap64 (a0 - 1114112)) 2).bind fun t106 => (if 2 + t106.size ≤ 9223372036854775807 then (some ((⟨#[92, 120]⟩ : ByteArray) ++ t106)) else (none))) else ((dactylref01_Hex.f k a0 4).bind fun t107 => (if 3 + t107.size ≤ 9223372036854775807 then (if 3 + t107.size + 1 ≤ 9223372036854775807 then (some (((⟨#[60, 85, 43]⟩ : ByteArray) ++ t107) ++ (⟨#[62]⟩ : ByteArray))) else (none)) else (none))))))))
theorem dactylref06_Text.mono : ∀ a0 k, LeO (dactylref06_Text.f k a0) (dactylref06_Text.f (k + 1) a0) := by
  intro a0 k
  unfold dactylref06_Text.f
  repeat' first
      | (with_reducible exact dactylref01_Hex.mono _ _ _)
      | (with_reducible exact dactylref03_Of.mono _ _)
      | (with_reducible exact LeO.refl _)
      | (with_reducible exact LeO.none _)
      | (with_reducible refine LeO.ite ?_ ?_)
      | (with_reducible refine LeO.bind ?_ (fun _ => ?_))
      | exact dactylref01_Hex.mono _ _ _
      | exact dactylref03_Of.mono _ _
      | exact LeO.none _
      | refine LeO.ite ?_ ?_
      | refine LeO.bind ?_ (fun _ => ?_)
set_option maxHeartbeats 8000000 in
set_option maxRecDepth 100000 in
theorem dactylref06_Text.calls (k : Nat) (a0 : Int) (r : ByteArray) (w : World) (h : dactylref06_Text.f k a0 = some r) :
    Calls Try.prog 48 #[.int .i64 a0] w fun e w' => e = .returned (.string r) ∧ Below w.heap.size w w' := by
  have HB := Aside0.mk (Below.refl w.heap.size w)
  have H : ((dactylref03_Of.f k a0).bind fun t101 => (if t101 = 0 then (some (⟨#[]⟩ : ByteArray)) else (if t101 ≤ 3 then ((dactylref02_Bytes.f a0).bind fun t102 => (some t102)) else (if t101 = 4 then ((some (([(wrap64 (a0 + 64)) % 256] : List Int) : List Int)).bind fun y103 => (if 1 + (strOfNums y103).size ≤ 9223372036854775807 then (some ((⟨#[94]⟩ : ByteArray) ++ (strOfNums y103))) else (none))) else (if t101 = 5 then (some (⟨#[94, 63]⟩ : ByteArray)) else (if t101 = 12 then ((dactylref01_Hex.f k (wrap64 (a0 - 1114112)) 2).bind fun t106 => (if 2 + t106.size ≤ 9223372036854775807 then (some ((⟨#[92, 120]⟩ : ByteArray) ++ t106)) else (none))) else ((dactylref01_Hex.f k a0 4).bind fun t107 => (if 3 + t107.size ≤ 9223372036854775807 then (if 3 + t107.size + 1 ≤ 9223372036854775807 then (some (((⟨#[60, 85, 43]⟩ : ByteArray) ++ t107) ++ (⟨#[62]⟩ : ByteArray))) else (none)) else (none))))))))) = some r := h
  clear h
  replace H := Option.bind_eq_some_iff.mp H
  obtain ⟨t101, A20, H⟩ := H
  replace H : (if t101 = 0 then (some (⟨#[]⟩ : ByteArray)) else (if t101 ≤ 3 then ((dactylref02_Bytes.f a0).bind fun t102 => (some t102)) else (if t101 = 4 then ((some (([(wrap64 (a0 + 64)) % 256] : List Int) : List Int)).bind fun y103 => (if 1 + (strOfNums y103).size ≤ 9223372036854775807 then (some ((⟨#[94]⟩ : ByteArray) ++ (strOfNums y103))) else (none))) else (if t101 = 5 then (some (⟨#[94, 63]⟩ : ByteArray)) else (if t101 = 12 then ((dactylref01_Hex.f k (wrap64 (a0 - 1114112)) 2).bind fun t106 => (if 2 + t106.size ≤ 9223372036854775807 then (some ((⟨#[92, 120]⟩ : ByteArray) ++ t106)) else (none))) else ((dactylref01_Hex.f k a0 4).bind fun t107 => (if 3 + t107.size ≤ 9223372036854775807 then (if 3 + t107.size + 1 ≤ 9223372036854775807 then (some (((⟨#[60, 85, 43]⟩ : ByteArray) ++ t107) ++ (⟨#[62]⟩ : ByteArray))) else (none)) else (none)))))))) = some r := H
  have A2 := Aside0.mk A20
  clear A20
  by_cases c3 : t101 = 0
  · rw [if_pos c3] at H
    have c3b0 : (t101 == 0) = true := beq_iff_eq.mpr c3
    have c3b1 : (t101 != 0) = false := bne_eq_false_iff_eq.mpr c3
    clear c3
    obtain rfl := Option.some.inj H
    go_enter Try.func48, Try.ntmps48
    go_wp2_with (first | ((with_reducible refine gate_callee (f := 71) rfl ?_); refine goesL_ (some 5) rfl rfl Try.func71 (by kernel_rfl) rfl #[.int .i64 a0] rfl (by (try simp only [List.map_toArray, List.map_cons, List.map_nil]); first | done | rfl | (simp only [List.length_drop, List.length_take]; rfl)) ?_; (with_reducible refine (dactylref03_Of.calls k a0 t101 _ A2.out).mono ?_); rintro e w4 ⟨rfl, hb⟩; refine ⟨_, rfl, ?_⟩; have n0_ := Aside0.mk (below_step (by repeat (first | (with_reducible first | exact HB.out | apply below_alloc | apply pw_below_drewN | apply below_drew1) | exact HB.out)) hb); clear HB; have HB := n0_; clear n0_; (try clear hb); (try clear hb2); (try clear hk); (try clear hi)))
    go_ret
    exact ⟨by first | rfl | (simp [errW_none, errW_some] <;> rfl) | (simp [*, errW_none, errW_some] <;> rfl), by repeat (first | (with_reducible first | exact HB.out | apply below_alloc | apply pw_below_drewN | apply below_drew1) | exact HB.out)⟩
  · rw [if_neg c3] at H
    have c3b0 : (t101 == 0) = false := beq_eq_false_iff_ne.mpr c3
    have c3b1 : (t101 != 0) = true := bne_iff_ne.mpr c3
    by_cases c5 : t101 ≤ 3
    · rw [if_pos c5] at H
      have c5b0 : decide (t101 ≤ 3) = true := decide_eq_true c5
      clear c5
      replace H := Option.bind_eq_some_iff.mp H
      obtain ⟨t102, A60, H⟩ := H
      replace H : (some t102) = some r := H
      have A6 := Aside0.mk A60
      clear A60
      obtain rfl := Option.some.inj H
      go_enter Try.func48, Try.ntmps48
      go_wp2_with (first | ((with_reducible refine gate_callee (f := 71) rfl ?_); refine goesL_ (some 5) rfl rfl Try.func71 (by kernel_rfl) rfl #[.int .i64 a0] rfl (by (try simp only [List.map_toArray, List.map_cons, List.map_nil]); first | done | rfl | (simp only [List.length_drop, List.length_take]; rfl)) ?_; (with_reducible refine (dactylref03_Of.calls k a0 t101 _ A2.out).mono ?_); rintro e w7 ⟨rfl, hb⟩; refine ⟨_, rfl, ?_⟩; have n0_ := Aside0.mk (below_step (by repeat (first | (with_reducible first | exact HB.out | apply below_alloc | apply pw_below_drewN | apply below_drew1) | exact HB.out)) hb); clear HB; have HB := n0_; clear n0_; (try clear hb); (try clear hb2); (try clear hk); (try clear hi)) | ((with_reducible refine gate_callee (f := 91) rfl ?_); refine goesL_ (some 11) rfl rfl Try.func91 (by kernel_rfl) rfl #[.int .i64 a0] rfl (by (try simp only [List.map_toArray, List.map_cons, List.map_nil]); first | done | rfl | (simp only [List.length_drop, List.length_take]; rfl)) ?_; (with_reducible refine (dactylref02_Bytes.calls a0 t102 _ A6.out).mono ?_); rintro e w8 ⟨rfl, hb⟩; refine ⟨_, rfl, ?_⟩; have n0_ := Aside0.mk (below_step (by repeat (first | (with_reducible first | exact HB.out | apply below_alloc | apply pw_below_drewN | apply below_drew1) | exact HB.out)) hb); clear HB; have HB := n0_; clear n0_; (try clear hb); (try clear hb2); (try clear hk); (try clear hi)))
      go_ret
      exact ⟨by first | rfl | (simp [errW_none, errW_some] <;> rfl) | (simp [*, errW_none, errW_some] <;> rfl), by repeat (first | (with_reducible first | exact HB.out | apply below_alloc | apply pw_below_drewN | apply below_drew1) | exact HB.out)⟩
    · rw [if_neg c5] at H
      have c5b0 : decide (t101 ≤ 3) = false := decide_eq_false c5
      clear c5
      by_cases c9 : t101 = 4
      · rw [if_pos c9] at H
        have c9b0 : (t101 == 4) = true := beq_iff_eq.mpr c9
        have c9b1 : (t101 != 4) = false := bne_eq_false_iff_eq.mpr c9
        clear c9
        obtain ⟨y103, hy103⟩ : ∃ y_ : List Int, y_ = (([(wrap64 (a0 + 64)) % 256] : List Int)) := ⟨_, rfl⟩
        replace H : (if 1 + (strOfNums y103).size ≤ 9223372036854775807 then (some ((⟨#[94]⟩ : ByteArray) ++ (strOfNums y103))) else (none)) = some r := by first | (rw [hy103]; with_reducible exact H) | (have H2_ := (Option.bind_some _ _).symm.trans H; rw [hy103]; with_reducible exact H2_) | (have H2_ := (Option.bind_some _ _).symm.trans H; with_reducible exact H2_) | with_reducible exact H | (rw [hy103]; exact H) | exact H
        have Ny103 := Aside0.mk hy103
        clear hy103
        by_cases c10 : 1 + (strOfNums y103).size ≤ 9223372036854775807
        · rw [if_pos c10] at H
          have c10b0 := eq_true c10
          have c10b1 : decide (1 + (strOfNums y103).size ≤ 9223372036854775807) = true := decide_eq_true c10
          try have c10b2 : (9223372036854775807 < 1 + (strOfNums y103).size) = False := eq_false (Nat.not_lt.2 c10)
          obtain rfl := Option.some.inj H
          go_enter Try.func48, Try.ntmps48
          go_wp2_with (first | ((with_reducible refine gate_callee (f := 71) rfl ?_); refine goesL_ (some 5) rfl rfl Try.func71 (by kernel_rfl) rfl #[.int .i64 a0] rfl (by (try simp only [List.map_toArray, List.map_cons, List.map_nil]); first | done | rfl | (simp only [List.length_drop, List.length_take]; rfl)) ?_; (with_reducible refine (dactylref03_Of.calls k a0 t101 _ A2.out).mono ?_); rintro e w11 ⟨rfl, hb⟩; refine ⟨_, rfl, ?_⟩; have n0_ := Aside0.mk (below_step (by repeat (first | (with_reducible first | exact HB.out | apply below_alloc | apply pw_below_drewN | apply below_drew1) | exact HB.out)) hb); clear HB; have HB := n0_; clear n0_; (try clear hb); (try clear hb2); (try clear hk); (try clear hi)) | ((with_reducible refine gate_dst (N := 17) rfl ?_); refine Kd.R_lit (Kd.int .u8) _ 5 ?hg (N := 17) ?hd (xs := ([(wrap64 (a0 + 64)) % 256] : List Int)) (inner := [.int .u8 ((wrap64 (a0 + 64)) % 256)]) (ok := fun _ => True) (okp := fun _ => True) ?hr ?hp (fun _ hk => hk) trivial (Below.refl _ _) (Nat.le_refl _) (by simp) ?_; (case hd => rfl); (case hg => rfl); (case hr => first | (go_simp; done) | (go_simp; rfl)); (case hp => exact (Reps.one (show Kd.M (Kd.int .u8) _ _ _ ((wrap64 (a0 + 64)) % 256) [.int .u8 ((wrap64 (a0 + 64)) % 256)] from rfl) (Reps.none _ _))); intro v104 w12 ho13 hb hg_ hnew_; clear hg_ hnew_; (first | rw [← Ny103.out] at ho13 | (simp only [Int.reduceToNat] at ho13; rw [← Ny103.out] at ho13)); have n0_ := Aside0.mk (Kd.R_lower ho13 (below_size (by repeat (first | (with_reducible first | exact HB.out | apply below_alloc | apply pw_below_drewN | apply below_drew1) | exact HB.out)))); have n1_ := Aside0.mk (below_step (by repeat (first | (with_reducible first | exact HB.out | apply below_alloc | apply pw_below_drewN | apply below_drew1) | exact HB.out)) hb); clear HB; have HO105 := n0_; have HB := n1_; clear n0_ n1_; clear hb ho13; have hcv14 := own_string (P := Try.prog) Try.underlying108 Try.underlying5 Try.underlying9 (Kd.own_of_R HO105.out)))
          go_ret
          exact ⟨by first | rfl | (simp [errW_none, errW_some] <;> rfl) | (simp [*, errW_none, errW_some] <;> rfl), by repeat (first | (with_reducible first | exact HB.out | apply below_alloc | apply pw_below_drewN | apply below_drew1) | exact HB.out)⟩
        · rw [if_neg c10] at H
          exact absurd H (by simp)
      · rw [if_neg c9] at H
        have c9b0 : (t101 == 4) = false := beq_eq_false_iff_ne.mpr c9
        have c9b1 : (t101 != 4) = true := bne_iff_ne.mpr c9
        by_cases c15 : t101 = 5
        · rw [if_pos c15] at H
          have c15b0 : (t101 == 5) = true := beq_iff_eq.mpr c15
          have c15b1 : (t101 != 5) = false := bne_eq_false_iff_eq.mpr c15
          clear c15
          obtain rfl := Option.some.inj H
          go_enter Try.func48, Try.ntmps48
          go_wp2_with (first | ((with_reducible refine gate_callee (f := 71) rfl ?_); refine goesL_ (some 5) rfl rfl Try.func71 (by kernel_rfl) rfl #[.int .i64 a0] rfl (by (try simp only [List.map_toArray, List.map_cons, List.map_nil]); first | done | rfl | (simp only [List.length_drop, List.length_take]; rfl)) ?_; (with_reducible refine (dactylref03_Of.calls k a0 t101 _ A2.out).mono ?_); rintro e w16 ⟨rfl, hb⟩; refine ⟨_, rfl, ?_⟩; have n0_ := Aside0.mk (below_step (by repeat (first | (with_reducible first | exact HB.out | apply below_alloc | apply pw_below_drewN | apply below_drew1) | exact HB.out)) hb); clear HB; have HB := n0_; clear n0_; (try clear hb); (try clear hb2); (try clear hk); (try clear hi)))
          go_ret
          exact ⟨by first | rfl | (simp [errW_none, errW_some] <;> rfl) | (simp [*, errW_none, errW_some] <;> rfl), by repeat (first | (with_reducible first | exact HB.out | apply below_alloc | apply pw_below_drewN | apply below_drew1) | exact HB.out)⟩
        · rw [if_neg c15] at H
          have c15b0 : (t101 == 5) = false := beq_eq_false_iff_ne.mpr c15
          have c15b1 : (t101 != 5) = true := bne_iff_ne.mpr c15
          by_cases c17 : t101 = 12
          · rw [if_pos c17] at H
            have c17b0 : (t101 == 12) = true := beq_iff_eq.mpr c17
            have c17b1 : (t101 != 12) = false := bne_eq_false_iff_eq.mpr c17
            clear c17
            replace H := Option.bind_eq_some_iff.mp H
            obtain ⟨t106, A180, H⟩ := H
            replace H : (if 2 + t106.size ≤ 9223372036854775807 then (some ((⟨#[92, 120]⟩ : ByteArray) ++ t106)) else (none)) = some r := H
            have A18 := Aside0.mk A180
            clear A180
            by_cases c19 : 2 + t106.size ≤ 9223372036854775807
            · rw [if_pos c19] at H
              have c19b0 := eq_true c19
              have c19b1 : decide (2 + t106.size ≤ 9223372036854775807) = true := decide_eq_true c19
              try have c19b2 : (9223372036854775807 < 2 + t106.size) = False := eq_false (Nat.not_lt.2 c19)
              obtain rfl := Option.some.inj H
              go_enter Try.func48, Try.ntmps48
              go_wp2_with (first | ((with_reducible refine gate_callee (f := 71) rfl ?_); refine goesL_ (some 5) rfl rfl Try.func71 (by kernel_rfl) rfl #[.int .i64 a0] rfl (by (try simp only [List.map_toArray, List.map_cons, List.map_nil]); first | done | rfl | (simp only [List.length_drop, List.length_take]; rfl)) ?_; (with_reducible refine (dactylref03_Of.calls k a0 t101 _ A2.out).mono ?_); rintro e w20 ⟨rfl, hb⟩; refine ⟨_, rfl, ?_⟩; have n0_ := Aside0.mk (below_step (by repeat (first | (with_reducible first | exact HB.out | apply below_alloc | apply pw_below_drewN | apply below_drew1) | exact HB.out)) hb); clear HB; have HB := n0_; clear n0_; (try clear hb); (try clear hb2); (try clear hk); (try clear hi)) | ((with_reducible refine gate_callee (f := 92) rfl ?_); refine goesL_ (some 26) rfl rfl Try.func92 (by kernel_rfl) rfl #[.int .i64 (wrap64 (a0 - 1114112)), .int .i64 2] rfl (by (try simp only [List.map_toArray, List.map_cons, List.map_nil]); first | done | rfl | (simp only [List.length_drop, List.length_take]; rfl)) ?_; (with_reducible refine (dactylref01_Hex.calls k (wrap64 (a0 - 1114112)) 2 t106 _ A18.out).mono ?_); rintro e w' ⟨rfl, ⟨nd, rfl⟩⟩; refine ⟨_, rfl, ?_⟩))
              go_ret
              exact ⟨by first | rfl | (simp [errW_none, errW_some] <;> rfl) | (simp [*, errW_none, errW_some] <;> rfl), by repeat (first | (with_reducible first | exact HB.out | apply below_alloc | apply pw_below_drewN | apply below_drew1) | exact HB.out)⟩
            · rw [if_neg c19] at H
              exact absurd H (by simp)
          · rw [if_neg c17] at H
            have c17b0 : (t101 == 12) = false := beq_eq_false_iff_ne.mpr c17
            have c17b1 : (t101 != 12) = true := bne_iff_ne.mpr c17
            replace H := Option.bind_eq_some_iff.mp H
            obtain ⟨t107, A210, H⟩ := H
            replace H : (if 3 + t107.size ≤ 9223372036854775807 then (if 3 + t107.size + 1 ≤ 9223372036854775807 then (some (((⟨#[60, 85, 43]⟩ : ByteArray) ++ t107) ++ (⟨#[62]⟩ : ByteArray))) else (none)) else (none)) = some r := H
            have A21 := Aside0.mk A210
            clear A210
            by_cases c22 : 3 + t107.size ≤ 9223372036854775807
            · rw [if_pos c22] at H
              have c22b0 := eq_true c22
              have c22b1 : decide (3 + t107.size ≤ 9223372036854775807) = true := decide_eq_true c22
              try have c22b2 : (9223372036854775807 < 3 + t107.size) = False := eq_false (Nat.not_lt.2 c22)
              by_cases c23 : 3 + t107.size + 1 ≤ 9223372036854775807
              · rw [if_pos c23] at H
                have c23b0 := eq_true c23
                have c23b1 : decide (3 + t107.size + 1 ≤ 9223372036854775807) = true := decide_eq_true c23
                try have c23b2 : (9223372036854775807 < 3 + t107.size + 1) = False := eq_false (Nat.not_lt.2 c23)
                obtain rfl := Option.some.inj H
                go_enter Try.func48, Try.ntmps48
                go_wp2_with (first | ((with_reducible refine gate_callee (f := 71) rfl ?_); refine goesL_ (some 5) rfl rfl Try.func71 (by kernel_rfl) rfl #[.int .i64 a0] rfl (by (try simp only [List.map_toArray, List.map_cons, List.map_nil]); first | done | rfl | (simp only [List.length_drop, List.length_take]; rfl)) ?_; (with_reducible refine (dactylref03_Of.calls k a0 t101 _ A2.out).mono ?_); rintro e w24 ⟨rfl, hb⟩; refine ⟨_, rfl, ?_⟩; have n0_ := Aside0.mk (below_step (by repeat (first | (with_reducible first | exact HB.out | apply below_alloc | apply pw_below_drewN | apply below_drew1) | exact HB.out)) hb); clear HB; have HB := n0_; clear n0_; (try clear hb); (try clear hb2); (try clear hk); (try clear hi)) | ((with_reducible refine gate_callee (f := 92) rfl ?_); refine goesL_ (some 29) rfl rfl Try.func92 (by kernel_rfl) rfl #[.int .i64 a0, .int .i64 4] rfl (by (try simp only [List.map_toArray, List.map_cons, List.map_nil]); first | done | rfl | (simp only [List.length_drop, List.length_take]; rfl)) ?_; (with_reducible refine (dactylref01_Hex.calls k a0 4 t107 _ A21.out).mono ?_); rintro e w' ⟨rfl, ⟨nd, rfl⟩⟩; refine ⟨_, rfl, ?_⟩))
                go_ret
                exact ⟨by first | rfl | (simp [errW_none, errW_some] <;> rfl) | (simp [*, errW_none, errW_some] <;> rfl), by repeat (first | (with_reducible first | exact HB.out | apply below_alloc | apply pw_below_drewN | apply below_drew1) | exact HB.out)⟩
              · rw [if_neg c23] at H
                exact absurd H (by simp)
            · rw [if_neg c22] at H
              exact absurd H (by simp)

end Go.Proofs.Ytemoocoedibbpaa.X

namespace Go.Proofs.Ytemoocoedibbpaa.X
open Go.RowKit Go.Proofs.YtemoocoedibbpaaW.PrintWords Go.Proofs.YtemoocoedibbpaaW.PrintLast Go.Proofs.YtemoocoedibbpaaW.PrintMore
attribute [local go_sem] max2_int min2_int max_two min_two max_three min_three max_four min_four
set_option linter.unusedVariables false
set_option linter.unusedSimpArgs false

/-- The bytes of a value, as numbers. -/
def encL (v : Int) : List Int := if v < 128 then [v] else if v < 2048 then [192 + v / 64, 128 + v % 64] else if v < 65536 then [224 + v / 4096, 128 + v / 64 % 64, 128 + v % 64] else if v ≤ 1114111 then [240 + v / 262144, 128 + v / 4096 % 64, 128 + v / 64 % 64, 128 + v % 64] else [v - 1114112]
theorem encL_len (v : Int) : 1 ≤ (encL v).length ∧ (encL v).length ≤ 4 := by unfold encL; (repeat' split) <;> simp
theorem rightB_iff (v : Int) : rightB v = true ↔ (0 ≤ v ∧ v < 55296 ∨ 57343 < v ∧ v ≤ 1114111) ∨ (1114240 ≤ v ∧ v ≤ 1114367) := by unfold rightB; simp only [Bool.or_eq_true, decide_eq_true_eq]
theorem ref_Bytes_f (v : Int) (h0 : 0 ≤ v) (h1 : v ≤ 1114367) : dactylref02_Bytes.f v = some (strOfNums (encL v)) := by
  have t : ∀ n : Int, Int.tdiv v n = v / n := fun n => Int.tdiv_eq_ediv_of_nonneg h0
  have m : ∀ n : Int, Int.tmod v n = v % n := fun n => Int.tmod_eq_emod_of_nonneg h0
  have e64 : wrap64 (v / 64) = v / 64 := by unfold wrap64; omega
  have e4096 : wrap64 (v / 4096) = v / 4096 := by unfold wrap64; omega
  have e26 : wrap64 (v / 262144) = v / 262144 := by unfold wrap64; omega
  have m64 : Int.tmod (v / 64) 64 = v / 64 % 64 := Int.tmod_eq_emod_of_nonneg (by omega)
  have m4096 : Int.tmod (v / 4096) 64 = v / 4096 % 64 := Int.tmod_eq_emod_of_nonneg (by omega)
  unfold dactylref02_Bytes.f encL
  rw [t, t, t, m, e64, e4096, e26, m64, m4096]
  by_cases c1 : v < 128
  · rw [if_pos c1, if_pos c1, show v % 256 = v by omega]
  · rw [if_neg c1, if_neg c1]
    by_cases c2 : v < 2048
    · rw [if_pos c2, if_pos c2, show wrap64 (192 + v / 64) % 256 = 192 + v / 64 by unfold wrap64; omega, show wrap64 (128 + v % 64) % 256 = 128 + v % 64 by unfold wrap64; omega]
    · rw [if_neg c2, if_neg c2]
      by_cases c3 : v < 65536
      · rw [if_pos c3, if_pos c3, show wrap64 (224 + v / 4096) % 256 = 224 + v / 4096 by unfold wrap64; omega, show wrap64 (128 + v / 64 % 64) % 256 = 128 + v / 64 % 64 by unfold wrap64; omega, show wrap64 (128 + v % 64) % 256 = 128 + v % 64 by unfold wrap64; omega]
      · rw [if_neg c3, if_neg c3]
        by_cases c4 : v ≤ 1114111
        · rw [if_pos c4, if_pos c4, show wrap64 (240 + v / 262144) % 256 = 240 + v / 262144 by unfold wrap64; omega, show wrap64 (128 + v / 4096 % 64) % 256 = 128 + v / 4096 % 64 by unfold wrap64; omega, show wrap64 (128 + v / 64 % 64) % 256 = 128 + v / 64 % 64 by unfold wrap64; omega, show wrap64 (128 + v % 64) % 256 = 128 + v % 64 by unfold wrap64; omega]
        · rw [if_neg c4, if_neg c4, show wrap64 (v - 1114112) % 256 = v - 1114112 by unfold wrap64; omega]
theorem AppendRune_f (l : List Int) (v : Int) (h : 0 ≤ v ∧ v < 55296 ∨ 57343 < v ∧ v ≤ 1114111) (hl : l.length + 4 < 140737488355328) (k : Nat) (hk : 1 ≤ k) : utf8_AppendRune.f k l v = some (l ++ encL v) := by
  obtain ⟨k, rfl⟩ : ∃ m, k = m + 1 := ⟨k - 1, by omega⟩
  have e : v % 4294967296 = v := by omega
  unfold utf8_AppendRune.f utf8_appendRuneNonASCII.f encL
  simp only [utf8_appendRuneNonASCII.j0, e]
  by_cases c1 : v ≤ 127
  · rw [if_pos c1, if_pos (by omega), if_pos (show v < 128 by omega), show v % 256 = v by omega]
  · rw [if_neg c1, if_neg (show ¬ v < 128 by omega)]
    by_cases c2 : v ≤ 2047
    · rw [if_pos c2, if_pos (show v < 2048 by omega), show v / 64 % 256 = v / 64 by omega, u8_or192 _ (by omega) (by omega)]
      simp only [Option.bind_some, List.length_cons, List.length_nil]
      rw [if_pos (by omega)]; rfl
    · rw [if_neg c2, if_neg (show ¬ v < 2048 by omega)]
      have three : ∀ b : Bool, b = true → v < 65536 → ((if b = true then ((some (([Go.bits .or .u8 224 ((v / 4096) % 256), 128 + ((v / 64) % 64), 128 + (v % 64)] : List Int) : List Int)).bind fun y107 => (if l.length + y107.length < 140737488355328 then (some (l ++ y107)) else (none))) else none : Option (List Int)).bind fun t => some t) = some (l ++ [224 + v / 4096, 128 + v / 64 % 64, 128 + v % 64]) := by
        intro b hb hv
        subst hb
        rw [if_pos rfl, show v / 4096 % 256 = v / 4096 by omega, u8_or224 _ (by omega) (by omega)]
        simp only [Option.bind_some, List.length_cons, List.length_nil]
        rw [if_pos (by omega)]; rfl
      by_cases c3 : v < 55296
      · have := three true rfl (by omega)
        rw [if_pos rfl] at this
        rw [if_pos c3, decide_eq_true c3, if_pos rfl, if_pos (show v < 65536 by omega)]
        exact this
      · rw [if_neg c3, if_pos (show 57343 < v by omega)]
        by_cases c4 : v ≤ 65535
        · have := three true rfl (by omega)
          rw [if_pos rfl] at this
          rw [decide_eq_true c4, if_pos rfl, if_pos (show v < 65536 by omega)]
          exact this
        · rw [decide_eq_false c4, if_neg (show ¬ (false = true) by decide), if_pos (show v > 65535 by omega), if_pos (show v ≤ 1114111 by omega), if_neg (show ¬ v < 65536 by omega), if_pos (show v ≤ 1114111 by omega), show v / 262144 % 256 = v / 262144 by omega, u8_or240 _ (by omega) (by omega)]
          simp only [Option.bind_some, List.length_cons, List.length_nil]
          rw [if_pos (by omega)]; rfl
/-- The bytes of values, those that may not be left out. -/
def encAll (l : List Int) : List Int := l.flatMap fun v => if rightB v = true then encL v else []
theorem encAll_len (l : List Int) : (encAll l).length ≤ 4 * l.length := by
  induction l with
  | nil => simp [encAll]
  | cons v l ih =>
    have := (encL_len v).2
    simp only [encAll, List.flatMap_cons, List.length_append, List.length_cons] at ih ⊢
    split <;> simp at * <;> omega
theorem encAll_append (a b : List Int) : encAll (a ++ b) = encAll a ++ encAll b := by simp [encAll]
theorem encAll_cons (v : Int) (l : List Int) : encAll (v :: l) = (if rightB v = true then encL v else []) ++ encAll l := by simp [encAll]
theorem encAll_nil : encAll [] = [] := rfl
theorem Encode_l0 (l : List Int) (hl : 4 * l.length < 140737488350000) : ∀ (d k i : Nat) (acc : List Int), d + i = l.length → d + 1 < k → acc = encAll (l.take i) → utf_Encode.l0 k acc l (l.length : Int) (i : Int) = some (strOfNums (acc ++ encAll (l.drop i))) := by
  intro d
  induction d with
  | zero =>
    intro k i acc h1 h2 ha
    obtain ⟨k, rfl⟩ : ∃ m, k = m + 1 := ⟨k - 1, by omega⟩
    simp only [utf_Encode.l0]
    rw [if_neg (by omega), List.drop_of_length_le (by omega)]
    simp [encAll]
  | succ d ih =>
    intro k i acc h1 h2 ha
    obtain ⟨k, rfl⟩ : ∃ m, k = m + 1 := ⟨k - 1, by omega⟩
    have e1 : wrap64 ((i : Int) + 1) = ((i + 1 : Nat) : Int) := by rw [w64 (by omega) (by omega)]; omega
    have ed : l.drop i = l[i] :: l.drop (i + 1) := by rw [List.drop_eq_getElem_cons (by omega)]
    have et : l.take (i + 1) = l.take i ++ [l[i]] := by rw [List.take_succ_eq_append_getElem (by omega)]
    have r0 : rd l (i : Int) = l[i] := by simp [rd, List.getD, show i < l.length by omega]
    have hal : acc.length ≤ 4 * i := by rw [ha]; have := encAll_len (l.take i); rw [List.length_take] at this; omega
    have step : ∀ acc', acc' = encAll (l.take (i + 1)) → utf_Encode.l0 k acc' l (l.length : Int) ((i + 1 : Nat) : Int) = some (strOfNums (acc' ++ encAll (l.drop (i + 1)))) := fun acc' h => ih k (i + 1) acc' (by omega) (by omega) h
    simp only [utf_Encode.l0]
    rw [if_pos (by omega), if_pos (by omega), if_pos (by omega), r0, utf_point_f, Option.bind_some, e1]
    by_cases c1 : (0 ≤ l[i] ∧ l[i] < 55296 ∨ 57343 < l[i] ∧ l[i] ≤ 1114111)
    · have hr : rightB l[i] = true := (rightB_iff _).2 (.inl c1)
      have ha' : acc ++ encL l[i] = encAll (l.take (i + 1)) := by rw [et, ha, encAll_append, encAll_cons, if_pos hr, encAll_nil, List.append_nil]
      rw [decide_eq_true c1, if_pos rfl, show wrap32 l[i] = l[i] by unfold wrap32; omega, AppendRune_f acc l[i] c1 (by omega) k (by omega), Option.bind_some, step _ ha', ed, encAll_cons, if_pos hr, List.append_assoc]
    · rw [decide_eq_false c1, if_neg (show ¬ (false = true) by decide), utf_Right_f, Option.bind_some]
      by_cases c2 : rightB l[i] = true
      · have hv := (rightB_iff _).1 c2
        have he : encL l[i] = [l[i] - 1114112] := by unfold encL; rw [if_neg (by omega), if_neg (by omega), if_neg (by omega), if_neg (by omega)]
        have ha' : acc ++ [l[i] - 1114112] = encAll (l.take (i + 1)) := by rw [et, ha, ← he, encAll_append, encAll_cons, if_pos c2, encAll_nil, List.append_nil]
        rw [if_pos c2, if_pos (by omega), show wrap64 (l[i] - 1114112) % 256 = l[i] - 1114112 by unfold wrap64; omega, step _ ha', ed, encAll_cons, if_pos c2, he, List.append_assoc]
      · have ha' : acc = encAll (l.take (i + 1)) := by rw [et, ha, encAll_append, encAll_cons, if_neg c2, encAll_nil, List.append_nil, List.append_nil]
        rw [if_neg c2, step _ ha', ed, encAll_cons, if_neg c2, List.nil_append]
theorem utf_Encode_f (l : List Int) (hl : 4 * l.length < 140737488350000) (k : Nat) (hk : l.length + 1 < k) : utf_Encode.f k l = some (strOfNums (encAll l)) := by
  have := Encode_l0 l hl l.length k 0 [] (by omega) hk (by simp [encAll])
  simpa [utf_Encode.f] using this
/-! ### hex digits -/
def digB (x : Int) : ByteArray := digitsB.extract x.toNat (x + 1).toNat
theorem digB_size (x : Int) (h0 : 0 ≤ x) (h1 : x < 16) : (digB x).size = 1 := digit_size x h0 h1
theorem ba_assoc (a b c : ByteArray) : a ++ b ++ c = a ++ (b ++ c) := ByteArray.append_assoc
theorem e0size : (⟨#[]⟩ : ByteArray).size = 0 := rfl
theorem laid_acc (g : Nat) : ∀ (least u : Int) (s : ByteArray), 0 ≤ u → laidF g 16 least u s = laidF g 16 (least - s.size) u ⟨#[]⟩ ++ s := by
  induction g with
  | zero => intro least u s _; exact (ByteArray.empty_append (b := s)).symm
  | succ g ih =>
    intro least u s h0
    have hd := digB_size (u % 16) (by omega) (by omega)
    have hd' : digB (u % 16) = digitsB.extract (u % 16).toNat (u % 16 + 1).toNat := rfl
    simp only [laidF, ← hd', e0size]
    by_cases c : u > 0 ∨ (s.size : Int) < least
    · rw [if_pos c, if_pos (show u > 0 ∨ ((0 : Nat) : Int) < least - s.size by omega), ih least (u / 16) _ (by omega), ih (least - s.size) (u / 16) (digB (u % 16) ++ ⟨#[]⟩) (by omega)]
      rw [ByteArray.size_append, ByteArray.size_append, hd, e0size, ba_assoc, show digB (u % 16) ++ (⟨#[]⟩ : ByteArray) = digB (u % 16) from ByteArray.append_empty, show least - ((1 + s.size : Nat) : Int) = least - (s.size : Int) - ((1 + 0 : Nat) : Int) by omega]
    · rw [if_neg c, if_neg (show ¬ (u > 0 ∨ ((0 : Nat) : Int) < least - s.size) by omega)]
      exact (ByteArray.empty_append (b := s)).symm
theorem laid_size (g : Nat) : ∀ (least u : Int) (s : ByteArray), 0 ≤ u → (laidF g 16 least u s).size ≤ s.size + g := by
  induction g with
  | zero => intro least u s _; simp [laidF]
  | succ g ih =>
    intro least u s h0
    have hd := digB_size (u % 16) (by omega) (by omega)
    have hd' : digB (u % 16) = digitsB.extract (u % 16).toNat (u % 16 + 1).toNat := rfl
    simp only [laidF, ← hd']
    split
    · have := ih least (u / 16) (digB (u % 16) ++ s) (by omega)
      rw [ByteArray.size_append, hd] at this
      omega
    · omega
theorem laid_step (g : Nat) (least u : Int) (h0 : 0 ≤ u) (h : u > 0 ∨ 0 < least) : laidF (g + 1) 16 least u ⟨#[]⟩ = laidF g 16 (least - 1) (u / 16) ⟨#[]⟩ ++ digB (u % 16) := by
  have hd := digB_size (u % 16) (by omega) (by omega)
  have hd' : digB (u % 16) = digitsB.extract (u % 16).toNat (u % 16 + 1).toNat := rfl
  simp only [laidF, ← hd', e0size]
  rw [if_pos (show u > 0 ∨ ((0 : Nat) : Int) < least by omega), laid_acc g least (u / 16) _ (by omega), show digB (u % 16) ++ (⟨#[]⟩ : ByteArray) = digB (u % 16) from ByteArray.append_empty, hd]
  rfl
theorem laid_nil (g : Nat) (least : Int) (h : least ≤ 0) : laidF g 16 least 0 ⟨#[]⟩ = ⟨#[]⟩ := by
  cases g with
  | zero => rfl
  | succ g => simp only [laidF, e0size]; rw [if_neg (show ¬ ((0 : Int) > 0 ∨ ((0 : Nat) : Int) < least) by omega)]
theorem laid_01 (g : Nat) (u : Int) (h : 0 < u) : laidF g 16 0 u ⟨#[]⟩ = laidF g 16 1 u ⟨#[]⟩ := by
  cases g with
  | zero => rfl
  | succ g =>
    rw [laid_step g 0 u (by omega) (.inl h), laid_step g 1 u (by omega) (.inl h)]
    congr 1
    by_cases c : u / 16 = 0
    · rw [c, laid_nil g _ (by omega), laid_nil g _ (by omega)]
    · -- more digits: the least number counts no more
      have : ∀ (g : Nat) (a b v : Int), a ≤ 0 → b ≤ 0 → 0 ≤ v → laidF g 16 a v ⟨#[]⟩ = laidF g 16 b v ⟨#[]⟩ := by
        intro g
        induction g with
        | zero => intro a b v _ _ _; rfl
        | succ g ih =>
          intro a b v ha hb hv
          by_cases hz : v = 0
          · rw [hz, laid_nil _ _ ha, laid_nil _ _ hb]
          · rw [laid_step g a v hv (by omega), laid_step g b v hv (by omega), ih (a - 1) (b - 1) (v / 16) (by omega) (by omega) (by omega)]
      exact this g _ _ _ (by omega) (by omega) (by omega)
theorem Digit_f (x : Int) (h0 : 0 ≤ x) (h1 : x < 16) : dactylref01_Digit.f x = some (digB x) := by
  unfold dactylref01_Digit.f
  rw [show wrap64 (x + 1) = x + 1 by unfold wrap64; omega, if_pos h0, if_pos (by omega), if_pos (by omega)]
  rfl
/-- The reference's hex digits are the program's. -/
theorem ref_Hex_f : ∀ (g : Nat), g ≤ 16 → ∀ (k : Nat) (n least : Int), 0 ≤ n → n < 16 ^ g → least ≤ g → (g : Int) - 100 ≤ least → n ≤ 9223372036854775807 → 1 ≤ g → 2 * g ≤ k → dactylref01_Hex.f k n least = some (laidF g 16 (max least 1) n ⟨#[]⟩) := by
  intro g
  induction g with
  | zero => intro _ k n least _ _ _ _ _ h _; omega
  | succ g ih =>
    intro hg k n least h0 h1 h2 h2' h3 _ hk
    obtain ⟨k, rfl⟩ : ∃ m, k = m + 2 := ⟨k - 2, by omega⟩
    by_cases c : n < 16 ∧ least ≤ 1
    · simp only [dactylref01_Hex.f, dactylref01_Hex.j0]
      rw [if_pos c.1, decide_eq_true c.2, if_pos rfl, Digit_f n h0 c.1, Option.bind_some, show max least 1 = 1 by omega, laid_step g 1 n h0 (.inr (by omega)), show n / 16 = 0 by omega, show n % 16 = n by omega, laid_nil _ _ (by omega)]
      rfl
    · have hj : dactylref01_Hex.f (k + 2) n least = dactylref01_Hex.j0 (k + 1) n least false := by
        simp only [dactylref01_Hex.f]
        by_cases c1 : n < 16
        · rw [if_pos c1, decide_eq_false (show ¬ least ≤ 1 by omega)]
        · rw [if_neg c1]
      rw [hj]
      simp only [dactylref01_Hex.j0]
      rw [if_neg (show ¬ (false = true) by decide), Int.tdiv_eq_ediv_of_nonneg h0, Int.tmod_eq_emod_of_nonneg h0, show wrap64 (n / 16) = n / 16 by unfold wrap64; omega, show wrap64 (least - 1) = least - 1 by unfold wrap64; omega]
      rw [Int.pow_succ] at h1
      have hlt : n / 16 < 16 ^ g := Int.ediv_lt_of_lt_mul (by decide) h1
      have hg1 : 1 ≤ g := by
        rcases Nat.eq_zero_or_pos g with hz | hz
        · subst hz; simp at h1; omega
        · exact hz
      rw [ih (by omega) k (n / 16) (least - 1) (by omega) hlt (by omega) (by omega) (by omega) hg1 (by omega), Option.bind_some, Digit_f (n % 16) (by omega) (by omega), Option.bind_some]
      have hs := laid_size g (max (least - 1) 1) (n / 16) ⟨#[]⟩ (by omega)
      have hd := digB_size (n % 16) (by omega) (by omega)
      rw [e0size] at hs
      rw [if_pos (show (laidF g 16 (max (least - 1) 1) (n / 16) ⟨#[]⟩).size + (digB (n % 16)).size ≤ 9223372036854775807 by omega), laid_step g (max least 1) n h0 (.inr (by omega))]
      congr 2
      by_cases c2 : 2 ≤ least
      · rw [show max (least - 1) 1 = max least 1 - 1 by omega]
      · rw [show max (least - 1) 1 = 1 by omega, show max least 1 - 1 = 0 by omega]
        exact (laid_01 g (n / 16) (by omega)).symm
theorem laid_more (g : Nat) : ∀ (d : Nat) (least u : Int), 0 ≤ u → u < 16 ^ g → least ≤ g → laidF (g + d) 16 least u ⟨#[]⟩ = laidF g 16 least u ⟨#[]⟩ := by
  induction g with
  | zero =>
    intro d least u h0 h1 h2
    simp at h1 h2
    rw [show u = 0 by omega, laid_nil _ _ h2, laid_nil _ _ h2]
  | succ g ih =>
    intro d least u h0 h1 h2
    by_cases c : u > 0 ∨ 0 < least
    · rw [Int.pow_succ] at h1
      rw [show g + 1 + d = (g + d) + 1 by omega, laid_step _ least u h0 c, laid_step _ least u h0 c, ih d _ _ (by omega) (Int.ediv_lt_of_lt_mul (by decide) h1) (by omega)]
    · rw [show u = 0 by omega, laid_nil _ _ (by omega), laid_nil _ _ (by omega)]
theorem num_Hex_f (n least : Int) (h0 : 0 ≤ n) (h1 : n ≤ 9223372036854775807) (h2 : 1 ≤ least) (h3 : least ≤ 16) : num_Hex.f n least = some (laidF 16 16 least n ⟨#[]⟩) := by
  unfold num_Hex.f
  rw [if_neg (by omega), show mn (mx least 1) 16 = least by unfold mn mx; split <;> split <;> omega, IntWalk.u64_in _ (by omega)]
theorem ref_Hex (n least : Int) (h0 : 0 ≤ n) (h1 : n ≤ 9223372036854775807) (h2 : 1 ≤ least) (h3 : least ≤ 16) (k : Nat) (hk : 32 ≤ k) : dactylref01_Hex.f k n least = some (laidF 16 16 least n ⟨#[]⟩) := by
  rw [ref_Hex_f 16 (by omega) k n least h0 (by omega) (by omega) (by omega) h1 (by omega) (by omega), show max least 1 = least by omega]
/-! ### shown texts -/
theorem clsIn4 (v : Int) (h0 : 0 ≤ v) (h1 : v ≤ 1114111) (h2 : ¬ (31 < v ∧ v < 127)) (h : clsIn v spansL = 4) : v ≤ 31 := by
  rw [(same_all v h0 h1).1 h2] at h
  unfold oddB at h
  by_cases c : v ≤ 31
  · exact c
  · rw [if_neg c] at h
    exfalso
    (repeat' split at h) <;> omega
theorem clsIn_range (v : Int) (h0 : 0 ≤ v) (h1 : v ≤ 1114111) (h2 : ¬ (31 < v ∧ v < 127)) : clsIn v spansL = 0 ∨ (4 ≤ clsIn v spansL ∧ clsIn v spansL ≤ 11) := by
  rw [(same_all v h0 h1).1 h2]
  unfold oddB
  (repeat' split) <;> omega
/-- What a class says of a value. -/
theorem cls_says (v : Int) : (cls v = 0 ∧ rightB v = false) ∨ (rightB v = true ∧ 0 ≤ v ∧ v ≤ 1114111 ∧ (cls v = 1 ∨ cls v = 2 ∨ cls v = 3)) ∨ (rightB v = true ∧ 0 ≤ v ∧ v ≤ 31 ∧ cls v = 4) ∨ (rightB v = true ∧ 0 ≤ v ∧ v ≤ 1114111 ∧ 5 ≤ cls v ∧ cls v ≤ 11) ∨ (rightB v = true ∧ 1114240 ≤ v ∧ v ≤ 1114367 ∧ cls v = 12) := by
  unfold cls
  by_cases h1 : rightB v = true
  · have hr := (rightB_iff v).1 h1
    rw [if_pos h1, h1]
    by_cases h2 : v > 1114111
    · rw [if_pos h2]; right; right; right; right; exact ⟨rfl, by omega, by omega, rfl⟩
    · rw [if_neg h2]
      have h0 : 0 ≤ v := by omega
      by_cases h3 : 31 < v ∧ v < 127
      · rw [if_pos h3]; right; left; exact ⟨rfl, h0, by omega, .inl rfl⟩
      · rw [if_neg h3]
        rcases clsIn_range v h0 (by omega) h3 with h4 | h4
        · rw [if_pos h4]
          have hw := (same_all v h0 (by omega)).2.2
          right; left
          refine ⟨rfl, h0, by omega, ?_⟩
          rw [hw]
          (repeat' split) <;> omega
        · rw [if_neg (show ¬ clsIn v spansL = 0 by omega)]
          by_cases h5 : clsIn v spansL = 4
          · right; right; left; exact ⟨rfl, h0, clsIn4 v h0 (by omega) h3 h5, h5⟩
          · right; right; right; left; exact ⟨rfl, h0, by omega, by omega, by omega⟩
  · rw [if_neg h1]; left; exact ⟨rfl, by simpa using h1⟩
def txt (v : Int) : ByteArray := if cls v = 0 then ⟨#[]⟩ else if cls v ≤ 3 then strOfNums (encL v) else if cls v = 4 then (⟨#[94]⟩ : ByteArray) ++ strOfNums [v + 64] else if cls v = 5 then ⟨#[94, 63]⟩ else if cls v = 12 then (⟨#[92, 120]⟩ : ByteArray) ++ laidF 16 16 2 (v - 1114112) ⟨#[]⟩ else ((⟨#[60, 85, 43]⟩ : ByteArray) ++ laidF 16 16 4 v ⟨#[]⟩) ++ ⟨#[62]⟩
theorem strOfNums_size (l : List Int) : (strOfNums l).size = l.length := by simp [strOfNums, ByteArray.size]
theorem txt_size (v : Int) : (txt v).size ≤ 25 := by
  have hl := (encL_len v).2
  have h2 : ∀ a b : Int, 0 ≤ b → (laidF 16 16 a b ⟨#[]⟩).size ≤ 16 := fun a b hb => by have := laid_size 16 a b ⟨#[]⟩ hb; rw [e0size] at this; omega
  have s1 : (⟨#[94]⟩ : ByteArray).size = 1 := rfl
  have s2 : (⟨#[92, 120]⟩ : ByteArray).size = 2 := rfl
  have s3 : (⟨#[60, 85, 43]⟩ : ByteArray).size = 3 := rfl
  have s4 : (⟨#[62]⟩ : ByteArray).size = 1 := rfl
  have s5 : (⟨#[94, 63]⟩ : ByteArray).size = 2 := rfl
  unfold txt
  rcases cls_says v with h | h | h | h | h
  · rw [if_pos h.1, e0size]; omega
  · rw [if_neg (by omega), if_pos (by omega), strOfNums_size]; omega
  · rw [if_neg (show ¬ cls v = 0 by omega), if_neg (show ¬ cls v ≤ 3 by omega), if_pos h.2.2.2, ByteArray.size_append, s1, strOfNums_size]; simp
  · have := h2 4 v (by omega)
    rw [if_neg (show ¬ cls v = 0 by omega), if_neg (show ¬ cls v ≤ 3 by omega), if_neg (show ¬ cls v = 4 by omega), if_neg (show ¬ cls v = 12 by omega)]
    split
    · rw [s5]; omega
    · rw [ByteArray.size_append, ByteArray.size_append, s3, s4]; omega
  · have := h2 2 (v - 1114112) (by omega)
    rw [if_neg (show ¬ cls v = 0 by omega), if_neg (show ¬ cls v ≤ 3 by omega), if_neg (show ¬ cls v = 4 by omega), if_neg (show ¬ cls v = 5 by omega), if_pos (show cls v = 12 by omega), ByteArray.size_append, s2]; omega
theorem Encode_one (v : Int) (h : rightB v = true) (k : Nat) (hk : 3 ≤ k) : utf_Encode.f k [v] = some (strOfNums (encL v)) := by
  rw [utf_Encode_f [v] (by simp) k (by simp; omega), encAll_cons, if_pos h, encAll_nil, List.append_nil]
theorem show_Text_f (v : Int) (k : Nat) (hk : 10 ≤ k) : show_Text.f k v = some (txt v) := by
  obtain ⟨k, rfl⟩ : ∃ m, k = m + 1 := ⟨k - 1, by omega⟩
  have hs := txt_size v
  unfold show_Text.f
  rw [class_Of_f v _ (by omega), Option.bind_some]
  simp only [show_Text.j0]
  unfold txt at hs ⊢
  rcases cls_says v with h | h | h | h | h
  · rw [if_pos h.1, if_pos h.1]
  · have hE := Encode_one v h.1 k (by omega)
    rw [if_neg (show ¬ cls v = 0 by omega), if_neg (show ¬ cls v = 0 by omega), if_pos (show cls v ≤ 3 by omega), hE]
    rcases h.2.2.2 with h' | h' | h' <;> simp [h']
  · have h4 := h.2.2.2
    have hr : rightB (v + 64) = true := (rightB_iff _).2 (by omega)
    rw [show wrap64 (v + 64) = v + 64 by unfold wrap64; omega, Encode_one (v + 64) hr k (by omega)]
    have he : encL (v + 64) = [v + 64] := by unfold encL; rw [if_pos (by omega)]
    rw [he]
    simp [h4, strOfNums_size]
  · have h5 : ¬ cls v = 1 ∧ ¬ cls v = 2 ∧ ¬ cls v = 3 ∧ ¬ cls v = 0 ∧ ¬ cls v ≤ 3 ∧ ¬ cls v = 4 ∧ ¬ cls v = 12 := by omega
    have hz := laid_size 16 4 v ⟨#[]⟩ h.2.1
    rw [e0size] at hz
    rw [num_Hex_f v 4 h.2.1 (by omega) (by omega) (by omega)]
    by_cases h6 : cls v = 5
    · simp [h6]
    · simp only [h5, h6, if_false, beq_iff_eq, Option.bind_some]
      rw [if_pos (by omega), if_pos (by omega)]
  · have h5 : ¬ cls v = 1 ∧ ¬ cls v = 2 ∧ ¬ cls v = 3 ∧ ¬ cls v = 0 ∧ ¬ cls v ≤ 3 ∧ ¬ cls v = 4 ∧ ¬ cls v = 5 := by omega
    have hz := laid_size 16 2 (v - 1114112) ⟨#[]⟩ (by omega)
    rw [e0size] at hz
    rw [show wrap64 (v - 1114112) = v - 1114112 by unfold wrap64; omega, num_Hex_f (v - 1114112) 2 (by omega) (by omega) (by omega) (by omega)]
    have h12 := h.2.2.2
    simp only [h5, if_false, beq_iff_eq, Option.bind_some]
    rw [if_pos h12, if_pos h12, if_pos (by omega)]
theorem ref_Text_f (v : Int) (k : Nat) (hk : 60 ≤ k) : dactylref06_Text.f k v = some (txt v) := by
  unfold dactylref06_Text.f txt
  rw [ref_Of_f v _ (by omega), Option.bind_some]
  rcases cls_says v with h | h | h | h | h
  · rw [if_pos h.1, if_pos h.1]
  · rw [if_neg (show ¬ cls v = 0 by omega), if_neg (show ¬ cls v = 0 by omega), if_pos (show cls v ≤ 3 by omega), if_pos (show cls v ≤ 3 by omega), ref_Bytes_f v h.2.1 (by omega)]; rfl
  · have h4 := h.2.2.2
    rw [show wrap64 (v + 64) % 256 = v + 64 by unfold wrap64; omega]
    simp [h4, strOfNums_size]
  · have h5 : ¬ cls v = 0 ∧ ¬ cls v ≤ 3 ∧ ¬ cls v = 4 ∧ ¬ cls v = 12 := by omega
    have hz := laid_size 16 4 v ⟨#[]⟩ h.2.1
    rw [e0size] at hz
    rw [ref_Hex v 4 h.2.1 (by omega) (by omega) (by omega) k (by omega)]
    by_cases h6 : cls v = 5
    · simp [h6]
    · simp only [h5, h6, if_false, Option.bind_some]
      rw [if_pos (by omega), if_pos (by omega)]
  · have h5 : ¬ cls v = 0 ∧ ¬ cls v ≤ 3 ∧ ¬ cls v = 4 ∧ ¬ cls v = 5 := by omega
    have hz := laid_size 16 2 (v - 1114112) ⟨#[]⟩ (by omega)
    rw [e0size] at hz
    rw [show wrap64 (v - 1114112) = v - 1114112 by unfold wrap64; omega, ref_Hex (v - 1114112) 2 (by omega) (by omega) (by omega) (by omega) k (by omega)]
    have h12 := h.2.2.2
    simp only [h5, if_false, Option.bind_some]
    rw [if_pos h12, if_pos h12, if_pos (by omega)]

end Go.Proofs.Ytemoocoedibbpaa.X

namespace Go.Proofs.Ytemoocoedibbpaa.X
open Go.RowKit Go.Proofs.YtemoocoedibbpaaW.PrintWords Go.Proofs.YtemoocoedibbpaaW.PrintLast Go.Proofs.YtemoocoedibbpaaW.PrintMore
attribute [local go_sem] max2_int min2_int max_two min_two max_three min_three max_four min_four
set_option linter.unusedVariables false
set_option linter.unusedSimpArgs false

/-! ### dactylref06_Looks: function 29 -/
mutual
def dactylref06_Looks.j0 : Nat → Int → Int → Int → Int → Option (Int)
  | 0, _, _, _, _ => none
  | k + 1, x3, x4, x102000, x102001 => if x102001 = 2 then (dactylref06_Looks.j1 k x3 x4 true) else (if x102001 = 3 then (dactylref06_Looks.j1 k x3 x4 true) else (dactylref06_Looks.j1 k x3 x4 (x102001 == 4)))
def dactylref06_Looks.j1 : Nat → Int → Int → Bool → Option (Int)
  | 0, _, _, _ => none
  | k + 1, x3, x4, x22 => if x22 = true then (if x4 = 3 then (some (wrap64 ((wrap64 (x3 + 2)) + 4))) else (some (wrap64 (x3 + 2)))) else (if x4 = 3 then (some (wrap64 (x3 + 4))) else (some x3))
end
def dactylref06_Looks.f (k : Nat) (a0_0 : Int) (a0_1 : Int) : Option (Int) := (dactylref03_Of.f k a0_0).bind fun t102 => (if t102 > 3 then (dactylref06_Looks.j0 k 1 t102 a0_0 a0_1) else (dactylref06_Looks.j0 k 0 t102 a0_0 a0_1))
theorem dactylref06_Looks.mono_l : ∀ k, (∀ y0 y1 y2 y3, LeO (dactylref06_Looks.j0 k y0 y1 y2 y3) (dactylref06_Looks.j0 (k + 1) y0 y1 y2 y3)) ∧ (∀ y0 y1 y2, LeO (dactylref06_Looks.j1 k y0 y1 y2) (dactylref06_Looks.j1 (k + 1) y0 y1 y2))
  | 0 => ⟨fun _ _ _ _ r h => by simp [dactylref06_Looks.j0] at h, fun _ _ _ r h => by simp [dactylref06_Looks.j1] at h⟩
  | k + 1 => by
    obtain ⟨ih0, ih1⟩ := dactylref06_Looks.mono_l k
    refine ⟨?_, ?_⟩
    · intro y0 y1 y2 y3
      unfold dactylref06_Looks.j0
      repeat' first
      | (with_reducible exact ih0 _ _ _ _)
      | (with_reducible exact ih1 _ _ _)
      | (with_reducible exact dactylref03_Of.mono _ _)
      | (with_reducible exact LeO.refl _)
      | (with_reducible exact LeO.none _)
      | (with_reducible refine LeO.ite ?_ ?_)
      | (with_reducible refine LeO.bind ?_ (fun _ => ?_))
      | exact ih0 _ _ _ _
      | exact ih1 _ _ _
      | exact dactylref03_Of.mono _ _
      | exact LeO.none _
      | refine LeO.ite ?_ ?_
      | refine LeO.bind ?_ (fun _ => ?_)
    · intro y0 y1 y2
      unfold dactylref06_Looks.j1
      repeat' first
      | (with_reducible exact ih0 _ _ _ _)
      | (with_reducible exact ih1 _ _ _)
      | (with_reducible exact dactylref03_Of.mono _ _)
      | (with_reducible exact LeO.refl _)
      | (with_reducible exact LeO.none _)
      | (with_reducible refine LeO.ite ?_ ?_)
      | (with_reducible refine LeO.bind ?_ (fun _ => ?_))
      | exact ih0 _ _ _ _
      | exact ih1 _ _ _
      | exact dactylref03_Of.mono _ _
      | exact LeO.none _
      | refine LeO.ite ?_ ?_
      | refine LeO.bind ?_ (fun _ => ?_)
theorem dactylref06_Looks.mono : ∀ a0 a1 k, LeO (dactylref06_Looks.f k a0 a1) (dactylref06_Looks.f (k + 1) a0 a1) := by
  intro a0 a1 k
  obtain ⟨ih0, ih1⟩ := dactylref06_Looks.mono_l k
  unfold dactylref06_Looks.f
  repeat' first
      | (with_reducible exact ih0 _ _ _ _)
      | (with_reducible exact ih1 _ _ _)
      | (with_reducible exact dactylref03_Of.mono _ _)
      | (with_reducible exact LeO.refl _)
      | (with_reducible exact LeO.none _)
      | (with_reducible refine LeO.ite ?_ ?_)
      | (with_reducible refine LeO.bind ?_ (fun _ => ?_))
      | exact ih0 _ _ _ _
      | exact ih1 _ _ _
      | exact dactylref03_Of.mono _ _
      | exact LeO.none _
      | refine LeO.ite ?_ ?_
      | refine LeO.bind ?_ (fun _ => ?_)
set_option maxHeartbeats 8000000 in
set_option maxRecDepth 100000 in
theorem dactylref06_Looks.calls (k : Nat) (a0_0 : Int) (a0_1 : Int) (r : Int) (w : World) (h : dactylref06_Looks.f k a0_0 a0_1 = some r) :
    Calls Try.prog 29 #[.agg #[.int .i64 a0_0, .int .i64 a0_1]] w fun e w' => e = .returned (.int .i64 r) ∧ Below w.heap.size w w' := by
  have hu45 := Try.underlying45
  have HB := Aside0.mk (Below.refl w.heap.size w)
  have H : ((dactylref03_Of.f k a0_0).bind fun t102 => (if t102 > 3 then (dactylref06_Looks.j0 k 1 t102 a0_0 a0_1) else (dactylref06_Looks.j0 k 0 t102 a0_0 a0_1))) = some r := h
  clear h
  replace H := Option.bind_eq_some_iff.mp H
  obtain ⟨t102, A20, H⟩ := H
  replace H : (if t102 > 3 then (dactylref06_Looks.j0 k 1 t102 a0_0 a0_1) else (dactylref06_Looks.j0 k 0 t102 a0_0 a0_1)) = some r := H
  have A2 := Aside0.mk A20
  clear A20
  have HC3 := Aside0.mk H
  clear H
  go_enter Try.func29, Try.ntmps29
  go_upto_if 9 with (first | ((with_reducible refine gate_dst (N := 1) rfl ?_); refine box_event ?hg (N := 1) ?hd (cs := #[.int .i64 a0_0, .int .i64 a0_1]) (t := 45) ?hr ?_; (case hd => rfl); (case hg => rfl); (case hr => first | (go_simp; done) | (go_simp; rfl)); intro gb101 hg w4 hbox hb; have n0_ := Aside0.mk (below_step (by repeat (first | (with_reducible first | exact HB.out | apply below_alloc | apply pw_below_drewN | apply below_drew1) | exact HB.out)) hb); have n1_ := Aside0.mk (hbox); have n2_ := Aside0.mk ((by rw [hg]; exact (below_size (by repeat (first | (with_reducible first | exact HB.out | apply below_alloc | apply pw_below_drewN | apply below_drew1) | exact HB.out))) : w.heap.size ≤ gb101)); have n3_ := Aside0.mk ((by rw [hg]; exact (below_size (by repeat (first | (with_reducible first | exact HB.out | apply below_alloc | apply pw_below_drewN | apply below_drew1) | exact HB.out))) : w.heap.size ≤ gb101)); clear HB; have HB := n0_; have BK101 := n1_; have GW101 := n2_; have GE101 := n3_; clear n0_ n1_ n2_ n3_; clear hb hbox hg; have hcz5_0 : w4.cell? ⟨gb101, 0, none⟩ = some (.int .i64 a0_0) := (blk_cell BK101.out 0).trans rfl; have hcz5_1 : w4.cell? ⟨gb101, 1, none⟩ = some (.int .i64 a0_1) := (blk_cell BK101.out 1).trans rfl; have hfz5_0 := blk_frozen BK101.out 0; have hfz5_1 := blk_frozen BK101.out 1) | ((with_reducible refine gate_callee (f := 71) rfl ?_); refine goesL_ (some 7) rfl rfl Try.func71 (by kernel_rfl) rfl #[.int .i64 a0_0] rfl (by (try simp only [List.map_toArray, List.map_cons, List.map_nil]); first | done | rfl | (simp only [List.length_drop, List.length_take]; rfl)) ?_; (with_reducible refine (dactylref03_Of.calls k a0_0 t102 _ A2.out).mono ?_); rintro e w6 ⟨rfl, hb⟩; refine ⟨_, rfl, ?_⟩; have n0_ := Aside0.mk (blk_below (g := gb101) (o := .cells #[.int .i64 a0_0, .int .i64 a0_1] 45 (0, 0)) (by (with_reducible repeat (first | refine blk_drewN ?_ _ | refine blk_drew ?_ | refine blk_alloc ?_ _)); exact BK101.out) hb); have n1_ := Aside0.mk (below_step (by repeat (first | (with_reducible first | exact HB.out | apply below_alloc | apply pw_below_drewN | apply below_drew1 | refine below_set ?_ GE101.out) | exact HB.out)) hb); clear BK101; clear HB; have BK101 := n0_; have HB := n1_; clear n0_ n1_; (try clear hb); (try clear hb2); (try clear hk); (try clear hi)))
  (try simp only [Act.put, List.setIfInBounds_toArray, List.set_cons_zero, List.set_cons_succ])
  go_cut [3] (fun v3 wc => ∃ (kq : Nat) (x3_2 : Int), v3 = .int .i64 x3_2 ∧ Aside0 (dactylref06_Looks.j0 kq x3_2 t102 a0_0 a0_1 = some r) ∧ Aside0 (kq ≤ k) ∧ Aside0 (wc.heap[gb101]? = some (.cells #[.int .i64 a0_0, .int .i64 a0_1] 45 (0, 0))) ∧ Aside0 (Below w.heap.size w wc))
  case first =>
    have H := HC3.out
    clear HC3
    by_cases c7 : t102 > 3
    · rw [if_pos c7] at H
      have c7b0 : decide (3 < t102) = true := decide_eq_true c7
      clear c7
      (first | rw [c7b0] | (simp only [i64_w, i32_w]; rw [c7b0]) | skip)
      have H' := Aside0.mk H
      clear H
      go_wp2
      go_meet
      case rel => exact ⟨_, (1), (by first | rfl | (simp; done) | (simp [*]; done)), H', ⟨by first | omega | exact Nat.le_refl _⟩, ⟨by (with_reducible repeat (first | refine blk_drewN ?_ _ | refine blk_drew ?_ | refine blk_alloc ?_ _)); exact BK101.out⟩, ⟨by repeat (first | (with_reducible first | exact HB.out | apply below_alloc | apply pw_below_drewN | apply below_drew1 | refine below_set ?_ GE101.out) | exact HB.out)⟩⟩
    · rw [if_neg c7] at H
      have c7b0 : decide (3 < t102) = false := decide_eq_false c7
      clear c7
      (first | rw [c7b0] | (simp only [i64_w, i32_w]; rw [c7b0]) | skip)
      have H' := Aside0.mk H
      clear H
      go_wp2
      go_meet
      case rel => exact ⟨_, (0), (by first | rfl | (simp; done) | (simp [*]; done)), H', ⟨by first | omega | exact Nat.le_refl _⟩, ⟨by (with_reducible repeat (first | refine blk_drewN ?_ _ | refine blk_drew ?_ | refine blk_alloc ?_ _)); exact BK101.out⟩, ⟨by repeat (first | (with_reducible first | exact HB.out | apply below_alloc | apply pw_below_drewN | apply below_drew1 | refine below_set ?_ GE101.out) | exact HB.out)⟩⟩
  case rest =>
    clear HC3
    try clear c2
    try clear p2
    try clear c7
    try clear c7b0
    try clear hcz5_0
    try clear hcz5_1
    try clear hfz5_0
    try clear hfz5_1
    obtain ⟨kq, x3_2, rfl, HA, HJ2, BK101, HB⟩ := hcut
    cases kq with
    | zero => exact absurd HA.out (by simp [dactylref06_Looks.j0])
    | succ kj2 =>
      have H := HA.out
      clear HA
      simp only [dactylref06_Looks.j0] at H
      have HC8 := Aside0.mk H
      clear H
      go_upto_region 5 with (fail)
      go_cut [22] (fun v22 wc => ∃ (kq : Nat) (x22_7 : Bool), v22 = .bool x22_7 ∧ Aside0 (dactylref06_Looks.j1 kq x3_2 t102 x22_7 = some r) ∧ Aside0 (kq ≤ kj2) ∧ Aside0 (wc.heap[gb101]? = some (.cells #[.int .i64 a0_0, .int .i64 a0_1] 45 (0, 0))) ∧ Aside0 (Below w.heap.size w wc))
      case first =>
        have H := HC8.out
        clear HC8
        by_cases c9 : a0_1 = 2
        · rw [if_pos c9] at H
          have c9b0 : (a0_1 == 2) = true := beq_iff_eq.mpr c9
          have c9b1 : (a0_1 != 2) = false := bne_eq_false_iff_eq.mpr c9
          clear c9
          (first | rw [c9b0] | (simp only [i64_w, i32_w]; rw [c9b0]) | skip)
          have H' := Aside0.mk H
          clear H
          have hcz10_0 : wc.cell? ⟨gb101, 0, none⟩ = some (.int .i64 a0_0) := (blk_cell BK101.out 0).trans rfl
          have hcz10_1 : wc.cell? ⟨gb101, 1, none⟩ = some (.int .i64 a0_1) := (blk_cell BK101.out 1).trans rfl
          have hfz10_0 := blk_frozen BK101.out 0
          have hfz10_1 := blk_frozen BK101.out 1
          go_wp2
          go_meet
          case rel => exact ⟨_, (true), (by first | rfl | (simp; done) | (simp [*]; done)), H', ⟨by have := HJ2.out; first | omega | exact Nat.le_refl _⟩, ⟨by (with_reducible repeat (first | refine blk_drewN ?_ _ | refine blk_drew ?_ | refine blk_alloc ?_ _)); exact BK101.out⟩, ⟨by repeat (first | (with_reducible first | exact HB.out | apply below_alloc | apply pw_below_drewN | apply below_drew1 | refine below_set ?_ GE101.out) | exact HB.out)⟩⟩
        · rw [if_neg c9] at H
          have c9b0 : (a0_1 == 2) = false := beq_eq_false_iff_ne.mpr c9
          have c9b1 : (a0_1 != 2) = true := bne_iff_ne.mpr c9
          (first | rw [c9b0] | (simp only [i64_w, i32_w]; rw [c9b0]) | skip)
          by_cases c11 : a0_1 = 3
          · rw [if_pos c11] at H
            have c11b0 : (a0_1 == 3) = true := beq_iff_eq.mpr c11
            have c11b1 : (a0_1 != 3) = false := bne_eq_false_iff_eq.mpr c11
            clear c11
            have H' := Aside0.mk H
            clear H
            have hcz12_0 : wc.cell? ⟨gb101, 0, none⟩ = some (.int .i64 a0_0) := (blk_cell BK101.out 0).trans rfl
            have hcz12_1 : wc.cell? ⟨gb101, 1, none⟩ = some (.int .i64 a0_1) := (blk_cell BK101.out 1).trans rfl
            have hfz12_0 := blk_frozen BK101.out 0
            have hfz12_1 := blk_frozen BK101.out 1
            go_wp2
            go_meet
            case rel => exact ⟨_, (true), (by first | rfl | (simp; done) | (simp [*]; done)), H', ⟨by have := HJ2.out; first | omega | exact Nat.le_refl _⟩, ⟨by (with_reducible repeat (first | refine blk_drewN ?_ _ | refine blk_drew ?_ | refine blk_alloc ?_ _)); exact BK101.out⟩, ⟨by repeat (first | (with_reducible first | exact HB.out | apply below_alloc | apply pw_below_drewN | apply below_drew1 | refine below_set ?_ GE101.out) | exact HB.out)⟩⟩
          · rw [if_neg c11] at H
            have c11b0 : (a0_1 == 3) = false := beq_eq_false_iff_ne.mpr c11
            have c11b1 : (a0_1 != 3) = true := bne_iff_ne.mpr c11
            have H' := Aside0.mk H
            clear H
            have hcz13_0 : wc.cell? ⟨gb101, 0, none⟩ = some (.int .i64 a0_0) := (blk_cell BK101.out 0).trans rfl
            have hcz13_1 : wc.cell? ⟨gb101, 1, none⟩ = some (.int .i64 a0_1) := (blk_cell BK101.out 1).trans rfl
            have hfz13_0 := blk_frozen BK101.out 0
            have hfz13_1 := blk_frozen BK101.out 1
            go_wp2
            go_meet
            case rel => exact ⟨_, ((a0_1 == 4)), (by first | rfl | (simp; done) | (simp [*]; done)), H', ⟨by have := HJ2.out; first | omega | exact Nat.le_refl _⟩, ⟨by (with_reducible repeat (first | refine blk_drewN ?_ _ | refine blk_drew ?_ | refine blk_alloc ?_ _)); exact BK101.out⟩, ⟨by repeat (first | (with_reducible first | exact HB.out | apply below_alloc | apply pw_below_drewN | apply below_drew1 | refine below_set ?_ GE101.out) | exact HB.out)⟩⟩
      case rest =>
        clear HC8
        try clear c1
        try clear c2
        try clear p2
        try clear c7
        try clear c7b0
        try clear c9
        try clear c9b0
        try clear c9b1
        try clear c11
        try clear c11b0
        try clear c11b1
        try clear hcz10_0
        try clear hcz10_1
        try clear hcz12_0
        try clear hcz12_1
        try clear hcz13_0
        try clear hcz13_1
        try clear hcz5_0
        try clear hcz5_1
        try clear hfz10_0
        try clear hfz10_1
        try clear hfz12_0
        try clear hfz12_1
        try clear hfz13_0
        try clear hfz13_1
        try clear hfz5_0
        try clear hfz5_1
        try clear p2
        obtain ⟨kq, x22_7, rfl, HA, HJ7, BK101, HB⟩ := hcut
        cases kq with
        | zero => exact absurd HA.out (by simp [dactylref06_Looks.j1])
        | succ kj7 =>
          have H := HA.out
          clear HA
          simp only [dactylref06_Looks.j1] at H
          by_cases c14 : x22_7 = true
          · subst c14
            have H1 : (if t102 = 3 then (some (wrap64 ((wrap64 (x3_2 + 2)) + 4))) else (some (wrap64 (x3_2 + 2)))) = some r := by rw [if_pos rfl] at H; exact H
            clear H
            have H := H1
            clear H1
            by_cases c15 : t102 = 3
            · rw [if_pos c15] at H
              have c15b0 : (t102 == 3) = true := beq_iff_eq.mpr c15
              have c15b1 : (t102 != 3) = false := bne_eq_false_iff_eq.mpr c15
              clear c15
              obtain rfl := Option.some.inj H
              go_wp2
              go_ret
              exact ⟨by first | rfl | (simp [errW_none, errW_some] <;> rfl) | (simp [*, errW_none, errW_some] <;> rfl), by repeat (first | (with_reducible first | exact HB.out | apply below_alloc | apply pw_below_drewN | apply below_drew1 | refine below_set ?_ GE101.out) | exact HB.out)⟩
            · rw [if_neg c15] at H
              have c15b0 : (t102 == 3) = false := beq_eq_false_iff_ne.mpr c15
              have c15b1 : (t102 != 3) = true := bne_iff_ne.mpr c15
              obtain rfl := Option.some.inj H
              go_wp2
              go_ret
              exact ⟨by first | rfl | (simp [errW_none, errW_some] <;> rfl) | (simp [*, errW_none, errW_some] <;> rfl), by repeat (first | (with_reducible first | exact HB.out | apply below_alloc | apply pw_below_drewN | apply below_drew1 | refine below_set ?_ GE101.out) | exact HB.out)⟩
          · replace c14 := Bool.eq_false_iff.mpr c14
            subst c14
            have H1 : (if t102 = 3 then (some (wrap64 (x3_2 + 4))) else (some x3_2)) = some r := by rw [if_neg (show ¬ (false = true) by decide)] at H; exact H
            clear H
            have H := H1
            clear H1
            by_cases c16 : t102 = 3
            · rw [if_pos c16] at H
              have c16b0 : (t102 == 3) = true := beq_iff_eq.mpr c16
              have c16b1 : (t102 != 3) = false := bne_eq_false_iff_eq.mpr c16
              clear c16
              obtain rfl := Option.some.inj H
              go_wp2
              go_ret
              exact ⟨by first | rfl | (simp [errW_none, errW_some] <;> rfl) | (simp [*, errW_none, errW_some] <;> rfl), by repeat (first | (with_reducible first | exact HB.out | apply below_alloc | apply pw_below_drewN | apply below_drew1 | refine below_set ?_ GE101.out) | exact HB.out)⟩
            · rw [if_neg c16] at H
              have c16b0 : (t102 == 3) = false := beq_eq_false_iff_ne.mpr c16
              have c16b1 : (t102 != 3) = true := bne_iff_ne.mpr c16
              obtain rfl := Option.some.inj H
              go_wp2
              go_ret
              exact ⟨by first | rfl | (simp [errW_none, errW_some] <;> rfl) | (simp [*, errW_none, errW_some] <;> rfl), by repeat (first | (with_reducible first | exact HB.out | apply below_alloc | apply pw_below_drewN | apply below_drew1 | refine below_set ?_ GE101.out) | exact HB.out)⟩

end Go.Proofs.Ytemoocoedibbpaa.X
