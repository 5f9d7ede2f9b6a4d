/- Written by a program of this session (wip/tools/hp.py, pack.py) and by this session: what the law KeyParses reaches, function by function: a Lean function with the same answers, and the proof that the machine's call gives them. No condition but the ones the theorems state. -/
import Derived.Test.YtemoocoedibbpaaQKeyParses2
namespace Go.Proofs.Ytemoocoedibbpaa.X
open Go.RowKit Go.Proofs.YtemoocoedibbpaaW.PrintWords Go.Proofs.YtemoocoedibbpaaW.PrintLast Go.Proofs.YtemoocoedibbpaaW.PrintMore
attribute [local go_sem] max2_int min2_int max_two min_two max_three min_three max_four min_four
set_option linter.unusedVariables false
set_option linter.unusedSimpArgs false

/-! ### dactylref13_Name: function 58 -/
mutual
def dactylref13_Name.j0 : Nat → Bool → Int → Int → ByteArray → Bool → Option (ByteArray)
  | 0, _, _, _, _, _ => none
  | k + 1, x26, x102000, x102001, x102002, x102003 => if x26 = true then (some (⟨#[82, 69, 84]⟩ : ByteArray)) else (if x102000 = 14 then (dactylref13_Name.j1 k (x102001 == 1) x102000 x102001 x102002 x102003) else (dactylref13_Name.j1 k false x102000 x102001 x102002 x102003))
def dactylref13_Name.j1 : Nat → Bool → Int → Int → ByteArray → Bool → Option (ByteArray)
  | 0, _, _, _, _, _ => none
  | k + 1, x34, x102000, x102001, x102002, x102003 => if x34 = true then (some (⟨#[80, 71, 68, 78]⟩ : ByteArray)) else (if x102000 = 15 then (dactylref13_Name.l0 k (⟨#[80, 45]⟩ : ByteArray) 0 x102000 x102001 x102002 x102003) else ((some (([(⟨#[]⟩ : ByteArray), (⟨#[]⟩ : ByteArray), (⟨#[]⟩ : ByteArray), (⟨#[]⟩ : ByteArray), (⟨#[76, 70, 68]⟩ : ByteArray), (⟨#[69, 83, 67]⟩ : ByteArray), (⟨#[68, 69, 76]⟩ : ByteArray), (⟨#[85, 80]⟩ : ByteArray), (⟨#[68, 79, 87, 78]⟩ : ByteArray), (⟨#[82, 73, 71, 72, 84]⟩ : ByteArray), (⟨#[76, 69, 70, 84]⟩ : ByteArray), (⟨#[72, 79, 77, 69]⟩ : ByteArray), (⟨#[69, 78, 68]⟩ : ByteArray), (⟨#[68, 69, 76, 69, 84, 69]⟩ : ByteArray), (⟨#[80, 71, 85, 80]⟩ : ByteArray)] : List ByteArray) : List ByteArray)).bind fun y104 => (if 0 ≤ x102000 then (if x102000 < (y104.length : Int) then (some (rdOf ByteArray.empty y104 x102000)) else (none)) else (none))))
def dactylref13_Name.l0 : Nat → ByteArray → Int → Int → Int → ByteArray → Bool → Option (ByteArray)
  | 0, _, _, _, _, _, _ => none
  | k + 1, x4, x5, x102000, x102001, x102002, x102003 => if x5 < (x102002.size : Int) then (if 0 ≤ x5 then ((dactylref01_Hex.f k (wrap64 (bt x102002 x5)) 2).bind fun t108 => (if x4.size + t108.size ≤ 9223372036854775807 then (dactylref13_Name.l0 k (x4 ++ t108) (wrap64 (x5 + 1)) x102000 x102001 x102002 x102003) else (none))) else (none)) else (if x102003 = true then (if x4.size + 1 ≤ 9223372036854775807 then (some (x4 ++ (⟨#[33]⟩ : ByteArray))) else (none)) else (some x4))
end
def dactylref13_Name.f (k : Nat) (a0_0 : Int) (a0_1 : Int) (a0_2 : ByteArray) (a0_3 : Bool) : Option (ByteArray) := if a0_0 ≤ 2 then ((dactylref13_sign.f k a0_1).bind fun t102 => (some t102)) else (if a0_0 = 3 then ((dactylref13_sign.f k a0_1).bind fun t103 => (if 2 + t103.size ≤ 9223372036854775807 then (some ((⟨#[77, 45]⟩ : ByteArray) ++ t103)) else (none))) else (if a0_0 = 4 then (dactylref13_Name.j0 k (a0_1 == 13) a0_0 a0_1 a0_2 a0_3) else (dactylref13_Name.j0 k false a0_0 a0_1 a0_2 a0_3)))
theorem dactylref13_Name.mono_l : ∀ k, (∀ y0 y1 y2 y3 y4, LeO (dactylref13_Name.j0 k y0 y1 y2 y3 y4) (dactylref13_Name.j0 (k + 1) y0 y1 y2 y3 y4)) ∧ (∀ y0 y1 y2 y3 y4, LeO (dactylref13_Name.j1 k y0 y1 y2 y3 y4) (dactylref13_Name.j1 (k + 1) y0 y1 y2 y3 y4)) ∧ (∀ y0 y1 y2 y3 y4 y5, LeO (dactylref13_Name.l0 k y0 y1 y2 y3 y4 y5) (dactylref13_Name.l0 (k + 1) y0 y1 y2 y3 y4 y5))
  | 0 => ⟨fun _ _ _ _ _ r h => by simp [dactylref13_Name.j0] at h, fun _ _ _ _ _ r h => by simp [dactylref13_Name.j1] at h, fun _ _ _ _ _ _ r h => by simp [dactylref13_Name.l0] at h⟩
  | k + 1 => by
    obtain ⟨ih0, ih1, ih2⟩ := dactylref13_Name.mono_l k
    refine ⟨?_, ?_, ?_⟩
    · intro y0 y1 y2 y3 y4
      unfold dactylref13_Name.j0
      repeat' first
      | (with_reducible exact ih0 _ _ _ _ _)
      | (with_reducible exact ih1 _ _ _ _ _)
      | (with_reducible exact ih2 _ _ _ _ _ _)
      | (with_reducible exact dactylref01_Hex.mono _ _ _)
      | (with_reducible exact dactylref13_sign.mono _ _)
      | (with_reducible exact LeO.refl _)
      | (with_reducible exact LeO.none _)
      | (with_reducible refine LeO.ite ?_ ?_)
      | (with_reducible refine LeO.bind ?_ (fun _ => ?_))
      | exact ih0 _ _ _ _ _
      | exact ih1 _ _ _ _ _
      | exact ih2 _ _ _ _ _ _
      | exact dactylref01_Hex.mono _ _ _
      | exact dactylref13_sign.mono _ _
      | exact LeO.none _
      | refine LeO.ite ?_ ?_
      | refine LeO.bind ?_ (fun _ => ?_)
    · intro y0 y1 y2 y3 y4
      unfold dactylref13_Name.j1
      repeat' first
      | (with_reducible exact ih0 _ _ _ _ _)
      | (with_reducible exact ih1 _ _ _ _ _)
      | (with_reducible exact ih2 _ _ _ _ _ _)
      | (with_reducible exact dactylref01_Hex.mono _ _ _)
      | (with_reducible exact dactylref13_sign.mono _ _)
      | (with_reducible exact LeO.refl _)
      | (with_reducible exact LeO.none _)
      | (with_reducible refine LeO.ite ?_ ?_)
      | (with_reducible refine LeO.bind ?_ (fun _ => ?_))
      | exact ih0 _ _ _ _ _
      | exact ih1 _ _ _ _ _
      | exact ih2 _ _ _ _ _ _
      | exact dactylref01_Hex.mono _ _ _
      | exact dactylref13_sign.mono _ _
      | exact LeO.none _
      | refine LeO.ite ?_ ?_
      | refine LeO.bind ?_ (fun _ => ?_)
    · intro y0 y1 y2 y3 y4 y5
      unfold dactylref13_Name.l0
      repeat' first
      | (with_reducible exact ih0 _ _ _ _ _)
      | (with_reducible exact ih1 _ _ _ _ _)
      | (with_reducible exact ih2 _ _ _ _ _ _)
      | (with_reducible exact dactylref01_Hex.mono _ _ _)
      | (with_reducible exact dactylref13_sign.mono _ _)
      | (with_reducible exact LeO.refl _)
      | (with_reducible exact LeO.none _)
      | (with_reducible refine LeO.ite ?_ ?_)
      | (with_reducible refine LeO.bind ?_ (fun _ => ?_))
      | exact ih0 _ _ _ _ _
      | exact ih1 _ _ _ _ _
      | exact ih2 _ _ _ _ _ _
      | exact dactylref01_Hex.mono _ _ _
      | exact dactylref13_sign.mono _ _
      | exact LeO.none _
      | refine LeO.ite ?_ ?_
      | refine LeO.bind ?_ (fun _ => ?_)
theorem dactylref13_Name.mono : ∀ a0 a1 a2 a3 k, LeO (dactylref13_Name.f k a0 a1 a2 a3) (dactylref13_Name.f (k + 1) a0 a1 a2 a3) := by
  intro a0 a1 a2 a3 k
  obtain ⟨ih0, ih1, ih2⟩ := dactylref13_Name.mono_l k
  unfold dactylref13_Name.f
  repeat' first
      | (with_reducible exact ih0 _ _ _ _ _)
      | (with_reducible exact ih1 _ _ _ _ _)
      | (with_reducible exact ih2 _ _ _ _ _ _)
      | (with_reducible exact dactylref01_Hex.mono _ _ _)
      | (with_reducible exact dactylref13_sign.mono _ _)
      | (with_reducible exact LeO.refl _)
      | (with_reducible exact LeO.none _)
      | (with_reducible refine LeO.ite ?_ ?_)
      | (with_reducible refine LeO.bind ?_ (fun _ => ?_))
      | exact ih0 _ _ _ _ _
      | exact ih1 _ _ _ _ _
      | exact ih2 _ _ _ _ _ _
      | exact dactylref01_Hex.mono _ _ _
      | exact dactylref13_sign.mono _ _
      | exact LeO.none _
      | refine LeO.ite ?_ ?_
      | refine LeO.bind ?_ (fun _ => ?_)
set_option maxHeartbeats 8000000 in
set_option maxRecDepth 100000 in
theorem dactylref13_Name.calls (k : Nat) (a0_0 : Int) (a0_1 : Int) (a0_2 : ByteArray) (a0_3 : Bool) (r : ByteArray) (w : World) (h : dactylref13_Name.f k a0_0 a0_1 a0_2 a0_3 = some r) :
    Calls Try.prog 58 #[.agg #[.int .i64 a0_0, .int .i64 a0_1, .string a0_2, .bool a0_3]] w fun e w' => e = .returned (.string r) ∧ Below w.heap.size w w' := by
  have hu71 := Try.underlying71
  have HB := Aside0.mk (Below.refl w.heap.size w)
  have H : (if a0_0 ≤ 2 then ((dactylref13_sign.f k a0_1).bind fun t102 => (some t102)) else (if a0_0 = 3 then ((dactylref13_sign.f k a0_1).bind fun t103 => (if 2 + t103.size ≤ 9223372036854775807 then (some ((⟨#[77, 45]⟩ : ByteArray) ++ t103)) else (none))) else (if a0_0 = 4 then (dactylref13_Name.j0 k (a0_1 == 13) a0_0 a0_1 a0_2 a0_3) else (dactylref13_Name.j0 k false a0_0 a0_1 a0_2 a0_3)))) = some r := h
  clear h
  by_cases c2 : a0_0 ≤ 2
  · rw [if_pos c2] at H
    have c2b0 : decide (a0_0 ≤ 2) = true := decide_eq_true c2
    clear c2
    replace H := Option.bind_eq_some_iff.mp H
    obtain ⟨t102, A30, H⟩ := H
    replace H : (some t102) = some r := H
    have A3 := Aside0.mk A30
    clear A30
    obtain rfl := Option.some.inj H
    go_enter Try.func58, Try.ntmps58
    go_wp2_with (first | ((with_reducible refine gate_dst (N := 1) rfl ?_); refine box_event ?hg (N := 1) ?hd (cs := #[.int .i64 a0_0, .int .i64 a0_1, .string a0_2, .bool a0_3]) (t := 71) ?hr ?_; (case hd => rfl); (case hg => rfl); (case hr => first | (go_simp; done) | (go_simp; rfl)); intro gb101 hg w4 hbox hb; have n0_ := Aside0.mk (below_step (by repeat (first | (with_reducible first | exact HB.out | apply below_alloc | apply pw_below_drewN | apply below_drew1) | exact HB.out)) hb); have n1_ := Aside0.mk (hbox); have n2_ := Aside0.mk ((by rw [hg]; exact (below_size (by repeat (first | (with_reducible first | exact HB.out | apply below_alloc | apply pw_below_drewN | apply below_drew1) | exact HB.out))) : w.heap.size ≤ gb101)); have n3_ := Aside0.mk ((by rw [hg]; exact (below_size (by repeat (first | (with_reducible first | exact HB.out | apply below_alloc | apply pw_below_drewN | apply below_drew1) | exact HB.out))) : w.heap.size ≤ gb101)); clear HB; have HB := n0_; have BK101 := n1_; have GW101 := n2_; have GE101 := n3_; clear n0_ n1_ n2_ n3_; clear hb hbox hg; have hcz5_0 : w4.cell? ⟨gb101, 0, none⟩ = some (.int .i64 a0_0) := (blk_cell BK101.out 0).trans rfl; have hcz5_1 : w4.cell? ⟨gb101, 1, none⟩ = some (.int .i64 a0_1) := (blk_cell BK101.out 1).trans rfl; have hcz5_2 : w4.cell? ⟨gb101, 2, none⟩ = some (.string a0_2) := (blk_cell BK101.out 2).trans rfl; have hcz5_3 : w4.cell? ⟨gb101, 3, none⟩ = some (.bool a0_3) := (blk_cell BK101.out 3).trans rfl; have hfz5_0 := blk_frozen BK101.out 0; have hfz5_1 := blk_frozen BK101.out 1; have hfz5_2 := blk_frozen BK101.out 2; have hfz5_3 := blk_frozen BK101.out 3) | ((with_reducible refine gate_callee (f := 102) rfl ?_); refine goesL_ (some 11) rfl rfl Try.func102 (by kernel_rfl) rfl #[.int .i64 a0_1] rfl (by (try simp only [List.map_toArray, List.map_cons, List.map_nil]); first | done | rfl | (simp only [List.length_drop, List.length_take]; rfl)) ?_; (with_reducible refine (dactylref13_sign.calls k a0_1 t102 _ A3.out).mono ?_); rintro e w6 ⟨rfl, hb⟩; refine ⟨_, rfl, ?_⟩; have n0_ := Aside0.mk (blk_below (g := gb101) (o := .cells #[.int .i64 a0_0, .int .i64 a0_1, .string a0_2, .bool a0_3] 71 (0, 0)) (by (with_reducible repeat (first | refine blk_drewN ?_ _ | refine blk_drew ?_ | refine blk_alloc ?_ _)); exact BK101.out) hb); have n1_ := Aside0.mk (below_step (by repeat (first | (with_reducible first | exact HB.out | apply below_alloc | apply pw_below_drewN | apply below_drew1 | refine below_set ?_ GE101.out) | exact HB.out)) hb); clear BK101; clear HB; have BK101 := n0_; have HB := n1_; clear n0_ n1_; (try clear hb); (try clear hb2); (try clear hk); (try clear hi)))
    go_ret
    exact ⟨by first | rfl | (simp [errW_none, errW_some] <;> rfl) | (simp [*, errW_none, errW_some] <;> rfl), by repeat (first | (with_reducible first | exact HB.out | apply below_alloc | apply pw_below_drewN | apply below_drew1 | refine below_set ?_ GE101.out) | exact HB.out)⟩
  · rw [if_neg c2] at H
    have c2b0 : decide (a0_0 ≤ 2) = false := decide_eq_false c2
    clear c2
    by_cases c7 : a0_0 = 3
    · rw [if_pos c7] at H
      have c7b0 : (a0_0 == 3) = true := beq_iff_eq.mpr c7
      have c7b1 : (a0_0 != 3) = false := bne_eq_false_iff_eq.mpr c7
      clear c7
      replace H := Option.bind_eq_some_iff.mp H
      obtain ⟨t103, A80, H⟩ := H
      replace H : (if 2 + t103.size ≤ 9223372036854775807 then (some ((⟨#[77, 45]⟩ : ByteArray) ++ t103)) else (none)) = some r := H
      have A8 := Aside0.mk A80
      clear A80
      by_cases c9 : 2 + t103.size ≤ 9223372036854775807
      · rw [if_pos c9] at H
        have c9b0 := eq_true c9
        have c9b1 : decide (2 + t103.size ≤ 9223372036854775807) = true := decide_eq_true c9
        try have c9b2 : (9223372036854775807 < 2 + t103.size) = False := eq_false (Nat.not_lt.2 c9)
        obtain rfl := Option.some.inj H
        go_enter Try.func58, Try.ntmps58
        go_wp2_with (first | ((with_reducible refine gate_dst (N := 1) rfl ?_); refine box_event ?hg (N := 1) ?hd (cs := #[.int .i64 a0_0, .int .i64 a0_1, .string a0_2, .bool a0_3]) (t := 71) ?hr ?_; (case hd => rfl); (case hg => rfl); (case hr => first | (go_simp; done) | (go_simp; rfl)); intro gb101 hg w10 hbox hb; have n0_ := Aside0.mk (below_step (by repeat (first | (with_reducible first | exact HB.out | apply below_alloc | apply pw_below_drewN | apply below_drew1) | exact HB.out)) hb); have n1_ := Aside0.mk (hbox); have n2_ := Aside0.mk ((by rw [hg]; exact (below_size (by repeat (first | (with_reducible first | exact HB.out | apply below_alloc | apply pw_below_drewN | apply below_drew1) | exact HB.out))) : w.heap.size ≤ gb101)); have n3_ := Aside0.mk ((by rw [hg]; exact (below_size (by repeat (first | (with_reducible first | exact HB.out | apply below_alloc | apply pw_below_drewN | apply below_drew1) | exact HB.out))) : w.heap.size ≤ gb101)); clear HB; have HB := n0_; have BK101 := n1_; have GW101 := n2_; have GE101 := n3_; clear n0_ n1_ n2_ n3_; clear hb hbox hg; have hcz11_0 : w10.cell? ⟨gb101, 0, none⟩ = some (.int .i64 a0_0) := (blk_cell BK101.out 0).trans rfl; have hcz11_1 : w10.cell? ⟨gb101, 1, none⟩ = some (.int .i64 a0_1) := (blk_cell BK101.out 1).trans rfl; have hcz11_2 : w10.cell? ⟨gb101, 2, none⟩ = some (.string a0_2) := (blk_cell BK101.out 2).trans rfl; have hcz11_3 : w10.cell? ⟨gb101, 3, none⟩ = some (.bool a0_3) := (blk_cell BK101.out 3).trans rfl; have hfz11_0 := blk_frozen BK101.out 0; have hfz11_1 := blk_frozen BK101.out 1; have hfz11_2 := blk_frozen BK101.out 2; have hfz11_3 := blk_frozen BK101.out 3) | ((with_reducible refine gate_callee (f := 102) rfl ?_); refine goesL_ (some 17) rfl rfl Try.func102 (by kernel_rfl) rfl #[.int .i64 a0_1] rfl (by (try simp only [List.map_toArray, List.map_cons, List.map_nil]); first | done | rfl | (simp only [List.length_drop, List.length_take]; rfl)) ?_; (with_reducible refine (dactylref13_sign.calls k a0_1 t103 _ A8.out).mono ?_); rintro e w12 ⟨rfl, hb⟩; refine ⟨_, rfl, ?_⟩; have n0_ := Aside0.mk (blk_below (g := gb101) (o := .cells #[.int .i64 a0_0, .int .i64 a0_1, .string a0_2, .bool a0_3] 71 (0, 0)) (by (with_reducible repeat (first | refine blk_drewN ?_ _ | refine blk_drew ?_ | refine blk_alloc ?_ _)); exact BK101.out) hb); have n1_ := Aside0.mk (below_step (by repeat (first | (with_reducible first | exact HB.out | apply below_alloc | apply pw_below_drewN | apply below_drew1 | refine below_set ?_ GE101.out) | exact HB.out)) hb); clear BK101; clear HB; have BK101 := n0_; have HB := n1_; clear n0_ n1_; (try clear hb); (try clear hb2); (try clear hk); (try clear hi)))
        go_ret
        exact ⟨by first | rfl | (simp [errW_none, errW_some] <;> rfl) | (simp [*, errW_none, errW_some] <;> rfl), by repeat (first | (with_reducible first | exact HB.out | apply below_alloc | apply pw_below_drewN | apply below_drew1 | refine below_set ?_ GE101.out) | exact HB.out)⟩
      · rw [if_neg c9] at H
        exact absurd H (by simp)
    · rw [if_neg c7] at H
      have c7b0 : (a0_0 == 3) = false := beq_eq_false_iff_ne.mpr c7
      have c7b1 : (a0_0 != 3) = true := bne_iff_ne.mpr c7
      have HC13 := Aside0.mk H
      clear H
      go_enter Try.func58, Try.ntmps58
      go_upto_region 5 with (first | ((with_reducible refine gate_dst (N := 1) rfl ?_); refine box_event ?hg (N := 1) ?hd (cs := #[.int .i64 a0_0, .int .i64 a0_1, .string a0_2, .bool a0_3]) (t := 71) ?hr ?_; (case hd => rfl); (case hg => rfl); (case hr => first | (go_simp; done) | (go_simp; rfl)); intro gb101 hg w14 hbox hb; have n0_ := Aside0.mk (below_step (by repeat (first | (with_reducible first | exact HB.out | apply below_alloc | apply pw_below_drewN | apply below_drew1) | exact HB.out)) hb); have n1_ := Aside0.mk (hbox); have n2_ := Aside0.mk ((by rw [hg]; exact (below_size (by repeat (first | (with_reducible first | exact HB.out | apply below_alloc | apply pw_below_drewN | apply below_drew1) | exact HB.out))) : w.heap.size ≤ gb101)); have n3_ := Aside0.mk ((by rw [hg]; exact (below_size (by repeat (first | (with_reducible first | exact HB.out | apply below_alloc | apply pw_below_drewN | apply below_drew1) | exact HB.out))) : w.heap.size ≤ gb101)); clear HB; have HB := n0_; have BK101 := n1_; have GW101 := n2_; have GE101 := n3_; clear n0_ n1_ n2_ n3_; clear hb hbox hg; have hcz15_0 : w14.cell? ⟨gb101, 0, none⟩ = some (.int .i64 a0_0) := (blk_cell BK101.out 0).trans rfl; have hcz15_1 : w14.cell? ⟨gb101, 1, none⟩ = some (.int .i64 a0_1) := (blk_cell BK101.out 1).trans rfl; have hcz15_2 : w14.cell? ⟨gb101, 2, none⟩ = some (.string a0_2) := (blk_cell BK101.out 2).trans rfl; have hcz15_3 : w14.cell? ⟨gb101, 3, none⟩ = some (.bool a0_3) := (blk_cell BK101.out 3).trans rfl; have hfz15_0 := blk_frozen BK101.out 0; have hfz15_1 := blk_frozen BK101.out 1; have hfz15_2 := blk_frozen BK101.out 2; have hfz15_3 := blk_frozen BK101.out 3))
      (try simp only [Act.put, List.setIfInBounds_toArray, List.set_cons_zero, List.set_cons_succ])
      go_cut [26] (fun v26 wc => ∃ (kq : Nat) (x26_12 : Bool), v26 = .bool x26_12 ∧ Aside0 (dactylref13_Name.j0 kq x26_12 a0_0 a0_1 a0_2 a0_3 = some r) ∧ Aside0 (kq ≤ k) ∧ Aside0 (wc.heap[gb101]? = some (.cells #[.int .i64 a0_0, .int .i64 a0_1, .string a0_2, .bool a0_3] 71 (0, 0))) ∧ Aside0 (Below w.heap.size w wc))
      case first =>
        have H := HC13.out
        clear HC13
        by_cases c16 : a0_0 = 4
        · rw [if_pos c16] at H
          have c16b0 : (a0_0 == 4) = true := beq_iff_eq.mpr c16
          have c16b1 : (a0_0 != 4) = false := bne_eq_false_iff_eq.mpr c16
          clear c16
          (first | rw [c16b0] | (simp only [i64_w, i32_w]; rw [c16b0]) | skip)
          have H' := Aside0.mk H
          clear H
          have hcz17_0 : w14.cell? ⟨gb101, 0, none⟩ = some (.int .i64 a0_0) := (blk_cell BK101.out 0).trans rfl
          have hcz17_1 : w14.cell? ⟨gb101, 1, none⟩ = some (.int .i64 a0_1) := (blk_cell BK101.out 1).trans rfl
          have hcz17_2 : w14.cell? ⟨gb101, 2, none⟩ = some (.string a0_2) := (blk_cell BK101.out 2).trans rfl
          have hcz17_3 : w14.cell? ⟨gb101, 3, none⟩ = some (.bool a0_3) := (blk_cell BK101.out 3).trans rfl
          have hfz17_0 := blk_frozen BK101.out 0
          have hfz17_1 := blk_frozen BK101.out 1
          have hfz17_2 := blk_frozen BK101.out 2
          have hfz17_3 := blk_frozen BK101.out 3
          go_wp2
          go_meet
          case rel => exact ⟨_, ((a0_1 == 13)), (by first | rfl | (simp; done) | (simp [*]; done)), H', ⟨by first | omega | exact Nat.le_refl _⟩, ⟨by (with_reducible repeat (first | refine blk_drewN ?_ _ | refine blk_drew ?_ | refine blk_alloc ?_ _)); exact BK101.out⟩, ⟨by repeat (first | (with_reducible first | exact HB.out | apply below_alloc | apply pw_below_drewN | apply below_drew1 | refine below_set ?_ GE101.out) | exact HB.out)⟩⟩
        · rw [if_neg c16] at H
          have c16b0 : (a0_0 == 4) = false := beq_eq_false_iff_ne.mpr c16
          have c16b1 : (a0_0 != 4) = true := bne_iff_ne.mpr c16
          (first | rw [c16b0] | (simp only [i64_w, i32_w]; rw [c16b0]) | skip)
          have H' := Aside0.mk H
          clear H
          have hcz18_0 : w14.cell? ⟨gb101, 0, none⟩ = some (.int .i64 a0_0) := (blk_cell BK101.out 0).trans rfl
          have hcz18_1 : w14.cell? ⟨gb101, 1, none⟩ = some (.int .i64 a0_1) := (blk_cell BK101.out 1).trans rfl
          have hcz18_2 : w14.cell? ⟨gb101, 2, none⟩ = some (.string a0_2) := (blk_cell BK101.out 2).trans rfl
          have hcz18_3 : w14.cell? ⟨gb101, 3, none⟩ = some (.bool a0_3) := (blk_cell BK101.out 3).trans rfl
          have hfz18_0 := blk_frozen BK101.out 0
          have hfz18_1 := blk_frozen BK101.out 1
          have hfz18_2 := blk_frozen BK101.out 2
          have hfz18_3 := blk_frozen BK101.out 3
          go_wp2
          go_meet
          case rel => exact ⟨_, (false), (by first | rfl | (simp; done) | (simp [*]; done)), H', ⟨by first | omega | exact Nat.le_refl _⟩, ⟨by (with_reducible repeat (first | refine blk_drewN ?_ _ | refine blk_drew ?_ | refine blk_alloc ?_ _)); exact BK101.out⟩, ⟨by repeat (first | (with_reducible first | exact HB.out | apply below_alloc | apply pw_below_drewN | apply below_drew1 | refine below_set ?_ GE101.out) | exact HB.out)⟩⟩
      case rest =>
        clear HC13
        try clear c1
        try clear c2
        try clear c2b0
        try clear p2
        try clear c5
        try clear c7
        try clear c7b0
        try clear c7b1
        try clear c9
        try clear c9b0
        try clear c9b1
        try clear c9b2
        try clear c10
        try clear c16
        try clear c16b0
        try clear c16b1
        try clear hcz11_0
        try clear hcz11_1
        try clear hcz11_2
        try clear hcz11_3
        try clear hcz15_0
        try clear hcz15_1
        try clear hcz15_2
        try clear hcz15_3
        try clear hcz17_0
        try clear hcz17_1
        try clear hcz17_2
        try clear hcz17_3
        try clear hcz18_0
        try clear hcz18_1
        try clear hcz18_2
        try clear hcz18_3
        try clear hcz5_0
        try clear hcz5_1
        try clear hcz5_2
        try clear hcz5_3
        try clear hfz11_0
        try clear hfz11_1
        try clear hfz11_2
        try clear hfz11_3
        try clear hfz15_0
        try clear hfz15_1
        try clear hfz15_2
        try clear hfz15_3
        try clear hfz17_0
        try clear hfz17_1
        try clear hfz17_2
        try clear hfz17_3
        try clear hfz18_0
        try clear hfz18_1
        try clear hfz18_2
        try clear hfz18_3
        try clear hfz5_0
        try clear hfz5_1
        try clear hfz5_2
        try clear hfz5_3
        obtain ⟨kq, x26_12, rfl, HA, HJ12, BK101, HB⟩ := hcut
        cases kq with
        | zero => exact absurd HA.out (by simp [dactylref13_Name.j0])
        | succ kj12 =>
          have H := HA.out
          clear HA
          simp only [dactylref13_Name.j0] at H
          by_cases c19 : x26_12 = true
          · subst c19
            have H1 : (some (⟨#[82, 69, 84]⟩ : ByteArray)) = some r := by rw [if_pos rfl] at H; exact H
            clear H
            have H := H1
            clear H1
            obtain rfl := Option.some.inj H
            go_wp2
            go_ret
            exact ⟨by first | rfl | (simp [errW_none, errW_some] <;> rfl) | (simp [*, errW_none, errW_some] <;> rfl), by repeat (first | (with_reducible first | exact HB.out | apply below_alloc | apply pw_below_drewN | apply below_drew1 | refine below_set ?_ GE101.out) | exact HB.out)⟩
          · replace c19 := Bool.eq_false_iff.mpr c19
            subst c19
            have H1 : (if a0_0 = 14 then (dactylref13_Name.j1 kj12 (a0_1 == 1) a0_0 a0_1 a0_2 a0_3) else (dactylref13_Name.j1 kj12 false a0_0 a0_1 a0_2 a0_3)) = some r := by rw [if_neg (show ¬ (false = true) by decide)] at H; exact H
            clear H
            have H := H1
            clear H1
            have HC20 := Aside0.mk H
            clear H
            go_upto_region 7 with (fail)
            go_cut [34] (fun v34 wc => ∃ (kq : Nat) (x34_19 : Bool), v34 = .bool x34_19 ∧ Aside0 (dactylref13_Name.j1 kq x34_19 a0_0 a0_1 a0_2 a0_3 = some r) ∧ Aside0 (kq ≤ kj12) ∧ Aside0 (wc.heap[gb101]? = some (.cells #[.int .i64 a0_0, .int .i64 a0_1, .string a0_2, .bool a0_3] 71 (0, 0))) ∧ Aside0 (Below w.heap.size w wc))
            case first =>
              have H := HC20.out
              clear HC20
              by_cases c21 : a0_0 = 14
              · rw [if_pos c21] at H
                have c21b0 : (a0_0 == 14) = true := beq_iff_eq.mpr c21
                have c21b1 : (a0_0 != 14) = false := bne_eq_false_iff_eq.mpr c21
                clear c21
                (first | rw [c21b0] | (simp only [i64_w, i32_w]; rw [c21b0]) | skip)
                have H' := Aside0.mk H
                clear H
                have hcz22_0 : wc.cell? ⟨gb101, 0, none⟩ = some (.int .i64 a0_0) := (blk_cell BK101.out 0).trans rfl
                have hcz22_1 : wc.cell? ⟨gb101, 1, none⟩ = some (.int .i64 a0_1) := (blk_cell BK101.out 1).trans rfl
                have hcz22_2 : wc.cell? ⟨gb101, 2, none⟩ = some (.string a0_2) := (blk_cell BK101.out 2).trans rfl
                have hcz22_3 : wc.cell? ⟨gb101, 3, none⟩ = some (.bool a0_3) := (blk_cell BK101.out 3).trans rfl
                have hfz22_0 := blk_frozen BK101.out 0
                have hfz22_1 := blk_frozen BK101.out 1
                have hfz22_2 := blk_frozen BK101.out 2
                have hfz22_3 := blk_frozen BK101.out 3
                go_wp2
                go_meet
                case rel => exact ⟨_, ((a0_1 == 1)), (by first | rfl | (simp; done) | (simp [*]; done)), H', ⟨by have := HJ12.out; first | omega | exact Nat.le_refl _⟩, ⟨by (with_reducible repeat (first | refine blk_drewN ?_ _ | refine blk_drew ?_ | refine blk_alloc ?_ _)); exact BK101.out⟩, ⟨by repeat (first | (with_reducible first | exact HB.out | apply below_alloc | apply pw_below_drewN | apply below_drew1 | refine below_set ?_ GE101.out) | exact HB.out)⟩⟩
              · rw [if_neg c21] at H
                have c21b0 : (a0_0 == 14) = false := beq_eq_false_iff_ne.mpr c21
                have c21b1 : (a0_0 != 14) = true := bne_iff_ne.mpr c21
                (first | rw [c21b0] | (simp only [i64_w, i32_w]; rw [c21b0]) | skip)
                have H' := Aside0.mk H
                clear H
                have hcz23_0 : wc.cell? ⟨gb101, 0, none⟩ = some (.int .i64 a0_0) := (blk_cell BK101.out 0).trans rfl
                have hcz23_1 : wc.cell? ⟨gb101, 1, none⟩ = some (.int .i64 a0_1) := (blk_cell BK101.out 1).trans rfl
                have hcz23_2 : wc.cell? ⟨gb101, 2, none⟩ = some (.string a0_2) := (blk_cell BK101.out 2).trans rfl
                have hcz23_3 : wc.cell? ⟨gb101, 3, none⟩ = some (.bool a0_3) := (blk_cell BK101.out 3).trans rfl
                have hfz23_0 := blk_frozen BK101.out 0
                have hfz23_1 := blk_frozen BK101.out 1
                have hfz23_2 := blk_frozen BK101.out 2
                have hfz23_3 := blk_frozen BK101.out 3
                go_wp2
                go_meet
                case rel => exact ⟨_, (false), (by first | rfl | (simp; done) | (simp [*]; done)), H', ⟨by have := HJ12.out; first | omega | exact Nat.le_refl _⟩, ⟨by (with_reducible repeat (first | refine blk_drewN ?_ _ | refine blk_drew ?_ | refine blk_alloc ?_ _)); exact BK101.out⟩, ⟨by repeat (first | (with_reducible first | exact HB.out | apply below_alloc | apply pw_below_drewN | apply below_drew1 | refine below_set ?_ GE101.out) | exact HB.out)⟩⟩
            case rest =>
              clear HC20
              try clear c1
              try clear c2
              try clear c2b0
              try clear p2
              try clear c5
              try clear c7
              try clear c7b0
              try clear c7b1
              try clear c9
              try clear c9b0
              try clear c9b1
              try clear c9b2
              try clear c10
              try clear c16
              try clear c16b0
              try clear c16b1
              try clear c19
              try clear c21
              try clear c21b0
              try clear c21b1
              try clear hcz11_0
              try clear hcz11_1
              try clear hcz11_2
              try clear hcz11_3
              try clear hcz15_0
              try clear hcz15_1
              try clear hcz15_2
              try clear hcz15_3
              try clear hcz17_0
              try clear hcz17_1
              try clear hcz17_2
              try clear hcz17_3
              try clear hcz18_0
              try clear hcz18_1
              try clear hcz18_2
              try clear hcz18_3
              try clear hcz22_0
              try clear hcz22_1
              try clear hcz22_2
              try clear hcz22_3
              try clear hcz23_0
              try clear hcz23_1
              try clear hcz23_2
              try clear hcz23_3
              try clear hcz5_0
              try clear hcz5_1
              try clear hcz5_2
              try clear hcz5_3
              try clear hfz11_0
              try clear hfz11_1
              try clear hfz11_2
              try clear hfz11_3
              try clear hfz15_0
              try clear hfz15_1
              try clear hfz15_2
              try clear hfz15_3
              try clear hfz17_0
              try clear hfz17_1
              try clear hfz17_2
              try clear hfz17_3
              try clear hfz18_0
              try clear hfz18_1
              try clear hfz18_2
              try clear hfz18_3
              try clear hfz22_0
              try clear hfz22_1
              try clear hfz22_2
              try clear hfz22_3
              try clear hfz23_0
              try clear hfz23_1
              try clear hfz23_2
              try clear hfz23_3
              try clear hfz5_0
              try clear hfz5_1
              try clear hfz5_2
              try clear hfz5_3
              try clear p2
              obtain ⟨kq, x34_19, rfl, HA, HJ19, BK101, HB⟩ := hcut
              cases kq with
              | zero => exact absurd HA.out (by simp [dactylref13_Name.j1])
              | succ kj19 =>
                have H := HA.out
                clear HA
                simp only [dactylref13_Name.j1] at H
                by_cases c24 : x34_19 = true
                · subst c24
                  have H1 : (some (⟨#[80, 71, 68, 78]⟩ : ByteArray)) = some r := by rw [if_pos rfl] at H; exact H
                  clear H
                  have H := H1
                  clear H1
                  obtain rfl := Option.some.inj H
                  go_wp2
                  go_ret
                  exact ⟨by first | rfl | (simp [errW_none, errW_some] <;> rfl) | (simp [*, errW_none, errW_some] <;> rfl), by repeat (first | (with_reducible first | exact HB.out | apply below_alloc | apply pw_below_drewN | apply below_drew1 | refine below_set ?_ GE101.out) | exact HB.out)⟩
                · replace c24 := Bool.eq_false_iff.mpr c24
                  subst c24
                  have H1 : (if a0_0 = 15 then (dactylref13_Name.l0 kj19 (⟨#[80, 45]⟩ : ByteArray) 0 a0_0 a0_1 a0_2 a0_3) else ((some (([(⟨#[]⟩ : ByteArray), (⟨#[]⟩ : ByteArray), (⟨#[]⟩ : ByteArray), (⟨#[]⟩ : ByteArray), (⟨#[76, 70, 68]⟩ : ByteArray), (⟨#[69, 83, 67]⟩ : ByteArray), (⟨#[68, 69, 76]⟩ : ByteArray), (⟨#[85, 80]⟩ : ByteArray), (⟨#[68, 79, 87, 78]⟩ : ByteArray), (⟨#[82, 73, 71, 72, 84]⟩ : ByteArray), (⟨#[76, 69, 70, 84]⟩ : ByteArray), (⟨#[72, 79, 77, 69]⟩ : ByteArray), (⟨#[69, 78, 68]⟩ : ByteArray), (⟨#[68, 69, 76, 69, 84, 69]⟩ : ByteArray), (⟨#[80, 71, 85, 80]⟩ : ByteArray)] : List ByteArray) : List ByteArray)).bind fun y104 => (if 0 ≤ a0_0 then (if a0_0 < (y104.length : Int) then (some (rdOf ByteArray.empty y104 a0_0)) else (none)) else (none)))) = some r := by rw [if_neg (show ¬ (false = true) by decide)] at H; exact H
                  clear H
                  have H := H1
                  clear H1
                  by_cases c25 : a0_0 = 15
                  · rw [if_pos c25] at H
                    have c25b0 : (a0_0 == 15) = true := beq_iff_eq.mpr c25
                    have c25b1 : (a0_0 != 15) = false := bne_eq_false_iff_eq.mpr c25
                    clear c25
                    have H' := Aside0.mk H
                    clear H
                    have hcz26_0 : wc.cell? ⟨gb101, 0, none⟩ = some (.int .i64 a0_0) := (blk_cell BK101.out 0).trans rfl
                    have hcz26_1 : wc.cell? ⟨gb101, 1, none⟩ = some (.int .i64 a0_1) := (blk_cell BK101.out 1).trans rfl
                    have hcz26_2 : wc.cell? ⟨gb101, 2, none⟩ = some (.string a0_2) := (blk_cell BK101.out 2).trans rfl
                    have hcz26_3 : wc.cell? ⟨gb101, 3, none⟩ = some (.bool a0_3) := (blk_cell BK101.out 3).trans rfl
                    have hfz26_0 := blk_frozen BK101.out 0
                    have hfz26_1 := blk_frozen BK101.out 1
                    have hfz26_2 := blk_frozen BK101.out 2
                    have hfz26_3 := blk_frozen BK101.out 3
                    go_wp2
                    go_loopg [4, 5] kj19 (fun kq v4 v5 w' => ∃ (x4_3 : ByteArray) (x5_3 : Int), v4 = .string x4_3 ∧ v5 = .int .i64 x5_3 ∧ Aside0 (dactylref13_Name.l0 kq x4_3 x5_3 a0_0 a0_1 a0_2 a0_3 = some r) ∧ Aside0 (kq ≤ kj19) ∧ Aside0 (w'.heap[gb101]? = some (.cells #[.int .i64 a0_0, .int .i64 a0_1, .string a0_2, .bool a0_3] 71 (0, 0))) ∧ Aside0 (Below w.heap.size w w'))
                    case atStart => exact ⟨((⟨#[80, 45]⟩ : ByteArray)), (0), (by first | rfl | (simp; done) | (simp [*]; done)), (by first | rfl | (simp; done) | (simp [*]; done)), H', ⟨Nat.le_refl _⟩, ⟨by (with_reducible repeat (first | refine blk_drewN ?_ _ | refine blk_drew ?_ | refine blk_alloc ?_ _)); exact BK101.out⟩, ⟨by repeat (first | (with_reducible first | exact HB.out | apply below_alloc | apply pw_below_drewN | apply below_drew1 | refine below_set ?_ GE101.out) | exact HB.out)⟩⟩
                    case round =>
                      clear H'
                      try clear c1
                      try clear c2
                      try clear c2b0
                      try clear p2
                      try clear c5
                      try clear c7
                      try clear c7b0
                      try clear c7b1
                      try clear c9
                      try clear c9b0
                      try clear c9b1
                      try clear c9b2
                      try clear c10
                      try clear c16
                      try clear c16b0
                      try clear c16b1
                      try clear c19
                      try clear c21
                      try clear c21b0
                      try clear c21b1
                      try clear c24
                      try clear c25
                      try clear c25b0
                      try clear c25b1
                      try clear hcz11_0
                      try clear hcz11_1
                      try clear hcz11_2
                      try clear hcz11_3
                      try clear hcz15_0
                      try clear hcz15_1
                      try clear hcz15_2
                      try clear hcz15_3
                      try clear hcz17_0
                      try clear hcz17_1
                      try clear hcz17_2
                      try clear hcz17_3
                      try clear hcz18_0
                      try clear hcz18_1
                      try clear hcz18_2
                      try clear hcz18_3
                      try clear hcz22_0
                      try clear hcz22_1
                      try clear hcz22_2
                      try clear hcz22_3
                      try clear hcz23_0
                      try clear hcz23_1
                      try clear hcz23_2
                      try clear hcz23_3
                      try clear hcz26_0
                      try clear hcz26_1
                      try clear hcz26_2
                      try clear hcz26_3
                      try clear hcz5_0
                      try clear hcz5_1
                      try clear hcz5_2
                      try clear hcz5_3
                      try clear hfz11_0
                      try clear hfz11_1
                      try clear hfz11_2
                      try clear hfz11_3
                      try clear hfz15_0
                      try clear hfz15_1
                      try clear hfz15_2
                      try clear hfz15_3
                      try clear hfz17_0
                      try clear hfz17_1
                      try clear hfz17_2
                      try clear hfz17_3
                      try clear hfz18_0
                      try clear hfz18_1
                      try clear hfz18_2
                      try clear hfz18_3
                      try clear hfz22_0
                      try clear hfz22_1
                      try clear hfz22_2
                      try clear hfz22_3
                      try clear hfz23_0
                      try clear hfz23_1
                      try clear hfz23_2
                      try clear hfz23_3
                      try clear hfz26_0
                      try clear hfz26_1
                      try clear hfz26_2
                      try clear hfz26_3
                      try clear hfz5_0
                      try clear hfz5_1
                      try clear hfz5_2
                      try clear hfz5_3
                      try clear p2
                      obtain ⟨x4_3, x5_3, rfl, rfl, HA, HK3, BK101, HB⟩ := hrel
                      cases gk with
                      | zero => exact absurd HA.out (by simp [dactylref13_Name.l0])
                      | succ k3 =>
                        have H := HA.out
                        clear HA
                        simp only [dactylref13_Name.l0] at H
                        by_cases c27 : x5_3 < (a0_2.size : Int)
                        · rw [if_pos c27] at H
                          have c27b0 : decide (x5_3 < (a0_2.size : Int)) = true := decide_eq_true c27
                          clear c27
                          by_cases c28 : 0 ≤ x5_3
                          · rw [if_pos c28] at H
                            have c28b0 : decide (0 ≤ x5_3) = true := decide_eq_true c28
                            clear c28
                            replace H := Option.bind_eq_some_iff.mp H
                            obtain ⟨t108, A300, H⟩ := H
                            replace H : (if x4_3.size + t108.size ≤ 9223372036854775807 then (dactylref13_Name.l0 k3 (x4_3 ++ t108) (wrap64 (x5_3 + 1)) a0_0 a0_1 a0_2 a0_3) else (none)) = some r := H
                            have A30 := Aside0.mk A300
                            clear A300
                            by_cases c31 : x4_3.size + t108.size ≤ 9223372036854775807
                            · rw [if_pos c31] at H
                              have c31b0 := eq_true c31
                              have c31b1 : decide (x4_3.size + t108.size ≤ 9223372036854775807) = true := decide_eq_true c31
                              try have c31b2 : (9223372036854775807 < x4_3.size + t108.size) = False := eq_false (Nat.not_lt.2 c31)
                              have H' := Aside0.mk H
                              clear H
                              have hcz32_0 : wr.cell? ⟨gb101, 0, none⟩ = some (.int .i64 a0_0) := (blk_cell BK101.out 0).trans rfl
                              have hcz32_1 : wr.cell? ⟨gb101, 1, none⟩ = some (.int .i64 a0_1) := (blk_cell BK101.out 1).trans rfl
                              have hcz32_2 : wr.cell? ⟨gb101, 2, none⟩ = some (.string a0_2) := (blk_cell BK101.out 2).trans rfl
                              have hcz32_3 : wr.cell? ⟨gb101, 3, none⟩ = some (.bool a0_3) := (blk_cell BK101.out 3).trans rfl
                              have hfz32_0 := blk_frozen BK101.out 0
                              have hfz32_1 := blk_frozen BK101.out 1
                              have hfz32_2 := blk_frozen BK101.out 2
                              have hfz32_3 := blk_frozen BK101.out 3
                              have p29 : 0 ≤ (x5_3 : Int) := of_decide_eq_true (by first | (with_reducible assumption) | assumption)
                              have q29 : x5_3 < (a0_2.size : Int) := of_decide_eq_true (by first | (with_reducible assumption) | assumption)
                              have hx29 := bt_at a0_2 x5_3
                              replace p29 := eq_true p29
                              replace q29 := eq_true q29
                              go_wp2_with (first | ((with_reducible refine gate_callee (f := 92) rfl ?_); refine goesL_ (some 57) rfl rfl Try.func92 (by kernel_rfl) rfl #[.int .i64 (wrap64 (bt a0_2 x5_3)), .int .i64 2] rfl (by (try simp only [List.map_toArray, List.map_cons, List.map_nil]); first | done | rfl | (simp only [List.length_drop, List.length_take]; rfl)) ?_; (with_reducible refine (dactylref01_Hex.calls k3 (wrap64 (bt a0_2 x5_3)) 2 t108 _ A30.out).mono ?_); rintro e w' ⟨rfl, ⟨nd, rfl⟩⟩; refine ⟨_, rfl, ?_⟩))
                              go_roundg k3
                              case measure => have := HJ12.out; have := HJ19.out; have := HK3.out; omega
                              case rel => exact ⟨(x4_3 ++ t108), (wrap64 (x5_3 + 1)), (by first | rfl | (simp; done) | (simp [*]; done)), (by first | rfl | (simp; done) | (simp [*]; done)), H', ⟨by have := HJ12.out; have := HJ19.out; have := HK3.out; omega⟩, ⟨by (with_reducible repeat (first | refine blk_drewN ?_ _ | refine blk_drew ?_ | refine blk_alloc ?_ _)); exact BK101.out⟩, ⟨by repeat (first | (with_reducible first | exact HB.out | apply below_alloc | apply pw_below_drewN | apply below_drew1 | refine below_set ?_ GE101.out) | exact HB.out)⟩⟩
                            · rw [if_neg c31] at H
                              exact absurd H (by simp)
                          · rw [if_neg c28] at H
                            exact absurd H (by simp)
                        · rw [if_neg c27] at H
                          have c27b0 : decide (x5_3 < (a0_2.size : Int)) = false := decide_eq_false c27
                          clear c27
                          by_cases c33 : a0_3 = true
                          · subst c33
                            have H1 : (if x4_3.size + 1 ≤ 9223372036854775807 then (some (x4_3 ++ (⟨#[33]⟩ : ByteArray))) else (none)) = some r := by rw [if_pos rfl] at H; exact H
                            clear H
                            have H := H1
                            clear H1
                            by_cases c34 : x4_3.size + 1 ≤ 9223372036854775807
                            · rw [if_pos c34] at H
                              have c34b0 := eq_true c34
                              have c34b1 : decide (x4_3.size + 1 ≤ 9223372036854775807) = true := decide_eq_true c34
                              try have c34b2 : (9223372036854775807 < x4_3.size + 1) = False := eq_false (Nat.not_lt.2 c34)
                              obtain rfl := Option.some.inj H
                              have hcz35_0 : wr.cell? ⟨gb101, 0, none⟩ = some (.int .i64 a0_0) := (blk_cell BK101.out 0).trans rfl
                              have hcz35_1 : wr.cell? ⟨gb101, 1, none⟩ = some (.int .i64 a0_1) := (blk_cell BK101.out 1).trans rfl
                              have hcz35_2 : wr.cell? ⟨gb101, 2, none⟩ = some (.string a0_2) := (blk_cell BK101.out 2).trans rfl
                              have hcz35_3 : wr.cell? ⟨gb101, 3, none⟩ = some (.bool true) := (blk_cell BK101.out 3).trans rfl
                              have hfz35_0 := blk_frozen BK101.out 0
                              have hfz35_1 := blk_frozen BK101.out 1
                              have hfz35_2 := blk_frozen BK101.out 2
                              have hfz35_3 := blk_frozen BK101.out 3
                              go_wp2
                              go_ret
                              exact ⟨by first | rfl | (simp [errW_none, errW_some] <;> rfl) | (simp [*, errW_none, errW_some] <;> rfl), by repeat (first | (with_reducible first | exact HB.out | apply below_alloc | apply pw_below_drewN | apply below_drew1 | refine below_set ?_ GE101.out) | exact HB.out)⟩
                            · rw [if_neg c34] at H
                              exact absurd H (by simp)
                          · replace c33 := Bool.eq_false_iff.mpr c33
                            subst c33
                            have H1 : (some x4_3) = some r := by rw [if_neg (show ¬ (false = true) by decide)] at H; exact H
                            clear H
                            have H := H1
                            clear H1
                            obtain rfl := Option.some.inj H
                            have hcz36_0 : wr.cell? ⟨gb101, 0, none⟩ = some (.int .i64 a0_0) := (blk_cell BK101.out 0).trans rfl
                            have hcz36_1 : wr.cell? ⟨gb101, 1, none⟩ = some (.int .i64 a0_1) := (blk_cell BK101.out 1).trans rfl
                            have hcz36_2 : wr.cell? ⟨gb101, 2, none⟩ = some (.string a0_2) := (blk_cell BK101.out 2).trans rfl
                            have hcz36_3 : wr.cell? ⟨gb101, 3, none⟩ = some (.bool false) := (blk_cell BK101.out 3).trans rfl
                            have hfz36_0 := blk_frozen BK101.out 0
                            have hfz36_1 := blk_frozen BK101.out 1
                            have hfz36_2 := blk_frozen BK101.out 2
                            have hfz36_3 := blk_frozen BK101.out 3
                            go_wp2
                            go_ret
                            exact ⟨by first | rfl | (simp [errW_none, errW_some] <;> rfl) | (simp [*, errW_none, errW_some] <;> rfl), by repeat (first | (with_reducible first | exact HB.out | apply below_alloc | apply pw_below_drewN | apply below_drew1 | refine below_set ?_ GE101.out) | exact HB.out)⟩
                  · rw [if_neg c25] at H
                    have c25b0 : (a0_0 == 15) = false := beq_eq_false_iff_ne.mpr c25
                    have c25b1 : (a0_0 != 15) = true := bne_iff_ne.mpr c25
                    obtain ⟨y104, hy104⟩ : ∃ y_ : List ByteArray, y_ = (([(⟨#[]⟩ : ByteArray), (⟨#[]⟩ : ByteArray), (⟨#[]⟩ : ByteArray), (⟨#[]⟩ : ByteArray), (⟨#[76, 70, 68]⟩ : ByteArray), (⟨#[69, 83, 67]⟩ : ByteArray), (⟨#[68, 69, 76]⟩ : ByteArray), (⟨#[85, 80]⟩ : ByteArray), (⟨#[68, 79, 87, 78]⟩ : ByteArray), (⟨#[82, 73, 71, 72, 84]⟩ : ByteArray), (⟨#[76, 69, 70, 84]⟩ : ByteArray), (⟨#[72, 79, 77, 69]⟩ : ByteArray), (⟨#[69, 78, 68]⟩ : ByteArray), (⟨#[68, 69, 76, 69, 84, 69]⟩ : ByteArray), (⟨#[80, 71, 85, 80]⟩ : ByteArray)] : List ByteArray)) := ⟨_, rfl⟩
                    replace H : (if 0 ≤ a0_0 then (if a0_0 < (y104.length : Int) then (some (rdOf ByteArray.empty y104 a0_0)) else (none)) else (none)) = some r := by first | (rw [hy104]; with_reducible exact H) | (have H2_ := (Option.bind_some _ _).symm.trans H; rw [hy104]; with_reducible exact H2_) | (have H2_ := (Option.bind_some _ _).symm.trans H; with_reducible exact H2_) | with_reducible exact H | (rw [hy104]; exact H) | exact H
                    have Ny104 := Aside0.mk hy104
                    clear hy104
                    by_cases c37 : 0 ≤ a0_0
                    · rw [if_pos c37] at H
                      have c37b0 : decide (0 ≤ a0_0) = true := decide_eq_true c37
                      clear c37
                      by_cases c38 : a0_0 < (y104.length : Int)
                      · rw [if_pos c38] at H
                        have c38b0 : decide (a0_0 < (y104.length : Int)) = true := decide_eq_true c38
                        clear c38
                        obtain rfl := Option.some.inj H
                        have hcz39_0 : wc.cell? ⟨gb101, 0, none⟩ = some (.int .i64 a0_0) := (blk_cell BK101.out 0).trans rfl
                        have hcz39_1 : wc.cell? ⟨gb101, 1, none⟩ = some (.int .i64 a0_1) := (blk_cell BK101.out 1).trans rfl
                        have hcz39_2 : wc.cell? ⟨gb101, 2, none⟩ = some (.string a0_2) := (blk_cell BK101.out 2).trans rfl
                        have hcz39_3 : wc.cell? ⟨gb101, 3, none⟩ = some (.bool a0_3) := (blk_cell BK101.out 3).trans rfl
                        have hfz39_0 := blk_frozen BK101.out 0
                        have hfz39_1 := blk_frozen BK101.out 1
                        have hfz39_2 := blk_frozen BK101.out 2
                        have hfz39_3 := blk_frozen BK101.out 3
                        go_wp2_with (first | ((with_reducible refine gate_dst (N := 38) rfl ?_); refine Kd.R_lit Kd.string _ 9 ?hg (N := 38) ?hd (xs := ([(⟨#[]⟩ : ByteArray), (⟨#[]⟩ : ByteArray), (⟨#[]⟩ : ByteArray), (⟨#[]⟩ : ByteArray), (⟨#[76, 70, 68]⟩ : ByteArray), (⟨#[69, 83, 67]⟩ : ByteArray), (⟨#[68, 69, 76]⟩ : ByteArray), (⟨#[85, 80]⟩ : ByteArray), (⟨#[68, 79, 87, 78]⟩ : ByteArray), (⟨#[82, 73, 71, 72, 84]⟩ : ByteArray), (⟨#[76, 69, 70, 84]⟩ : ByteArray), (⟨#[72, 79, 77, 69]⟩ : ByteArray), (⟨#[69, 78, 68]⟩ : ByteArray), (⟨#[68, 69, 76, 69, 84, 69]⟩ : ByteArray), (⟨#[80, 71, 85, 80]⟩ : ByteArray)] : List ByteArray)) (inner := [.string (⟨#[]⟩ : ByteArray), .string (⟨#[]⟩ : ByteArray), .string (⟨#[]⟩ : ByteArray), .string (⟨#[]⟩ : ByteArray), .string (⟨#[76, 70, 68]⟩ : ByteArray), .string (⟨#[69, 83, 67]⟩ : ByteArray), .string (⟨#[68, 69, 76]⟩ : ByteArray), .string (⟨#[85, 80]⟩ : ByteArray), .string (⟨#[68, 79, 87, 78]⟩ : ByteArray), .string (⟨#[82, 73, 71, 72, 84]⟩ : ByteArray), .string (⟨#[76, 69, 70, 84]⟩ : ByteArray), .string (⟨#[72, 79, 77, 69]⟩ : ByteArray), .string (⟨#[69, 78, 68]⟩ : ByteArray), .string (⟨#[68, 69, 76, 69, 84, 69]⟩ : ByteArray), .string (⟨#[80, 71, 85, 80]⟩ : ByteArray)]) (ok := fun _ => True) (okp := fun _ => True) ?hr ?hp (fun _ hk => hk) trivial (Below.refl _ _) (Nat.le_refl _) (by simp) ?_; (case hd => rfl); (case hg => rfl); (case hr => first | (go_simp; done) | (go_simp; rfl)); (case hp => exact (Reps.one (show Kd.M Kd.string _ _ _ (⟨#[]⟩ : ByteArray) [.string (⟨#[]⟩ : ByteArray)] from rfl) (Reps.one (show Kd.M Kd.string _ _ _ (⟨#[]⟩ : ByteArray) [.string (⟨#[]⟩ : ByteArray)] from rfl) (Reps.one (show Kd.M Kd.string _ _ _ (⟨#[]⟩ : ByteArray) [.string (⟨#[]⟩ : ByteArray)] from rfl) (Reps.one (show Kd.M Kd.string _ _ _ (⟨#[]⟩ : ByteArray) [.string (⟨#[]⟩ : ByteArray)] from rfl) (Reps.one (show Kd.M Kd.string _ _ _ (⟨#[76, 70, 68]⟩ : ByteArray) [.string (⟨#[76, 70, 68]⟩ : ByteArray)] from rfl) (Reps.one (show Kd.M Kd.string _ _ _ (⟨#[69, 83, 67]⟩ : ByteArray) [.string (⟨#[69, 83, 67]⟩ : ByteArray)] from rfl) (Reps.one (show Kd.M Kd.string _ _ _ (⟨#[68, 69, 76]⟩ : ByteArray) [.string (⟨#[68, 69, 76]⟩ : ByteArray)] from rfl) (Reps.one (show Kd.M Kd.string _ _ _ (⟨#[85, 80]⟩ : ByteArray) [.string (⟨#[85, 80]⟩ : ByteArray)] from rfl) (Reps.one (show Kd.M Kd.string _ _ _ (⟨#[68, 79, 87, 78]⟩ : ByteArray) [.string (⟨#[68, 79, 87, 78]⟩ : ByteArray)] from rfl) (Reps.one (show Kd.M Kd.string _ _ _ (⟨#[82, 73, 71, 72, 84]⟩ : ByteArray) [.string (⟨#[82, 73, 71, 72, 84]⟩ : ByteArray)] from rfl) (Reps.one (show Kd.M Kd.string _ _ _ (⟨#[76, 69, 70, 84]⟩ : ByteArray) [.string (⟨#[76, 69, 70, 84]⟩ : ByteArray)] from rfl) (Reps.one (show Kd.M Kd.string _ _ _ (⟨#[72, 79, 77, 69]⟩ : ByteArray) [.string (⟨#[72, 79, 77, 69]⟩ : ByteArray)] from rfl) (Reps.one (show Kd.M Kd.string _ _ _ (⟨#[69, 78, 68]⟩ : ByteArray) [.string (⟨#[69, 78, 68]⟩ : ByteArray)] from rfl) (Reps.one (show Kd.M Kd.string _ _ _ (⟨#[68, 69, 76, 69, 84, 69]⟩ : ByteArray) [.string (⟨#[68, 69, 76, 69, 84, 69]⟩ : ByteArray)] from rfl) (Reps.one (show Kd.M Kd.string _ _ _ (⟨#[80, 71, 85, 80]⟩ : ByteArray) [.string (⟨#[80, 71, 85, 80]⟩ : ByteArray)] from rfl) (Reps.none _ _))))))))))))))))); intro v105 w40 ho41 hb hg_ hnew_; clear hg_ hnew_; (first | rw [← Ny104.out] at ho41 | (simp only [Int.reduceToNat] at ho41; rw [← Ny104.out] at ho41)); have n0_ := Aside0.mk (Kd.R_lower ho41 (below_size (by repeat (first | (with_reducible first | exact HB.out | apply below_alloc | apply pw_below_drewN | apply below_drew1 | refine below_set ?_ GE101.out) | exact HB.out)))); have n1_ := Aside0.mk (blk_below (g := gb101) (o := .cells #[.int .i64 a0_0, .int .i64 a0_1, .string a0_2, .bool a0_3] 71 (0, 0)) (by (with_reducible repeat (first | refine blk_drewN ?_ _ | refine blk_drew ?_ | refine blk_alloc ?_ _)); exact BK101.out) hb); have n2_ := Aside0.mk (below_step (by repeat (first | (with_reducible first | exact HB.out | apply below_alloc | apply pw_below_drewN | apply below_drew1 | refine below_set ?_ GE101.out) | exact HB.out)) hb); clear BK101; clear HB; have HO106 := n0_; have BK101 := n1_; have HB := n2_; clear n0_ n1_ n2_; clear hb ho41; have hcz42_0 : w40.cell? ⟨gb101, 0, none⟩ = some (.int .i64 a0_0) := (blk_cell BK101.out 0).trans rfl; have hcz42_1 : w40.cell? ⟨gb101, 1, none⟩ = some (.int .i64 a0_1) := (blk_cell BK101.out 1).trans rfl; have hcz42_2 : w40.cell? ⟨gb101, 2, none⟩ = some (.string a0_2) := (blk_cell BK101.out 2).trans rfl; have hcz42_3 : w40.cell? ⟨gb101, 3, none⟩ = some (.bool a0_3) := (blk_cell BK101.out 3).trans rfl; have hfz42_0 := blk_frozen BK101.out 0; have hfz42_1 := blk_frozen BK101.out 1; have hfz42_2 := blk_frozen BK101.out 2; have hfz42_3 := blk_frozen BK101.out 3; obtain ⟨Ao43, co43, eo43⟩ := Kd.R_slice HO106.out; subst eo43; have p107 : 0 ≤ (a0_0 : Int) := of_decide_eq_true (by first | (with_reducible assumption) | assumption); have q107 : a0_0 < (y104.length : Int) := of_decide_eq_true (by first | (with_reducible assumption) | assumption); obtain ⟨ad107, e107, hx107_0⟩ := Kd.at_string (Kd.R_reads' HO106.out).2.2 a0_0 p107 q107; cases e107; replace p107 := eq_true p107; replace q107 := eq_true q107))
                        go_ret
                        exact ⟨by first | rfl | (simp [errW_none, errW_some] <;> rfl) | (simp [*, errW_none, errW_some] <;> rfl), by repeat (first | (with_reducible first | exact HB.out | apply below_alloc | apply pw_below_drewN | apply below_drew1 | refine below_set ?_ GE101.out) | exact HB.out)⟩
                      · rw [if_neg c38] at H
                        exact absurd H (by simp)
                    · rw [if_neg c37] at H
                      exact absurd H (by simp)

end Go.Proofs.Ytemoocoedibbpaa.X

namespace Go.Proofs.Ytemoocoedibbpaa.X
open Go.RowKit Go.Proofs.YtemoocoedibbpaaW.PrintWords Go.Proofs.YtemoocoedibbpaaW.PrintLast Go.Proofs.YtemoocoedibbpaaW.PrintMore
attribute [local go_sem] max2_int min2_int max_two min_two max_three min_three max_four min_four
set_option linter.unusedVariables false
set_option linter.unusedSimpArgs false

attribute [local go_sem high] eqA71
/-! ### dactyllaw13_KeyParses: function 11 -/
def dactyllaw13_KeyParses.f (k : Nat) (a0 : ByteArray) : Option (Bool) := if (a0.size : Int) > 500 then ((dactyllaw13_awake.f).bind fun t101 => (some t101)) else ((key_Parse.f k a0).bind fun bt102 => (if bt102.2.2.2.2 = 0 then ((dactyllaw13_awake.f).bind fun t108 => (if t108 = true then ((dactylref13_May.f k bt102.1 bt102.2.1 bt102.2.2.1 bt102.2.2.2.1).bind fun t109 => (if t109 = true then ((dactylref13_Name.f k bt102.1 bt102.2.1 bt102.2.2.1 bt102.2.2.2.1).bind fun t110 => (some (t110.toList == a0.toList))) else (some false))) else (some false))) else ((dactyllaw13_awake.f).bind fun t111 => (if t111 = true then (if bt102.2.2.2.2 = 6 then (some (bt102.1 == 0 && (bt102.2.1 == 0 && (bt102.2.2.1.toList == ([] : List UInt8) && (!bt102.2.2.2.1))))) else (some false)) else (some false)))))
theorem dactyllaw13_KeyParses.mono : ∀ a0 k, LeO (dactyllaw13_KeyParses.f k a0) (dactyllaw13_KeyParses.f (k + 1) a0) := by
  intro a0 k
  unfold dactyllaw13_KeyParses.f
  repeat' first
      | (with_reducible exact dactylref13_May.mono _ _ _ _ _)
      | (with_reducible exact dactylref13_Name.mono _ _ _ _ _)
      | (with_reducible exact key_Parse.mono _ _)
      | (with_reducible exact LeO.refl _)
      | (with_reducible exact LeO.none _)
      | (with_reducible refine LeO.ite ?_ ?_)
      | (with_reducible refine LeO.bind ?_ (fun _ => ?_))
      | exact dactylref13_May.mono _ _ _ _ _
      | exact dactylref13_Name.mono _ _ _ _ _
      | exact key_Parse.mono _ _
      | exact LeO.none _
      | refine LeO.ite ?_ ?_
      | refine LeO.bind ?_ (fun _ => ?_)
set_option maxHeartbeats 8000000 in
set_option maxRecDepth 100000 in
theorem dactyllaw13_KeyParses.calls (k : Nat) (a0 : ByteArray) (r : Bool) (w : World) (hr_ : r = true) (h : dactyllaw13_KeyParses.f k a0 = some r) :
    Calls Try.prog 11 #[.string a0] w fun e w' => e = .returned (.bool r) ∧ Below w.heap.size w w' := by
  have HR_ := Aside0.mk hr_
  clear hr_
  have hu71 := Try.underlying71
  have HB := Aside0.mk (Below.refl w.heap.size w)
  have H : (if (a0.size : Int) > 500 then ((dactyllaw13_awake.f).bind fun t101 => (some t101)) else ((key_Parse.f k a0).bind fun bt102 => (if bt102.2.2.2.2 = 0 then ((dactyllaw13_awake.f).bind fun t108 => (if t108 = true then ((dactylref13_May.f k bt102.1 bt102.2.1 bt102.2.2.1 bt102.2.2.2.1).bind fun t109 => (if t109 = true then ((dactylref13_Name.f k bt102.1 bt102.2.1 bt102.2.2.1 bt102.2.2.2.1).bind fun t110 => (some (t110.toList == a0.toList))) else (some false))) else (some false))) else ((dactyllaw13_awake.f).bind fun t111 => (if t111 = true then (if bt102.2.2.2.2 = 6 then (some (bt102.1 == 0 && (bt102.2.1 == 0 && (bt102.2.2.1.toList == ([] : List UInt8) && (!bt102.2.2.2.1))))) else (some false)) else (some false)))))) = some r := h
  clear h
  by_cases c2 : (a0.size : Int) > 500
  · rw [if_pos c2] at H
    have c2b0 : decide (500 < (a0.size : Int)) = true := decide_eq_true c2
    have c2b1 : decide (500 < a0.size) = true := decide_eq_true (by omega)
    clear c2
    replace H := Option.bind_eq_some_iff.mp H
    obtain ⟨t101, A30, H⟩ := H
    replace H : (some t101) = some r := H
    have A3 := Aside0.mk A30
    clear A30
    obtain rfl := Option.some.inj H
    go_enter Try.func11, Try.ntmps11
    go_wp2_with (first | ((with_reducible refine gate_callee (f := 50) rfl ?_); refine goesL_ (some 8) rfl rfl Try.func50 (by kernel_rfl) rfl #[] rfl (by (try simp only [List.map_toArray, List.map_cons, List.map_nil]); first | done | rfl | (simp only [List.length_drop, List.length_take]; rfl)) ?_; (with_reducible refine (dactyllaw13_awake.calls  t101 _ A3.out).mono ?_); rintro e w4 ⟨rfl, hb⟩; refine ⟨_, rfl, ?_⟩; have n0_ := Aside0.mk (below_step (by repeat (first | (with_reducible first | exact HB.out | apply below_alloc | apply pw_below_drewN | apply below_drew1) | exact HB.out)) hb); clear HB; have HB := n0_; clear n0_; (try clear hb); (try clear hb2); (try clear hk); (try clear hi)))
    go_ret
    exact ⟨by first | rfl | (simp [errW_none, errW_some] <;> rfl) | (simp [*, errW_none, errW_some] <;> rfl), by repeat (first | (with_reducible first | exact HB.out | apply below_alloc | apply pw_below_drewN | apply below_drew1) | exact HB.out)⟩
  · rw [if_neg c2] at H
    have c2b0 : decide (500 < (a0.size : Int)) = false := decide_eq_false c2
    have c2b1 : decide (500 < a0.size) = false := decide_eq_false (by omega)
    clear c2
    replace H := Option.bind_eq_some_iff.mp H
    obtain ⟨⟨t102, t103, t104, t105, t106⟩, A50, H⟩ := H
    replace H : (if t106 = 0 then ((dactyllaw13_awake.f).bind fun t108 => (if t108 = true then ((dactylref13_May.f k t102 t103 t104 t105).bind fun t109 => (if t109 = true then ((dactylref13_Name.f k t102 t103 t104 t105).bind fun t110 => (some (t110.toList == a0.toList))) else (some false))) else (some false))) else ((dactyllaw13_awake.f).bind fun t111 => (if t111 = true then (if t106 = 6 then (some (t102 == 0 && (t103 == 0 && (t104.toList == ([] : List UInt8) && (!t105))))) else (some false)) else (some false)))) = some r := H
    have A5 := Aside0.mk A50
    clear A50
    by_cases c6 : t106 = 0
    · rw [if_pos c6] at H
      have c6b0 : (t106 == 0) = true := beq_iff_eq.mpr c6
      have c6b1 : (t106 != 0) = false := bne_eq_false_iff_eq.mpr c6
      clear c6
      replace H := Option.bind_eq_some_iff.mp H
      obtain ⟨t108, A70, H⟩ := H
      replace H : (if t108 = true then ((dactylref13_May.f k t102 t103 t104 t105).bind fun t109 => (if t109 = true then ((dactylref13_Name.f k t102 t103 t104 t105).bind fun t110 => (some (t110.toList == a0.toList))) else (some false))) else (some false)) = some r := H
      have A7 := Aside0.mk A70
      clear A70
      by_cases c8 : t108 = true
      · subst c8
        have H1 : ((dactylref13_May.f k t102 t103 t104 t105).bind fun t109 => (if t109 = true then ((dactylref13_Name.f k t102 t103 t104 t105).bind fun t110 => (some (t110.toList == a0.toList))) else (some false))) = some r := by rw [if_pos rfl] at H; exact H
        clear H
        have H := H1
        clear H1
        replace H := Option.bind_eq_some_iff.mp H
        obtain ⟨t109, A90, H⟩ := H
        replace H : (if t109 = true then ((dactylref13_Name.f k t102 t103 t104 t105).bind fun t110 => (some (t110.toList == a0.toList))) else (some false)) = some r := H
        have A9 := Aside0.mk A90
        clear A90
        by_cases c10 : t109 = true
        · subst c10
          have H1 : ((dactylref13_Name.f k t102 t103 t104 t105).bind fun t110 => (some (t110.toList == a0.toList))) = some r := by rw [if_pos rfl] at H; exact H
          clear H
          have H := H1
          clear H1
          replace H := Option.bind_eq_some_iff.mp H
          obtain ⟨t110, A110, H⟩ := H
          replace H : (some (t110.toList == a0.toList)) = some r := H
          have A11 := Aside0.mk A110
          clear A110
          obtain rfl := Option.some.inj H
          go_enter Try.func11, Try.ntmps11
          go_wp2_with (first | ((with_reducible refine gate_callee (f := 56) rfl ?_); refine goesL_ (some 11) rfl rfl Try.func56 (by kernel_rfl) rfl #[.string a0] rfl (by (try simp only [List.map_toArray, List.map_cons, List.map_nil]); first | done | rfl | (simp only [List.length_drop, List.length_take]; rfl)) ?_; (with_reducible refine (key_Parse.calls k a0 t102 t103 t104 t105 t106 _ A5.out).mono ?_); rintro e w12 ⟨rfl, hb⟩; refine ⟨_, rfl, ?_⟩; have n0_ := Aside0.mk (below_step (by repeat (first | (with_reducible first | exact HB.out | apply below_alloc | apply pw_below_drewN | apply below_drew1) | exact HB.out)) hb); clear HB; have HB := n0_; clear n0_; (try clear hb); (try clear hb2); (try clear hk); (try clear hi)) | ((with_reducible refine gate_dst (N := 3) rfl ?_); refine box_event ?hg (N := 3) ?hd (cs := #[.int .i64 0, .int .i64 0, .string (⟨#[]⟩ : ByteArray), .bool false]) (t := 71) ?hr ?_; (case hd => rfl); (case hg => rfl); (case hr => first | (go_simp; done) | (go_simp; rfl)); intro gb107 hg w13 hbox hb; have n0_ := Aside0.mk (below_step (by repeat (first | (with_reducible first | exact HB.out | apply below_alloc | apply pw_below_drewN | apply below_drew1) | exact HB.out)) hb); have n1_ := Aside0.mk (hbox); have n2_ := Aside0.mk ((by rw [hg]; exact (below_size (by repeat (first | (with_reducible first | exact HB.out | apply below_alloc | apply pw_below_drewN | apply below_drew1) | exact HB.out))) : w.heap.size ≤ gb107)); have n3_ := Aside0.mk ((by rw [hg]; exact (below_size (by repeat (first | (with_reducible first | exact HB.out | apply below_alloc | apply pw_below_drewN | apply below_drew1) | exact HB.out))) : w.heap.size ≤ gb107)); clear HB; have HB := n0_; have BK107 := n1_; have GW107 := n2_; have GE107 := n3_; clear n0_ n1_ n2_ n3_; clear hb hbox hg; have hcz14_0 : w13.cell? ⟨gb107, 0, none⟩ = some (.int .i64 0) := (blk_cell BK107.out 0).trans rfl; have hcz14_1 : w13.cell? ⟨gb107, 1, none⟩ = some (.int .i64 0) := (blk_cell BK107.out 1).trans rfl; have hcz14_2 : w13.cell? ⟨gb107, 2, none⟩ = some (.string (⟨#[]⟩ : ByteArray)) := (blk_cell BK107.out 2).trans rfl; have hcz14_3 : w13.cell? ⟨gb107, 3, none⟩ = some (.bool false) := (blk_cell BK107.out 3).trans rfl; have hfz14_0 := blk_frozen BK107.out 0; have hfz14_1 := blk_frozen BK107.out 1; have hfz14_2 := blk_frozen BK107.out 2; have hfz14_3 := blk_frozen BK107.out 3) | ((with_reducible refine gate_callee (f := 50) rfl ?_); refine goesL_ (some 26) rfl rfl Try.func50 (by kernel_rfl) rfl #[] rfl (by (try simp only [List.map_toArray, List.map_cons, List.map_nil]); first | done | rfl | (simp only [List.length_drop, List.length_take]; rfl)) ?_; (with_reducible refine (dactyllaw13_awake.calls  true _ A7.out).mono ?_); rintro e w15 ⟨rfl, hb⟩; refine ⟨_, rfl, ?_⟩; have n0_ := Aside0.mk (blk_below (g := gb107) (o := .cells #[.int .i64 t102, .int .i64 t103, .string t104, .bool t105] 71 (0, 0)) (by (with_reducible repeat (first | refine blk_drewN ?_ _ | refine blk_drew ?_ | refine blk_alloc ?_ _)); refine blk_put (cs := #[.int .i64 t102, .int .i64 t103, .string t104, .bool false]) ?_ 3 _ rfl; (with_reducible repeat (first | refine blk_drewN ?_ _ | refine blk_drew ?_ | refine blk_alloc ?_ _)); refine blk_put (cs := #[.int .i64 t102, .int .i64 t103, .string (⟨#[]⟩ : ByteArray), .bool false]) ?_ 2 _ rfl; (with_reducible repeat (first | refine blk_drewN ?_ _ | refine blk_drew ?_ | refine blk_alloc ?_ _)); refine blk_put (cs := #[.int .i64 t102, .int .i64 0, .string (⟨#[]⟩ : ByteArray), .bool false]) ?_ 1 _ rfl; (with_reducible repeat (first | refine blk_drewN ?_ _ | refine blk_drew ?_ | refine blk_alloc ?_ _)); refine blk_put (cs := #[.int .i64 0, .int .i64 0, .string (⟨#[]⟩ : ByteArray), .bool false]) ?_ 0 _ rfl; (with_reducible repeat (first | refine blk_drewN ?_ _ | refine blk_drew ?_ | refine blk_alloc ?_ _)); exact BK107.out) hb); have n1_ := Aside0.mk (below_step (by repeat (first | (with_reducible first | exact HB.out | apply below_alloc | apply pw_below_drewN | apply below_drew1 | refine below_set ?_ GE107.out) | exact HB.out)) hb); clear BK107; clear HB; have BK107 := n0_; have HB := n1_; clear n0_ n1_; (try clear hb); (try clear hb2); (try clear hk); (try clear hi); have hcz16_0 : w15.cell? ⟨gb107, 0, none⟩ = some (.int .i64 t102) := (blk_cell BK107.out 0).trans rfl; have hcz16_1 : w15.cell? ⟨gb107, 1, none⟩ = some (.int .i64 t103) := (blk_cell BK107.out 1).trans rfl; have hcz16_2 : w15.cell? ⟨gb107, 2, none⟩ = some (.string t104) := (blk_cell BK107.out 2).trans rfl; have hcz16_3 : w15.cell? ⟨gb107, 3, none⟩ = some (.bool t105) := (blk_cell BK107.out 3).trans rfl; have hfz16_0 := blk_frozen BK107.out 0; have hfz16_1 := blk_frozen BK107.out 1; have hfz16_2 := blk_frozen BK107.out 2; have hfz16_3 := blk_frozen BK107.out 3) | (go_at_call 53; (with_reducible refine (dactylref13_May.calls k t102 t103 t104 t105 true _ A9.out).mono ?_); rintro e w17 ⟨rfl, hb⟩; have n0_ := Aside0.mk (blk_below (g := gb107) (o := .cells #[.int .i64 t102, .int .i64 t103, .string t104, .bool t105] 71 (0, 0)) (by (with_reducible repeat (first | refine blk_drewN ?_ _ | refine blk_drew ?_ | refine blk_alloc ?_ _)); exact BK107.out) hb); have n1_ := Aside0.mk (below_step (by repeat (first | (with_reducible first | exact HB.out | apply below_alloc | apply pw_below_drewN | apply below_drew1 | refine below_set ?_ GE107.out) | exact HB.out)) hb); clear BK107; clear HB; have BK107 := n0_; have HB := n1_; clear n0_ n1_; (try clear hb); (try clear hb2); (try clear hk); (try clear hi); have hcz18_0 : w17.cell? ⟨gb107, 0, none⟩ = some (.int .i64 t102) := (blk_cell BK107.out 0).trans rfl; have hcz18_1 : w17.cell? ⟨gb107, 1, none⟩ = some (.int .i64 t103) := (blk_cell BK107.out 1).trans rfl; have hcz18_2 : w17.cell? ⟨gb107, 2, none⟩ = some (.string t104) := (blk_cell BK107.out 2).trans rfl; have hcz18_3 : w17.cell? ⟨gb107, 3, none⟩ = some (.bool t105) := (blk_cell BK107.out 3).trans rfl; have hfz18_0 := blk_frozen BK107.out 0; have hfz18_1 := blk_frozen BK107.out 1; have hfz18_2 := blk_frozen BK107.out 2; have hfz18_3 := blk_frozen BK107.out 3) | (go_at_call 58; (with_reducible refine (dactylref13_Name.calls k t102 t103 t104 t105 t110 _ A11.out).mono ?_); rintro e w19 ⟨rfl, hb⟩; have n0_ := Aside0.mk (blk_below (g := gb107) (o := .cells #[.int .i64 t102, .int .i64 t103, .string t104, .bool t105] 71 (0, 0)) (by (with_reducible repeat (first | refine blk_drewN ?_ _ | refine blk_drew ?_ | refine blk_alloc ?_ _)); exact BK107.out) hb); have n1_ := Aside0.mk (below_step (by repeat (first | (with_reducible first | exact HB.out | apply below_alloc | apply pw_below_drewN | apply below_drew1 | refine below_set ?_ GE107.out) | exact HB.out)) hb); clear BK107; clear HB; have BK107 := n0_; have HB := n1_; clear n0_ n1_; (try clear hb); (try clear hb2); (try clear hk); (try clear hi)))
          go_ret
          exact ⟨by first | rfl | (simp [errW_none, errW_some] <;> rfl) | (simp [*, errW_none, errW_some] <;> rfl), by repeat (first | (with_reducible first | exact HB.out | apply below_alloc | apply pw_below_drewN | apply below_drew1 | refine below_set ?_ GE107.out) | exact HB.out)⟩
        · replace c10 := Bool.eq_false_iff.mpr c10
          subst c10
          have H1 : (some false) = some r := by rw [if_neg (show ¬ (false = true) by decide)] at H; exact H
          clear H
          have H := H1
          clear H1
          obtain rfl := Option.some.inj H
          exact absurd HR_.out (by decide)
      · replace c8 := Bool.eq_false_iff.mpr c8
        subst c8
        have H1 : (some false) = some r := by rw [if_neg (show ¬ (false = true) by decide)] at H; exact H
        clear H
        have H := H1
        clear H1
        obtain rfl := Option.some.inj H
        exact absurd HR_.out (by decide)
    · rw [if_neg c6] at H
      have c6b0 : (t106 == 0) = false := beq_eq_false_iff_ne.mpr c6
      have c6b1 : (t106 != 0) = true := bne_iff_ne.mpr c6
      replace H := Option.bind_eq_some_iff.mp H
      obtain ⟨t111, A200, H⟩ := H
      replace H : (if t111 = true then (if t106 = 6 then (some (t102 == 0 && (t103 == 0 && (t104.toList == ([] : List UInt8) && (!t105))))) else (some false)) else (some false)) = some r := H
      have A20 := Aside0.mk A200
      clear A200
      by_cases c21 : t111 = true
      · subst c21
        have H1 : (if t106 = 6 then (some (t102 == 0 && (t103 == 0 && (t104.toList == ([] : List UInt8) && (!t105))))) else (some false)) = some r := by rw [if_pos rfl] at H; exact H
        clear H
        have H := H1
        clear H1
        by_cases c22 : t106 = 6
        · rw [if_pos c22] at H
          have c22b0 : (t106 == 6) = true := beq_iff_eq.mpr c22
          have c22b1 : (t106 != 6) = false := bne_eq_false_iff_eq.mpr c22
          clear c22
          obtain rfl := Option.some.inj H
          go_enter Try.func11, Try.ntmps11
          go_wp2_with (first | ((with_reducible refine gate_callee (f := 56) rfl ?_); refine goesL_ (some 11) rfl rfl Try.func56 (by kernel_rfl) rfl #[.string a0] rfl (by (try simp only [List.map_toArray, List.map_cons, List.map_nil]); first | done | rfl | (simp only [List.length_drop, List.length_take]; rfl)) ?_; (with_reducible refine (key_Parse.calls k a0 t102 t103 t104 t105 t106 _ A5.out).mono ?_); rintro e w23 ⟨rfl, hb⟩; refine ⟨_, rfl, ?_⟩; have n0_ := Aside0.mk (below_step (by repeat (first | (with_reducible first | exact HB.out | apply below_alloc | apply pw_below_drewN | apply below_drew1) | exact HB.out)) hb); clear HB; have HB := n0_; clear n0_; (try clear hb); (try clear hb2); (try clear hk); (try clear hi)) | ((with_reducible refine gate_dst (N := 3) rfl ?_); refine box_event ?hg (N := 3) ?hd (cs := #[.int .i64 0, .int .i64 0, .string (⟨#[]⟩ : ByteArray), .bool false]) (t := 71) ?hr ?_; (case hd => rfl); (case hg => rfl); (case hr => first | (go_simp; done) | (go_simp; rfl)); intro gb107 hg w24 hbox hb; have n0_ := Aside0.mk (below_step (by repeat (first | (with_reducible first | exact HB.out | apply below_alloc | apply pw_below_drewN | apply below_drew1) | exact HB.out)) hb); have n1_ := Aside0.mk (hbox); have n2_ := Aside0.mk ((by rw [hg]; exact (below_size (by repeat (first | (with_reducible first | exact HB.out | apply below_alloc | apply pw_below_drewN | apply below_drew1) | exact HB.out))) : w.heap.size ≤ gb107)); have n3_ := Aside0.mk ((by rw [hg]; exact (below_size (by repeat (first | (with_reducible first | exact HB.out | apply below_alloc | apply pw_below_drewN | apply below_drew1) | exact HB.out))) : w.heap.size ≤ gb107)); clear HB; have HB := n0_; have BK107 := n1_; have GW107 := n2_; have GE107 := n3_; clear n0_ n1_ n2_ n3_; clear hb hbox hg; have hcz25_0 : w24.cell? ⟨gb107, 0, none⟩ = some (.int .i64 0) := (blk_cell BK107.out 0).trans rfl; have hcz25_1 : w24.cell? ⟨gb107, 1, none⟩ = some (.int .i64 0) := (blk_cell BK107.out 1).trans rfl; have hcz25_2 : w24.cell? ⟨gb107, 2, none⟩ = some (.string (⟨#[]⟩ : ByteArray)) := (blk_cell BK107.out 2).trans rfl; have hcz25_3 : w24.cell? ⟨gb107, 3, none⟩ = some (.bool false) := (blk_cell BK107.out 3).trans rfl; have hfz25_0 := blk_frozen BK107.out 0; have hfz25_1 := blk_frozen BK107.out 1; have hfz25_2 := blk_frozen BK107.out 2; have hfz25_3 := blk_frozen BK107.out 3) | ((with_reducible refine gate_callee (f := 50) rfl ?_); refine goesL_ (some 16) rfl rfl Try.func50 (by kernel_rfl) rfl #[] rfl (by (try simp only [List.map_toArray, List.map_cons, List.map_nil]); first | done | rfl | (simp only [List.length_drop, List.length_take]; rfl)) ?_; (with_reducible refine (dactyllaw13_awake.calls  true _ A20.out).mono ?_); rintro e w26 ⟨rfl, hb⟩; refine ⟨_, rfl, ?_⟩; have n0_ := Aside0.mk (blk_below (g := gb107) (o := .cells #[.int .i64 t102, .int .i64 t103, .string t104, .bool t105] 71 (0, 0)) (by (with_reducible repeat (first | refine blk_drewN ?_ _ | refine blk_drew ?_ | refine blk_alloc ?_ _)); refine blk_put (cs := #[.int .i64 t102, .int .i64 t103, .string t104, .bool false]) ?_ 3 _ rfl; (with_reducible repeat (first | refine blk_drewN ?_ _ | refine blk_drew ?_ | refine blk_alloc ?_ _)); refine blk_put (cs := #[.int .i64 t102, .int .i64 t103, .string (⟨#[]⟩ : ByteArray), .bool false]) ?_ 2 _ rfl; (with_reducible repeat (first | refine blk_drewN ?_ _ | refine blk_drew ?_ | refine blk_alloc ?_ _)); refine blk_put (cs := #[.int .i64 t102, .int .i64 0, .string (⟨#[]⟩ : ByteArray), .bool false]) ?_ 1 _ rfl; (with_reducible repeat (first | refine blk_drewN ?_ _ | refine blk_drew ?_ | refine blk_alloc ?_ _)); refine blk_put (cs := #[.int .i64 0, .int .i64 0, .string (⟨#[]⟩ : ByteArray), .bool false]) ?_ 0 _ rfl; (with_reducible repeat (first | refine blk_drewN ?_ _ | refine blk_drew ?_ | refine blk_alloc ?_ _)); exact BK107.out) hb); have n1_ := Aside0.mk (below_step (by repeat (first | (with_reducible first | exact HB.out | apply below_alloc | apply pw_below_drewN | apply below_drew1 | refine below_set ?_ GE107.out) | exact HB.out)) hb); clear BK107; clear HB; have BK107 := n0_; have HB := n1_; clear n0_ n1_; (try clear hb); (try clear hb2); (try clear hk); (try clear hi); have hcz27_0 : w26.cell? ⟨gb107, 0, none⟩ = some (.int .i64 t102) := (blk_cell BK107.out 0).trans rfl; have hcz27_1 : w26.cell? ⟨gb107, 1, none⟩ = some (.int .i64 t103) := (blk_cell BK107.out 1).trans rfl; have hcz27_2 : w26.cell? ⟨gb107, 2, none⟩ = some (.string t104) := (blk_cell BK107.out 2).trans rfl; have hcz27_3 : w26.cell? ⟨gb107, 3, none⟩ = some (.bool t105) := (blk_cell BK107.out 3).trans rfl; have hfz27_0 := blk_frozen BK107.out 0; have hfz27_1 := blk_frozen BK107.out 1; have hfz27_2 := blk_frozen BK107.out 2; have hfz27_3 := blk_frozen BK107.out 3))
          go_ret
          exact ⟨by first | rfl | (simp [errW_none, errW_some] <;> rfl) | (simp [*, errW_none, errW_some] <;> rfl), by repeat (first | (with_reducible first | exact HB.out | apply below_alloc | apply pw_below_drewN | apply below_drew1 | refine below_set ?_ GE107.out) | exact HB.out)⟩
        · rw [if_neg c22] at H
          have c22b0 : (t106 == 6) = false := beq_eq_false_iff_ne.mpr c22
          have c22b1 : (t106 != 6) = true := bne_iff_ne.mpr c22
          obtain rfl := Option.some.inj H
          exact absurd HR_.out (by decide)
      · replace c21 := Bool.eq_false_iff.mpr c21
        subst c21
        have H1 : (some false) = some r := by rw [if_neg (show ¬ (false = true) by decide)] at H; exact H
        clear H
        have H := H1
        clear H1
        obtain rfl := Option.some.inj H
        exact absurd HR_.out (by decide)


end Go.Proofs.Ytemoocoedibbpaa.X

namespace Go.Proofs.Ytemoocoedibbpaa.X
open Go.RowKit Go.Proofs.YtemoocoedibbpaaW.PrintWords Go.Proofs.YtemoocoedibbpaaW.PrintLast Go.Proofs.YtemoocoedibbpaaW.PrintMore
attribute [local go_sem] max2_int min2_int max_two min_two max_three min_three max_four min_four
set_option linter.unusedVariables false
set_option linter.unusedSimpArgs false

/-- Whatever reads as a value of the type t is told by the kind d, with what W says of it. -/
def OpK (t : TypeId) {α : Type} (d : Kd α) (W : α → Prop) : Prop :=
  ∀ (H : Type) (enc : TypeId × Value → H) (w : World) (fuel : Nat) (cs : List Value) (x : DataW H × List MemPlace), DataW.trod enc Try.prog w 0 (fun _ => true) true fuel t cs = some x → ∃ y : α, d.K w y cs ∧ W y
theorem OpK.int {t : TypeId} {k : IntKind} (ht : Try.prog.underlying t = some (.int k)) : OpK t (Kd.int k) (fun x => (Lit.int k x).wf = true) := by
  intro H enc w fuel cs x h
  obtain ⟨n, rfl, rfl, hw⟩ := DataW.trod_int ht h
  exact ⟨n, rfl, hw⟩
theorem OpK.bool {t : TypeId} (ht : Try.prog.underlying t = some .bool) : OpK t Kd.bool (fun _ => True) := by
  intro H enc w fuel cs x h
  obtain ⟨n, rfl, rfl⟩ := DataW.trod_bool ht h
  exact ⟨n, rfl, trivial⟩
theorem OpK.string {t : TypeId} (ht : Try.prog.underlying t = some .string) : OpK t Kd.string (fun s => s.size ≤ maxLen) := by
  intro H enc w fuel cs x h
  obtain ⟨n, rfl, rfl, hw⟩ := DataW.trod_string ht h
  exact ⟨n, rfl, hw⟩
theorem opk_list {α : Type} {R : Nat → α → Prop} (n : Nat) (h : ∀ i, i < n → ∃ y, R i y) : ∃ ys : List α, ys.length = n ∧ ∀ i, (hi : i < ys.length) → R i ys[i] := by
  induction n with
  | zero => exact ⟨[], rfl, fun i hi => absurd hi (Nat.not_lt_zero _)⟩
  | succ n ih =>
    obtain ⟨ys, hl, hy⟩ := ih (fun i hi => h i (by omega))
    obtain ⟨y, hy'⟩ := h n (by omega)
    refine ⟨ys ++ [y], by simp [hl], fun i hi => ?_⟩
    by_cases e : i < ys.length
    · rw [List.getElem_append_left e]; exact hy i e
    · have : i = n := by simp at hi; omega
      subst this
      rw [List.getElem_append_right (by omega)]
      simpa [hl] using hy'
theorem OpK.slice {t e : TypeId} {α : Type} {d : Kd α} {W : α → Prop} (ht : Try.prog.underlying t = some (.slice e)) (hc : Try.prog.cellsOf e = d.sz) (he : OpK e d W) :
    OpK t (Kd.slice e d) (fun l => l.length ≤ maxLen ∧ ∀ x ∈ l, W x) := by
  intro H enc w fuel cs x h
  rcases Go.Deep.open_slice ht h with ⟨rfl, rfl⟩ | ⟨a, len, cap, m, n, D, Pl, rfl, hb, hl, hm, hmm, hx, hi⟩
  · exact ⟨[], ⟨none, 0, rfl, Nat.le_refl _, Kd.C_nil d w⟩, by simp, by simp⟩
  · have hmlen : len ≤ m := by rw [hmm]; simp; omega
    obtain ⟨ys, hlen, hy⟩ := opk_list (R := fun i (y : α) => ∃ c, c.length = d.sz ∧ d.K w y c ∧ (∀ j u, c[j]? = some u → w.cell? (a.add (i * d.sz + j)) = some u) ∧ W y) len (fun i hlt => by
      obtain ⟨cs', hcs, htr⟩ := hi i (by omega)
      obtain ⟨y, hk, hW⟩ := he H enc w n cs' _ htr
      obtain ⟨_, hcl, hat⟩ := World.cells?_some hcs
      refine ⟨y, cs', d.K_len hk, hk, fun j u hu => ?_, hW⟩
      have hj : j < cs'.length := (List.getElem?_eq_some_iff.1 hu).1
      have := hat j (by omega)
      rw [hc] at this
      rw [← Go.Deep.add_add, this, hu])
    subst hlen
    refine ⟨ys, ⟨some a, cap, rfl, hl, ⟨rfl, by unfold maxLen at hm; omega, fun _ => ⟨a, rfl, fun j p hp => ?_⟩⟩⟩, by omega, fun x hx => ?_⟩
    · obtain ⟨hj, rfl⟩ := List.getElem?_eq_some_iff.1 hp
      obtain ⟨c, h1, h2, h3, _⟩ := hy j hj
      exact ⟨c, h1, h2, h3⟩
    · obtain ⟨i, hi', rfl⟩ := List.mem_iff_getElem.1 hx
      obtain ⟨c, _, _, _, h4⟩ := hy i hi'
      exact h4
theorem struct_open {t : TypeId} {fs : Array Field} {H : Type} {enc : TypeId × Value → H} {w : World} {fuel : Nat} {cs : List Value} {x : DataW H × List MemPlace} (ht : Try.prog.underlying t = some (.struct fs)) (h : DataW.trod enc Try.prog w 0 (fun _ => true) true fuel t cs = some x) :
    cs.length = Try.prog.cellsOf t ∧ ∃ n, ∀ (i : Nat) (f : Field), fs[i]? = some f → ∃ z, DataW.trod enc Try.prog w 0 (fun _ => true) true n f.type ((cs.drop f.offset).take (Try.prog.cellsOf f.type)) = some z := by
  obtain ⟨xs, n, _, _, hcl, hlen, hg⟩ := DataW.trod_struct ht h
  refine ⟨hcl, n, fun i f hf => ?_⟩
  have hi : i < fs.size := (Array.getElem?_eq_some_iff.1 hf).1
  have := hg i f hf
  rw [List.getElem?_eq_getElem (by omega)] at this
  exact ⟨_, this⟩
theorem len_cons {α : Type} {l : List α} {n : Nat} (h : l.length = n + 1) : ∃ a m, l = a :: m ∧ m.length = n := by
  cases l with
  | nil => simp at h
  | cons a m => exact ⟨a, m, rfl, by simpa using h⟩

end Go.Proofs.Ytemoocoedibbpaa.X

namespace Go.Proofs.Ytemoocoedibbpaa.X
open Go.RowKit Go.Proofs.YtemoocoedibbpaaW.PrintWords Go.Proofs.YtemoocoedibbpaaW.PrintLast Go.Proofs.YtemoocoedibbpaaW.PrintMore
attribute [local go_sem] max2_int min2_int max_two min_two max_three min_three max_four min_four
set_option linter.unusedVariables false
set_option linter.unusedSimpArgs false

/-! #### struct type 71 -/
structure S71 where
  f0 : Int
  f1 : Int
  f2 : ByteArray
  f3 : Bool
def z71 : S71 := ⟨(0 : Int), (0 : Int), (⟨#[]⟩ : ByteArray), false⟩
def k71 : Kd S71 := Kd.iso (Kd.pair (Kd.int .i64) (Kd.pair (Kd.int .i64) (Kd.pair Kd.string Kd.bool))) (fun x : S71 => (x.f0, x.f1, x.f2, x.f3))
theorem k71_open {w : World} {x : S71} {cs : List Value} (h : k71.K w x cs) : cs = [.int .i64 x.f0, .int .i64 x.f1, .string x.f2, .bool x.f3] := by
  obtain ⟨_, _, rfl, rfl, ⟨_, _, rfl, rfl, ⟨_, _, rfl, rfl, rfl⟩⟩⟩ := h
  exact rfl
theorem k71_openM {w : World} {base : Nat} {ok : Nat → Prop} {x : S71} {cs : List Value} (h : k71.M w base ok x cs) : cs = [.int .i64 x.f0, .int .i64 x.f1, .string x.f2, .bool x.f3] := by
  obtain ⟨_, _, rfl, rfl, ⟨_, _, rfl, rfl, ⟨_, _, rfl, rfl, rfl⟩⟩⟩ := h
  exact rfl
theorem k71_mk (w : World) (x : S71)  : k71.K w x [.int .i64 x.f0, .int .i64 x.f1, .string x.f2, .bool x.f3] := ⟨[.int .i64 x.f0], [.int .i64 x.f1, .string x.f2, .bool x.f3], rfl, rfl, ⟨[.int .i64 x.f1], [.string x.f2, .bool x.f3], rfl, rfl, ⟨[.string x.f2], [.bool x.f3], rfl, rfl, rfl⟩⟩⟩
theorem k71_mkM (w : World) (base : Nat) (ok : Nat → Prop) (x : S71)  : k71.M w base ok x [.int .i64 x.f0, .int .i64 x.f1, .string x.f2, .bool x.f3] := ⟨[.int .i64 x.f0], [.int .i64 x.f1, .string x.f2, .bool x.f3], rfl, rfl, ⟨[.int .i64 x.f1], [.string x.f2, .bool x.f3], rfl, rfl, ⟨[.string x.f2], [.bool x.f3], rfl, rfl, rfl⟩⟩⟩
def rd_T71 (xs : List S71) (i : Int) : S71 := xs.getD i.toNat z71
theorem at_T71 {w : World} {A : Option Addr} {n : Nat} {xs : List S71} (h : Kd.C k71 w A n xs) (i : Int) (h0 : 0 ≤ i) (h1 : i < n) : ∃ ad , A = some ad ∧ w.cell? (ad.add (i.toNat * 4)) = some (.int .i64 (rd_T71 xs i).f0) ∧ w.cell? ⟨(ad.add (i.toNat * 4)).block, (ad.add (i.toNat * 4)).off + 1, none⟩ = some (.int .i64 (rd_T71 xs i).f1) ∧ w.cell? ⟨(ad.add (i.toNat * 4)).block, (ad.add (i.toNat * 4)).off + 2, none⟩ = some (.string (rd_T71 xs i).f2) ∧ w.cell? ⟨(ad.add (i.toNat * 4)).block, (ad.add (i.toNat * 4)).off + 3, none⟩ = some (.bool (rd_T71 xs i).f3) := by
  obtain ⟨ad, c, e, _, hK, hc0⟩ := Kd.C_get h z71 i h0 h1
  have hc : ∀ j u, c[j]? = some u → w.cell? (ad.add (i.toNat * 4 + j)) = some u := hc0
  obtain rfl := k71_open hK
  exact ⟨ad, e, hc 0 _ rfl, by rw [← add_field _ _ 1 (by omega)]; exact hc 1 _ rfl, by rw [← add_field _ _ 2 (by omega)]; exact hc 2 _ rfl, by rw [← add_field _ _ 3 (by omega)]; exact hc 3 _ rfl⟩


end Go.Proofs.Ytemoocoedibbpaa.X

namespace Go.Proofs.Ytemoocoedibbpaa.X
open Go.RowKit Go.Proofs.YtemoocoedibbpaaW.PrintWords Go.Proofs.YtemoocoedibbpaaW.PrintLast Go.Proofs.YtemoocoedibbpaaW.PrintMore
attribute [local go_sem] max2_int min2_int max_two min_two max_three min_three max_four min_four
set_option linter.unusedVariables false
set_option linter.unusedSimpArgs false

def W71 (x : S71) : Prop := (fun x => (Lit.int .i64 x).wf = true) x.f0 ∧ (fun x => (Lit.int .i64 x).wf = true) x.f1 ∧ (fun s => s.size ≤ maxLen) x.f2 ∧ (fun _ => True) x.f3
set_option maxRecDepth 100000 in
theorem opk_71 : OpK 71 k71 W71 := by
  intro H enc w fuel cs x h
  obtain ⟨hcl, n, hg⟩ := struct_open Try.underlying71 h
  have hC : Try.prog.cellsOf 71 = 4 := by kernel_rfl
  rw [hC] at hcl
  obtain ⟨c0_, t0_, rfl, h0_⟩ := len_cons hcl
  obtain ⟨c1_, t1_, rfl, h1_⟩ := len_cons h0_
  obtain ⟨c2_, t2_, rfl, h2_⟩ := len_cons h1_
  obtain ⟨c3_, t3_, rfl, h3_⟩ := len_cons h2_
  obtain rfl := List.eq_nil_of_length_eq_zero h3_
  obtain ⟨z0, g0⟩ := hg 0 _ rfl
  obtain ⟨y0, hy0, w0⟩ := (OpK.int Try.underlying3) H enc w n [c0_] z0 g0
  obtain ⟨z1, g1⟩ := hg 1 _ rfl
  obtain ⟨y1, hy1, w1⟩ := (OpK.int Try.underlying3) H enc w n [c1_] z1 g1
  obtain ⟨z2, g2⟩ := hg 2 _ rfl
  obtain ⟨y2, hy2, w2⟩ := (OpK.string Try.underlying9) H enc w n [c2_] z2 g2
  obtain ⟨z3, g3⟩ := hg 3 _ rfl
  obtain ⟨y3, hy3, w3⟩ := (OpK.bool Try.underlying4) H enc w n [c3_] z3 g3
  exact ⟨⟨y0, y1, y2, y3⟩, ⟨[c0_], [c1_, c2_, c3_], rfl, hy0, ⟨[c1_], [c2_, c3_], rfl, hy1, ⟨[c2_], [c3_], rfl, hy2, hy3⟩⟩⟩, ⟨w0, w1, w2, w3⟩⟩
end Go.Proofs.Ytemoocoedibbpaa.X

namespace Go.Proofs.Ytemoocoedibbpaa.X
open Go.RowKit Go.Proofs.YtemoocoedibbpaaW.PrintWords Go.Proofs.YtemoocoedibbpaaW.PrintLast Go.Proofs.YtemoocoedibbpaaW.PrintMore
attribute [local go_sem] max2_int min2_int max_two min_two max_three min_three max_four min_four
set_option linter.unusedVariables false
set_option linter.unusedSimpArgs false

def dactyllaw13_KeyParses.Pure : Prop := ∀ (a0 : ByteArray), (fun s => s.size ≤ maxLen) a0 → ∃ k, dactyllaw13_KeyParses.f k a0 = some true
end Go.Proofs.Ytemoocoedibbpaa.X

namespace Go.Proofs.Ytemoocoedibbpaa.X
open Go.RowKit Go.Proofs.YtemoocoedibbpaaW.PrintWords Go.Proofs.YtemoocoedibbpaaW.PrintLast Go.Proofs.YtemoocoedibbpaaW.PrintMore
attribute [local go_sem] max2_int min2_int max_two min_two max_three min_three max_four min_four
set_option linter.unusedVariables false
set_option linter.unusedSimpArgs false

/-! ### dactylref02_Bytes: function 91 -/
def dactylref02_Bytes.f (a0 : Int) : Option (ByteArray) := if a0 < 128 then (some (strOfNums (([(a0) % 256] : List Int)))) else (if a0 < 2048 then (some (strOfNums (([(wrap64 (192 + (wrap64 (Int.tdiv a0 64)))) % 256, (wrap64 (128 + (Int.tmod a0 64))) % 256] : List Int)))) else (if a0 < 65536 then (some (strOfNums (([(wrap64 (224 + (wrap64 (Int.tdiv a0 4096)))) % 256, (wrap64 (128 + (Int.tmod (wrap64 (Int.tdiv a0 64)) 64))) % 256, (wrap64 (128 + (Int.tmod a0 64))) % 256] : List Int)))) else (if a0 ≤ 1114111 then (some (strOfNums (([(wrap64 (240 + (wrap64 (Int.tdiv a0 262144)))) % 256, (wrap64 (128 + (Int.tmod (wrap64 (Int.tdiv a0 4096)) 64))) % 256, (wrap64 (128 + (Int.tmod (wrap64 (Int.tdiv a0 64)) 64))) % 256, (wrap64 (128 + (Int.tmod a0 64))) % 256] : List Int)))) else (some (strOfNums (([(wrap64 (a0 - 1114112)) % 256] : List Int)))))))
set_option maxHeartbeats 8000000 in
set_option maxRecDepth 100000 in
theorem dactylref02_Bytes.calls (a0 : Int) (r : ByteArray) (w : World) (h : dactylref02_Bytes.f a0 = some r) :
    Calls Try.prog 91 #[.int .i64 a0] w fun e w' => e = .returned (.string r) ∧ Below w.heap.size w w' := by
  have HB := Aside0.mk (Below.refl w.heap.size w)
  have H : (if a0 < 128 then (some (strOfNums (([(a0) % 256] : List Int)))) else (if a0 < 2048 then (some (strOfNums (([(wrap64 (192 + (wrap64 (Int.tdiv a0 64)))) % 256, (wrap64 (128 + (Int.tmod a0 64))) % 256] : List Int)))) else (if a0 < 65536 then (some (strOfNums (([(wrap64 (224 + (wrap64 (Int.tdiv a0 4096)))) % 256, (wrap64 (128 + (Int.tmod (wrap64 (Int.tdiv a0 64)) 64))) % 256, (wrap64 (128 + (Int.tmod a0 64))) % 256] : List Int)))) else (if a0 ≤ 1114111 then (some (strOfNums (([(wrap64 (240 + (wrap64 (Int.tdiv a0 262144)))) % 256, (wrap64 (128 + (Int.tmod (wrap64 (Int.tdiv a0 4096)) 64))) % 256, (wrap64 (128 + (Int.tmod (wrap64 (Int.tdiv a0 64)) 64))) % 256, (wrap64 (128 + (Int.tmod a0 64))) % 256] : List Int)))) else (some (strOfNums (([(wrap64 (a0 - 1114112)) % 256] : List Int)))))))) = some r := h
  clear h
  by_cases c2 : a0 < 128
  · rw [if_pos c2] at H
    have c2b0 : decide (a0 < 128) = true := decide_eq_true c2
    clear c2
    obtain ⟨y101, hy101⟩ : ∃ y_ : List Int, y_ = (([(a0) % 256] : List Int)) := ⟨_, rfl⟩
    replace H : (some (strOfNums y101)) = some r := by first | (rw [hy101]; with_reducible exact H) | (have H2_ := (Option.bind_some _ _).symm.trans H; rw [hy101]; with_reducible exact H2_) | (have H2_ := (Option.bind_some _ _).symm.trans H; with_reducible exact H2_) | with_reducible exact H | (rw [hy101]; exact H) | exact H
    have Ny101 := Aside0.mk hy101
    clear hy101
    obtain rfl := Option.some.inj H
    go_enter Try.func91, Try.ntmps91
    go_wp2_with (first | ((with_reducible refine gate_dst (N := 7) rfl ?_); refine Kd.R_lit (Kd.int .u8) _ 5 ?hg (N := 7) ?hd (xs := ([(a0) % 256] : List Int)) (inner := [.int .u8 ((a0) % 256)]) (ok := fun _ => True) (okp := fun _ => True) ?hr ?hp (fun _ hk => hk) trivial (Below.refl _ _) (Nat.le_refl _) (by simp) ?_; (case hd => rfl); (case hg => rfl); (case hr => first | (go_simp; done) | (go_simp; rfl)); (case hp => exact (Reps.one (show Kd.M (Kd.int .u8) _ _ _ ((a0) % 256) [.int .u8 ((a0) % 256)] from rfl) (Reps.none _ _))); intro v102 w3 ho4 hb hg_ hnew_; clear hg_ hnew_; (first | rw [← Ny101.out] at ho4 | (simp only [Int.reduceToNat] at ho4; rw [← Ny101.out] at ho4)); have n0_ := Aside0.mk (Kd.R_lower ho4 (below_size (by repeat (first | (with_reducible first | exact HB.out | apply below_alloc | apply pw_below_drewN | apply below_drew1) | exact HB.out)))); have n1_ := Aside0.mk (below_step (by repeat (first | (with_reducible first | exact HB.out | apply below_alloc | apply pw_below_drewN | apply below_drew1) | exact HB.out)) hb); clear HB; have HO103 := n0_; have HB := n1_; clear n0_ n1_; clear hb ho4; have hcv5 := own_string (P := Try.prog) Try.underlying108 Try.underlying5 Try.underlying9 (Kd.own_of_R HO103.out)))
    go_ret
    exact ⟨by first | rfl | (simp [errW_none, errW_some] <;> rfl) | (simp [*, errW_none, errW_some] <;> rfl), by repeat (first | (with_reducible first | exact HB.out | apply below_alloc | apply pw_below_drewN | apply below_drew1) | exact HB.out)⟩
  · rw [if_neg c2] at H
    have c2b0 : decide (a0 < 128) = false := decide_eq_false c2
    clear c2
    by_cases c6 : a0 < 2048
    · rw [if_pos c6] at H
      have c6b0 : decide (a0 < 2048) = true := decide_eq_true c6
      clear c6
      obtain ⟨y104, hy104⟩ : ∃ y_ : List Int, y_ = (([(wrap64 (192 + (wrap64 (Int.tdiv a0 64)))) % 256, (wrap64 (128 + (Int.tmod a0 64))) % 256] : List Int)) := ⟨_, rfl⟩
      replace H : (some (strOfNums y104)) = some r := by first | (rw [hy104]; with_reducible exact H) | (have H2_ := (Option.bind_some _ _).symm.trans H; rw [hy104]; with_reducible exact H2_) | (have H2_ := (Option.bind_some _ _).symm.trans H; with_reducible exact H2_) | with_reducible exact H | (rw [hy104]; exact H) | exact H
      have Ny104 := Aside0.mk hy104
      clear hy104
      obtain rfl := Option.some.inj H
      go_enter Try.func91, Try.ntmps91
      go_wp2_with (first | ((with_reducible refine gate_dst (N := 19) rfl ?_); refine Kd.R_lit (Kd.int .u8) _ 5 ?hg (N := 19) ?hd (xs := ([(wrap64 (192 + (wrap64 (Int.tdiv a0 64)))) % 256, (wrap64 (128 + (Int.tmod a0 64))) % 256] : List Int)) (inner := [.int .u8 ((wrap64 (192 + (wrap64 (Int.tdiv a0 64)))) % 256), .int .u8 ((wrap64 (128 + (Int.tmod a0 64))) % 256)]) (ok := fun _ => True) (okp := fun _ => True) ?hr ?hp (fun _ hk => hk) trivial (Below.refl _ _) (Nat.le_refl _) (by simp) ?_; (case hd => rfl); (case hg => rfl); (case hr => first | (go_simp; done) | (go_simp; rfl)); (case hp => exact (Reps.one (show Kd.M (Kd.int .u8) _ _ _ ((wrap64 (192 + (wrap64 (Int.tdiv a0 64)))) % 256) [.int .u8 ((wrap64 (192 + (wrap64 (Int.tdiv a0 64)))) % 256)] from rfl) (Reps.one (show Kd.M (Kd.int .u8) _ _ _ ((wrap64 (128 + (Int.tmod a0 64))) % 256) [.int .u8 ((wrap64 (128 + (Int.tmod a0 64))) % 256)] from rfl) (Reps.none _ _)))); intro v105 w7 ho8 hb hg_ hnew_; clear hg_ hnew_; (first | rw [← Ny104.out] at ho8 | (simp only [Int.reduceToNat] at ho8; rw [← Ny104.out] at ho8)); have n0_ := Aside0.mk (Kd.R_lower ho8 (below_size (by repeat (first | (with_reducible first | exact HB.out | apply below_alloc | apply pw_below_drewN | apply below_drew1) | exact HB.out)))); have n1_ := Aside0.mk (below_step (by repeat (first | (with_reducible first | exact HB.out | apply below_alloc | apply pw_below_drewN | apply below_drew1) | exact HB.out)) hb); clear HB; have HO106 := n0_; have HB := n1_; clear n0_ n1_; clear hb ho8; have hcv9 := own_string (P := Try.prog) Try.underlying108 Try.underlying5 Try.underlying9 (Kd.own_of_R HO106.out)))
      go_ret
      exact ⟨by first | rfl | (simp [errW_none, errW_some] <;> rfl) | (simp [*, errW_none, errW_some] <;> rfl), by repeat (first | (with_reducible first | exact HB.out | apply below_alloc | apply pw_below_drewN | apply below_drew1) | exact HB.out)⟩
    · rw [if_neg c6] at H
      have c6b0 : decide (a0 < 2048) = false := decide_eq_false c6
      clear c6
      by_cases c10 : a0 < 65536
      · rw [if_pos c10] at H
        have c10b0 : decide (a0 < 65536) = true := decide_eq_true c10
        clear c10
        obtain ⟨y107, hy107⟩ : ∃ y_ : List Int, y_ = (([(wrap64 (224 + (wrap64 (Int.tdiv a0 4096)))) % 256, (wrap64 (128 + (Int.tmod (wrap64 (Int.tdiv a0 64)) 64))) % 256, (wrap64 (128 + (Int.tmod a0 64))) % 256] : List Int)) := ⟨_, rfl⟩
        replace H : (some (strOfNums y107)) = some r := by first | (rw [hy107]; with_reducible exact H) | (have H2_ := (Option.bind_some _ _).symm.trans H; rw [hy107]; with_reducible exact H2_) | (have H2_ := (Option.bind_some _ _).symm.trans H; with_reducible exact H2_) | with_reducible exact H | (rw [hy107]; exact H) | exact H
        have Ny107 := Aside0.mk hy107
        clear hy107
        obtain rfl := Option.some.inj H
        go_enter Try.func91, Try.ntmps91
        go_wp2_with (first | ((with_reducible refine gate_dst (N := 36) rfl ?_); refine Kd.R_lit (Kd.int .u8) _ 5 ?hg (N := 36) ?hd (xs := ([(wrap64 (224 + (wrap64 (Int.tdiv a0 4096)))) % 256, (wrap64 (128 + (Int.tmod (wrap64 (Int.tdiv a0 64)) 64))) % 256, (wrap64 (128 + (Int.tmod a0 64))) % 256] : List Int)) (inner := [.int .u8 ((wrap64 (224 + (wrap64 (Int.tdiv a0 4096)))) % 256), .int .u8 ((wrap64 (128 + (Int.tmod (wrap64 (Int.tdiv a0 64)) 64))) % 256), .int .u8 ((wrap64 (128 + (Int.tmod a0 64))) % 256)]) (ok := fun _ => True) (okp := fun _ => True) ?hr ?hp (fun _ hk => hk) trivial (Below.refl _ _) (Nat.le_refl _) (by simp) ?_; (case hd => rfl); (case hg => rfl); (case hr => first | (go_simp; done) | (go_simp; rfl)); (case hp => exact (Reps.one (show Kd.M (Kd.int .u8) _ _ _ ((wrap64 (224 + (wrap64 (Int.tdiv a0 4096)))) % 256) [.int .u8 ((wrap64 (224 + (wrap64 (Int.tdiv a0 4096)))) % 256)] from rfl) (Reps.one (show Kd.M (Kd.int .u8) _ _ _ ((wrap64 (128 + (Int.tmod (wrap64 (Int.tdiv a0 64)) 64))) % 256) [.int .u8 ((wrap64 (128 + (Int.tmod (wrap64 (Int.tdiv a0 64)) 64))) % 256)] from rfl) (Reps.one (show Kd.M (Kd.int .u8) _ _ _ ((wrap64 (128 + (Int.tmod a0 64))) % 256) [.int .u8 ((wrap64 (128 + (Int.tmod a0 64))) % 256)] from rfl) (Reps.none _ _))))); intro v108 w11 ho12 hb hg_ hnew_; clear hg_ hnew_; (first | rw [← Ny107.out] at ho12 | (simp only [Int.reduceToNat] at ho12; rw [← Ny107.out] at ho12)); have n0_ := Aside0.mk (Kd.R_lower ho12 (below_size (by repeat (first | (with_reducible first | exact HB.out | apply below_alloc | apply pw_below_drewN | apply below_drew1) | exact HB.out)))); have n1_ := Aside0.mk (below_step (by repeat (first | (with_reducible first | exact HB.out | apply below_alloc | apply pw_below_drewN | apply below_drew1) | exact HB.out)) hb); clear HB; have HO109 := n0_; have HB := n1_; clear n0_ n1_; clear hb ho12; have hcv13 := own_string (P := Try.prog) Try.underlying108 Try.underlying5 Try.underlying9 (Kd.own_of_R HO109.out)))
        go_ret
        exact ⟨by first | rfl | (simp [errW_none, errW_some] <;> rfl) | (simp [*, errW_none, errW_some] <;> rfl), by repeat (first | (with_reducible first | exact HB.out | apply below_alloc | apply pw_below_drewN | apply below_drew1) | exact HB.out)⟩
      · rw [if_neg c10] at H
        have c10b0 : decide (a0 < 65536) = false := decide_eq_false c10
        clear c10
        by_cases c14 : a0 ≤ 1114111
        · rw [if_pos c14] at H
          have c14b0 : decide (a0 ≤ 1114111) = true := decide_eq_true c14
          clear c14
          obtain ⟨y110, hy110⟩ : ∃ y_ : List Int, y_ = (([(wrap64 (240 + (wrap64 (Int.tdiv a0 262144)))) % 256, (wrap64 (128 + (Int.tmod (wrap64 (Int.tdiv a0 4096)) 64))) % 256, (wrap64 (128 + (Int.tmod (wrap64 (Int.tdiv a0 64)) 64))) % 256, (wrap64 (128 + (Int.tmod a0 64))) % 256] : List Int)) := ⟨_, rfl⟩
          replace H : (some (strOfNums y110)) = some r := by first | (rw [hy110]; with_reducible exact H) | (have H2_ := (Option.bind_some _ _).symm.trans H; rw [hy110]; with_reducible exact H2_) | (have H2_ := (Option.bind_some _ _).symm.trans H; with_reducible exact H2_) | with_reducible exact H | (rw [hy110]; exact H) | exact H
          have Ny110 := Aside0.mk hy110
          clear hy110
          obtain rfl := Option.some.inj H
          go_enter Try.func91, Try.ntmps91
          go_wp2_with (first | ((with_reducible refine gate_dst (N := 58) rfl ?_); refine Kd.R_lit (Kd.int .u8) _ 5 ?hg (N := 58) ?hd (xs := ([(wrap64 (240 + (wrap64 (Int.tdiv a0 262144)))) % 256, (wrap64 (128 + (Int.tmod (wrap64 (Int.tdiv a0 4096)) 64))) % 256, (wrap64 (128 + (Int.tmod (wrap64 (Int.tdiv a0 64)) 64))) % 256, (wrap64 (128 + (Int.tmod a0 64))) % 256] : List Int)) (inner := [.int .u8 ((wrap64 (240 + (wrap64 (Int.tdiv a0 262144)))) % 256), .int .u8 ((wrap64 (128 + (Int.tmod (wrap64 (Int.tdiv a0 4096)) 64))) % 256), .int .u8 ((wrap64 (128 + (Int.tmod (wrap64 (Int.tdiv a0 64)) 64))) % 256), .int .u8 ((wrap64 (128 + (Int.tmod a0 64))) % 256)]) (ok := fun _ => True) (okp := fun _ => True) ?hr ?hp (fun _ hk => hk) trivial (Below.refl _ _) (Nat.le_refl _) (by simp) ?_; (case hd => rfl); (case hg => rfl); (case hr => first | (go_simp; done) | (go_simp; rfl)); (case hp => exact (Reps.one (show Kd.M (Kd.int .u8) _ _ _ ((wrap64 (240 + (wrap64 (Int.tdiv a0 262144)))) % 256) [.int .u8 ((wrap64 (240 + (wrap64 (Int.tdiv a0 262144)))) % 256)] from rfl) (Reps.one (show Kd.M (Kd.int .u8) _ _ _ ((wrap64 (128 + (Int.tmod (wrap64 (Int.tdiv a0 4096)) 64))) % 256) [.int .u8 ((wrap64 (128 + (Int.tmod (wrap64 (Int.tdiv a0 4096)) 64))) % 256)] from rfl) (Reps.one (show Kd.M (Kd.int .u8) _ _ _ ((wrap64 (128 + (Int.tmod (wrap64 (Int.tdiv a0 64)) 64))) % 256) [.int .u8 ((wrap64 (128 + (Int.tmod (wrap64 (Int.tdiv a0 64)) 64))) % 256)] from rfl) (Reps.one (show Kd.M (Kd.int .u8) _ _ _ ((wrap64 (128 + (Int.tmod a0 64))) % 256) [.int .u8 ((wrap64 (128 + (Int.tmod a0 64))) % 256)] from rfl) (Reps.none _ _)))))); intro v111 w15 ho16 hb hg_ hnew_; clear hg_ hnew_; (first | rw [← Ny110.out] at ho16 | (simp only [Int.reduceToNat] at ho16; rw [← Ny110.out] at ho16)); have n0_ := Aside0.mk (Kd.R_lower ho16 (below_size (by repeat (first | (with_reducible first | exact HB.out | apply below_alloc | apply pw_below_drewN | apply below_drew1) | exact HB.out)))); have n1_ := Aside0.mk (below_step (by repeat (first | (with_reducible first | exact HB.out | apply below_alloc | apply pw_below_drewN | apply below_drew1) | exact HB.out)) hb); clear HB; have HO112 := n0_; have HB := n1_; clear n0_ n1_; clear hb ho16; have hcv17 := own_string (P := Try.prog) Try.underlying108 Try.underlying5 Try.underlying9 (Kd.own_of_R HO112.out)))
          go_ret
          exact ⟨by first | rfl | (simp [errW_none, errW_some] <;> rfl) | (simp [*, errW_none, errW_some] <;> rfl), by repeat (first | (with_reducible first | exact HB.out | apply below_alloc | apply pw_below_drewN | apply below_drew1) | exact HB.out)⟩
        · rw [if_neg c14] at H
          have c14b0 : decide (a0 ≤ 1114111) = false := decide_eq_false c14
          clear c14
          obtain ⟨y113, hy113⟩ : ∃ y_ : List Int, y_ = (([(wrap64 (a0 - 1114112)) % 256] : List Int)) := ⟨_, rfl⟩
          replace H : (some (strOfNums y113)) = some r := by first | (rw [hy113]; with_reducible exact H) | (have H2_ := (Option.bind_some _ _).symm.trans H; rw [hy113]; with_reducible exact H2_) | (have H2_ := (Option.bind_some _ _).symm.trans H; with_reducible exact H2_) | with_reducible exact H | (rw [hy113]; exact H) | exact H
          have Ny113 := Aside0.mk hy113
          clear hy113
          obtain rfl := Option.some.inj H
          go_enter Try.func91, Try.ntmps91
          go_wp2_with (first | ((with_reducible refine gate_dst (N := 63) rfl ?_); refine Kd.R_lit (Kd.int .u8) _ 5 ?hg (N := 63) ?hd (xs := ([(wrap64 (a0 - 1114112)) % 256] : List Int)) (inner := [.int .u8 ((wrap64 (a0 - 1114112)) % 256)]) (ok := fun _ => True) (okp := fun _ => True) ?hr ?hp (fun _ hk => hk) trivial (Below.refl _ _) (Nat.le_refl _) (by simp) ?_; (case hd => rfl); (case hg => rfl); (case hr => first | (go_simp; done) | (go_simp; rfl)); (case hp => exact (Reps.one (show Kd.M (Kd.int .u8) _ _ _ ((wrap64 (a0 - 1114112)) % 256) [.int .u8 ((wrap64 (a0 - 1114112)) % 256)] from rfl) (Reps.none _ _))); intro v114 w18 ho19 hb hg_ hnew_; clear hg_ hnew_; (first | rw [← Ny113.out] at ho19 | (simp only [Int.reduceToNat] at ho19; rw [← Ny113.out] at ho19)); have n0_ := Aside0.mk (Kd.R_lower ho19 (below_size (by repeat (first | (with_reducible first | exact HB.out | apply below_alloc | apply pw_below_drewN | apply below_drew1) | exact HB.out)))); have n1_ := Aside0.mk (below_step (by repeat (first | (with_reducible first | exact HB.out | apply below_alloc | apply pw_below_drewN | apply below_drew1) | exact HB.out)) hb); clear HB; have HO115 := n0_; have HB := n1_; clear n0_ n1_; clear hb ho19; have hcv20 := own_string (P := Try.prog) Try.underlying108 Try.underlying5 Try.underlying9 (Kd.own_of_R HO115.out)))
          go_ret
          exact ⟨by first | rfl | (simp [errW_none, errW_some] <;> rfl) | (simp [*, errW_none, errW_some] <;> rfl), by repeat (first | (with_reducible first | exact HB.out | apply below_alloc | apply pw_below_drewN | apply below_drew1) | exact HB.out)⟩

end Go.Proofs.Ytemoocoedibbpaa.X

namespace Go.Proofs.Ytemoocoedibbpaa.X
open Go.RowKit Go.Proofs.YtemoocoedibbpaaW.PrintWords Go.Proofs.YtemoocoedibbpaaW.PrintLast Go.Proofs.YtemoocoedibbpaaW.PrintMore
attribute [local go_sem] max2_int min2_int max_two min_two max_three min_three max_four min_four
set_option linter.unusedVariables false
set_option linter.unusedSimpArgs false

theorem w64 {x : Int} (h0 : -9223372036854775808 ≤ x) (h1 : x ≤ 9223372036854775807) : wrap64 x = x := by unfold wrap64; omega
theorem Ev.all {α : Type} {g : Nat → Option α} {r : α} (K : Nat) (h : ∀ k, K ≤ k → g k = some r) : Ev g r := ⟨K, h⟩
theorem Ev.ite {α : Type} {c : Prop} [Decidable c] {g f : Nat → Option α} {r : α} (h1 : c → Ev g r) (h2 : ¬ c → Ev f r) : Ev (fun k => if c then g k else f k) r := by
  by_cases h : c
  · simp only [if_pos h]; exact h1 h
  · simp only [if_neg h]; exact h2 h
theorem Ev.bind1 {α β : Type} {a : α} {o : Option α} {f : Nat → α → Option β} {r : β} (h : o = some a) (k : Ev (fun n => f n a) r) : Ev (fun n => o.bind (f n)) r := by subst h; exact k
def rightB (v : Int) : Bool := decide (0 ≤ v ∧ v < 55296 ∨ 57343 < v ∧ v ≤ 1114111) || decide (1114240 ≤ v ∧ v ≤ 1114367)
theorem utf_point_f (v : Int) : utf_point.f v = some (decide (0 ≤ v ∧ v < 55296 ∨ 57343 < v ∧ v ≤ 1114111)) := by
  unfold utf_point.f
  by_cases h1 : v ≥ 0
  · rw [if_pos h1]
    by_cases h2 : v ≤ 1114111
    · rw [if_pos h2]
      by_cases h3 : v < 55296
      · rw [if_pos h3]; congr 1; exact (decide_eq_true (by omega)).symm
      · rw [if_neg h3]; congr 1; exact decide_eq_decide.mpr (by omega)
    · rw [if_neg h2]; congr 1; exact (decide_eq_false (by omega)).symm
  · rw [if_neg h1]; congr 1; exact (decide_eq_false (by omega)).symm
theorem utf_Right_f (v : Int) : utf_Right.f v = some (rightB v) := by
  unfold utf_Right.f
  rw [utf_point_f, Option.bind_some]
  unfold rightB
  by_cases h : (0 ≤ v ∧ v < 55296 ∨ 57343 < v ∧ v ≤ 1114111)
  · rw [decide_eq_true h]; simp
  · rw [decide_eq_false h]
    simp only [Bool.false_or, if_neg (show ¬ (false = true) by decide)]
    by_cases h2 : v ≥ 1114240
    · rw [if_pos h2]; congr 1; exact decide_eq_decide.mpr (by omega)
    · rw [if_neg h2]; congr 1; exact (decide_eq_false (by omega)).symm
theorem ref_Right_f (v : Int) : dactylref02_Right.f v = some (rightB v) := by
  unfold dactylref02_Right.f rightB
  repeat' split
  all_goals (congr 1; simp only [Bool.or_eq_true, decide_eq_true_eq, eq_comm (a := true), ← Bool.decide_or]; first | omega | (exact decide_eq_decide.mpr (by omega)) | (simp; omega))
/-- The bytes of a value, as numbers. -/
def encL (v : Int) : List Int := if v < 128 then [v] else if v < 2048 then [192 + v / 64, 128 + v % 64] else if v < 65536 then [224 + v / 4096, 128 + v / 64 % 64, 128 + v % 64] else if v ≤ 1114111 then [240 + v / 262144, 128 + v / 4096 % 64, 128 + v / 64 % 64, 128 + v % 64] else [v - 1114112]
theorem encL_len (v : Int) : 1 ≤ (encL v).length ∧ (encL v).length ≤ 4 := by unfold encL; (repeat' split) <;> simp
theorem rightB_iff (v : Int) : rightB v = true ↔ (0 ≤ v ∧ v < 55296 ∨ 57343 < v ∧ v ≤ 1114111) ∨ (1114240 ≤ v ∧ v ≤ 1114367) := by unfold rightB; simp only [Bool.or_eq_true, decide_eq_true_eq]
theorem ref_Bytes_f (v : Int) (h0 : 0 ≤ v) (h1 : v ≤ 1114367) : dactylref02_Bytes.f v = some (strOfNums (encL v)) := by
  have t : ∀ n : Int, Int.tdiv v n = v / n := fun n => Int.tdiv_eq_ediv_of_nonneg h0
  have m : ∀ n : Int, Int.tmod v n = v % n := fun n => Int.tmod_eq_emod_of_nonneg h0
  have e64 : wrap64 (v / 64) = v / 64 := by unfold wrap64; omega
  have e4096 : wrap64 (v / 4096) = v / 4096 := by unfold wrap64; omega
  have e26 : wrap64 (v / 262144) = v / 262144 := by unfold wrap64; omega
  have m64 : Int.tmod (v / 64) 64 = v / 64 % 64 := Int.tmod_eq_emod_of_nonneg (by omega)
  have m4096 : Int.tmod (v / 4096) 64 = v / 4096 % 64 := Int.tmod_eq_emod_of_nonneg (by omega)
  unfold dactylref02_Bytes.f encL
  rw [t, t, t, m, e64, e4096, e26, m64, m4096]
  by_cases c1 : v < 128
  · rw [if_pos c1, if_pos c1, show v % 256 = v by omega]
  · rw [if_neg c1, if_neg c1]
    by_cases c2 : v < 2048
    · rw [if_pos c2, if_pos c2, show wrap64 (192 + v / 64) % 256 = 192 + v / 64 by unfold wrap64; omega, show wrap64 (128 + v % 64) % 256 = 128 + v % 64 by unfold wrap64; omega]
    · rw [if_neg c2, if_neg c2]
      by_cases c3 : v < 65536
      · rw [if_pos c3, if_pos c3, show wrap64 (224 + v / 4096) % 256 = 224 + v / 4096 by unfold wrap64; omega, show wrap64 (128 + v / 64 % 64) % 256 = 128 + v / 64 % 64 by unfold wrap64; omega, show wrap64 (128 + v % 64) % 256 = 128 + v % 64 by unfold wrap64; omega]
      · rw [if_neg c3, if_neg c3]
        by_cases c4 : v ≤ 1114111
        · rw [if_pos c4, if_pos c4, show wrap64 (240 + v / 262144) % 256 = 240 + v / 262144 by unfold wrap64; omega, show wrap64 (128 + v / 4096 % 64) % 256 = 128 + v / 4096 % 64 by unfold wrap64; omega, show wrap64 (128 + v / 64 % 64) % 256 = 128 + v / 64 % 64 by unfold wrap64; omega, show wrap64 (128 + v % 64) % 256 = 128 + v % 64 by unfold wrap64; omega]
        · rw [if_neg c4, if_neg c4, show wrap64 (v - 1114112) % 256 = v - 1114112 by unfold wrap64; omega]
theorem AppendRune_f (l : List Int) (v : Int) (h : 0 ≤ v ∧ v < 55296 ∨ 57343 < v ∧ v ≤ 1114111) (hl : l.length + 4 < 140737488355328) (k : Nat) (hk : 1 ≤ k) : utf8_AppendRune.f k l v = some (l ++ encL v) := by
  obtain ⟨k, rfl⟩ : ∃ m, k = m + 1 := ⟨k - 1, by omega⟩
  have e : v % 4294967296 = v := by omega
  unfold utf8_AppendRune.f utf8_appendRuneNonASCII.f encL
  simp only [utf8_appendRuneNonASCII.j0, e]
  by_cases c1 : v ≤ 127
  · rw [if_pos c1, if_pos (by omega), if_pos (show v < 128 by omega), show v % 256 = v by omega]
  · rw [if_neg c1, if_neg (show ¬ v < 128 by omega)]
    by_cases c2 : v ≤ 2047
    · rw [if_pos c2, if_pos (show v < 2048 by omega), show v / 64 % 256 = v / 64 by omega, u8_or192 _ (by omega) (by omega)]
      simp only [Option.bind_some, List.length_cons, List.length_nil]
      rw [if_pos (by omega)]; rfl
    · rw [if_neg c2, if_neg (show ¬ v < 2048 by omega)]
      have three : ∀ b : Bool, b = true → v < 65536 → ((if b = true then ((some (([Go.bits .or .u8 224 ((v / 4096) % 256), 128 + ((v / 64) % 64), 128 + (v % 64)] : List Int) : List Int)).bind fun y107 => (if l.length + y107.length < 140737488355328 then (some (l ++ y107)) else (none))) else none : Option (List Int)).bind fun t => some t) = some (l ++ [224 + v / 4096, 128 + v / 64 % 64, 128 + v % 64]) := by
        intro b hb hv
        subst hb
        rw [if_pos rfl, show v / 4096 % 256 = v / 4096 by omega, u8_or224 _ (by omega) (by omega)]
        simp only [Option.bind_some, List.length_cons, List.length_nil]
        rw [if_pos (by omega)]; rfl
      by_cases c3 : v < 55296
      · have := three true rfl (by omega)
        rw [if_pos rfl] at this
        rw [if_pos c3, decide_eq_true c3, if_pos rfl, if_pos (show v < 65536 by omega)]
        exact this
      · rw [if_neg c3, if_pos (show 57343 < v by omega)]
        by_cases c4 : v ≤ 65535
        · have := three true rfl (by omega)
          rw [if_pos rfl] at this
          rw [decide_eq_true c4, if_pos rfl, if_pos (show v < 65536 by omega)]
          exact this
        · rw [decide_eq_false c4, if_neg (show ¬ (false = true) by decide), if_pos (show v > 65535 by omega), if_pos (show v ≤ 1114111 by omega), if_neg (show ¬ v < 65536 by omega), if_pos (show v ≤ 1114111 by omega), show v / 262144 % 256 = v / 262144 by omega, u8_or240 _ (by omega) (by omega)]
          simp only [Option.bind_some, List.length_cons, List.length_nil]
          rw [if_pos (by omega)]; rfl
/-- The bytes of values, those that may not be left out. -/
def encAll (l : List Int) : List Int := l.flatMap fun v => if rightB v = true then encL v else []
theorem encAll_len (l : List Int) : (encAll l).length ≤ 4 * l.length := by
  induction l with
  | nil => simp [encAll]
  | cons v l ih =>
    have := (encL_len v).2
    simp only [encAll, List.flatMap_cons, List.length_append, List.length_cons] at ih ⊢
    split <;> simp at * <;> omega
theorem encAll_append (a b : List Int) : encAll (a ++ b) = encAll a ++ encAll b := by simp [encAll]
theorem encAll_cons (v : Int) (l : List Int) : encAll (v :: l) = (if rightB v = true then encL v else []) ++ encAll l := by simp [encAll]
theorem encAll_nil : encAll [] = [] := rfl
theorem Encode_l0 (l : List Int) (hl : 4 * l.length < 140737488350000) : ∀ (d k i : Nat) (acc : List Int), d + i = l.length → d + 1 < k → acc = encAll (l.take i) → utf_Encode.l0 k acc l (l.length : Int) (i : Int) = some (strOfNums (acc ++ encAll (l.drop i))) := by
  intro d
  induction d with
  | zero =>
    intro k i acc h1 h2 ha
    obtain ⟨k, rfl⟩ : ∃ m, k = m + 1 := ⟨k - 1, by omega⟩
    simp only [utf_Encode.l0]
    rw [if_neg (by omega), List.drop_of_length_le (by omega)]
    simp [encAll]
  | succ d ih =>
    intro k i acc h1 h2 ha
    obtain ⟨k, rfl⟩ : ∃ m, k = m + 1 := ⟨k - 1, by omega⟩
    have e1 : wrap64 ((i : Int) + 1) = ((i + 1 : Nat) : Int) := by rw [w64 (by omega) (by omega)]; omega
    have ed : l.drop i = l[i] :: l.drop (i + 1) := by rw [List.drop_eq_getElem_cons (by omega)]
    have et : l.take (i + 1) = l.take i ++ [l[i]] := by rw [List.take_succ_eq_append_getElem (by omega)]
    have r0 : rd l (i : Int) = l[i] := by simp [rd, List.getD, show i < l.length by omega]
    have hal : acc.length ≤ 4 * i := by rw [ha]; have := encAll_len (l.take i); rw [List.length_take] at this; omega
    have step : ∀ acc', acc' = encAll (l.take (i + 1)) → utf_Encode.l0 k acc' l (l.length : Int) ((i + 1 : Nat) : Int) = some (strOfNums (acc' ++ encAll (l.drop (i + 1)))) := fun acc' h => ih k (i + 1) acc' (by omega) (by omega) h
    simp only [utf_Encode.l0]
    rw [if_pos (by omega), if_pos (by omega), if_pos (by omega), r0, utf_point_f, Option.bind_some, e1]
    by_cases c1 : (0 ≤ l[i] ∧ l[i] < 55296 ∨ 57343 < l[i] ∧ l[i] ≤ 1114111)
    · have hr : rightB l[i] = true := (rightB_iff _).2 (.inl c1)
      have ha' : acc ++ encL l[i] = encAll (l.take (i + 1)) := by rw [et, ha, encAll_append, encAll_cons, if_pos hr, encAll_nil, List.append_nil]
      rw [decide_eq_true c1, if_pos rfl, show wrap32 l[i] = l[i] by unfold wrap32; omega, AppendRune_f acc l[i] c1 (by omega) k (by omega), Option.bind_some, step _ ha', ed, encAll_cons, if_pos hr, List.append_assoc]
    · rw [decide_eq_false c1, if_neg (show ¬ (false = true) by decide), utf_Right_f, Option.bind_some]
      by_cases c2 : rightB l[i] = true
      · have hv := (rightB_iff _).1 c2
        have he : encL l[i] = [l[i] - 1114112] := by unfold encL; rw [if_neg (by omega), if_neg (by omega), if_neg (by omega), if_neg (by omega)]
        have ha' : acc ++ [l[i] - 1114112] = encAll (l.take (i + 1)) := by rw [et, ha, ← he, encAll_append, encAll_cons, if_pos c2, encAll_nil, List.append_nil]
        rw [if_pos c2, if_pos (by omega), show wrap64 (l[i] - 1114112) % 256 = l[i] - 1114112 by unfold wrap64; omega, step _ ha', ed, encAll_cons, if_pos c2, he, List.append_assoc]
      · have ha' : acc = encAll (l.take (i + 1)) := by rw [et, ha, encAll_append, encAll_cons, if_neg c2, encAll_nil, List.append_nil, List.append_nil]
        rw [if_neg c2, step _ ha', ed, encAll_cons, if_neg c2, List.nil_append]
theorem utf_Encode_f (l : List Int) (hl : 4 * l.length < 140737488350000) (k : Nat) (hk : l.length + 1 < k) : utf_Encode.f k l = some (strOfNums (encAll l)) := by
  have := Encode_l0 l hl l.length k 0 [] (by omega) hk (by simp [encAll])
  simpa [utf_Encode.f] using this
/-! ### hex digits -/
def digB (x : Int) : ByteArray := digitsB.extract x.toNat (x + 1).toNat
theorem digB_size (x : Int) (h0 : 0 ≤ x) (h1 : x < 16) : (digB x).size = 1 := digit_size x h0 h1
theorem ba_assoc (a b c : ByteArray) : a ++ b ++ c = a ++ (b ++ c) := ByteArray.append_assoc
theorem e0size : (⟨#[]⟩ : ByteArray).size = 0 := rfl
theorem laid_acc (g : Nat) : ∀ (least u : Int) (s : ByteArray), 0 ≤ u → laidF g 16 least u s = laidF g 16 (least - s.size) u ⟨#[]⟩ ++ s := by
  induction g with
  | zero => intro least u s _; exact (ByteArray.empty_append (b := s)).symm
  | succ g ih =>
    intro least u s h0
    have hd := digB_size (u % 16) (by omega) (by omega)
    have hd' : digB (u % 16) = digitsB.extract (u % 16).toNat (u % 16 + 1).toNat := rfl
    simp only [laidF, ← hd', e0size]
    by_cases c : u > 0 ∨ (s.size : Int) < least
    · rw [if_pos c, if_pos (show u > 0 ∨ ((0 : Nat) : Int) < least - s.size by omega), ih least (u / 16) _ (by omega), ih (least - s.size) (u / 16) (digB (u % 16) ++ ⟨#[]⟩) (by omega)]
      rw [ByteArray.size_append, ByteArray.size_append, hd, e0size, ba_assoc, show digB (u % 16) ++ (⟨#[]⟩ : ByteArray) = digB (u % 16) from ByteArray.append_empty, show least - ((1 + s.size : Nat) : Int) = least - (s.size : Int) - ((1 + 0 : Nat) : Int) by omega]
    · rw [if_neg c, if_neg (show ¬ (u > 0 ∨ ((0 : Nat) : Int) < least - s.size) by omega)]
      exact (ByteArray.empty_append (b := s)).symm
theorem laid_size (g : Nat) : ∀ (least u : Int) (s : ByteArray), 0 ≤ u → (laidF g 16 least u s).size ≤ s.size + g := by
  induction g with
  | zero => intro least u s _; simp [laidF]
  | succ g ih =>
    intro least u s h0
    have hd := digB_size (u % 16) (by omega) (by omega)
    have hd' : digB (u % 16) = digitsB.extract (u % 16).toNat (u % 16 + 1).toNat := rfl
    simp only [laidF, ← hd']
    split
    · have := ih least (u / 16) (digB (u % 16) ++ s) (by omega)
      rw [ByteArray.size_append, hd] at this
      omega
    · omega
theorem laid_step (g : Nat) (least u : Int) (h0 : 0 ≤ u) (h : u > 0 ∨ 0 < least) : laidF (g + 1) 16 least u ⟨#[]⟩ = laidF g 16 (least - 1) (u / 16) ⟨#[]⟩ ++ digB (u % 16) := by
  have hd := digB_size (u % 16) (by omega) (by omega)
  have hd' : digB (u % 16) = digitsB.extract (u % 16).toNat (u % 16 + 1).toNat := rfl
  simp only [laidF, ← hd', e0size]
  rw [if_pos (show u > 0 ∨ ((0 : Nat) : Int) < least by omega), laid_acc g least (u / 16) _ (by omega), show digB (u % 16) ++ (⟨#[]⟩ : ByteArray) = digB (u % 16) from ByteArray.append_empty, hd]
  rfl
theorem laid_nil (g : Nat) (least : Int) (h : least ≤ 0) : laidF g 16 least 0 ⟨#[]⟩ = ⟨#[]⟩ := by
  cases g with
  | zero => rfl
  | succ g => simp only [laidF, e0size]; rw [if_neg (show ¬ ((0 : Int) > 0 ∨ ((0 : Nat) : Int) < least) by omega)]
theorem laid_01 (g : Nat) (u : Int) (h : 0 < u) : laidF g 16 0 u ⟨#[]⟩ = laidF g 16 1 u ⟨#[]⟩ := by
  cases g with
  | zero => rfl
  | succ g =>
    rw [laid_step g 0 u (by omega) (.inl h), laid_step g 1 u (by omega) (.inl h)]
    congr 1
    by_cases c : u / 16 = 0
    · rw [c, laid_nil g _ (by omega), laid_nil g _ (by omega)]
    · -- more digits: the least number counts no more
      have : ∀ (g : Nat) (a b v : Int), a ≤ 0 → b ≤ 0 → 0 ≤ v → laidF g 16 a v ⟨#[]⟩ = laidF g 16 b v ⟨#[]⟩ := by
        intro g
        induction g with
        | zero => intro a b v _ _ _; rfl
        | succ g ih =>
          intro a b v ha hb hv
          by_cases hz : v = 0
          · rw [hz, laid_nil _ _ ha, laid_nil _ _ hb]
          · rw [laid_step g a v hv (by omega), laid_step g b v hv (by omega), ih (a - 1) (b - 1) (v / 16) (by omega) (by omega) (by omega)]
      exact this g _ _ _ (by omega) (by omega) (by omega)
theorem Digit_f (x : Int) (h0 : 0 ≤ x) (h1 : x < 16) : dactylref01_Digit.f x = some (digB x) := by
  unfold dactylref01_Digit.f
  rw [show wrap64 (x + 1) = x + 1 by unfold wrap64; omega, if_pos h0, if_pos (by omega), if_pos (by omega)]
  rfl
/-- The reference's hex digits are the program's. -/
theorem ref_Hex_f : ∀ (g : Nat), g ≤ 16 → ∀ (k : Nat) (n least : Int), 0 ≤ n → n < 16 ^ g → least ≤ g → (g : Int) - 100 ≤ least → n ≤ 9223372036854775807 → 1 ≤ g → 2 * g ≤ k → dactylref01_Hex.f k n least = some (laidF g 16 (max least 1) n ⟨#[]⟩) := by
  intro g
  induction g with
  | zero => intro _ k n least _ _ _ _ _ h _; omega
  | succ g ih =>
    intro hg k n least h0 h1 h2 h2' h3 _ hk
    obtain ⟨k, rfl⟩ : ∃ m, k = m + 2 := ⟨k - 2, by omega⟩
    by_cases c : n < 16 ∧ least ≤ 1
    · simp only [dactylref01_Hex.f, dactylref01_Hex.j0]
      rw [if_pos c.1, decide_eq_true c.2, if_pos rfl, Digit_f n h0 c.1, Option.bind_some, show max least 1 = 1 by omega, laid_step g 1 n h0 (.inr (by omega)), show n / 16 = 0 by omega, show n % 16 = n by omega, laid_nil _ _ (by omega)]
      rfl
    · have hj : dactylref01_Hex.f (k + 2) n least = dactylref01_Hex.j0 (k + 1) n least false := by
        simp only [dactylref01_Hex.f]
        by_cases c1 : n < 16
        · rw [if_pos c1, decide_eq_false (show ¬ least ≤ 1 by omega)]
        · rw [if_neg c1]
      rw [hj]
      simp only [dactylref01_Hex.j0]
      rw [if_neg (show ¬ (false = true) by decide), Int.tdiv_eq_ediv_of_nonneg h0, Int.tmod_eq_emod_of_nonneg h0, show wrap64 (n / 16) = n / 16 by unfold wrap64; omega, show wrap64 (least - 1) = least - 1 by unfold wrap64; omega]
      rw [Int.pow_succ] at h1
      have hlt : n / 16 < 16 ^ g := Int.ediv_lt_of_lt_mul (by decide) h1
      have hg1 : 1 ≤ g := by
        rcases Nat.eq_zero_or_pos g with hz | hz
        · subst hz; simp at h1; omega
        · exact hz
      rw [ih (by omega) k (n / 16) (least - 1) (by omega) hlt (by omega) (by omega) (by omega) hg1 (by omega), Option.bind_some, Digit_f (n % 16) (by omega) (by omega), Option.bind_some]
      have hs := laid_size g (max (least - 1) 1) (n / 16) ⟨#[]⟩ (by omega)
      have hd := digB_size (n % 16) (by omega) (by omega)
      rw [e0size] at hs
      rw [if_pos (show (laidF g 16 (max (least - 1) 1) (n / 16) ⟨#[]⟩).size + (digB (n % 16)).size ≤ 9223372036854775807 by omega), laid_step g (max least 1) n h0 (.inr (by omega))]
      congr 2
      by_cases c2 : 2 ≤ least
      · rw [show max (least - 1) 1 = max least 1 - 1 by omega]
      · rw [show max (least - 1) 1 = 1 by omega, show max least 1 - 1 = 0 by omega]
        exact (laid_01 g (n / 16) (by omega)).symm
theorem laid_more (g : Nat) : ∀ (d : Nat) (least u : Int), 0 ≤ u → u < 16 ^ g → least ≤ g → laidF (g + d) 16 least u ⟨#[]⟩ = laidF g 16 least u ⟨#[]⟩ := by
  induction g with
  | zero =>
    intro d least u h0 h1 h2
    simp at h1 h2
    rw [show u = 0 by omega, laid_nil _ _ h2, laid_nil _ _ h2]
  | succ g ih =>
    intro d least u h0 h1 h2
    by_cases c : u > 0 ∨ 0 < least
    · rw [Int.pow_succ] at h1
      rw [show g + 1 + d = (g + d) + 1 by omega, laid_step _ least u h0 c, laid_step _ least u h0 c, ih d _ _ (by omega) (Int.ediv_lt_of_lt_mul (by decide) h1) (by omega)]
    · rw [show u = 0 by omega, laid_nil _ _ (by omega), laid_nil _ _ (by omega)]
theorem num_Hex_f (n least : Int) (h0 : 0 ≤ n) (h1 : n ≤ 9223372036854775807) (h2 : 1 ≤ least) (h3 : least ≤ 16) : num_Hex.f n least = some (laidF 16 16 least n ⟨#[]⟩) := by
  unfold num_Hex.f
  rw [if_neg (by omega), show mn (mx least 1) 16 = least by unfold mn mx; split <;> split <;> omega, IntWalk.u64_in _ (by omega)]
theorem ref_Hex (n least : Int) (h0 : 0 ≤ n) (h1 : n ≤ 9223372036854775807) (h2 : 1 ≤ least) (h3 : least ≤ 16) (k : Nat) (hk : 32 ≤ k) : dactylref01_Hex.f k n least = some (laidF 16 16 least n ⟨#[]⟩) := by
  rw [ref_Hex_f 16 (by omega) k n least h0 (by omega) (by omega) (by omega) h1 (by omega) (by omega), show max least 1 = least by omega]
/-! ### shown texts -/
theorem strOfNums_size (l : List Int) : (strOfNums l).size = l.length := by simp [strOfNums, ByteArray.size]
theorem Encode_one (v : Int) (h : rightB v = true) (k : Nat) (hk : 3 ≤ k) : utf_Encode.f k [v] = some (strOfNums (encL v)) := by
  rw [utf_Encode_f [v] (by simp) k (by simp; omega), encAll_cons, if_pos h, encAll_nil, List.append_nil]
theorem str_append (a b : List Int) : strOfNums (a ++ b) = strOfNums a ++ strOfNums b := by
  apply ByteArray.ext
  rw [ByteArray.data_append]
  simp [strOfNums]
def digV (x : Int) : Int := if x < 10 then x + 48 else x + 55
theorem digB_list (x : Int) (h0 : 0 ≤ x) (h1 : x < 16) : digB x = strOfNums [digV x] := by
  obtain ⟨n, rfl⟩ : ∃ n : Nat, x = n := ⟨x.toNat, by omega⟩
  have hn : n < 16 := by omega
  have : ∀ n : Nat, n < 16 → (digB (n : Int)).data.toList = (strOfNums [digV (n : Int)]).data.toList := by decide +kernel
  apply ByteArray.ext
  exact Array.toList_inj.1 (this n hn)
def hexL : Nat → Int → Int → List Int
  | 0, _, _ => []
  | g + 1, least, u => if u > 0 ∨ 0 < least then hexL g (least - 1) (u / 16) ++ [digV (u % 16)] else []
theorem laid_list (g : Nat) : ∀ (least u : Int), 0 ≤ u → laidF g 16 least u ⟨#[]⟩ = strOfNums (hexL g least u) := by
  induction g with
  | zero => intro least u _; rfl
  | succ g ih =>
    intro least u h0
    unfold hexL
    by_cases c : u > 0 ∨ 0 < least
    · rw [if_pos c, laid_step g least u h0 c, ih _ _ (by omega), digB_list _ (by omega) (by omega), str_append]
    · rw [if_neg c, show u = 0 by omega, laid_nil _ _ (by omega)]
      rfl
theorem hexL_bytes (g : Nat) : ∀ (least u : Int), 0 ≤ u → ∀ x ∈ hexL g least u, (48 ≤ x ∧ x ≤ 57) ∨ (65 ≤ x ∧ x ≤ 70) := by
  induction g with
  | zero => intro least u _ x hx; simp [hexL] at hx
  | succ g ih =>
    intro least u h0 x hx
    unfold hexL at hx
    split at hx
    · rw [List.mem_append] at hx
      rcases hx with h | h
      · exact ih _ _ (by omega) x h
      · rw [List.mem_singleton] at h
        subst h
        unfold digV
        split <;> omega
    · simp at hx
def unV (x : Int) : Int := if x < 58 then x - 48 else x - 55
def unhexL (l : List Int) : Int := l.foldl (fun a x => 16 * a + unV x) 0
theorem unhex_hex (g : Nat) : ∀ (least u : Int), 0 ≤ u → u < 16 ^ g → unhexL (hexL g least u) = u := by
  induction g with
  | zero => intro least u h0 h1; simp at h1; simp [hexL, unhexL]; omega
  | succ g ih =>
    intro least u h0 h1
    unfold hexL
    split
    · have h2 : u / 16 < 16 ^ g := by rw [Int.pow_succ] at h1; omega
      have := ih (least - 1) (u / 16) (by omega) h2
      unfold unhexL at this ⊢
      rw [List.foldl_append, this]
      have : unV (digV (u % 16)) = u % 16 := by unfold unV digV; (repeat' split) <;> omega
      simp only [List.foldl_cons, List.foldl_nil, this]
      omega
    · simp [unhexL]; omega
theorem bt_str (l : List Int) (i : Nat) (hi : i < l.length) (h : ∀ x ∈ l, 0 ≤ x ∧ x ≤ 255) : bt (strOfNums l) (i : Int) = l[i] := by
  have hx := h _ (List.getElem_mem hi)
  unfold bt
  rw [dif_pos (by rw [strOfNums_size]; simpa using hi)]
  show (((strOfNums l).data[i]'(by simpa [strOfNums] using hi)).toNat : Int) = l[i]
  simp only [strOfNums]
  rw [List.getElem_toArray, List.getElem_map, UInt8.toNat_ofNat']
  omega

end Go.Proofs.Ytemoocoedibbpaa.X

namespace Go.Proofs.Ytemoocoedibbpaa.X
open Go.RowKit Go.Proofs.YtemoocoedibbpaaW.PrintWords Go.Proofs.YtemoocoedibbpaaW.PrintLast Go.Proofs.YtemoocoedibbpaaW.PrintMore
attribute [local go_sem] max2_int min2_int max_two min_two max_three min_three max_four min_four
set_option linter.unusedVariables false
set_option linter.unusedSimpArgs false

/-- A text out of its bytes. -/
def BA (l : List UInt8) : ByteArray := ⟨l.toArray⟩
theorem BA_data (s : ByteArray) : BA s.data.toList = s := Go.Lib.mk_data s
theorem BA_toList (l : List UInt8) : (BA l).toList = l := by rw [Go.Lib.toList_data]; rfl
theorem BA_size (l : List UInt8) : (BA l).size = l.length := by simp [BA, ByteArray.size]
theorem BA_inj {a b : List UInt8} (h : BA a = BA b) : a = b := by rw [← BA_toList a, h, BA_toList]
theorem BA_append (a b : List UInt8) : BA a ++ BA b = BA (a ++ b) := by
  apply ByteArray.ext
  rw [ByteArray.data_append]
  simp [BA]
theorem toList_inj {a b : ByteArray} (h : a.toList = b.toList) : a = b := by
  rw [Go.Lib.toList_data, Go.Lib.toList_data] at h
  rw [← BA_data a, ← BA_data b, h]
theorem BA_extract (l : List UInt8) (a b : Nat) : (BA l).extract a b = BA ((l.drop a).take (b - a)) := by rw [Go.Lib.extract_eq]; rfl
theorem bt_BA (l : List UInt8) (i : Nat) (h : i < l.length) : bt (BA l) (i : Int) = (l[i].toNat : Int) := by
  unfold bt
  rw [dif_pos (by rw [BA_size]; simpa using h)]
  rfl
theorem HasPrefix_f (s p : List UInt8) : stringslite_HasPrefix.f (BA s) (BA p) = some (p.isPrefixOf s) := by
  have h := Go.Lib.hasPrefix_of_take s p
  unfold Go.Lib.hasPrefix at h
  unfold stringslite_HasPrefix.f
  rw [BA_size, BA_size]
  by_cases c : (s.length : Int) ≥ p.length
  · rw [if_pos c, if_pos (by omega), if_pos (by omega), BA_extract, BA_toList, BA_toList, ← h, decide_eq_true (show p.length ≤ s.length by omega), Bool.true_and, List.drop_zero, Int.toNat_natCast, Nat.sub_zero]
  · rw [if_neg c, ← h, decide_eq_false (show ¬ p.length ≤ s.length by omega), Bool.false_and]
theorem CutPrefix_f (s p : List UInt8) : strings_CutPrefix.f (BA s) (BA p) = some (if p.isPrefixOf s = true then (BA (s.drop p.length), true) else (BA s, false)) := by
  unfold strings_CutPrefix.f stringslite_CutPrefix.f
  rw [HasPrefix_f, Option.bind_some]
  cases h : p.isPrefixOf s
  · rfl
  · have := (List.isPrefixOf_iff_prefix.1 h).length_le
    rw [if_pos rfl, if_pos rfl, BA_size, BA_size, if_pos (by omega), if_pos (by omega), BA_extract, Option.bind_some, Int.toNat_natCast, List.take_of_length_le (by rw [List.length_drop]; omega)]
theorem HasSuffix_f (s p : List UInt8) (hs : s.length ≤ 4611686018427387904) (hp : p.length ≤ 4611686018427387904) : stringslite_HasSuffix.f (BA s) (BA p) = some (p.isSuffixOf s) := by
  have h := Go.Lib.hasSuffix_of_drop s p
  unfold Go.Lib.hasSuffix at h
  unfold stringslite_HasSuffix.f
  rw [BA_size, BA_size, w64 (by omega) (by omega)]
  by_cases c : (s.length : Int) ≥ p.length
  · rw [if_pos c, if_pos (by omega), if_pos (by omega), BA_extract, BA_toList, BA_toList, ← h, decide_eq_true (show p.length ≤ s.length by omega), Bool.true_and, show ((s.length : Int) - p.length).toNat = s.length - p.length by omega, List.take_of_length_le (by rw [List.length_drop]; omega)]
  · rw [if_neg c, ← h, decide_eq_false (show ¬ p.length ≤ s.length by omega), Bool.false_and]
theorem CutSuffix_f (s p : List UInt8) (hs : s.length ≤ 4611686018427387904) (hp : p.length ≤ 4611686018427387904) : strings_CutSuffix.f (BA s) (BA p) = some (if p.isSuffixOf s = true then (BA (s.take (s.length - p.length)), true) else (BA s, false)) := by
  unfold strings_CutSuffix.f stringslite_CutSuffix.f
  rw [HasSuffix_f s p hs hp, Option.bind_some]
  cases h : p.isSuffixOf s
  · rfl
  · have := (List.isSuffixOf_iff_suffix.1 h).length_le
    rw [if_pos rfl, if_pos rfl, BA_size, BA_size, w64 (by omega) (by omega), if_pos (by omega), if_pos (by omega), BA_extract, Option.bind_some, List.drop_zero, show ((s.length : Int) - p.length).toNat - 0 = s.length - p.length by omega]
theorem strHasSuffix_f (s p : List UInt8) (hs : s.length ≤ 4611686018427387904) (hp : p.length ≤ 4611686018427387904) : strings_HasSuffix.f (BA s) (BA p) = some (p.isSuffixOf s) := by
  unfold strings_HasSuffix.f
  rw [HasSuffix_f s p hs hp, Option.bind_some]
theorem strOfNums_BA (l : List Int) : strOfNums l = BA (l.map fun n => UInt8.ofNat n.toNat) := rfl
/-! ### hex digits are read back -/
def digU : List UInt8 := [48, 49, 50, 51, 52, 53, 54, 55, 56, 57, 65, 66, 67, 68, 69, 70]
def ixD (b : Int) : Int := Go.Lib.indexByte digU b.toNat.toUInt8
theorem IndexByte_f (b : Int) : strings_IndexByte.f (⟨#[48, 49, 50, 51, 52, 53, 54, 55, 56, 57, 65, 66, 67, 68, 69, 70]⟩ : ByteArray) b = some (ixD b) := rfl
theorem ixD_dig (x : Int) (h0 : 0 ≤ x) (h1 : x < 16) : ixD (digV x) = x := by
  obtain ⟨n, rfl⟩ : ∃ n : Nat, x = n := ⟨x.toNat, by omega⟩
  have : ∀ n : Nat, n < 16 → ixD (digV (n : Int)) = n := by decide +kernel
  exact this n (by omega)

end Go.Proofs.Ytemoocoedibbpaa.X

namespace Go.Proofs.Ytemoocoedibbpaa.X
open Go.RowKit Go.Proofs.YtemoocoedibbpaaW.PrintWords Go.Proofs.YtemoocoedibbpaaW.PrintLast Go.Proofs.YtemoocoedibbpaaW.PrintMore
attribute [local go_sem] max2_int min2_int max_two min_two max_three min_three max_four min_four
set_option linter.unusedVariables false
set_option linter.unusedSimpArgs false

/-! ### dactylref13_Bytes: function 59 -/
def dactylref13_Bytes.j0 : Nat → Bool → Int → Int → ByteArray → Bool → Option (ByteArray)
  | 0, _, _, _, _, _ => none
  | k + 1, x17, x102000, x102001, x102002, x102003 => if x17 = true then (some (strOfNums (([(x102001) % 256] : List Int)))) else (if x102000 = 3 then (some (strOfNums (([27, (x102001) % 256] : List Int)))) else (if x102000 = 15 then (if 6 + x102002.size ≤ 9223372036854775807 then (if 6 + x102002.size + 6 ≤ 9223372036854775807 then (some (((⟨#[27, 91, 50, 48, 48, 126]⟩ : ByteArray) ++ x102002) ++ (⟨#[27, 91, 50, 48, 49, 126]⟩ : ByteArray))) else (none)) else (none)) else (if x102000 = 14 then (if x102001 = 1 then (some (⟨#[27, 91, 54, 126]⟩ : ByteArray)) else ((some (([(⟨#[]⟩ : ByteArray), (⟨#[]⟩ : ByteArray), (⟨#[]⟩ : ByteArray), (⟨#[]⟩ : ByteArray), (⟨#[]⟩ : ByteArray), (⟨#[27]⟩ : ByteArray), (⟨#[127]⟩ : ByteArray), (⟨#[27, 91, 65]⟩ : ByteArray), (⟨#[27, 91, 66]⟩ : ByteArray), (⟨#[27, 91, 67]⟩ : ByteArray), (⟨#[27, 91, 68]⟩ : ByteArray), (⟨#[27, 91, 72]⟩ : ByteArray), (⟨#[27, 91, 70]⟩ : ByteArray), (⟨#[27, 91, 51, 126]⟩ : ByteArray), (⟨#[27, 91, 53, 126]⟩ : ByteArray)] : List ByteArray) : List ByteArray)).bind fun y109 => (if 0 ≤ x102000 then (if x102000 < (y109.length : Int) then (some (rdOf ByteArray.empty y109 x102000)) else (none)) else (none)))) else ((some (([(⟨#[]⟩ : ByteArray), (⟨#[]⟩ : ByteArray), (⟨#[]⟩ : ByteArray), (⟨#[]⟩ : ByteArray), (⟨#[]⟩ : ByteArray), (⟨#[27]⟩ : ByteArray), (⟨#[127]⟩ : ByteArray), (⟨#[27, 91, 65]⟩ : ByteArray), (⟨#[27, 91, 66]⟩ : ByteArray), (⟨#[27, 91, 67]⟩ : ByteArray), (⟨#[27, 91, 68]⟩ : ByteArray), (⟨#[27, 91, 72]⟩ : ByteArray), (⟨#[27, 91, 70]⟩ : ByteArray), (⟨#[27, 91, 51, 126]⟩ : ByteArray), (⟨#[27, 91, 53, 126]⟩ : ByteArray)] : List ByteArray) : List ByteArray)).bind fun y113 => (if 0 ≤ x102000 then (if x102000 < (y113.length : Int) then (some (rdOf ByteArray.empty y113 x102000)) else (none)) else (none))))))
def dactylref13_Bytes.f (k : Nat) (a0_0 : Int) (a0_1 : Int) (a0_2 : ByteArray) (a0_3 : Bool) : Option (ByteArray) := if a0_0 = 1 then ((dactylref02_Bytes.f a0_1).bind fun t102 => (some t102)) else (if a0_0 = 2 then (dactylref13_Bytes.j0 k true a0_0 a0_1 a0_2 a0_3) else (dactylref13_Bytes.j0 k (a0_0 == 4) a0_0 a0_1 a0_2 a0_3))
theorem dactylref13_Bytes.mono_l : ∀ k, (∀ y0 y1 y2 y3 y4, LeO (dactylref13_Bytes.j0 k y0 y1 y2 y3 y4) (dactylref13_Bytes.j0 (k + 1) y0 y1 y2 y3 y4))
  | 0 => fun _ _ _ _ _ r h => by simp [dactylref13_Bytes.j0] at h
  | k + 1 => by
    have ih0 := dactylref13_Bytes.mono_l k
    · intro y0 y1 y2 y3 y4
      unfold dactylref13_Bytes.j0
      repeat' first
      | (with_reducible exact ih0 _ _ _ _ _)
      | (with_reducible exact LeO.refl _)
      | (with_reducible exact LeO.none _)
      | (with_reducible refine LeO.ite ?_ ?_)
      | (with_reducible refine LeO.bind ?_ (fun _ => ?_))
      | exact ih0 _ _ _ _ _
      | exact LeO.none _
      | refine LeO.ite ?_ ?_
      | refine LeO.bind ?_ (fun _ => ?_)
theorem dactylref13_Bytes.mono : ∀ a0 a1 a2 a3 k, LeO (dactylref13_Bytes.f k a0 a1 a2 a3) (dactylref13_Bytes.f (k + 1) a0 a1 a2 a3) := by
  intro a0 a1 a2 a3 k
  have ih0 := dactylref13_Bytes.mono_l k
  unfold dactylref13_Bytes.f
  repeat' first
      | (with_reducible exact ih0 _ _ _ _ _)
      | (with_reducible exact LeO.refl _)
      | (with_reducible exact LeO.none _)
      | (with_reducible refine LeO.ite ?_ ?_)
      | (with_reducible refine LeO.bind ?_ (fun _ => ?_))
      | exact ih0 _ _ _ _ _
      | exact LeO.none _
      | refine LeO.ite ?_ ?_
      | refine LeO.bind ?_ (fun _ => ?_)
set_option maxHeartbeats 8000000 in
set_option maxRecDepth 100000 in
theorem dactylref13_Bytes.calls (k : Nat) (a0_0 : Int) (a0_1 : Int) (a0_2 : ByteArray) (a0_3 : Bool) (r : ByteArray) (w : World) (h : dactylref13_Bytes.f k a0_0 a0_1 a0_2 a0_3 = some r) :
    Calls Try.prog 59 #[.agg #[.int .i64 a0_0, .int .i64 a0_1, .string a0_2, .bool a0_3]] w fun e w' => e = .returned (.string r) ∧ Below w.heap.size w w' := by
  have hu71 := Try.underlying71
  have HB := Aside0.mk (Below.refl w.heap.size w)
  have H : (if a0_0 = 1 then ((dactylref02_Bytes.f a0_1).bind fun t102 => (some t102)) else (if a0_0 = 2 then (dactylref13_Bytes.j0 k true a0_0 a0_1 a0_2 a0_3) else (dactylref13_Bytes.j0 k (a0_0 == 4) a0_0 a0_1 a0_2 a0_3))) = some r := h
  clear h
  by_cases c2 : a0_0 = 1
  · rw [if_pos c2] at H
    have c2b0 : (a0_0 == 1) = true := beq_iff_eq.mpr c2
    have c2b1 : (a0_0 != 1) = false := bne_eq_false_iff_eq.mpr c2
    clear c2
    replace H := Option.bind_eq_some_iff.mp H
    obtain ⟨t102, A30, H⟩ := H
    replace H : (some t102) = some r := H
    have A3 := Aside0.mk A30
    clear A30
    obtain rfl := Option.some.inj H
    go_enter Try.func59, Try.ntmps59
    go_wp2_with (first | ((with_reducible refine gate_dst (N := 1) rfl ?_); refine box_event ?hg (N := 1) ?hd (cs := #[.int .i64 a0_0, .int .i64 a0_1, .string a0_2, .bool a0_3]) (t := 71) ?hr ?_; (case hd => rfl); (case hg => rfl); (case hr => first | (go_simp; done) | (go_simp; rfl)); intro gb101 hg w4 hbox hb; have n0_ := Aside0.mk (below_step (by repeat (first | (with_reducible first | exact HB.out | apply below_alloc | apply pw_below_drewN | apply below_drew1) | exact HB.out)) hb); have n1_ := Aside0.mk (hbox); have n2_ := Aside0.mk ((by rw [hg]; exact (below_size (by repeat (first | (with_reducible first | exact HB.out | apply below_alloc | apply pw_below_drewN | apply below_drew1) | exact HB.out))) : w.heap.size ≤ gb101)); have n3_ := Aside0.mk ((by rw [hg]; exact (below_size (by repeat (first | (with_reducible first | exact HB.out | apply below_alloc | apply pw_below_drewN | apply below_drew1) | exact HB.out))) : w.heap.size ≤ gb101)); clear HB; have HB := n0_; have BK101 := n1_; have GW101 := n2_; have GE101 := n3_; clear n0_ n1_ n2_ n3_; clear hb hbox hg; have hcz5_0 : w4.cell? ⟨gb101, 0, none⟩ = some (.int .i64 a0_0) := (blk_cell BK101.out 0).trans rfl; have hcz5_1 : w4.cell? ⟨gb101, 1, none⟩ = some (.int .i64 a0_1) := (blk_cell BK101.out 1).trans rfl; have hcz5_2 : w4.cell? ⟨gb101, 2, none⟩ = some (.string a0_2) := (blk_cell BK101.out 2).trans rfl; have hcz5_3 : w4.cell? ⟨gb101, 3, none⟩ = some (.bool a0_3) := (blk_cell BK101.out 3).trans rfl; have hfz5_0 := blk_frozen BK101.out 0; have hfz5_1 := blk_frozen BK101.out 1; have hfz5_2 := blk_frozen BK101.out 2; have hfz5_3 := blk_frozen BK101.out 3) | ((with_reducible refine gate_callee (f := 91) rfl ?_); refine goesL_ (some 9) rfl rfl Try.func91 (by kernel_rfl) rfl #[.int .i64 a0_1] rfl (by (try simp only [List.map_toArray, List.map_cons, List.map_nil]); first | done | rfl | (simp only [List.length_drop, List.length_take]; rfl)) ?_; (with_reducible refine (dactylref02_Bytes.calls a0_1 t102 _ A3.out).mono ?_); rintro e w6 ⟨rfl, hb⟩; refine ⟨_, rfl, ?_⟩; have n0_ := Aside0.mk (blk_below (g := gb101) (o := .cells #[.int .i64 a0_0, .int .i64 a0_1, .string a0_2, .bool a0_3] 71 (0, 0)) (by (with_reducible repeat (first | refine blk_drewN ?_ _ | refine blk_drew ?_ | refine blk_alloc ?_ _)); exact BK101.out) hb); have n1_ := Aside0.mk (below_step (by repeat (first | (with_reducible first | exact HB.out | apply below_alloc | apply pw_below_drewN | apply below_drew1 | refine below_set ?_ GE101.out) | exact HB.out)) hb); clear BK101; clear HB; have BK101 := n0_; have HB := n1_; clear n0_ n1_; (try clear hb); (try clear hb2); (try clear hk); (try clear hi)))
    go_ret
    exact ⟨by first | rfl | (simp [errW_none, errW_some] <;> rfl) | (simp [*, errW_none, errW_some] <;> rfl), by repeat (first | (with_reducible first | exact HB.out | apply below_alloc | apply pw_below_drewN | apply below_drew1 | refine below_set ?_ GE101.out) | exact HB.out)⟩
  · rw [if_neg c2] at H
    have c2b0 : (a0_0 == 1) = false := beq_eq_false_iff_ne.mpr c2
    have c2b1 : (a0_0 != 1) = true := bne_iff_ne.mpr c2
    have HC7 := Aside0.mk H
    clear H
    go_enter Try.func59, Try.ntmps59
    go_upto_region 3 with (first | ((with_reducible refine gate_dst (N := 1) rfl ?_); refine box_event ?hg (N := 1) ?hd (cs := #[.int .i64 a0_0, .int .i64 a0_1, .string a0_2, .bool a0_3]) (t := 71) ?hr ?_; (case hd => rfl); (case hg => rfl); (case hr => first | (go_simp; done) | (go_simp; rfl)); intro gb101 hg w8 hbox hb; have n0_ := Aside0.mk (below_step (by repeat (first | (with_reducible first | exact HB.out | apply below_alloc | apply pw_below_drewN | apply below_drew1) | exact HB.out)) hb); have n1_ := Aside0.mk (hbox); have n2_ := Aside0.mk ((by rw [hg]; exact (below_size (by repeat (first | (with_reducible first | exact HB.out | apply below_alloc | apply pw_below_drewN | apply below_drew1) | exact HB.out))) : w.heap.size ≤ gb101)); have n3_ := Aside0.mk ((by rw [hg]; exact (below_size (by repeat (first | (with_reducible first | exact HB.out | apply below_alloc | apply pw_below_drewN | apply below_drew1) | exact HB.out))) : w.heap.size ≤ gb101)); clear HB; have HB := n0_; have BK101 := n1_; have GW101 := n2_; have GE101 := n3_; clear n0_ n1_ n2_ n3_; clear hb hbox hg; have hcz9_0 : w8.cell? ⟨gb101, 0, none⟩ = some (.int .i64 a0_0) := (blk_cell BK101.out 0).trans rfl; have hcz9_1 : w8.cell? ⟨gb101, 1, none⟩ = some (.int .i64 a0_1) := (blk_cell BK101.out 1).trans rfl; have hcz9_2 : w8.cell? ⟨gb101, 2, none⟩ = some (.string a0_2) := (blk_cell BK101.out 2).trans rfl; have hcz9_3 : w8.cell? ⟨gb101, 3, none⟩ = some (.bool a0_3) := (blk_cell BK101.out 3).trans rfl; have hfz9_0 := blk_frozen BK101.out 0; have hfz9_1 := blk_frozen BK101.out 1; have hfz9_2 := blk_frozen BK101.out 2; have hfz9_3 := blk_frozen BK101.out 3))
    (try simp only [Act.put, List.setIfInBounds_toArray, List.set_cons_zero, List.set_cons_succ])
    go_cut [17] (fun v17 wc => ∃ (kq : Nat) (x17_6 : Bool), v17 = .bool x17_6 ∧ Aside0 (dactylref13_Bytes.j0 kq x17_6 a0_0 a0_1 a0_2 a0_3 = some r) ∧ Aside0 (kq ≤ k) ∧ Aside0 (wc.heap[gb101]? = some (.cells #[.int .i64 a0_0, .int .i64 a0_1, .string a0_2, .bool a0_3] 71 (0, 0))) ∧ Aside0 (Below w.heap.size w wc))
    case first =>
      have H := HC7.out
      clear HC7
      by_cases c10 : a0_0 = 2
      · rw [if_pos c10] at H
        have c10b0 : (a0_0 == 2) = true := beq_iff_eq.mpr c10
        have c10b1 : (a0_0 != 2) = false := bne_eq_false_iff_eq.mpr c10
        clear c10
        (first | rw [c10b0] | (simp only [i64_w, i32_w]; rw [c10b0]) | skip)
        have H' := Aside0.mk H
        clear H
        have hcz11_0 : w8.cell? ⟨gb101, 0, none⟩ = some (.int .i64 a0_0) := (blk_cell BK101.out 0).trans rfl
        have hcz11_1 : w8.cell? ⟨gb101, 1, none⟩ = some (.int .i64 a0_1) := (blk_cell BK101.out 1).trans rfl
        have hcz11_2 : w8.cell? ⟨gb101, 2, none⟩ = some (.string a0_2) := (blk_cell BK101.out 2).trans rfl
        have hcz11_3 : w8.cell? ⟨gb101, 3, none⟩ = some (.bool a0_3) := (blk_cell BK101.out 3).trans rfl
        have hfz11_0 := blk_frozen BK101.out 0
        have hfz11_1 := blk_frozen BK101.out 1
        have hfz11_2 := blk_frozen BK101.out 2
        have hfz11_3 := blk_frozen BK101.out 3
        go_wp2
        go_meet
        case rel => exact ⟨_, (true), (by first | rfl | (simp; done) | (simp [*]; done)), H', ⟨by first | omega | exact Nat.le_refl _⟩, ⟨by (with_reducible repeat (first | refine blk_drewN ?_ _ | refine blk_drew ?_ | refine blk_alloc ?_ _)); exact BK101.out⟩, ⟨by repeat (first | (with_reducible first | exact HB.out | apply below_alloc | apply pw_below_drewN | apply below_drew1 | refine below_set ?_ GE101.out) | exact HB.out)⟩⟩
      · rw [if_neg c10] at H
        have c10b0 : (a0_0 == 2) = false := beq_eq_false_iff_ne.mpr c10
        have c10b1 : (a0_0 != 2) = true := bne_iff_ne.mpr c10
        (first | rw [c10b0] | (simp only [i64_w, i32_w]; rw [c10b0]) | skip)
        have H' := Aside0.mk H
        clear H
        have hcz12_0 : w8.cell? ⟨gb101, 0, none⟩ = some (.int .i64 a0_0) := (blk_cell BK101.out 0).trans rfl
        have hcz12_1 : w8.cell? ⟨gb101, 1, none⟩ = some (.int .i64 a0_1) := (blk_cell BK101.out 1).trans rfl
        have hcz12_2 : w8.cell? ⟨gb101, 2, none⟩ = some (.string a0_2) := (blk_cell BK101.out 2).trans rfl
        have hcz12_3 : w8.cell? ⟨gb101, 3, none⟩ = some (.bool a0_3) := (blk_cell BK101.out 3).trans rfl
        have hfz12_0 := blk_frozen BK101.out 0
        have hfz12_1 := blk_frozen BK101.out 1
        have hfz12_2 := blk_frozen BK101.out 2
        have hfz12_3 := blk_frozen BK101.out 3
        go_wp2
        go_meet
        case rel => exact ⟨_, ((a0_0 == 4)), (by first | rfl | (simp; done) | (simp [*]; done)), H', ⟨by first | omega | exact Nat.le_refl _⟩, ⟨by (with_reducible repeat (first | refine blk_drewN ?_ _ | refine blk_drew ?_ | refine blk_alloc ?_ _)); exact BK101.out⟩, ⟨by repeat (first | (with_reducible first | exact HB.out | apply below_alloc | apply pw_below_drewN | apply below_drew1 | refine below_set ?_ GE101.out) | exact HB.out)⟩⟩
    case rest =>
      clear HC7
      try clear c1
      try clear c2
      try clear c2b0
      try clear c2b1
      try clear p2
      try clear c5
      try clear c9
      try clear c10
      try clear c10b0
      try clear c10b1
      try clear hcz11_0
      try clear hcz11_1
      try clear hcz11_2
      try clear hcz11_3
      try clear hcz12_0
      try clear hcz12_1
      try clear hcz12_2
      try clear hcz12_3
      try clear hcz5_0
      try clear hcz5_1
      try clear hcz5_2
      try clear hcz5_3
      try clear hcz9_0
      try clear hcz9_1
      try clear hcz9_2
      try clear hcz9_3
      try clear hfz11_0
      try clear hfz11_1
      try clear hfz11_2
      try clear hfz11_3
      try clear hfz12_0
      try clear hfz12_1
      try clear hfz12_2
      try clear hfz12_3
      try clear hfz5_0
      try clear hfz5_1
      try clear hfz5_2
      try clear hfz5_3
      try clear hfz9_0
      try clear hfz9_1
      try clear hfz9_2
      try clear hfz9_3
      obtain ⟨kq, x17_6, rfl, HA, HJ6, BK101, HB⟩ := hcut
      cases kq with
      | zero => exact absurd HA.out (by simp [dactylref13_Bytes.j0])
      | succ kj6 =>
        have H := HA.out
        clear HA
        simp only [dactylref13_Bytes.j0] at H
        by_cases c13 : x17_6 = true
        · subst c13
          have H1 : (some (strOfNums (([(a0_1) % 256] : List Int)))) = some r := by rw [if_pos rfl] at H; exact H
          clear H
          have H := H1
          clear H1
          obtain ⟨y103, hy103⟩ : ∃ y_ : List Int, y_ = (([(a0_1) % 256] : List Int)) := ⟨_, rfl⟩
          replace H : (some (strOfNums y103)) = some r := by first | (rw [hy103]; with_reducible exact H) | (have H2_ := (Option.bind_some _ _).symm.trans H; rw [hy103]; with_reducible exact H2_) | (have H2_ := (Option.bind_some _ _).symm.trans H; with_reducible exact H2_) | with_reducible exact H | (rw [hy103]; exact H) | exact H
          have Ny103 := Aside0.mk hy103
          clear hy103
          obtain rfl := Option.some.inj H
          have hcz14_0 : wc.cell? ⟨gb101, 0, none⟩ = some (.int .i64 a0_0) := (blk_cell BK101.out 0).trans rfl
          have hcz14_1 : wc.cell? ⟨gb101, 1, none⟩ = some (.int .i64 a0_1) := (blk_cell BK101.out 1).trans rfl
          have hcz14_2 : wc.cell? ⟨gb101, 2, none⟩ = some (.string a0_2) := (blk_cell BK101.out 2).trans rfl
          have hcz14_3 : wc.cell? ⟨gb101, 3, none⟩ = some (.bool a0_3) := (blk_cell BK101.out 3).trans rfl
          have hfz14_0 := blk_frozen BK101.out 0
          have hfz14_1 := blk_frozen BK101.out 1
          have hfz14_2 := blk_frozen BK101.out 2
          have hfz14_3 := blk_frozen BK101.out 3
          go_wp2_with (first | ((with_reducible refine gate_dst (N := 21) rfl ?_); refine Kd.R_lit (Kd.int .u8) _ 5 ?hg (N := 21) ?hd (xs := ([(a0_1) % 256] : List Int)) (inner := [.int .u8 ((a0_1) % 256)]) (ok := fun _ => True) (okp := fun _ => True) ?hr ?hp (fun _ hk => hk) trivial (Below.refl _ _) (Nat.le_refl _) (by simp) ?_; (case hd => rfl); (case hg => rfl); (case hr => first | (go_simp; done) | (go_simp; rfl)); (case hp => exact (Reps.one (show Kd.M (Kd.int .u8) _ _ _ ((a0_1) % 256) [.int .u8 ((a0_1) % 256)] from rfl) (Reps.none _ _))); intro v104 w15 ho16 hb hg_ hnew_; clear hg_ hnew_; (first | rw [← Ny103.out] at ho16 | (simp only [Int.reduceToNat] at ho16; rw [← Ny103.out] at ho16)); have n0_ := Aside0.mk (Kd.R_lower ho16 (below_size (by repeat (first | (with_reducible first | exact HB.out | apply below_alloc | apply pw_below_drewN | apply below_drew1 | refine below_set ?_ GE101.out) | exact HB.out)))); have n1_ := Aside0.mk (blk_below (g := gb101) (o := .cells #[.int .i64 a0_0, .int .i64 a0_1, .string a0_2, .bool a0_3] 71 (0, 0)) (by (with_reducible repeat (first | refine blk_drewN ?_ _ | refine blk_drew ?_ | refine blk_alloc ?_ _)); exact BK101.out) hb); have n2_ := Aside0.mk (below_step (by repeat (first | (with_reducible first | exact HB.out | apply below_alloc | apply pw_below_drewN | apply below_drew1 | refine below_set ?_ GE101.out) | exact HB.out)) hb); clear BK101; clear HB; have HO105 := n0_; have BK101 := n1_; have HB := n2_; clear n0_ n1_ n2_; clear hb ho16; have hcv17 := own_string (P := Try.prog) Try.underlying108 Try.underlying5 Try.underlying9 (Kd.own_of_R HO105.out)))
          go_ret
          exact ⟨by first | rfl | (simp [errW_none, errW_some] <;> rfl) | (simp [*, errW_none, errW_some] <;> rfl), by repeat (first | (with_reducible first | exact HB.out | apply below_alloc | apply pw_below_drewN | apply below_drew1 | refine below_set ?_ GE101.out) | exact HB.out)⟩
        · replace c13 := Bool.eq_false_iff.mpr c13
          subst c13
          have H1 : (if a0_0 = 3 then (some (strOfNums (([27, (a0_1) % 256] : List Int)))) else (if a0_0 = 15 then (if 6 + a0_2.size ≤ 9223372036854775807 then (if 6 + a0_2.size + 6 ≤ 9223372036854775807 then (some (((⟨#[27, 91, 50, 48, 48, 126]⟩ : ByteArray) ++ a0_2) ++ (⟨#[27, 91, 50, 48, 49, 126]⟩ : ByteArray))) else (none)) else (none)) else (if a0_0 = 14 then (if a0_1 = 1 then (some (⟨#[27, 91, 54, 126]⟩ : ByteArray)) else ((some (([(⟨#[]⟩ : ByteArray), (⟨#[]⟩ : ByteArray), (⟨#[]⟩ : ByteArray), (⟨#[]⟩ : ByteArray), (⟨#[]⟩ : ByteArray), (⟨#[27]⟩ : ByteArray), (⟨#[127]⟩ : ByteArray), (⟨#[27, 91, 65]⟩ : ByteArray), (⟨#[27, 91, 66]⟩ : ByteArray), (⟨#[27, 91, 67]⟩ : ByteArray), (⟨#[27, 91, 68]⟩ : ByteArray), (⟨#[27, 91, 72]⟩ : ByteArray), (⟨#[27, 91, 70]⟩ : ByteArray), (⟨#[27, 91, 51, 126]⟩ : ByteArray), (⟨#[27, 91, 53, 126]⟩ : ByteArray)] : List ByteArray) : List ByteArray)).bind fun y109 => (if 0 ≤ a0_0 then (if a0_0 < (y109.length : Int) then (some (rdOf ByteArray.empty y109 a0_0)) else (none)) else (none)))) else ((some (([(⟨#[]⟩ : ByteArray), (⟨#[]⟩ : ByteArray), (⟨#[]⟩ : ByteArray), (⟨#[]⟩ : ByteArray), (⟨#[]⟩ : ByteArray), (⟨#[27]⟩ : ByteArray), (⟨#[127]⟩ : ByteArray), (⟨#[27, 91, 65]⟩ : ByteArray), (⟨#[27, 91, 66]⟩ : ByteArray), (⟨#[27, 91, 67]⟩ : ByteArray), (⟨#[27, 91, 68]⟩ : ByteArray), (⟨#[27, 91, 72]⟩ : ByteArray), (⟨#[27, 91, 70]⟩ : ByteArray), (⟨#[27, 91, 51, 126]⟩ : ByteArray), (⟨#[27, 91, 53, 126]⟩ : ByteArray)] : List ByteArray) : List ByteArray)).bind fun y113 => (if 0 ≤ a0_0 then (if a0_0 < (y113.length : Int) then (some (rdOf ByteArray.empty y113 a0_0)) else (none)) else (none)))))) = some r := by rw [if_neg (show ¬ (false = true) by decide)] at H; exact H
          clear H
          have H := H1
          clear H1
          by_cases c18 : a0_0 = 3
          · rw [if_pos c18] at H
            have c18b0 : (a0_0 == 3) = true := beq_iff_eq.mpr c18
            have c18b1 : (a0_0 != 3) = false := bne_eq_false_iff_eq.mpr c18
            clear c18
            obtain ⟨y106, hy106⟩ : ∃ y_ : List Int, y_ = (([27, (a0_1) % 256] : List Int)) := ⟨_, rfl⟩
            replace H : (some (strOfNums y106)) = some r := by first | (rw [hy106]; with_reducible exact H) | (have H2_ := (Option.bind_some _ _).symm.trans H; rw [hy106]; with_reducible exact H2_) | (have H2_ := (Option.bind_some _ _).symm.trans H; with_reducible exact H2_) | with_reducible exact H | (rw [hy106]; exact H) | exact H
            have Ny106 := Aside0.mk hy106
            clear hy106
            obtain rfl := Option.some.inj H
            have hcz19_0 : wc.cell? ⟨gb101, 0, none⟩ = some (.int .i64 a0_0) := (blk_cell BK101.out 0).trans rfl
            have hcz19_1 : wc.cell? ⟨gb101, 1, none⟩ = some (.int .i64 a0_1) := (blk_cell BK101.out 1).trans rfl
            have hcz19_2 : wc.cell? ⟨gb101, 2, none⟩ = some (.string a0_2) := (blk_cell BK101.out 2).trans rfl
            have hcz19_3 : wc.cell? ⟨gb101, 3, none⟩ = some (.bool a0_3) := (blk_cell BK101.out 3).trans rfl
            have hfz19_0 := blk_frozen BK101.out 0
            have hfz19_1 := blk_frozen BK101.out 1
            have hfz19_2 := blk_frozen BK101.out 2
            have hfz19_3 := blk_frozen BK101.out 3
            go_wp2_with (first | ((with_reducible refine gate_dst (N := 29) rfl ?_); refine Kd.R_lit (Kd.int .u8) _ 5 ?hg (N := 29) ?hd (xs := ([27, (a0_1) % 256] : List Int)) (inner := [.int .u8 27, .int .u8 ((a0_1) % 256)]) (ok := fun _ => True) (okp := fun _ => True) ?hr ?hp (fun _ hk => hk) trivial (Below.refl _ _) (Nat.le_refl _) (by simp) ?_; (case hd => rfl); (case hg => rfl); (case hr => first | (go_simp; done) | (go_simp; rfl)); (case hp => exact (Reps.one (show Kd.M (Kd.int .u8) _ _ _ 27 [.int .u8 27] from rfl) (Reps.one (show Kd.M (Kd.int .u8) _ _ _ ((a0_1) % 256) [.int .u8 ((a0_1) % 256)] from rfl) (Reps.none _ _)))); intro v107 w20 ho21 hb hg_ hnew_; clear hg_ hnew_; (first | rw [← Ny106.out] at ho21 | (simp only [Int.reduceToNat] at ho21; rw [← Ny106.out] at ho21)); have n0_ := Aside0.mk (Kd.R_lower ho21 (below_size (by repeat (first | (with_reducible first | exact HB.out | apply below_alloc | apply pw_below_drewN | apply below_drew1 | refine below_set ?_ GE101.out) | exact HB.out)))); have n1_ := Aside0.mk (blk_below (g := gb101) (o := .cells #[.int .i64 a0_0, .int .i64 a0_1, .string a0_2, .bool a0_3] 71 (0, 0)) (by (with_reducible repeat (first | refine blk_drewN ?_ _ | refine blk_drew ?_ | refine blk_alloc ?_ _)); exact BK101.out) hb); have n2_ := Aside0.mk (below_step (by repeat (first | (with_reducible first | exact HB.out | apply below_alloc | apply pw_below_drewN | apply below_drew1 | refine below_set ?_ GE101.out) | exact HB.out)) hb); clear BK101; clear HB; have HO108 := n0_; have BK101 := n1_; have HB := n2_; clear n0_ n1_ n2_; clear hb ho21; have hcv22 := own_string (P := Try.prog) Try.underlying108 Try.underlying5 Try.underlying9 (Kd.own_of_R HO108.out)))
            go_ret
            exact ⟨by first | rfl | (simp [errW_none, errW_some] <;> rfl) | (simp [*, errW_none, errW_some] <;> rfl), by repeat (first | (with_reducible first | exact HB.out | apply below_alloc | apply pw_below_drewN | apply below_drew1 | refine below_set ?_ GE101.out) | exact HB.out)⟩
          · rw [if_neg c18] at H
            have c18b0 : (a0_0 == 3) = false := beq_eq_false_iff_ne.mpr c18
            have c18b1 : (a0_0 != 3) = true := bne_iff_ne.mpr c18
            by_cases c23 : a0_0 = 15
            · rw [if_pos c23] at H
              have c23b0 : (a0_0 == 15) = true := beq_iff_eq.mpr c23
              have c23b1 : (a0_0 != 15) = false := bne_eq_false_iff_eq.mpr c23
              clear c23
              by_cases c24 : 6 + a0_2.size ≤ 9223372036854775807
              · rw [if_pos c24] at H
                have c24b0 := eq_true c24
                have c24b1 : decide (6 + a0_2.size ≤ 9223372036854775807) = true := decide_eq_true c24
                try have c24b2 : (9223372036854775807 < 6 + a0_2.size) = False := eq_false (Nat.not_lt.2 c24)
                by_cases c25 : 6 + a0_2.size + 6 ≤ 9223372036854775807
                · rw [if_pos c25] at H
                  have c25b0 := eq_true c25
                  have c25b1 : decide (6 + a0_2.size + 6 ≤ 9223372036854775807) = true := decide_eq_true c25
                  try have c25b2 : (9223372036854775807 < 6 + a0_2.size + 6) = False := eq_false (Nat.not_lt.2 c25)
                  obtain rfl := Option.some.inj H
                  have hcz26_0 : wc.cell? ⟨gb101, 0, none⟩ = some (.int .i64 a0_0) := (blk_cell BK101.out 0).trans rfl
                  have hcz26_1 : wc.cell? ⟨gb101, 1, none⟩ = some (.int .i64 a0_1) := (blk_cell BK101.out 1).trans rfl
                  have hcz26_2 : wc.cell? ⟨gb101, 2, none⟩ = some (.string a0_2) := (blk_cell BK101.out 2).trans rfl
                  have hcz26_3 : wc.cell? ⟨gb101, 3, none⟩ = some (.bool a0_3) := (blk_cell BK101.out 3).trans rfl
                  have hfz26_0 := blk_frozen BK101.out 0
                  have hfz26_1 := blk_frozen BK101.out 1
                  have hfz26_2 := blk_frozen BK101.out 2
                  have hfz26_3 := blk_frozen BK101.out 3
                  go_wp2
                  go_ret
                  exact ⟨by first | rfl | (simp [errW_none, errW_some] <;> rfl) | (simp [*, errW_none, errW_some] <;> rfl), by repeat (first | (with_reducible first | exact HB.out | apply below_alloc | apply pw_below_drewN | apply below_drew1 | refine below_set ?_ GE101.out) | exact HB.out)⟩
                · rw [if_neg c25] at H
                  exact absurd H (by simp)
              · rw [if_neg c24] at H
                exact absurd H (by simp)
            · rw [if_neg c23] at H
              have c23b0 : (a0_0 == 15) = false := beq_eq_false_iff_ne.mpr c23
              have c23b1 : (a0_0 != 15) = true := bne_iff_ne.mpr c23
              by_cases c27 : a0_0 = 14
              · rw [if_pos c27] at H
                have c27b0 : (a0_0 == 14) = true := beq_iff_eq.mpr c27
                have c27b1 : (a0_0 != 14) = false := bne_eq_false_iff_eq.mpr c27
                clear c27
                by_cases c28 : a0_1 = 1
                · rw [if_pos c28] at H
                  have c28b0 : (a0_1 == 1) = true := beq_iff_eq.mpr c28
                  have c28b1 : (a0_1 != 1) = false := bne_eq_false_iff_eq.mpr c28
                  clear c28
                  obtain rfl := Option.some.inj H
                  have hcz29_0 : wc.cell? ⟨gb101, 0, none⟩ = some (.int .i64 a0_0) := (blk_cell BK101.out 0).trans rfl
                  have hcz29_1 : wc.cell? ⟨gb101, 1, none⟩ = some (.int .i64 a0_1) := (blk_cell BK101.out 1).trans rfl
                  have hcz29_2 : wc.cell? ⟨gb101, 2, none⟩ = some (.string a0_2) := (blk_cell BK101.out 2).trans rfl
                  have hcz29_3 : wc.cell? ⟨gb101, 3, none⟩ = some (.bool a0_3) := (blk_cell BK101.out 3).trans rfl
                  have hfz29_0 := blk_frozen BK101.out 0
                  have hfz29_1 := blk_frozen BK101.out 1
                  have hfz29_2 := blk_frozen BK101.out 2
                  have hfz29_3 := blk_frozen BK101.out 3
                  go_wp2
                  go_ret
                  exact ⟨by first | rfl | (simp [errW_none, errW_some] <;> rfl) | (simp [*, errW_none, errW_some] <;> rfl), by repeat (first | (with_reducible first | exact HB.out | apply below_alloc | apply pw_below_drewN | apply below_drew1 | refine below_set ?_ GE101.out) | exact HB.out)⟩
                · rw [if_neg c28] at H
                  have c28b0 : (a0_1 == 1) = false := beq_eq_false_iff_ne.mpr c28
                  have c28b1 : (a0_1 != 1) = true := bne_iff_ne.mpr c28
                  obtain ⟨y109, hy109⟩ : ∃ y_ : List ByteArray, y_ = (([(⟨#[]⟩ : ByteArray), (⟨#[]⟩ : ByteArray), (⟨#[]⟩ : ByteArray), (⟨#[]⟩ : ByteArray), (⟨#[]⟩ : ByteArray), (⟨#[27]⟩ : ByteArray), (⟨#[127]⟩ : ByteArray), (⟨#[27, 91, 65]⟩ : ByteArray), (⟨#[27, 91, 66]⟩ : ByteArray), (⟨#[27, 91, 67]⟩ : ByteArray), (⟨#[27, 91, 68]⟩ : ByteArray), (⟨#[27, 91, 72]⟩ : ByteArray), (⟨#[27, 91, 70]⟩ : ByteArray), (⟨#[27, 91, 51, 126]⟩ : ByteArray), (⟨#[27, 91, 53, 126]⟩ : ByteArray)] : List ByteArray)) := ⟨_, rfl⟩
                  replace H : (if 0 ≤ a0_0 then (if a0_0 < (y109.length : Int) then (some (rdOf ByteArray.empty y109 a0_0)) else (none)) else (none)) = some r := by first | (rw [hy109]; with_reducible exact H) | (have H2_ := (Option.bind_some _ _).symm.trans H; rw [hy109]; with_reducible exact H2_) | (have H2_ := (Option.bind_some _ _).symm.trans H; with_reducible exact H2_) | with_reducible exact H | (rw [hy109]; exact H) | exact H
                  have Ny109 := Aside0.mk hy109
                  clear hy109
                  by_cases c30 : 0 ≤ a0_0
                  · rw [if_pos c30] at H
                    have c30b0 : decide (0 ≤ a0_0) = true := decide_eq_true c30
                    clear c30
                    by_cases c31 : a0_0 < (y109.length : Int)
                    · rw [if_pos c31] at H
                      have c31b0 : decide (a0_0 < (y109.length : Int)) = true := decide_eq_true c31
                      clear c31
                      obtain rfl := Option.some.inj H
                      have hcz32_0 : wc.cell? ⟨gb101, 0, none⟩ = some (.int .i64 a0_0) := (blk_cell BK101.out 0).trans rfl
                      have hcz32_1 : wc.cell? ⟨gb101, 1, none⟩ = some (.int .i64 a0_1) := (blk_cell BK101.out 1).trans rfl
                      have hcz32_2 : wc.cell? ⟨gb101, 2, none⟩ = some (.string a0_2) := (blk_cell BK101.out 2).trans rfl
                      have hcz32_3 : wc.cell? ⟨gb101, 3, none⟩ = some (.bool a0_3) := (blk_cell BK101.out 3).trans rfl
                      have hfz32_0 := blk_frozen BK101.out 0
                      have hfz32_1 := blk_frozen BK101.out 1
                      have hfz32_2 := blk_frozen BK101.out 2
                      have hfz32_3 := blk_frozen BK101.out 3
                      go_wp2_with (first | ((with_reducible refine gate_dst (N := 46) rfl ?_); refine Kd.R_lit Kd.string _ 9 ?hg (N := 46) ?hd (xs := ([(⟨#[]⟩ : ByteArray), (⟨#[]⟩ : ByteArray), (⟨#[]⟩ : ByteArray), (⟨#[]⟩ : ByteArray), (⟨#[]⟩ : ByteArray), (⟨#[27]⟩ : ByteArray), (⟨#[127]⟩ : ByteArray), (⟨#[27, 91, 65]⟩ : ByteArray), (⟨#[27, 91, 66]⟩ : ByteArray), (⟨#[27, 91, 67]⟩ : ByteArray), (⟨#[27, 91, 68]⟩ : ByteArray), (⟨#[27, 91, 72]⟩ : ByteArray), (⟨#[27, 91, 70]⟩ : ByteArray), (⟨#[27, 91, 51, 126]⟩ : ByteArray), (⟨#[27, 91, 53, 126]⟩ : ByteArray)] : List ByteArray)) (inner := [.string (⟨#[]⟩ : ByteArray), .string (⟨#[]⟩ : ByteArray), .string (⟨#[]⟩ : ByteArray), .string (⟨#[]⟩ : ByteArray), .string (⟨#[]⟩ : ByteArray), .string (⟨#[27]⟩ : ByteArray), .string (⟨#[127]⟩ : ByteArray), .string (⟨#[27, 91, 65]⟩ : ByteArray), .string (⟨#[27, 91, 66]⟩ : ByteArray), .string (⟨#[27, 91, 67]⟩ : ByteArray), .string (⟨#[27, 91, 68]⟩ : ByteArray), .string (⟨#[27, 91, 72]⟩ : ByteArray), .string (⟨#[27, 91, 70]⟩ : ByteArray), .string (⟨#[27, 91, 51, 126]⟩ : ByteArray), .string (⟨#[27, 91, 53, 126]⟩ : ByteArray)]) (ok := fun _ => True) (okp := fun _ => True) ?hr ?hp (fun _ hk => hk) trivial (Below.refl _ _) (Nat.le_refl _) (by simp) ?_; (case hd => rfl); (case hg => rfl); (case hr => first | (go_simp; done) | (go_simp; rfl)); (case hp => exact (Reps.one (show Kd.M Kd.string _ _ _ (⟨#[]⟩ : ByteArray) [.string (⟨#[]⟩ : ByteArray)] from rfl) (Reps.one (show Kd.M Kd.string _ _ _ (⟨#[]⟩ : ByteArray) [.string (⟨#[]⟩ : ByteArray)] from rfl) (Reps.one (show Kd.M Kd.string _ _ _ (⟨#[]⟩ : ByteArray) [.string (⟨#[]⟩ : ByteArray)] from rfl) (Reps.one (show Kd.M Kd.string _ _ _ (⟨#[]⟩ : ByteArray) [.string (⟨#[]⟩ : ByteArray)] from rfl) (Reps.one (show Kd.M Kd.string _ _ _ (⟨#[]⟩ : ByteArray) [.string (⟨#[]⟩ : ByteArray)] from rfl) (Reps.one (show Kd.M Kd.string _ _ _ (⟨#[27]⟩ : ByteArray) [.string (⟨#[27]⟩ : ByteArray)] from rfl) (Reps.one (show Kd.M Kd.string _ _ _ (⟨#[127]⟩ : ByteArray) [.string (⟨#[127]⟩ : ByteArray)] from rfl) (Reps.one (show Kd.M Kd.string _ _ _ (⟨#[27, 91, 65]⟩ : ByteArray) [.string (⟨#[27, 91, 65]⟩ : ByteArray)] from rfl) (Reps.one (show Kd.M Kd.string _ _ _ (⟨#[27, 91, 66]⟩ : ByteArray) [.string (⟨#[27, 91, 66]⟩ : ByteArray)] from rfl) (Reps.one (show Kd.M Kd.string _ _ _ (⟨#[27, 91, 67]⟩ : ByteArray) [.string (⟨#[27, 91, 67]⟩ : ByteArray)] from rfl) (Reps.one (show Kd.M Kd.string _ _ _ (⟨#[27, 91, 68]⟩ : ByteArray) [.string (⟨#[27, 91, 68]⟩ : ByteArray)] from rfl) (Reps.one (show Kd.M Kd.string _ _ _ (⟨#[27, 91, 72]⟩ : ByteArray) [.string (⟨#[27, 91, 72]⟩ : ByteArray)] from rfl) (Reps.one (show Kd.M Kd.string _ _ _ (⟨#[27, 91, 70]⟩ : ByteArray) [.string (⟨#[27, 91, 70]⟩ : ByteArray)] from rfl) (Reps.one (show Kd.M Kd.string _ _ _ (⟨#[27, 91, 51, 126]⟩ : ByteArray) [.string (⟨#[27, 91, 51, 126]⟩ : ByteArray)] from rfl) (Reps.one (show Kd.M Kd.string _ _ _ (⟨#[27, 91, 53, 126]⟩ : ByteArray) [.string (⟨#[27, 91, 53, 126]⟩ : ByteArray)] from rfl) (Reps.none _ _))))))))))))))))); intro v110 w33 ho34 hb hg_ hnew_; clear hg_ hnew_; (first | rw [← Ny109.out] at ho34 | (simp only [Int.reduceToNat] at ho34; rw [← Ny109.out] at ho34)); have n0_ := Aside0.mk (Kd.R_lower ho34 (below_size (by repeat (first | (with_reducible first | exact HB.out | apply below_alloc | apply pw_below_drewN | apply below_drew1 | refine below_set ?_ GE101.out) | exact HB.out)))); have n1_ := Aside0.mk (blk_below (g := gb101) (o := .cells #[.int .i64 a0_0, .int .i64 a0_1, .string a0_2, .bool a0_3] 71 (0, 0)) (by (with_reducible repeat (first | refine blk_drewN ?_ _ | refine blk_drew ?_ | refine blk_alloc ?_ _)); exact BK101.out) hb); have n2_ := Aside0.mk (below_step (by repeat (first | (with_reducible first | exact HB.out | apply below_alloc | apply pw_below_drewN | apply below_drew1 | refine below_set ?_ GE101.out) | exact HB.out)) hb); clear BK101; clear HB; have HO111 := n0_; have BK101 := n1_; have HB := n2_; clear n0_ n1_ n2_; clear hb ho34; have hcz35_0 : w33.cell? ⟨gb101, 0, none⟩ = some (.int .i64 a0_0) := (blk_cell BK101.out 0).trans rfl; have hcz35_1 : w33.cell? ⟨gb101, 1, none⟩ = some (.int .i64 a0_1) := (blk_cell BK101.out 1).trans rfl; have hcz35_2 : w33.cell? ⟨gb101, 2, none⟩ = some (.string a0_2) := (blk_cell BK101.out 2).trans rfl; have hcz35_3 : w33.cell? ⟨gb101, 3, none⟩ = some (.bool a0_3) := (blk_cell BK101.out 3).trans rfl; have hfz35_0 := blk_frozen BK101.out 0; have hfz35_1 := blk_frozen BK101.out 1; have hfz35_2 := blk_frozen BK101.out 2; have hfz35_3 := blk_frozen BK101.out 3; obtain ⟨Ao36, co36, eo36⟩ := Kd.R_slice HO111.out; subst eo36; have p112 : 0 ≤ (a0_0 : Int) := of_decide_eq_true (by first | (with_reducible assumption) | assumption); have q112 : a0_0 < (y109.length : Int) := of_decide_eq_true (by first | (with_reducible assumption) | assumption); obtain ⟨ad112, e112, hx112_0⟩ := Kd.at_string (Kd.R_reads' HO111.out).2.2 a0_0 p112 q112; cases e112; replace p112 := eq_true p112; replace q112 := eq_true q112))
                      go_ret
                      exact ⟨by first | rfl | (simp [errW_none, errW_some] <;> rfl) | (simp [*, errW_none, errW_some] <;> rfl), by repeat (first | (with_reducible first | exact HB.out | apply below_alloc | apply pw_below_drewN | apply below_drew1 | refine below_set ?_ GE101.out) | exact HB.out)⟩
                    · rw [if_neg c31] at H
                      exact absurd H (by simp)
                  · rw [if_neg c30] at H
                    exact absurd H (by simp)
              · rw [if_neg c27] at H
                have c27b0 : (a0_0 == 14) = false := beq_eq_false_iff_ne.mpr c27
                have c27b1 : (a0_0 != 14) = true := bne_iff_ne.mpr c27
                obtain ⟨y113, hy113⟩ : ∃ y_ : List ByteArray, y_ = (([(⟨#[]⟩ : ByteArray), (⟨#[]⟩ : ByteArray), (⟨#[]⟩ : ByteArray), (⟨#[]⟩ : ByteArray), (⟨#[]⟩ : ByteArray), (⟨#[27]⟩ : ByteArray), (⟨#[127]⟩ : ByteArray), (⟨#[27, 91, 65]⟩ : ByteArray), (⟨#[27, 91, 66]⟩ : ByteArray), (⟨#[27, 91, 67]⟩ : ByteArray), (⟨#[27, 91, 68]⟩ : ByteArray), (⟨#[27, 91, 72]⟩ : ByteArray), (⟨#[27, 91, 70]⟩ : ByteArray), (⟨#[27, 91, 51, 126]⟩ : ByteArray), (⟨#[27, 91, 53, 126]⟩ : ByteArray)] : List ByteArray)) := ⟨_, rfl⟩
                replace H : (if 0 ≤ a0_0 then (if a0_0 < (y113.length : Int) then (some (rdOf ByteArray.empty y113 a0_0)) else (none)) else (none)) = some r := by first | (rw [hy113]; with_reducible exact H) | (have H2_ := (Option.bind_some _ _).symm.trans H; rw [hy113]; with_reducible exact H2_) | (have H2_ := (Option.bind_some _ _).symm.trans H; with_reducible exact H2_) | with_reducible exact H | (rw [hy113]; exact H) | exact H
                have Ny113 := Aside0.mk hy113
                clear hy113
                by_cases c37 : 0 ≤ a0_0
                · rw [if_pos c37] at H
                  have c37b0 : decide (0 ≤ a0_0) = true := decide_eq_true c37
                  clear c37
                  by_cases c38 : a0_0 < (y113.length : Int)
                  · rw [if_pos c38] at H
                    have c38b0 : decide (a0_0 < (y113.length : Int)) = true := decide_eq_true c38
                    clear c38
                    obtain rfl := Option.some.inj H
                    have hcz39_0 : wc.cell? ⟨gb101, 0, none⟩ = some (.int .i64 a0_0) := (blk_cell BK101.out 0).trans rfl
                    have hcz39_1 : wc.cell? ⟨gb101, 1, none⟩ = some (.int .i64 a0_1) := (blk_cell BK101.out 1).trans rfl
                    have hcz39_2 : wc.cell? ⟨gb101, 2, none⟩ = some (.string a0_2) := (blk_cell BK101.out 2).trans rfl
                    have hcz39_3 : wc.cell? ⟨gb101, 3, none⟩ = some (.bool a0_3) := (blk_cell BK101.out 3).trans rfl
                    have hfz39_0 := blk_frozen BK101.out 0
                    have hfz39_1 := blk_frozen BK101.out 1
                    have hfz39_2 := blk_frozen BK101.out 2
                    have hfz39_3 := blk_frozen BK101.out 3
                    go_wp2_with (first | ((with_reducible refine gate_dst (N := 46) rfl ?_); refine Kd.R_lit Kd.string _ 9 ?hg (N := 46) ?hd (xs := ([(⟨#[]⟩ : ByteArray), (⟨#[]⟩ : ByteArray), (⟨#[]⟩ : ByteArray), (⟨#[]⟩ : ByteArray), (⟨#[]⟩ : ByteArray), (⟨#[27]⟩ : ByteArray), (⟨#[127]⟩ : ByteArray), (⟨#[27, 91, 65]⟩ : ByteArray), (⟨#[27, 91, 66]⟩ : ByteArray), (⟨#[27, 91, 67]⟩ : ByteArray), (⟨#[27, 91, 68]⟩ : ByteArray), (⟨#[27, 91, 72]⟩ : ByteArray), (⟨#[27, 91, 70]⟩ : ByteArray), (⟨#[27, 91, 51, 126]⟩ : ByteArray), (⟨#[27, 91, 53, 126]⟩ : ByteArray)] : List ByteArray)) (inner := [.string (⟨#[]⟩ : ByteArray), .string (⟨#[]⟩ : ByteArray), .string (⟨#[]⟩ : ByteArray), .string (⟨#[]⟩ : ByteArray), .string (⟨#[]⟩ : ByteArray), .string (⟨#[27]⟩ : ByteArray), .string (⟨#[127]⟩ : ByteArray), .string (⟨#[27, 91, 65]⟩ : ByteArray), .string (⟨#[27, 91, 66]⟩ : ByteArray), .string (⟨#[27, 91, 67]⟩ : ByteArray), .string (⟨#[27, 91, 68]⟩ : ByteArray), .string (⟨#[27, 91, 72]⟩ : ByteArray), .string (⟨#[27, 91, 70]⟩ : ByteArray), .string (⟨#[27, 91, 51, 126]⟩ : ByteArray), .string (⟨#[27, 91, 53, 126]⟩ : ByteArray)]) (ok := fun _ => True) (okp := fun _ => True) ?hr ?hp (fun _ hk => hk) trivial (Below.refl _ _) (Nat.le_refl _) (by simp) ?_; (case hd => rfl); (case hg => rfl); (case hr => first | (go_simp; done) | (go_simp; rfl)); (case hp => exact (Reps.one (show Kd.M Kd.string _ _ _ (⟨#[]⟩ : ByteArray) [.string (⟨#[]⟩ : ByteArray)] from rfl) (Reps.one (show Kd.M Kd.string _ _ _ (⟨#[]⟩ : ByteArray) [.string (⟨#[]⟩ : ByteArray)] from rfl) (Reps.one (show Kd.M Kd.string _ _ _ (⟨#[]⟩ : ByteArray) [.string (⟨#[]⟩ : ByteArray)] from rfl) (Reps.one (show Kd.M Kd.string _ _ _ (⟨#[]⟩ : ByteArray) [.string (⟨#[]⟩ : ByteArray)] from rfl) (Reps.one (show Kd.M Kd.string _ _ _ (⟨#[]⟩ : ByteArray) [.string (⟨#[]⟩ : ByteArray)] from rfl) (Reps.one (show Kd.M Kd.string _ _ _ (⟨#[27]⟩ : ByteArray) [.string (⟨#[27]⟩ : ByteArray)] from rfl) (Reps.one (show Kd.M Kd.string _ _ _ (⟨#[127]⟩ : ByteArray) [.string (⟨#[127]⟩ : ByteArray)] from rfl) (Reps.one (show Kd.M Kd.string _ _ _ (⟨#[27, 91, 65]⟩ : ByteArray) [.string (⟨#[27, 91, 65]⟩ : ByteArray)] from rfl) (Reps.one (show Kd.M Kd.string _ _ _ (⟨#[27, 91, 66]⟩ : ByteArray) [.string (⟨#[27, 91, 66]⟩ : ByteArray)] from rfl) (Reps.one (show Kd.M Kd.string _ _ _ (⟨#[27, 91, 67]⟩ : ByteArray) [.string (⟨#[27, 91, 67]⟩ : ByteArray)] from rfl) (Reps.one (show Kd.M Kd.string _ _ _ (⟨#[27, 91, 68]⟩ : ByteArray) [.string (⟨#[27, 91, 68]⟩ : ByteArray)] from rfl) (Reps.one (show Kd.M Kd.string _ _ _ (⟨#[27, 91, 72]⟩ : ByteArray) [.string (⟨#[27, 91, 72]⟩ : ByteArray)] from rfl) (Reps.one (show Kd.M Kd.string _ _ _ (⟨#[27, 91, 70]⟩ : ByteArray) [.string (⟨#[27, 91, 70]⟩ : ByteArray)] from rfl) (Reps.one (show Kd.M Kd.string _ _ _ (⟨#[27, 91, 51, 126]⟩ : ByteArray) [.string (⟨#[27, 91, 51, 126]⟩ : ByteArray)] from rfl) (Reps.one (show Kd.M Kd.string _ _ _ (⟨#[27, 91, 53, 126]⟩ : ByteArray) [.string (⟨#[27, 91, 53, 126]⟩ : ByteArray)] from rfl) (Reps.none _ _))))))))))))))))); intro v114 w40 ho41 hb hg_ hnew_; clear hg_ hnew_; (first | rw [← Ny113.out] at ho41 | (simp only [Int.reduceToNat] at ho41; rw [← Ny113.out] at ho41)); have n0_ := Aside0.mk (Kd.R_lower ho41 (below_size (by repeat (first | (with_reducible first | exact HB.out | apply below_alloc | apply pw_below_drewN | apply below_drew1 | refine below_set ?_ GE101.out) | exact HB.out)))); have n1_ := Aside0.mk (blk_below (g := gb101) (o := .cells #[.int .i64 a0_0, .int .i64 a0_1, .string a0_2, .bool a0_3] 71 (0, 0)) (by (with_reducible repeat (first | refine blk_drewN ?_ _ | refine blk_drew ?_ | refine blk_alloc ?_ _)); exact BK101.out) hb); have n2_ := Aside0.mk (below_step (by repeat (first | (with_reducible first | exact HB.out | apply below_alloc | apply pw_below_drewN | apply below_drew1 | refine below_set ?_ GE101.out) | exact HB.out)) hb); clear BK101; clear HB; have HO115 := n0_; have BK101 := n1_; have HB := n2_; clear n0_ n1_ n2_; clear hb ho41; have hcz42_0 : w40.cell? ⟨gb101, 0, none⟩ = some (.int .i64 a0_0) := (blk_cell BK101.out 0).trans rfl; have hcz42_1 : w40.cell? ⟨gb101, 1, none⟩ = some (.int .i64 a0_1) := (blk_cell BK101.out 1).trans rfl; have hcz42_2 : w40.cell? ⟨gb101, 2, none⟩ = some (.string a0_2) := (blk_cell BK101.out 2).trans rfl; have hcz42_3 : w40.cell? ⟨gb101, 3, none⟩ = some (.bool a0_3) := (blk_cell BK101.out 3).trans rfl; have hfz42_0 := blk_frozen BK101.out 0; have hfz42_1 := blk_frozen BK101.out 1; have hfz42_2 := blk_frozen BK101.out 2; have hfz42_3 := blk_frozen BK101.out 3; obtain ⟨Ao43, co43, eo43⟩ := Kd.R_slice HO115.out; subst eo43; have p116 : 0 ≤ (a0_0 : Int) := of_decide_eq_true (by first | (with_reducible assumption) | assumption); have q116 : a0_0 < (y113.length : Int) := of_decide_eq_true (by first | (with_reducible assumption) | assumption); obtain ⟨ad116, e116, hx116_0⟩ := Kd.at_string (Kd.R_reads' HO115.out).2.2 a0_0 p116 q116; cases e116; replace p116 := eq_true p116; replace q116 := eq_true q116))
                    go_ret
                    exact ⟨by first | rfl | (simp [errW_none, errW_some] <;> rfl) | (simp [*, errW_none, errW_some] <;> rfl), by repeat (first | (with_reducible first | exact HB.out | apply below_alloc | apply pw_below_drewN | apply below_drew1 | refine below_set ?_ GE101.out) | exact HB.out)⟩
                  · rw [if_neg c38] at H
                    exact absurd H (by simp)
                · rw [if_neg c37] at H
                  exact absurd H (by simp)

end Go.Proofs.Ytemoocoedibbpaa.X

namespace Go.Proofs.Ytemoocoedibbpaa.X
open Go.RowKit Go.Proofs.YtemoocoedibbpaaW.PrintWords Go.Proofs.YtemoocoedibbpaaW.PrintLast Go.Proofs.YtemoocoedibbpaaW.PrintMore
attribute [local go_sem] max2_int min2_int max_two min_two max_three min_three max_four min_four
set_option linter.unusedVariables false
set_option linter.unusedSimpArgs false

/-! ### dactylref13_Value: function 57 -/
def dactylref13_Value.j0 : Nat → Bool → Int → Int → ByteArray → Bool → Option (Int)
  | 0, _, _, _, _, _ => none
  | k + 1, x15, x102000, x102001, x102002, x102003 => if x15 = true then (some x102001) else (if x102000 = 5 then (some 27) else (if x102000 = 6 then (some 127) else (some (-1))))
def dactylref13_Value.f (k : Nat) (a0_0 : Int) (a0_1 : Int) (a0_2 : ByteArray) (a0_3 : Bool) : Option (Int) := if a0_0 = 1 then (dactylref13_Value.j0 k true a0_0 a0_1 a0_2 a0_3) else (if a0_0 = 2 then (dactylref13_Value.j0 k true a0_0 a0_1 a0_2 a0_3) else (dactylref13_Value.j0 k (a0_0 == 4) a0_0 a0_1 a0_2 a0_3))
theorem dactylref13_Value.mono_l : ∀ k, (∀ y0 y1 y2 y3 y4, LeO (dactylref13_Value.j0 k y0 y1 y2 y3 y4) (dactylref13_Value.j0 (k + 1) y0 y1 y2 y3 y4))
  | 0 => fun _ _ _ _ _ r h => by simp [dactylref13_Value.j0] at h
  | k + 1 => by
    have ih0 := dactylref13_Value.mono_l k
    · intro y0 y1 y2 y3 y4
      unfold dactylref13_Value.j0
      repeat' first
      | (with_reducible exact ih0 _ _ _ _ _)
      | (with_reducible exact LeO.refl _)
      | (with_reducible exact LeO.none _)
      | (with_reducible refine LeO.ite ?_ ?_)
      | (with_reducible refine LeO.bind ?_ (fun _ => ?_))
      | exact ih0 _ _ _ _ _
      | exact LeO.none _
      | refine LeO.ite ?_ ?_
      | refine LeO.bind ?_ (fun _ => ?_)
theorem dactylref13_Value.mono : ∀ a0 a1 a2 a3 k, LeO (dactylref13_Value.f k a0 a1 a2 a3) (dactylref13_Value.f (k + 1) a0 a1 a2 a3) := by
  intro a0 a1 a2 a3 k
  have ih0 := dactylref13_Value.mono_l k
  unfold dactylref13_Value.f
  repeat' first
      | (with_reducible exact ih0 _ _ _ _ _)
      | (with_reducible exact LeO.refl _)
      | (with_reducible exact LeO.none _)
      | (with_reducible refine LeO.ite ?_ ?_)
      | (with_reducible refine LeO.bind ?_ (fun _ => ?_))
      | exact ih0 _ _ _ _ _
      | exact LeO.none _
      | refine LeO.ite ?_ ?_
      | refine LeO.bind ?_ (fun _ => ?_)
set_option maxHeartbeats 8000000 in
set_option maxRecDepth 100000 in
theorem dactylref13_Value.calls (k : Nat) (a0_0 : Int) (a0_1 : Int) (a0_2 : ByteArray) (a0_3 : Bool) (r : Int) (w : World) (h : dactylref13_Value.f k a0_0 a0_1 a0_2 a0_3 = some r) :
    Calls Try.prog 57 #[.agg #[.int .i64 a0_0, .int .i64 a0_1, .string a0_2, .bool a0_3]] w fun e w' => e = .returned (.int .i64 r) ∧ Below w.heap.size w w' := by
  have hu71 := Try.underlying71
  have HB := Aside0.mk (Below.refl w.heap.size w)
  have H : (if a0_0 = 1 then (dactylref13_Value.j0 k true a0_0 a0_1 a0_2 a0_3) else (if a0_0 = 2 then (dactylref13_Value.j0 k true a0_0 a0_1 a0_2 a0_3) else (dactylref13_Value.j0 k (a0_0 == 4) a0_0 a0_1 a0_2 a0_3))) = some r := h
  clear h
  have HC2 := Aside0.mk H
  clear H
  go_enter Try.func57, Try.ntmps57
  go_upto_region 1 with (first | ((with_reducible refine gate_dst (N := 1) rfl ?_); refine box_event ?hg (N := 1) ?hd (cs := #[.int .i64 a0_0, .int .i64 a0_1, .string a0_2, .bool a0_3]) (t := 71) ?hr ?_; (case hd => rfl); (case hg => rfl); (case hr => first | (go_simp; done) | (go_simp; rfl)); intro gb101 hg w3 hbox hb; have n0_ := Aside0.mk (below_step (by repeat (first | (with_reducible first | exact HB.out | apply below_alloc | apply pw_below_drewN | apply below_drew1) | exact HB.out)) hb); have n1_ := Aside0.mk (hbox); have n2_ := Aside0.mk ((by rw [hg]; exact (below_size (by repeat (first | (with_reducible first | exact HB.out | apply below_alloc | apply pw_below_drewN | apply below_drew1) | exact HB.out))) : w.heap.size ≤ gb101)); have n3_ := Aside0.mk ((by rw [hg]; exact (below_size (by repeat (first | (with_reducible first | exact HB.out | apply below_alloc | apply pw_below_drewN | apply below_drew1) | exact HB.out))) : w.heap.size ≤ gb101)); clear HB; have HB := n0_; have BK101 := n1_; have GW101 := n2_; have GE101 := n3_; clear n0_ n1_ n2_ n3_; clear hb hbox hg))
  (try simp only [Act.put, List.setIfInBounds_toArray, List.set_cons_zero, List.set_cons_succ])
  go_cut [15] (fun v15 wc => ∃ (kq : Nat) (x15_1 : Bool), v15 = .bool x15_1 ∧ Aside0 (dactylref13_Value.j0 kq x15_1 a0_0 a0_1 a0_2 a0_3 = some r) ∧ Aside0 (kq ≤ k) ∧ Aside0 (wc.heap[gb101]? = some (.cells #[.int .i64 a0_0, .int .i64 a0_1, .string a0_2, .bool a0_3] 71 (0, 0))) ∧ Aside0 (Below w.heap.size w wc))
  case first =>
    have H := HC2.out
    clear HC2
    by_cases c4 : a0_0 = 1
    · rw [if_pos c4] at H
      have c4b0 : (a0_0 == 1) = true := beq_iff_eq.mpr c4
      have c4b1 : (a0_0 != 1) = false := bne_eq_false_iff_eq.mpr c4
      clear c4
      (first | rw [c4b0] | (simp only [i64_w, i32_w]; rw [c4b0]) | skip)
      have H' := Aside0.mk H
      clear H
      have hcz5_0 : w3.cell? ⟨gb101, 0, none⟩ = some (.int .i64 a0_0) := (blk_cell BK101.out 0).trans rfl
      have hcz5_1 : w3.cell? ⟨gb101, 1, none⟩ = some (.int .i64 a0_1) := (blk_cell BK101.out 1).trans rfl
      have hcz5_2 : w3.cell? ⟨gb101, 2, none⟩ = some (.string a0_2) := (blk_cell BK101.out 2).trans rfl
      have hcz5_3 : w3.cell? ⟨gb101, 3, none⟩ = some (.bool a0_3) := (blk_cell BK101.out 3).trans rfl
      have hfz5_0 := blk_frozen BK101.out 0
      have hfz5_1 := blk_frozen BK101.out 1
      have hfz5_2 := blk_frozen BK101.out 2
      have hfz5_3 := blk_frozen BK101.out 3
      go_wp2
      go_meet
      case rel => exact ⟨_, (true), (by first | rfl | (simp; done) | (simp [*]; done)), H', ⟨by first | omega | exact Nat.le_refl _⟩, ⟨by (with_reducible repeat (first | refine blk_drewN ?_ _ | refine blk_drew ?_ | refine blk_alloc ?_ _)); exact BK101.out⟩, ⟨by repeat (first | (with_reducible first | exact HB.out | apply below_alloc | apply pw_below_drewN | apply below_drew1 | refine below_set ?_ GE101.out) | exact HB.out)⟩⟩
    · rw [if_neg c4] at H
      have c4b0 : (a0_0 == 1) = false := beq_eq_false_iff_ne.mpr c4
      have c4b1 : (a0_0 != 1) = true := bne_iff_ne.mpr c4
      (first | rw [c4b0] | (simp only [i64_w, i32_w]; rw [c4b0]) | skip)
      by_cases c6 : a0_0 = 2
      · rw [if_pos c6] at H
        have c6b0 : (a0_0 == 2) = true := beq_iff_eq.mpr c6
        have c6b1 : (a0_0 != 2) = false := bne_eq_false_iff_eq.mpr c6
        clear c6
        have H' := Aside0.mk H
        clear H
        have hcz7_0 : w3.cell? ⟨gb101, 0, none⟩ = some (.int .i64 a0_0) := (blk_cell BK101.out 0).trans rfl
        have hcz7_1 : w3.cell? ⟨gb101, 1, none⟩ = some (.int .i64 a0_1) := (blk_cell BK101.out 1).trans rfl
        have hcz7_2 : w3.cell? ⟨gb101, 2, none⟩ = some (.string a0_2) := (blk_cell BK101.out 2).trans rfl
        have hcz7_3 : w3.cell? ⟨gb101, 3, none⟩ = some (.bool a0_3) := (blk_cell BK101.out 3).trans rfl
        have hfz7_0 := blk_frozen BK101.out 0
        have hfz7_1 := blk_frozen BK101.out 1
        have hfz7_2 := blk_frozen BK101.out 2
        have hfz7_3 := blk_frozen BK101.out 3
        go_wp2
        go_meet
        case rel => exact ⟨_, (true), (by first | rfl | (simp; done) | (simp [*]; done)), H', ⟨by first | omega | exact Nat.le_refl _⟩, ⟨by (with_reducible repeat (first | refine blk_drewN ?_ _ | refine blk_drew ?_ | refine blk_alloc ?_ _)); exact BK101.out⟩, ⟨by repeat (first | (with_reducible first | exact HB.out | apply below_alloc | apply pw_below_drewN | apply below_drew1 | refine below_set ?_ GE101.out) | exact HB.out)⟩⟩
      · rw [if_neg c6] at H
        have c6b0 : (a0_0 == 2) = false := beq_eq_false_iff_ne.mpr c6
        have c6b1 : (a0_0 != 2) = true := bne_iff_ne.mpr c6
        have H' := Aside0.mk H
        clear H
        have hcz8_0 : w3.cell? ⟨gb101, 0, none⟩ = some (.int .i64 a0_0) := (blk_cell BK101.out 0).trans rfl
        have hcz8_1 : w3.cell? ⟨gb101, 1, none⟩ = some (.int .i64 a0_1) := (blk_cell BK101.out 1).trans rfl
        have hcz8_2 : w3.cell? ⟨gb101, 2, none⟩ = some (.string a0_2) := (blk_cell BK101.out 2).trans rfl
        have hcz8_3 : w3.cell? ⟨gb101, 3, none⟩ = some (.bool a0_3) := (blk_cell BK101.out 3).trans rfl
        have hfz8_0 := blk_frozen BK101.out 0
        have hfz8_1 := blk_frozen BK101.out 1
        have hfz8_2 := blk_frozen BK101.out 2
        have hfz8_3 := blk_frozen BK101.out 3
        go_wp2
        go_meet
        case rel => exact ⟨_, ((a0_0 == 4)), (by first | rfl | (simp; done) | (simp [*]; done)), H', ⟨by first | omega | exact Nat.le_refl _⟩, ⟨by (with_reducible repeat (first | refine blk_drewN ?_ _ | refine blk_drew ?_ | refine blk_alloc ?_ _)); exact BK101.out⟩, ⟨by repeat (first | (with_reducible first | exact HB.out | apply below_alloc | apply pw_below_drewN | apply below_drew1 | refine below_set ?_ GE101.out) | exact HB.out)⟩⟩
  case rest =>
    clear HC2
    try clear p2
    try clear c4
    try clear c4b0
    try clear c4b1
    try clear c5
    try clear c6
    try clear c6b0
    try clear c6b1
    try clear hcz5_0
    try clear hcz5_1
    try clear hcz5_2
    try clear hcz5_3
    try clear hcz7_0
    try clear hcz7_1
    try clear hcz7_2
    try clear hcz7_3
    try clear hcz8_0
    try clear hcz8_1
    try clear hcz8_2
    try clear hcz8_3
    try clear hfz5_0
    try clear hfz5_1
    try clear hfz5_2
    try clear hfz5_3
    try clear hfz7_0
    try clear hfz7_1
    try clear hfz7_2
    try clear hfz7_3
    try clear hfz8_0
    try clear hfz8_1
    try clear hfz8_2
    try clear hfz8_3
    obtain ⟨kq, x15_1, rfl, HA, HJ1, BK101, HB⟩ := hcut
    cases kq with
    | zero => exact absurd HA.out (by simp [dactylref13_Value.j0])
    | succ kj1 =>
      have H := HA.out
      clear HA
      simp only [dactylref13_Value.j0] at H
      by_cases c9 : x15_1 = true
      · subst c9
        have H1 : (some a0_1) = some r := by rw [if_pos rfl] at H; exact H
        clear H
        have H := H1
        clear H1
        obtain rfl := Option.some.inj H
        have hcz10_0 : wc.cell? ⟨gb101, 0, none⟩ = some (.int .i64 a0_0) := (blk_cell BK101.out 0).trans rfl
        have hcz10_1 : wc.cell? ⟨gb101, 1, none⟩ = some (.int .i64 a0_1) := (blk_cell BK101.out 1).trans rfl
        have hcz10_2 : wc.cell? ⟨gb101, 2, none⟩ = some (.string a0_2) := (blk_cell BK101.out 2).trans rfl
        have hcz10_3 : wc.cell? ⟨gb101, 3, none⟩ = some (.bool a0_3) := (blk_cell BK101.out 3).trans rfl
        have hfz10_0 := blk_frozen BK101.out 0
        have hfz10_1 := blk_frozen BK101.out 1
        have hfz10_2 := blk_frozen BK101.out 2
        have hfz10_3 := blk_frozen BK101.out 3
        go_wp2
        go_ret
        exact ⟨by first | rfl | (simp [errW_none, errW_some] <;> rfl) | (simp [*, errW_none, errW_some] <;> rfl), by repeat (first | (with_reducible first | exact HB.out | apply below_alloc | apply pw_below_drewN | apply below_drew1 | refine below_set ?_ GE101.out) | exact HB.out)⟩
      · replace c9 := Bool.eq_false_iff.mpr c9
        subst c9
        have H1 : (if a0_0 = 5 then (some 27) else (if a0_0 = 6 then (some 127) else (some (-1)))) = some r := by rw [if_neg (show ¬ (false = true) by decide)] at H; exact H
        clear H
        have H := H1
        clear H1
        by_cases c11 : a0_0 = 5
        · rw [if_pos c11] at H
          have c11b0 : (a0_0 == 5) = true := beq_iff_eq.mpr c11
          have c11b1 : (a0_0 != 5) = false := bne_eq_false_iff_eq.mpr c11
          clear c11
          obtain rfl := Option.some.inj H
          have hcz12_0 : wc.cell? ⟨gb101, 0, none⟩ = some (.int .i64 a0_0) := (blk_cell BK101.out 0).trans rfl
          have hcz12_1 : wc.cell? ⟨gb101, 1, none⟩ = some (.int .i64 a0_1) := (blk_cell BK101.out 1).trans rfl
          have hcz12_2 : wc.cell? ⟨gb101, 2, none⟩ = some (.string a0_2) := (blk_cell BK101.out 2).trans rfl
          have hcz12_3 : wc.cell? ⟨gb101, 3, none⟩ = some (.bool a0_3) := (blk_cell BK101.out 3).trans rfl
          have hfz12_0 := blk_frozen BK101.out 0
          have hfz12_1 := blk_frozen BK101.out 1
          have hfz12_2 := blk_frozen BK101.out 2
          have hfz12_3 := blk_frozen BK101.out 3
          go_wp2
          go_ret
          exact ⟨by first | rfl | (simp [errW_none, errW_some] <;> rfl) | (simp [*, errW_none, errW_some] <;> rfl), by repeat (first | (with_reducible first | exact HB.out | apply below_alloc | apply pw_below_drewN | apply below_drew1 | refine below_set ?_ GE101.out) | exact HB.out)⟩
        · rw [if_neg c11] at H
          have c11b0 : (a0_0 == 5) = false := beq_eq_false_iff_ne.mpr c11
          have c11b1 : (a0_0 != 5) = true := bne_iff_ne.mpr c11
          by_cases c13 : a0_0 = 6
          · rw [if_pos c13] at H
            have c13b0 : (a0_0 == 6) = true := beq_iff_eq.mpr c13
            have c13b1 : (a0_0 != 6) = false := bne_eq_false_iff_eq.mpr c13
            clear c13
            obtain rfl := Option.some.inj H
            have hcz14_0 : wc.cell? ⟨gb101, 0, none⟩ = some (.int .i64 a0_0) := (blk_cell BK101.out 0).trans rfl
            have hcz14_1 : wc.cell? ⟨gb101, 1, none⟩ = some (.int .i64 a0_1) := (blk_cell BK101.out 1).trans rfl
            have hcz14_2 : wc.cell? ⟨gb101, 2, none⟩ = some (.string a0_2) := (blk_cell BK101.out 2).trans rfl
            have hcz14_3 : wc.cell? ⟨gb101, 3, none⟩ = some (.bool a0_3) := (blk_cell BK101.out 3).trans rfl
            have hfz14_0 := blk_frozen BK101.out 0
            have hfz14_1 := blk_frozen BK101.out 1
            have hfz14_2 := blk_frozen BK101.out 2
            have hfz14_3 := blk_frozen BK101.out 3
            go_wp2
            go_ret
            exact ⟨by first | rfl | (simp [errW_none, errW_some] <;> rfl) | (simp [*, errW_none, errW_some] <;> rfl), by repeat (first | (with_reducible first | exact HB.out | apply below_alloc | apply pw_below_drewN | apply below_drew1 | refine below_set ?_ GE101.out) | exact HB.out)⟩
          · rw [if_neg c13] at H
            have c13b0 : (a0_0 == 6) = false := beq_eq_false_iff_ne.mpr c13
            have c13b1 : (a0_0 != 6) = true := bne_iff_ne.mpr c13
            obtain rfl := Option.some.inj H
            have hcz15_0 : wc.cell? ⟨gb101, 0, none⟩ = some (.int .i64 a0_0) := (blk_cell BK101.out 0).trans rfl
            have hcz15_1 : wc.cell? ⟨gb101, 1, none⟩ = some (.int .i64 a0_1) := (blk_cell BK101.out 1).trans rfl
            have hcz15_2 : wc.cell? ⟨gb101, 2, none⟩ = some (.string a0_2) := (blk_cell BK101.out 2).trans rfl
            have hcz15_3 : wc.cell? ⟨gb101, 3, none⟩ = some (.bool a0_3) := (blk_cell BK101.out 3).trans rfl
            have hfz15_0 := blk_frozen BK101.out 0
            have hfz15_1 := blk_frozen BK101.out 1
            have hfz15_2 := blk_frozen BK101.out 2
            have hfz15_3 := blk_frozen BK101.out 3
            go_wp2
            go_ret
            exact ⟨by first | rfl | (simp [errW_none, errW_some] <;> rfl) | (simp [*, errW_none, errW_some] <;> rfl), by repeat (first | (with_reducible first | exact HB.out | apply below_alloc | apply pw_below_drewN | apply below_drew1 | refine below_set ?_ GE101.out) | exact HB.out)⟩

end Go.Proofs.Ytemoocoedibbpaa.X

namespace Go.Proofs.Ytemoocoedibbpaa.X
open Go.RowKit Go.Proofs.YtemoocoedibbpaaW.PrintWords Go.Proofs.YtemoocoedibbpaaW.PrintLast Go.Proofs.YtemoocoedibbpaaW.PrintMore
attribute [local go_sem] max2_int min2_int max_two min_two max_three min_three max_four min_four
set_option linter.unusedVariables false
set_option linter.unusedSimpArgs false

theorem findR_list (p : S112 → Bool) (l : List S112) : (if idxP p l < 0 then (nameless, false) else (rd_T112 l (idxP p l), true)) = (match l.find? p with | some x => (x, true) | none => (nameless, false)) := by
  induction l with
  | nil => rfl
  | cons x l ih =>
    have hg := idxP_ge p l
    rw [List.find?_cons]
    cases h : p x
    · simp only [idxP, h, Bool.false_eq_true, if_false]
      by_cases c : idxP p l < 0
      · rw [if_pos c] at ih
        rw [if_pos c, if_pos (by decide)]
        exact ih
      · rw [if_neg c] at ih
        rw [if_neg c, if_neg (by omega), ← ih]
        obtain ⟨n, hn⟩ : ∃ n : Nat, idxP p l = n := ⟨(idxP p l).toNat, by omega⟩
        rw [hn, show ((n : Int) + 1) = ((n + 1 : Nat) : Int) by omega]
        simp [rd_T112, List.getD]
    · simp only [idxP, h, if_true]
      rw [if_neg (by decide)]
      simp [rd_T112, List.getD]
theorem findR_find (p : S112 → Bool) : findR p = (match namedL.find? p with | some x => (x, true) | none => (nameless, false)) := findR_list p namedL
theorem findR_none (p : S112 → Bool) (h : ∀ x ∈ namedL, p x = false) : findR p = (nameless, false) := by
  rw [findR_find, List.find?_eq_none.2 (fun x hx => by simp [h x hx])]
def namedB (kk vv : Int) : Bool := (decide (kk = 4) && (decide (vv = 10) || decide (vv = 13))) || (decide (kk = 14) && (decide (vv = 0) || decide (vv = 1))) || (decide (5 ≤ kk ∧ kk ≤ 13) && decide (vv = 0))
theorem namedL_eq : namedL = [(⟨4, 13, (⟨#[82, 69, 84]⟩ : ByteArray), (⟨#[13]⟩ : ByteArray)⟩), (⟨4, 10, (⟨#[76, 70, 68]⟩ : ByteArray), (⟨#[10]⟩ : ByteArray)⟩), (⟨5, 0, (⟨#[69, 83, 67]⟩ : ByteArray), (⟨#[27]⟩ : ByteArray)⟩), (⟨6, 0, (⟨#[68, 69, 76]⟩ : ByteArray), (⟨#[127]⟩ : ByteArray)⟩), (⟨7, 0, (⟨#[85, 80]⟩ : ByteArray), (⟨#[27, 91, 65]⟩ : ByteArray)⟩), (⟨8, 0, (⟨#[68, 79, 87, 78]⟩ : ByteArray), (⟨#[27, 91, 66]⟩ : ByteArray)⟩), (⟨9, 0, (⟨#[82, 73, 71, 72, 84]⟩ : ByteArray), (⟨#[27, 91, 67]⟩ : ByteArray)⟩), (⟨10, 0, (⟨#[76, 69, 70, 84]⟩ : ByteArray), (⟨#[27, 91, 68]⟩ : ByteArray)⟩), (⟨11, 0, (⟨#[72, 79, 77, 69]⟩ : ByteArray), (⟨#[27, 91, 72]⟩ : ByteArray)⟩), (⟨12, 0, (⟨#[69, 78, 68]⟩ : ByteArray), (⟨#[27, 91, 70]⟩ : ByteArray)⟩), (⟨13, 0, (⟨#[68, 69, 76, 69, 84, 69]⟩ : ByteArray), (⟨#[27, 91, 51, 126]⟩ : ByteArray)⟩), (⟨14, 0, (⟨#[80, 71, 85, 80]⟩ : ByteArray), (⟨#[27, 91, 53, 126]⟩ : ByteArray)⟩), (⟨14, 1, (⟨#[80, 71, 68, 78]⟩ : ByteArray), (⟨#[27, 91, 54, 126]⟩ : ByteArray)⟩)] := rfl
theorem ofP_eq (kk vv : Int) (x : S112) : ofP kk vv x = (decide (x.f0 = kk) && decide (x.f1 = vv)) := by
  unfold ofP
  by_cases h : x.f0 = kk
  · rw [Bool.eq_iff_iff]; simp [h]
  · simp [h]
theorem of_no (kk vv : Int) (h : namedB kk vv = false) : findR (ofP kk vv) = (nameless, false) := by
  apply findR_none
  intro x hx
  rw [ofP_eq]
  unfold namedB at h
  simp only [Bool.or_eq_false_iff, Bool.and_eq_false_iff, decide_eq_false_iff_not, namedL_eq, List.mem_cons, List.not_mem_nil, or_false] at *
  rcases hx with rfl | rfl | rfl | rfl | rfl | rfl | rfl | rfl | rfl | rfl | rfl | rfl | rfl <;> dsimp only <;> omega
/-- What is said of a key that has a row. -/
theorem of_all (P : Int → Int → Prop) (h : P 4 13 ∧ P 4 10 ∧ P 5 0 ∧ P 6 0 ∧ P 7 0 ∧ P 8 0 ∧ P 9 0 ∧ P 10 0 ∧ P 11 0 ∧ P 12 0 ∧ P 13 0 ∧ P 14 0 ∧ P 14 1) (kk vv : Int) (hn : namedB kk vv = true) : P kk vv := by
  obtain ⟨p1, p2, p3, p4, p5, p6, p7, p8, p9, p10, p11, p12, p13⟩ := h
  unfold namedB at hn
  simp only [Bool.or_eq_true, Bool.and_eq_true, decide_eq_true_eq] at hn
  rcases hn with (⟨rfl, rfl | rfl⟩ | ⟨rfl, rfl | rfl⟩) | ⟨h1, rfl⟩
  · exact p2
  · exact p1
  · exact p12
  · exact p13
  · have h2 : kk = 5 ∨ kk = 6 ∨ kk = 7 ∨ kk = 8 ∨ kk = 9 ∨ kk = 10 ∨ kk = 11 ∨ kk = 12 ∨ kk = 13 := by omega
    rcases h2 with rfl | rfl | rfl | rfl | rfl | rfl | rfl | rfl | rfl <;> assumption
theorem of_yes (kk vv : Int) (h : namedB kk vv = true) : (findR (ofP kk vv)).2 = true :=
  of_all (fun kk vv => (findR (ofP kk vv)).2 = true) (by refine ⟨?_, ?_, ?_, ?_, ?_, ?_, ?_, ?_, ?_, ?_, ?_, ?_, ?_⟩ <;> decide +kernel) kk vv h
theorem of_snd (kk vv : Int) : (findR (ofP kk vv)).2 = namedB kk vv := by
  cases h : namedB kk vv
  · rw [of_no kk vv h]
  · exact of_yes kk vv h
/-! ### may a key be? -/
def ctlB (v : Int) : Bool := decide (0 ≤ v ∧ v < 32 ∧ v ≠ 10 ∧ v ≠ 13 ∧ v ≠ 27)
theorem key_control_f (v : Int) : key_control.f v = some (ctlB v) := by
  unfold key_control.f ctlB
  repeat' split
  all_goals (congr 1; first | (simp; omega) | (symm; simp only [decide_eq_false_iff_not]; omega) | (rw [bne_eq_decide]; exact decide_eq_decide.mpr (by omega)) | (rw [Bool.eq_iff_iff]; simp; omega))
theorem ref_Control_f (v : Int) : dactylref13_Control.f v = some (ctlB v) := by
  unfold dactylref13_Control.f ctlB
  repeat' split
  all_goals (congr 1; first | (simp; omega) | (symm; simp only [decide_eq_false_iff_not]; omega) | (rw [bne_eq_decide]; exact decide_eq_decide.mpr (by omega)) | (rw [Bool.eq_iff_iff]; simp; omega))
def emptyB (t : ByteArray) : Bool := decide (t.toList = [])
def mayV (kk vv : Int) : Bool := if kk = 1 then decide (32 ≤ vv ∧ vv ≠ 127) && rightB vv else if kk = 2 then ctlB vv else if kk = 3 then ctlB vv || decide (32 ≤ vv ∧ vv ≤ 127) else namedB kk vv
def mayB (kk vv : Int) (t : ByteArray) (c : Bool) : Bool := if kk = 15 then decide (vv = 0 ∧ t.size ≤ 65536) else emptyB t && (!c && mayV kk vv)
theorem key_Check_f (kk vv : Int) (t : ByteArray) (c : Bool) (k : Nat) (hk : 2 ≤ k) : key_Check.f k kk vv t c = some (if mayB kk vv t c = true then 0 else 2) := by
  obtain ⟨k, rfl⟩ : ∃ m, k = m + 1 := ⟨k - 1, by omega⟩
  unfold key_Check.f mayB mayV
  simp only [key_Check.j0]
  rw [utf_Right_f, key_control_f, show key_of.f kk vv t c = some ((findR (ofP kk vv)).1.f0, (findR (ofP kk vv)).1.f1, (findR (ofP kk vv)).1.f2, (findR (ofP kk vv)).1.f3, (findR (ofP kk vv)).2) from rfl]
  simp only [Option.bind_some, of_snd]
  have he : emptyB t = true ↔ t.toList = [] := by unfold emptyB; exact decide_eq_true_iff
  by_cases h15 : kk = 15
  · subst h15
    simp only [show ¬ (15 : Int) = 1 by decide, show ¬ (15 : Int) = 2 by decide, show ¬ (15 : Int) = 3 by decide, if_false, if_true, decide_eq_true_eq]
    by_cases hv : vv = 0
    · by_cases hs : (t.size : Int) > 65536
      · simp [hv, hs]; omega
      · simp [hv, hs]; omega
    · simp [hv]
  · rw [if_neg h15, if_neg h15]
    by_cases ht : t.toList = []
    · rw [he.2 ht]
      simp only [ht, if_true, Bool.true_and]
      cases c <;> cases hr : rightB vv <;> cases hc : ctlB vv <;> cases hn : namedB kk vv <;> simp <;> (repeat' split) <;> first | rfl | (exfalso; omega) | simp_all | (simp_all; omega)
    · rw [show emptyB t = false from Bool.eq_false_iff.2 (fun h => ht (he.1 h))]
      simp only [ht, if_false, Bool.false_and, Bool.false_eq_true]
      (repeat' split) <;> rfl
theorem ref_May_f (kk vv : Int) (t : ByteArray) (c : Bool) (k : Nat) (hk : 2 ≤ k) : dactylref13_May.f k kk vv t c = some (mayB kk vv t c) := by
  obtain ⟨k, rfl⟩ : ∃ m, k = m + 1 := ⟨k - 1, by omega⟩
  unfold dactylref13_May.f mayB mayV
  simp only [dactylref13_May.j0]
  rw [ref_Right_f, ref_Control_f]
  simp only [Option.bind_some]
  have he : emptyB t = true ↔ t.toList = [] := by unfold emptyB; exact decide_eq_true_iff
  by_cases h15 : kk = 15
  · subst h15
    simp only [if_true]
    by_cases hv : vv = 0
    · simp [hv]; omega
    · simp [hv]
  · rw [if_neg h15, if_neg h15]
    by_cases ht : t.toList = []
    · rw [he.2 ht]
      simp only [ht, if_true, Bool.true_and]
      cases c
      · unfold namedB
        (repeat' split) <;> first | (exfalso; omega) | (congr 1; simp_all; done) | (congr 1; rw [Bool.eq_iff_iff]; simp; omega) | (congr 1; rw [Bool.eq_iff_iff]; simp_all; omega) | simp_all
      · simp
    · rw [show emptyB t = false from Bool.eq_false_iff.2 (fun h => ht (he.1 h))]
      simp only [ht, if_false, if_true, Bool.false_and]

end Go.Proofs.Ytemoocoedibbpaa.X

namespace Go.Proofs.Ytemoocoedibbpaa.X
open Go.RowKit Go.Proofs.YtemoocoedibbpaaW.PrintWords Go.Proofs.YtemoocoedibbpaaW.PrintLast Go.Proofs.YtemoocoedibbpaaW.PrintMore
attribute [local go_sem] max2_int min2_int max_two min_two max_three min_three max_four min_four
set_option linter.unusedVariables false
set_option linter.unusedSimpArgs false

def signK (v : Int) : List Int := if 33 ≤ v ∧ v ≤ 126 ∧ v ≠ 60 then [v] else if 32 ≤ v then [60] ++ hexL 16 1 v ++ [62] else if 1 ≤ v ∧ v ≤ 26 then [67, 45, v + 96] else [67, 45, v + 64]
theorem Encode_low (x : Int) (h0 : 0 ≤ x) (h1 : x < 128) (k : Nat) (hk : 3 ≤ k) : utf_Encode.f k [x] = some (strOfNums [x]) := by
  rw [Encode_one x ((rightB_iff x).2 (by omega)) k hk]
  unfold encL
  rw [if_pos h1]
theorem hexL_len (g : Nat) : ∀ (n : Nat) (least u : Int), 0 ≤ u → u < 16 ^ n → least ≤ n → (hexL g least u).length ≤ n := by
  induction g with
  | zero => intro n least u _ _ _; simp [hexL]
  | succ g ih =>
    intro n least u h0 h1 h2
    unfold hexL
    split
    · rename_i hc
      cases n with
      | zero => simp at h1 h2; omega
      | succ n =>
        have := ih n (least - 1) (u / 16) (by omega) (by rw [Int.pow_succ] at h1; omega) (by omega)
        simp only [List.length_append, List.length_cons, List.length_nil]
        omega
    · simp
theorem hex1_len (v : Int) (h0 : 0 ≤ v) (h1 : v ≤ 1114367) : (hexL 16 1 v).length ≤ 6 := by
  have e : (16 : Int) ^ 6 = 16777216 := by decide
  exact hexL_len 16 6 1 v h0 (by rw [e]; omega) (by decide)
theorem strS (l : List Int) : (strOfNums l).size = l.length := strOfNums_size l
theorem b1 (x : UInt8) : (⟨#[x]⟩ : ByteArray) = strOfNums [(x.toNat : Int)] := by simp [strOfNums]
theorem b2 (x y : UInt8) : (⟨#[x, y]⟩ : ByteArray) = strOfNums [(x.toNat : Int), (y.toNat : Int)] := by simp [strOfNums]
theorem key_sign_f (v : Int) (h0 : 0 ≤ v) (h1 : v ≤ 1114367) (k : Nat) (hk : 10 ≤ k) : key_sign.f k v = some (strOfNums (signK v)) := by
  obtain ⟨k, rfl⟩ : ∃ m, k = m + 2 := ⟨k - 2, by omega⟩
  have hl := hex1_len v h0 h1
  unfold key_sign.f signK
  simp only [key_sign.j0, key_sign.j1]
  rw [num_Hex_f v 1 h0 (by omega) (by decide) (by decide), laid_list 16 1 v h0]
  simp only [Option.bind_some, strS, bne_iff_ne, ne_eq, decide_eq_true_eq, Bool.false_eq_true, if_false]
  by_cases c1 : 33 ≤ v ∧ v ≤ 126 ∧ v ≠ 60
  · rw [if_pos c1, if_pos (by omega), if_pos (by omega), if_pos (by omega), Encode_low v (by omega) (by omega) _ (by omega)]
    rfl
  · rw [if_neg c1]
    by_cases c2 : 32 ≤ v
    · have e : (⟨#[60]⟩ : ByteArray) ++ strOfNums (hexL 16 1 v) ++ (⟨#[62]⟩ : ByteArray) = strOfNums ([60] ++ hexL 16 1 v ++ [62]) := by rw [str_append, str_append]; rfl
      rw [if_pos c2]
      rw [if_pos (show v ≥ 32 from c2), if_pos (show 1 + (hexL 16 1 v).length ≤ 9223372036854775807 by omega), if_pos (show 1 + (hexL 16 1 v).length + 1 ≤ 9223372036854775807 by omega), e]
      by_cases c3 : v > 32
      · rw [if_pos c3]
        by_cases c4 : v < 127
        · rw [if_pos c4, if_neg (by omega)]
        · rw [if_neg c4]
      · rw [if_neg c3]
    · rw [if_neg c2, if_neg (show ¬ v > 32 by omega), if_neg (show ¬ v ≥ 32 by omega)]
      by_cases c3 : 1 ≤ v ∧ v ≤ 26
      · rw [if_pos c3, if_pos (by omega), if_pos (by omega), w64 (by omega) (by omega), Encode_low (v + 96) (by omega) (by omega) _ (by omega), Option.bind_some, strS, if_pos (by simp)]
        rw [show (⟨#[67, 45]⟩ : ByteArray) = strOfNums [67, 45] from rfl, ← str_append]
        rfl
      · rw [if_neg c3]
        have hE := Encode_low (v + 64) (by omega) (by omega) k (by omega)
        have hE' : wrap64 (v + 64) = v + 64 := w64 (by omega) (by omega)
        have hres : (if 2 + (strOfNums [v + 64]).size ≤ 9223372036854775807 then some ((⟨#[67, 45]⟩ : ByteArray) ++ strOfNums [v + 64]) else none) = some (strOfNums [67, 45, v + 64]) := by
          rw [strS, if_pos (by simp), show (⟨#[67, 45]⟩ : ByteArray) = strOfNums [67, 45] from rfl, ← str_append]; rfl
        by_cases c4 : v ≥ 1
        · rw [if_pos c4, if_neg (by omega), hE', hE, Option.bind_some]
          exact hres
        · rw [if_neg c4, hE', hE, Option.bind_some]
          exact hres
theorem ref_sign_f (v : Int) (h0 : 0 ≤ v) (h1 : v ≤ 1114367) (k : Nat) (hk : 60 ≤ k) : dactylref13_sign.f k v = some (strOfNums (signK v)) := by
  obtain ⟨k, rfl⟩ : ∃ m, k = m + 2 := ⟨k - 2, by omega⟩
  have hl := hex1_len v h0 h1
  unfold dactylref13_sign.f signK
  simp only [dactylref13_sign.j0]
  rw [ref_Hex v 1 h0 (by omega) (by decide) (by decide) _ (by omega), laid_list 16 1 v h0]
  simp only [Option.bind_some, strS, bne_iff_ne, ne_eq, decide_eq_true_eq, Bool.false_eq_true, if_false, List.length_cons, List.length_nil]
  by_cases c1 : 33 ≤ v ∧ v ≤ 126 ∧ v ≠ 60
  · rw [if_pos c1, if_pos (by omega), if_pos (by omega), if_pos (by omega), show v % 256 = v by omega]
  · rw [if_neg c1]
    by_cases c2 : 32 ≤ v
    · have e : (⟨#[60]⟩ : ByteArray) ++ strOfNums (hexL 16 1 v) ++ (⟨#[62]⟩ : ByteArray) = strOfNums ([60] ++ hexL 16 1 v ++ [62]) := by rw [str_append, str_append]; rfl
      rw [if_pos c2]
      rw [if_pos (show v ≥ 32 from c2), if_pos (show 1 + (hexL 16 1 v).length ≤ 9223372036854775807 by omega), if_pos (show 1 + (hexL 16 1 v).length + 1 ≤ 9223372036854775807 by omega), e]
      by_cases c3 : v ≥ 33
      · rw [if_pos c3]
        by_cases c4 : v ≤ 126
        · rw [if_pos c4, if_neg (by omega)]
        · rw [if_neg c4]
      · rw [if_neg c3]
    · rw [if_neg c2, if_neg (show ¬ v ≥ 33 by omega), if_neg (show ¬ v ≥ 32 by omega), show wrap64 (v + 64) % 256 = v + 64 by unfold wrap64; omega]
      have e64 : (⟨#[67, 45]⟩ : ByteArray) ++ strOfNums [v + 64] = strOfNums [67, 45, v + 64] := by rw [show (⟨#[67, 45]⟩ : ByteArray) = strOfNums [67, 45] from rfl, ← str_append]; rfl
      by_cases c3 : 1 ≤ v ∧ v ≤ 26
      · rw [if_pos c3, if_pos (by omega), if_pos (by omega), if_pos (by omega), show wrap64 (v + 96) % 256 = v + 96 by unfold wrap64; omega]
        rw [show (⟨#[67, 45]⟩ : ByteArray) = strOfNums [67, 45] from rfl, ← str_append]
        rfl
      · rw [if_neg c3]
        by_cases c4 : v ≥ 1
        · rw [if_pos c4, if_neg (by omega), if_pos (by omega), e64]
        · rw [if_neg c4, if_pos (by omega), e64]
/-! ### a paste's name -/
def hexes (l : List UInt8) : List Int := l.flatMap fun b => [digV ((b.toNat : Int) / 16), digV ((b.toNat : Int) % 16)]
theorem hexes_cons (b : UInt8) (l : List UInt8) : hexes (b :: l) = [digV ((b.toNat : Int) / 16), digV ((b.toNat : Int) % 16)] ++ hexes l := by simp [hexes]
theorem hexes_len (l : List UInt8) : (hexes l).length = 2 * l.length := by
  induction l with
  | nil => rfl
  | cons b l ih => rw [hexes_cons, List.length_append, ih]; simp; omega
theorem hex2_small (n : Int) (h0 : 0 ≤ n) (h1 : n ≤ 255) : hexL 16 2 n = [digV (n / 16), digV (n % 16)] := by
  have a : hexL 16 2 n = hexL 15 1 (n / 16) ++ [digV (n % 16)] := by rw [hexL, if_pos (by omega)]; rfl
  have b : hexL 15 1 (n / 16) = hexL 14 0 (n / 16 / 16) ++ [digV (n / 16 % 16)] := by rw [hexL, if_pos (by omega)]; rfl
  have c : hexL 14 0 (n / 16 / 16) = [] := by rw [hexL, if_neg (by omega)]
  rw [a, b, c, show n / 16 % 16 = n / 16 by omega]
  rfl
theorem u8_range (b : UInt8) : b.toNat ≤ 255 := by have := b.toNat_lt; omega
theorem key_paste_l0 (l : List UInt8) (hl : l.length ≤ 65536) (kk vv : Int) (c : Bool) : ∀ (d k i : Nat) (acc : ByteArray), d + i = l.length → d < k → acc.size ≤ 2 + 2 * i → key_paste.l0 k acc (l.length : Int) (i : Int) kk vv (BA l) c = some (acc ++ strOfNums (hexes (l.drop i)) ++ (if c = true then (⟨#[33]⟩ : ByteArray) else ⟨#[]⟩)) := by
  intro d
  induction d with
  | zero =>
    intro k i acc h1 h2 h3
    obtain ⟨k, rfl⟩ : ∃ m, k = m + 1 := ⟨k - 1, by omega⟩
    simp only [key_paste.l0]
    rw [if_neg (by omega), List.drop_of_length_le (by omega), show strOfNums (hexes []) = (⟨#[]⟩ : ByteArray) from rfl, show acc ++ (⟨#[]⟩ : ByteArray) = acc from ByteArray.append_empty]
    cases c
    · rw [if_neg (by decide), if_neg (by decide)]
      exact congrArg some (ByteArray.append_empty (b := acc)).symm
    · rw [if_pos rfl, if_pos rfl, if_pos (by omega)]
  | succ d ih =>
    intro k i acc h1 h2 h3
    obtain ⟨k, rfl⟩ : ∃ m, k = m + 1 := ⟨k - 1, by omega⟩
    have e1 : wrap64 ((i : Int) + 1) = ((i + 1 : Nat) : Int) := by rw [w64 (by omega) (by omega)]; omega
    have ed : l.drop i = l[i] :: l.drop (i + 1) := by rw [List.drop_eq_getElem_cons (by omega)]
    have hu := u8_range l[i]
    simp only [key_paste.l0]
    rw [if_pos (by omega), if_pos (by omega), BA_size, if_pos (by omega), bt_BA l i (by omega), w64 (by omega) (by omega), num_Hex_f _ 2 (by omega) (by omega) (by decide) (by decide), laid_list 16 2 _ (by omega), hex2_small _ (by omega) (by omega), Option.bind_some, strS, if_pos (by simp; omega), e1, ih k (i + 1) _ (by omega) (by omega) (by rw [ByteArray.size_append, strS]; simp; omega), ed, hexes_cons, str_append]
    simp only [ByteArray.append_assoc]
theorem ref_paste_l0 (l : List UInt8) (hl : l.length ≤ 65536) (kk vv : Int) (c : Bool) : ∀ (d k i : Nat) (acc : ByteArray), d + i = l.length → d + 60 < k → acc.size ≤ 2 + 2 * i → dactylref13_Name.l0 k acc (i : Int) kk vv (BA l) c = some (acc ++ strOfNums (hexes (l.drop i)) ++ (if c = true then (⟨#[33]⟩ : ByteArray) else ⟨#[]⟩)) := by
  intro d
  induction d with
  | zero =>
    intro k i acc h1 h2 h3
    obtain ⟨k, rfl⟩ : ∃ m, k = m + 1 := ⟨k - 1, by omega⟩
    simp only [dactylref13_Name.l0]
    rw [BA_size, if_neg (by omega), List.drop_of_length_le (by omega), show strOfNums (hexes []) = (⟨#[]⟩ : ByteArray) from rfl, show acc ++ (⟨#[]⟩ : ByteArray) = acc from ByteArray.append_empty]
    cases c
    · rw [if_neg (by decide), if_neg (by decide)]
      exact congrArg some (ByteArray.append_empty (b := acc)).symm
    · rw [if_pos rfl, if_pos rfl, if_pos (by omega)]
  | succ d ih =>
    intro k i acc h1 h2 h3
    obtain ⟨k, rfl⟩ : ∃ m, k = m + 1 := ⟨k - 1, by omega⟩
    have e1 : wrap64 ((i : Int) + 1) = ((i + 1 : Nat) : Int) := by rw [w64 (by omega) (by omega)]; omega
    have ed : l.drop i = l[i] :: l.drop (i + 1) := by rw [List.drop_eq_getElem_cons (by omega)]
    have hu := u8_range l[i]
    simp only [dactylref13_Name.l0]
    rw [BA_size, if_pos (by omega), if_pos (by omega), bt_BA l i (by omega), w64 (by omega) (by omega), ref_Hex _ 2 (by omega) (by omega) (by decide) (by decide) _ (by omega), laid_list 16 2 _ (by omega), hex2_small _ (by omega) (by omega), Option.bind_some, strS, if_pos (by simp; omega), e1, ih k (i + 1) _ (by omega) (by omega) (by rw [ByteArray.size_append, strS]; simp; omega), ed, hexes_cons, str_append]
    simp only [ByteArray.append_assoc]
def pasteK (l : List UInt8) (c : Bool) : ByteArray := (⟨#[80, 45]⟩ : ByteArray) ++ strOfNums (hexes l) ++ (if c = true then (⟨#[33]⟩ : ByteArray) else ⟨#[]⟩)
def nameK (kk vv : Int) (l : List UInt8) (c : Bool) : ByteArray := if kk ≤ 2 then strOfNums (signK vv) else if kk = 3 then strOfNums ([77, 45] ++ signK vv) else if kk = 15 then pasteK l c else (findR (ofP kk vv)).1.f2
theorem signK_len (v : Int) (h0 : 0 ≤ v) (h1 : v ≤ 1114367) : (signK v).length ≤ 8 := by
  have := hex1_len v h0 h1
  unfold signK
  (repeat' split) <;> simp <;> omega
/-- What kinds of keys may be. -/
theorem may_cases (kk vv : Int) (t : ByteArray) (c : Bool) (h : mayB kk vv t c = true) :
    (t = ⟨#[]⟩ ∧ c = false ∧ ((kk = 1 ∧ 32 ≤ vv ∧ vv ≠ 127 ∧ rightB vv = true) ∨ (kk = 2 ∧ ctlB vv = true) ∨ (kk = 3 ∧ (ctlB vv = true ∨ 32 ≤ vv ∧ vv ≤ 127)) ∨ (namedB kk vv = true ∧ 4 ≤ kk ∧ kk ≤ 14))) ∨ (kk = 15 ∧ vv = 0 ∧ t.size ≤ 65536) := by
  unfold mayB at h
  by_cases h15 : kk = 15
  · rw [if_pos h15, decide_eq_true_eq] at h
    exact .inr ⟨h15, h.1, h.2⟩
  · rw [if_neg h15] at h
    simp only [Bool.and_eq_true, Bool.not_eq_true', emptyB, decide_eq_true_eq] at h
    obtain ⟨ht, hc, hm⟩ := h
    refine .inl ⟨toList_inj (ht.trans (BA_toList []).symm), hc, ?_⟩
    unfold mayV at hm
    split at hm
    · rename_i e
      simp only [Bool.and_eq_true, decide_eq_true_eq] at hm
      exact .inl ⟨e, hm.1.1, hm.1.2, hm.2⟩
    · split at hm
      · rename_i e
        exact .inr (.inl ⟨e, hm⟩)
      · split at hm
        · rename_i e
          simp only [Bool.or_eq_true, decide_eq_true_eq] at hm
          exact .inr (.inr (.inl ⟨e, hm⟩))
        · refine .inr (.inr (.inr ⟨hm, ?_⟩))
          unfold namedB at hm
          simp only [Bool.or_eq_true, Bool.and_eq_true, decide_eq_true_eq] at hm
          omega
theorem ctl_range (v : Int) (h : ctlB v = true) : 0 ≤ v ∧ v < 32 := by
  unfold ctlB at h
  rw [decide_eq_true_eq] at h
  omega

end Go.Proofs.Ytemoocoedibbpaa.X

namespace Go.Proofs.Ytemoocoedibbpaa.X
open Go.RowKit Go.Proofs.YtemoocoedibbpaaW.PrintWords Go.Proofs.YtemoocoedibbpaaW.PrintLast Go.Proofs.YtemoocoedibbpaaW.PrintMore
attribute [local go_sem] max2_int min2_int max_two min_two max_three min_three max_four min_four
set_option linter.unusedVariables false
set_option linter.unusedSimpArgs false

/-! ### dactylref01_High: function 60 -/
def dactylref01_High.f (a0 : Int) (a1 : Int) : Option (Int) := if a0 > a1 then (some a0) else (some a1)
set_option maxHeartbeats 8000000 in
set_option maxRecDepth 100000 in
theorem dactylref01_High.calls (a0 : Int) (a1 : Int) (r : Int) (w : World) (h : dactylref01_High.f a0 a1 = some r) :
    Calls Try.prog 60 #[.int .i64 a0, .int .i64 a1] w fun e w' => e = .returned (.int .i64 r) ∧ Drawn0 w w' := by
  have H : (if a0 > a1 then (some a0) else (some a1)) = some r := h
  clear h
  by_cases c3 : a0 > a1
  · rw [if_pos c3] at H
    have c3b0 : decide (a1 < a0) = true := decide_eq_true c3
    clear c3
    obtain rfl := Option.some.inj H
    go_enter Try.func60, Try.ntmps60
    go_wp2
    go_ret
    exact ⟨by first | rfl | (simp; done) | (simp [*]; done), by repeat (first | exact Drawn0.refl _ | apply Drawn0.step)⟩
  · rw [if_neg c3] at H
    have c3b0 : decide (a1 < a0) = false := decide_eq_false c3
    clear c3
    obtain rfl := Option.some.inj H
    go_enter Try.func60, Try.ntmps60
    go_wp2
    go_ret
    exact ⟨by first | rfl | (simp; done) | (simp [*]; done), by repeat (first | exact Drawn0.refl _ | apply Drawn0.step)⟩

end Go.Proofs.Ytemoocoedibbpaa.X

namespace Go.Proofs.Ytemoocoedibbpaa.X
open Go.RowKit Go.Proofs.YtemoocoedibbpaaW.PrintWords Go.Proofs.YtemoocoedibbpaaW.PrintLast Go.Proofs.YtemoocoedibbpaaW.PrintMore
attribute [local go_sem] max2_int min2_int max_two min_two max_three min_three max_four min_four
set_option linter.unusedVariables false
set_option linter.unusedSimpArgs false

theorem key_of_eq (kk vv : Int) (t : ByteArray) (c : Bool) : key_of.f kk vv t c = some ((findR (ofP kk vv)).1.f0, (findR (ofP kk vv)).1.f1, (findR (ofP kk vv)).1.f2, (findR (ofP kk vv)).1.f3, (findR (ofP kk vv)).2) := rfl
theorem key_Name_f (kk vv : Int) (l : List UInt8) (c : Bool) (h : mayB kk vv (BA l) c = true) (k : Nat) (hk : l.length + 100 ≤ k) : key_Name.f k kk vv (BA l) c = some (nameK kk vv l c, 0) := by
  obtain ⟨k, rfl⟩ : ∃ m, k = m + 1 := ⟨k - 1, by omega⟩
  unfold key_Name.f
  rw [key_Check_f _ _ _ _ _ (by omega), Option.bind_some, if_pos h, if_pos rfl]
  unfold nameK
  simp only [key_Name.j0]
  rw [key_of_eq]
  rcases may_cases kk vv (BA l) c h with ⟨_, _, hm⟩ | ⟨rfl, rfl, hs⟩
  · rcases hm with ⟨rfl, h1, h2, h3⟩ | ⟨rfl, h1⟩ | ⟨rfl, h1⟩ | ⟨h1, h2, h3⟩
    · have := (rightB_iff vv).1 h3
      rw [if_pos rfl, if_pos (by decide), if_pos (by decide), key_sign_f vv (by omega) (by omega) k (by omega)]
      rfl
    · have := ctl_range vv h1
      rw [if_neg (by decide), if_pos (by decide), if_pos (by decide), key_sign_f vv (by omega) (by omega) k (by omega)]
      rfl
    · have : 0 ≤ vv ∧ vv ≤ 127 := by
        rcases h1 with h1 | h1
        · have := ctl_range vv h1; omega
        · omega
      have hl := signK_len vv (by omega) (by omega)
      simp only [show ¬ (3 : Int) = 1 by decide, show ((3 : Int) == 2) = false by decide, Bool.false_eq_true, if_false, if_true, show ¬ (3 : Int) ≤ 2 by decide]
      rw [key_sign_f vv (by omega) (by omega) k (by omega), Option.bind_some, strS, if_pos (by omega), str_append]
      rfl
    · rw [if_neg (by omega), if_neg (by simp; omega), if_neg (by omega), if_neg (by omega), if_neg (by omega), if_neg (by omega), if_neg (by omega)]
      rfl
  · rw [BA_size] at hs
    have := key_paste_l0 l hs 15 0 c l.length k 0 (⟨#[80, 45]⟩ : ByteArray) (by omega) (by omega) (by decide)
    rw [if_neg (by decide), if_neg (by decide), if_neg (by decide), if_pos rfl, if_neg (by decide), if_neg (by decide), if_pos rfl]
    unfold key_paste.f pasteK
    rw [BA_size, show key_paste.l0 k (⟨#[80, 45]⟩ : ByteArray) (l.length : Int) 0 15 0 (BA l) c = _ from this, Option.bind_some, List.drop_zero]
theorem ref_Name_f (kk vv : Int) (l : List UInt8) (c : Bool) (h : mayB kk vv (BA l) c = true) (k : Nat) (hk : l.length + 100 ≤ k) : dactylref13_Name.f k kk vv (BA l) c = some (nameK kk vv l c) := by
  obtain ⟨k, rfl⟩ : ∃ m, k = m + 3 := ⟨k - 3, by omega⟩
  rcases may_cases kk vv (BA l) c h with ⟨_, _, hm⟩ | ⟨rfl, rfl, hs⟩
  · rcases hm with ⟨rfl, h1, h2, h3⟩ | ⟨rfl, h1⟩ | ⟨rfl, h1⟩ | ⟨h1, h2, h3⟩
    · have := (rightB_iff vv).1 h3
      unfold dactylref13_Name.f nameK
      rw [if_pos (by decide), if_pos (by decide), ref_sign_f vv (by omega) (by omega) _ (by omega)]
      rfl
    · have := ctl_range vv h1
      unfold dactylref13_Name.f nameK
      rw [if_pos (by decide), if_pos (by decide), ref_sign_f vv (by omega) (by omega) _ (by omega)]
      rfl
    · have : 0 ≤ vv ∧ vv ≤ 127 := by
        rcases h1 with h1 | h1
        · have := ctl_range vv h1; omega
        · omega
      have hl := signK_len vv (by omega) (by omega)
      unfold dactylref13_Name.f nameK
      rw [if_neg (by decide), if_pos rfl, if_neg (by decide), if_pos rfl, ref_sign_f vv (by omega) (by omega) _ (by omega), Option.bind_some, strS, if_pos (by omega), str_append]
      rfl
    · exact of_all (fun kk vv => dactylref13_Name.f (k + 3) kk vv (BA l) c = some (nameK kk vv l c)) (by refine ⟨?_, ?_, ?_, ?_, ?_, ?_, ?_, ?_, ?_, ?_, ?_, ?_, ?_⟩ <;> rfl) kk vv h1
  · rw [BA_size] at hs
    have := ref_paste_l0 l hs 15 0 c l.length (k + 1) 0 (⟨#[80, 45]⟩ : ByteArray) (by omega) (by omega) (by decide)
    unfold dactylref13_Name.f nameK pasteK
    simp only [dactylref13_Name.j0, dactylref13_Name.j1]
    rw [List.drop_zero] at this
    exact this
theorem ref_Bytes_named (kk vv : Int) (t : ByteArray) (c : Bool) (k : Nat) (h : namedB kk vv = true) : dactylref13_Bytes.f (k + 1) kk vv t c = some (findR (ofP kk vv)).1.f3 :=
  of_all (fun kk vv => dactylref13_Bytes.f (k + 1) kk vv t c = some (findR (ofP kk vv)).1.f3) (by refine ⟨?_, ?_, ?_, ?_, ?_, ?_, ?_, ?_, ?_, ?_, ?_, ?_, ?_⟩ <;> rfl) kk vv h
theorem key_Bytes_f (kk vv : Int) (l : List UInt8) (c : Bool) (h : mayB kk vv (BA l) c = true) (k : Nat) (hk : 10 ≤ k) : ∃ r, key_Bytes.f k kk vv (BA l) c = some r ∧ dactylref13_Bytes.f k kk vv (BA l) c = some r := by
  obtain ⟨k, rfl⟩ : ∃ m, k = m + 1 := ⟨k - 1, by omega⟩
  have hN := ref_Bytes_named kk vv (BA l) c k
  unfold key_Bytes.f
  unfold dactylref13_Bytes.f at hN ⊢
  rw [key_Check_f _ _ _ _ _ (by omega), Option.bind_some, if_pos h, if_pos rfl]
  simp only [key_Bytes.j0, dactylref13_Bytes.j0] at hN ⊢
  rcases may_cases kk vv (BA l) c h with ⟨_, _, hm⟩ | ⟨rfl, rfl, hs⟩
  · rcases hm with ⟨rfl, h1, h2, h3⟩ | ⟨rfl, h1⟩ | ⟨rfl, h1⟩ | ⟨h1, h2, h3⟩
    · have := (rightB_iff vv).1 h3
      refine ⟨strOfNums (encL vv), ?_, ?_⟩
      · rw [if_pos rfl, if_pos (by decide), Encode_one vv h3 k (by omega)]; rfl
      · rw [if_pos rfl, ref_Bytes_f vv (by omega) (by omega)]; rfl
    · have := ctl_range vv h1
      refine ⟨strOfNums [vv], ?_, ?_⟩
      · rw [if_neg (by decide), if_pos (by decide), Encode_low vv (by omega) (by omega) k (by omega)]; rfl
      · rw [if_neg (by decide), if_pos rfl, if_pos (by decide), show vv % 256 = vv by omega]
    · have : 0 ≤ vv ∧ vv ≤ 127 := by
        rcases h1 with h1 | h1
        · have := ctl_range vv h1; omega
        · omega
      refine ⟨strOfNums [27, vv], ?_, ?_⟩
      · rw [if_neg (by decide), if_neg (by decide), if_pos rfl, Encode_low vv (by omega) (by omega) k (by omega), Option.bind_some, strS, if_pos (by simp), show (⟨#[27]⟩ : ByteArray) = strOfNums [27] from rfl, ← str_append]; rfl
      · rw [if_neg (by decide), if_neg (by decide), if_neg (by decide), if_pos rfl, show vv % 256 = vv by omega]
    · refine ⟨(findR (ofP kk vv)).1.f3, ?_, ?_⟩
      · rw [if_neg (by omega), if_neg (by simp; omega), if_neg (by omega), if_neg (by omega), key_of_eq]; rfl
      · exact hN h1
  · rw [BA_size] at hs
    refine ⟨((⟨#[27, 91, 50, 48, 48, 126]⟩ : ByteArray) ++ BA l) ++ (⟨#[27, 91, 50, 48, 49, 126]⟩ : ByteArray), ?_, ?_⟩
    · rw [if_neg (by decide), if_neg (by decide), if_neg (by decide), if_pos rfl, BA_size, if_pos (by omega), if_pos (by omega)]
    · rw [if_neg (by decide), if_neg (by decide), if_neg (by decide), if_neg (by decide), if_pos rfl, BA_size, if_pos (by omega), if_pos (by omega)]
theorem key_Value_f (kk vv : Int) (t : ByteArray) (c : Bool) (h : mayB kk vv t c = true) (k : Nat) (hk : 10 ≤ k) : ∃ v b want, key_Value.f k kk vv t c = some (v, b) ∧ dactylref13_Value.f k kk vv t c = some want ∧ b = decide (want ≥ 0) ∧ dactylref01_High.f want 0 = some v := by
  obtain ⟨k, rfl⟩ : ∃ m, k = m + 1 := ⟨k - 1, by omega⟩
  have hh : ∀ w : Int, dactylref01_High.f w 0 = some (if w > 0 then w else 0) := by intro w; unfold dactylref01_High.f; split <;> rfl
  unfold key_Value.f dactylref13_Value.f
  rw [key_Check_f _ _ _ _ _ (by omega), Option.bind_some, if_pos h, if_pos rfl]
  simp only [key_Value.j0, dactylref13_Value.j0]
  have base : kk = 1 ∨ kk = 2 ∨ kk = 4 → 0 ≤ vv := by
    intro hk
    rcases may_cases kk vv t c h with ⟨_, _, hm⟩ | ⟨h1, _, _⟩
    · rcases hm with ⟨_, h1, _, _⟩ | ⟨_, h1⟩ | ⟨h1, _⟩ | ⟨h1, _, _⟩
      · omega
      · have := ctl_range vv h1; omega
      · omega
      · unfold namedB at h1
        simp only [Bool.or_eq_true, Bool.and_eq_true, decide_eq_true_eq] at h1
        omega
    · omega
  by_cases c1 : kk = 1
  · have := base (.inl c1)
    refine ⟨vv, true, vv, by simp [c1], by simp [c1], (decide_eq_true this).symm, ?_⟩
    rw [hh]; congr 1; split <;> omega
  · by_cases c2 : kk = 2
    · have := base (.inr (.inl c2))
      refine ⟨vv, true, vv, by simp [c2], by simp [c2], (decide_eq_true this).symm, ?_⟩
      rw [hh]; congr 1; split <;> omega
    · by_cases c4 : kk = 4
      · have := base (.inr (.inr c4))
        refine ⟨vv, true, vv, by simp [c4], by simp [c4], (decide_eq_true this).symm, ?_⟩
        rw [hh]; congr 1; split <;> omega
      · by_cases c5 : kk = 5
        · exact ⟨27, true, 27, by simp [c5], by simp [c5], by decide, by rw [hh]; rfl⟩
        · by_cases c6 : kk = 6
          · exact ⟨127, true, 127, by simp [c6], by simp [c6], by decide, by rw [hh]; rfl⟩
          · exact ⟨0, false, -1, by simp [c1, c2, c4, c5, c6], by simp [c1, c2, c4, c5, c6], by decide, by rw [hh]; rfl⟩

end Go.Proofs.Ytemoocoedibbpaa.X

namespace Go.Proofs.Ytemoocoedibbpaa.X
open Go.RowKit Go.Proofs.YtemoocoedibbpaaW.PrintWords Go.Proofs.YtemoocoedibbpaaW.PrintLast Go.Proofs.YtemoocoedibbpaaW.PrintMore
attribute [local go_sem] max2_int min2_int max_two min_two max_three min_three max_four min_four
set_option linter.unusedVariables false
set_option linter.unusedSimpArgs false

/-! ### reading hex digits -/
def unhexU (l : List UInt8) (n : Int) : Option Int := l.foldl (fun a b => a.bind fun n => if ixD (b.toNat : Int) < 0 then none else some (wrap64 (wrap64 (16 * n) + ixD (b.toNat : Int)))) (some n)
theorem unhexU_none (l : List UInt8) : l.foldl (fun (a : Option Int) b => a.bind fun n => if ixD (b.toNat : Int) < 0 then none else some (wrap64 (wrap64 (16 * n) + ixD (b.toNat : Int)))) none = none := by
  induction l with
  | nil => rfl
  | cons b l ih => rw [List.foldl_cons, Option.bind_none, ih]
theorem Unhex_l0 (l : List UInt8) (hl : l.length ≤ 100000) : ∀ (d k i : Nat) (n : Int), d + i = l.length → d < k → num_Unhex.l0 k (BA l) n (l.length : Int) (i : Int) = some (match unhexU (l.drop i) n with | some m => (m, 0) | none => (0, 6)) := by
  intro d
  induction d with
  | zero =>
    intro k i n h1 h2
    obtain ⟨k, rfl⟩ : ∃ m, k = m + 1 := ⟨k - 1, by omega⟩
    simp only [num_Unhex.l0]
    rw [if_neg (by omega), List.drop_of_length_le (by omega)]
    rfl
  | succ d ih =>
    intro k i n h1 h2
    obtain ⟨k, rfl⟩ : ∃ m, k = m + 1 := ⟨k - 1, by omega⟩
    have e1 : wrap64 ((i : Int) + 1) = ((i + 1 : Nat) : Int) := by rw [w64 (by omega) (by omega)]; omega
    have ed : l.drop i = l[i] :: l.drop (i + 1) := by rw [List.drop_eq_getElem_cons (by omega)]
    simp only [num_Unhex.l0]
    rw [if_pos (by omega), if_pos (by omega), BA_size, if_pos (by omega), IndexByte_f, Option.bind_some, bt_BA l i (by omega), e1, ed]
    unfold unhexU
    rw [List.foldl_cons, Option.bind_some]
    by_cases c : ixD ((l[i].toNat : Nat) : Int) < 0
    · rw [if_pos c, if_pos c, unhexU_none]
    · rw [if_neg c, if_neg c, ih k (i + 1) _ (by omega) (by omega)]
      rfl
theorem Unhex_f (l : List UInt8) (hl : l.length ≤ 100000) (k : Nat) (hk : l.length + 10 ≤ k) : ∃ m e, num_Unhex.f k (BA l) = some (m, e) ∧ (∀ x, l ≠ [] → l.length ≤ 15 → unhexU l 0 = some x → m = x) := by
  obtain ⟨k, rfl⟩ : ∃ m, k = m + 1 := ⟨k - 1, by omega⟩
  unfold num_Unhex.f
  simp only [num_Unhex.j0]
  rw [BA_toList, BA_size]
  by_cases c : l = []
  · rw [if_pos c]
    exact ⟨_, _, rfl, fun x h => absurd c h⟩
  · rw [if_neg c]
    by_cases c2 : (l.length : Int) > 15
    · rw [decide_eq_true c2]
      exact ⟨_, _, rfl, fun x _ h => by omega⟩
    · have := Unhex_l0 l hl l.length k 0 0 (by omega) (by omega)
      rw [decide_eq_false c2, if_neg (by decide), show num_Unhex.l0 k (BA l) 0 (l.length : Int) 0 = _ from this, List.drop_zero]
      refine ⟨_, _, rfl, fun x _ _ hx => ?_⟩
      rw [hx]
def bytesOfL (l : List Int) : List UInt8 := l.map fun n => UInt8.ofNat n.toNat
theorem digV_range (x : Int) (h0 : 0 ≤ x) (h1 : x < 16) : 48 ≤ digV x ∧ digV x ≤ 70 := by unfold digV; split <;> omega
theorem unhexU_dig (x : Int) (h0 : 0 ≤ x) (h1 : x < 16) : ixD ((UInt8.ofNat (digV x).toNat).toNat : Int) = x := by
  have := digV_range x h0 h1
  rw [UInt8.toNat_ofNat', show (((digV x).toNat % 2 ^ 8 : Nat) : Int) = digV x by omega, ixD_dig x h0 h1]
theorem unhexU_hex (g : Nat) : ∀ (least u : Int), 0 ≤ u → u < 16 ^ g → u < 1152921504606846976 → unhexU (bytesOfL (hexL g least u)) 0 = some u := by
  induction g with
  | zero => intro least u h0 h1 _; simp at h1; simp [hexL, unhexU, bytesOfL]; omega
  | succ g ih =>
    intro least u h0 h1 h2
    unfold hexL
    split
    · have h3 : u / 16 < 16 ^ g := by rw [Int.pow_succ] at h1; omega
      have := ih (least - 1) (u / 16) (by omega) h3 (by omega)
      unfold unhexU bytesOfL at this ⊢
      rw [List.map_append, List.foldl_append, this]
      simp only [List.map_cons, List.map_nil, List.foldl_cons, List.foldl_nil, Option.bind_some]
      rw [unhexU_dig _ (by omega) (by omega), if_neg (by omega), show wrap64 (16 * (u / 16)) = 16 * (u / 16) from w64 (by omega) (by omega), w64 (by omega) (by omega)]
      congr 1; omega
    · simp [unhexU, bytesOfL]; omega
theorem Unhex_hex1 (v : Int) (h0 : 0 ≤ v) (h1 : v ≤ 1114367) (k : Nat) (hk : 100 ≤ k) : ∃ e, num_Unhex.f k (BA (bytesOfL (hexL 16 1 v))) = some (v, e) := by
  have hl := hex1_len v h0 h1
  have hb : (bytesOfL (hexL 16 1 v)).length = (hexL 16 1 v).length := by simp [bytesOfL]
  obtain ⟨m, e, h, hm⟩ := Unhex_f (bytesOfL (hexL 16 1 v)) (by omega) k (by omega)
  have hu := unhexU_hex 16 1 v h0 (by have : (16 : Int) ^ 16 = 18446744073709551616 := by decide
                                      omega) (by omega)
  have hne : bytesOfL (hexL 16 1 v) ≠ [] := by
    rw [hexL, if_pos (.inr (by decide))]
    simp [bytesOfL]
  exact ⟨e, by rw [h, hm v hne (by omega) hu]⟩
/-! ### names of none -/
theorem nameP_no (s : List UInt8) (h : s.length ≤ 1 ∨ (∃ a b r, s = a :: b :: r ∧ (a = 60 ∨ a = 67 ∨ a = 77 ∨ (a = 80 ∧ b = 45)))) : findR (nameP (BA s)) = (nameless, false) := by
  apply findR_none
  intro x hx
  unfold nameP
  rw [BA_toList, beq_eq_false_iff_ne]
  intro e
  subst e
  have t : ∀ a, (⟨a⟩ : ByteArray).toList = a.toList := fun a => Go.Lib.toList_data _
  rw [namedL_eq] at hx
  simp only [List.mem_cons, List.not_mem_nil, or_false] at hx
  rcases h with h | ⟨a, b, r, e, h⟩
  · rcases hx with rfl | rfl | rfl | rfl | rfl | rfl | rfl | rfl | rfl | rfl | rfl | rfl | rfl <;> simp [t] at h
  · rcases hx with rfl | rfl | rfl | rfl | rfl | rfl | rfl | rfl | rfl | rfl | rfl | rfl | rfl <;> simp only [t, List.cons.injEq] at e <;> obtain ⟨rfl, rfl, _⟩ := e <;> revert h <;> decide
/-! ### one value at a text's beginning -/
theorem One_total (l : List UInt8) : ∃ v n, utf_One.f (BA l) = some (v, n) := by
  unfold utf_One.f
  split
  · exact ⟨_, _, rfl⟩
  · rename_i h
    have hv : ∃ v, utf_value.f (BA l) ((Utf8.decode (BA l) 0).1 : Int) = some v := by
      unfold utf_value.f
      split
      · unfold strings_HasPrefix.f
        rw [show (⟨#[239, 191, 189]⟩ : ByteArray) = BA [239, 191, 189] from rfl, HasPrefix_f, Option.bind_some, Option.bind_some]
        split
        · exact ⟨_, rfl⟩
        · rw [if_pos (by omega)]; exact ⟨_, rfl⟩
      · exact ⟨_, rfl⟩
    obtain ⟨v, hv⟩ := hv
    rw [hv]
    exact ⟨_, _, rfl⟩
theorem One_low (x : UInt8) (h : x.toNat < 128) : ∃ n, utf_One.f (BA [x]) = some ((x.toNat : Int), n) := by
  have hs : 0 < (BA [x]).size := by rw [BA_size]; exact Nat.one_pos
  have hd := decode_ascii (BA [x]) 0 hs h
  unfold utf_One.f
  rw [if_neg (by rw [BA_size]; exact Nat.one_ne_zero), hd]
  dsimp only
  rw [show (((BA [x])[0]'hs).toNat) = x.toNat from rfl]
  unfold utf_value.f
  rw [if_neg (by omega), w64 (by omega) (by omega), Option.bind_some]
  exact ⟨_, rfl⟩

end Go.Proofs.Ytemoocoedibbpaa.X

namespace Go.Proofs.Ytemoocoedibbpaa.X
open Go.RowKit Go.Proofs.YtemoocoedibbpaaW.PrintWords Go.Proofs.YtemoocoedibbpaaW.PrintLast Go.Proofs.YtemoocoedibbpaaW.PrintMore
attribute [local go_sem] max2_int min2_int max_two min_two max_three min_three max_four min_four
set_option linter.unusedVariables false
set_option linter.unusedSimpArgs false

theorem value_j0 (l t : List UInt8) (b : Bool) (hl : l.length ≤ 200000) (ht : t.length ≤ 90000) (hb : b = true → 1 ≤ t.length) (k : Nat) (hk : t.length + 100 ≤ k) : ∃ a c, key_value.j0 k (BA l) (BA t) b = some (a, c) := by
  obtain ⟨k, rfl⟩ : ∃ m, k = m + 1 := ⟨k - 1, by omega⟩
  simp only [key_value.j0]
  cases b
  · rw [if_neg (by decide), show (⟨#[67, 45]⟩ : ByteArray) = BA [67, 45] from rfl, CutPrefix_f, Option.bind_some]
    obtain ⟨v, n, h1⟩ := One_total l
    cases hp : ([67, 45] : List UInt8).isPrefixOf l
    · simp only [Bool.false_eq_true, if_false]
      rw [h1]; exact ⟨_, _, rfl⟩
    · simp only [if_true]
      rw [BA_toList, BA_size]
      by_cases hn : l.drop ([67, 45] : List UInt8).length = []
      · rw [if_pos hn, h1]; exact ⟨_, _, rfl⟩
      · have : 0 < (l.drop ([67, 45] : List UInt8).length).length := List.length_pos_iff.2 hn
        rw [if_neg hn, if_pos (by omega)]
        exact ⟨_, _, rfl⟩
  · have h1 := hb rfl
    obtain ⟨m, e, hm, _⟩ := Unhex_f (t.take (t.length - 1)) (by rw [List.length_take]; omega) k (by rw [List.length_take]; omega)
    rw [if_pos rfl, BA_size, w64 (by omega) (by omega), if_pos (by omega), if_pos (by omega), BA_extract, List.drop_zero, show ((t.length : Int) - 1).toNat - 0 = t.length - 1 by omega, hm]
    exact ⟨_, _, rfl⟩
theorem value_total (l : List UInt8) (hl : l.length ≤ 90000) (k : Nat) (hk : l.length + 100 ≤ k) : ∃ a c, key_value.f k (BA l) = some (a, c) := by
  unfold key_value.f
  rw [show (⟨#[60]⟩ : ByteArray) = BA [60] from rfl, CutPrefix_f, Option.bind_some]
  cases hp : ([60] : List UInt8).isPrefixOf l
  · simp only [Bool.false_eq_true, if_false]
    exact value_j0 l l false (by omega) hl (fun h => by cases h) k hk
  · simp only [if_true]
    have hd : (l.drop ([60] : List UInt8).length).length ≤ l.length := by rw [List.length_drop]; omega
    rw [show (⟨#[62]⟩ : ByteArray) = BA [62] from rfl, strHasSuffix_f _ _ (by omega) (by decide), Option.bind_some]
    refine value_j0 l _ _ (by omega) (by omega) (fun h => ?_) k (by omega)
    have := (List.isSuffixOf_iff_suffix.1 h).length_le
    simpa using this
theorem bytes_l0 (l : List UInt8) (hl : l.length ≤ 90000) : ∀ (d k i : Nat) (acc : List Int), l.length ≤ 2 * d + i → i ≤ l.length → d + 100 ≤ k → acc.length ≤ i → ∃ r, key_bytes.l0 k (BA l) acc (i : Int) = some (strOfNums r) ∧ r.length ≤ l.length := by
  intro d
  induction d with
  | zero =>
    intro k i acc h1 h2 h3 h4
    obtain ⟨k, rfl⟩ : ∃ m, k = m + 1 := ⟨k - 1, by omega⟩
    simp only [key_bytes.l0]
    rw [BA_size, w64 (by omega) (by omega), if_neg (by omega)]
    exact ⟨acc, rfl, by omega⟩
  | succ d ih =>
    intro k i acc h1 h2 h3 h4
    obtain ⟨k, rfl⟩ : ∃ m, k = m + 1 := ⟨k - 1, by omega⟩
    simp only [key_bytes.l0]
    rw [BA_size, show wrap64 ((i : Int) + 1) = (i : Int) + 1 from w64 (by omega) (by omega), show wrap64 ((i : Int) + 2) = ((i + 2 : Nat) : Int) by rw [w64 (by omega) (by omega)]; omega]
    by_cases c : (i : Int) + 1 < l.length
    · obtain ⟨m, e, hm, _⟩ := Unhex_f ((l.drop i).take (i + 2 - i)) (by rw [List.length_take]; omega) k (by rw [List.length_take]; omega)
      rw [if_pos c, if_pos (by omega), if_pos (by omega), if_pos (by omega), BA_extract, Int.toNat_natCast, Int.toNat_natCast, hm, Option.bind_some, if_pos (by omega)]
      exact ih k (i + 2) _ (by omega) (by omega) (by omega) (by simp; omega)
    · rw [if_neg c]
      exact ⟨acc, rfl, by omega⟩
theorem bytes_total (l : List UInt8) (hl : l.length ≤ 90000) (k : Nat) (hk : l.length + 200 ≤ k) : ∃ r, key_bytes.f k (BA l) = some (strOfNums r) ∧ r.length ≤ l.length :=
  bytes_l0 l hl l.length k 0 [] (by omega) (by omega) (by omega) (by simp)
theorem guess_total (l : List UInt8) (hl : l.length ≤ 80000) (k : Nat) (hk : l.length + 300 ≤ k) : ∃ kk vv t c, key_guess.f k (BA l) = some (kk, vv, BA t, c) ∧ t.length ≤ l.length := by
  unfold key_guess.f
  split
  · exact ⟨_, _, [], _, rfl, by simp⟩
  · rw [show (⟨#[80, 45]⟩ : ByteArray) = BA [80, 45] from rfl, show (⟨#[77, 45]⟩ : ByteArray) = BA [77, 45] from rfl, CutPrefix_f, CutPrefix_f, Option.bind_some]
    cases hp : ([80, 45] : List UInt8).isPrefixOf l
    · simp only [Bool.false_eq_true, if_false, Option.bind_some]
      cases hm : ([77, 45] : List UInt8).isPrefixOf l
      · simp only [Bool.false_eq_true, if_false]
        obtain ⟨a, c, h⟩ := value_total l (by omega) k (by omega)
        rw [h]
        exact ⟨_, _, [], _, rfl, by simp⟩
      · simp only [if_true]
        have hd : (l.drop ([77, 45] : List UInt8).length).length ≤ l.length := by rw [List.length_drop]; omega
        obtain ⟨a, c, h⟩ := value_total (l.drop ([77, 45] : List UInt8).length) (by omega) k (by omega)
        rw [h]
        exact ⟨_, _, [], _, rfl, by simp⟩
    · simp only [if_true]
      have hd : (l.drop ([80, 45] : List UInt8).length).length ≤ l.length := by rw [List.length_drop]; omega
      rw [show (⟨#[33]⟩ : ByteArray) = BA [33] from rfl, CutSuffix_f _ _ (by omega) (by decide), Option.bind_some]
      cases hs : ([33] : List UInt8).isSuffixOf (l.drop ([80, 45] : List UInt8).length)
      · simp only [Bool.false_eq_true, if_false]
        obtain ⟨r, h, hr⟩ := bytes_total (l.drop ([80, 45] : List UInt8).length) (by omega) k (by omega)
        rw [h]
        exact ⟨_, _, bytesOfL r, _, rfl, by simp [bytesOfL]; simp at hr; omega⟩
      · simp only [if_true]
        have hd2 : ((l.drop ([80, 45] : List UInt8).length).take ((l.drop ([80, 45] : List UInt8).length).length - ([33] : List UInt8).length)).length ≤ l.length := by rw [List.length_take]; omega
        obtain ⟨r, h, hr⟩ := bytes_total _ (show ((l.drop ([80, 45] : List UInt8).length).take ((l.drop ([80, 45] : List UInt8).length).length - ([33] : List UInt8).length)).length ≤ 90000 by omega) k (by omega)
        rw [h]
        exact ⟨_, _, bytesOfL r, _, rfl, by simp only [bytesOfL, List.length_map]; omega⟩

end Go.Proofs.Ytemoocoedibbpaa.X

namespace Go.Proofs.Ytemoocoedibbpaa.X
open Go.RowKit Go.Proofs.YtemoocoedibbpaaW.PrintWords Go.Proofs.YtemoocoedibbpaaW.PrintLast Go.Proofs.YtemoocoedibbpaaW.PrintMore
attribute [local go_sem] max2_int min2_int max_two min_two max_three min_three max_four min_four
set_option linter.unusedVariables false
set_option linter.unusedSimpArgs false

theorem Pure_KeyParses : dactyllaw13_KeyParses.Pure := by
  intro s _
  refine ⟨s.size + 3000, ?_⟩
  have aw : dactyllaw13_awake.f = some true := rfl
  unfold dactyllaw13_KeyParses.f
  rw [aw]
  simp only [Option.bind_some, if_true]
  by_cases c1 : (s.size : Int) > 500
  · rw [if_pos c1]
  · rw [if_neg c1]
    obtain ⟨l, rfl⟩ : ∃ l, s = BA l := ⟨s.data.toList, (BA_data s).symm⟩
    rw [BA_size] at c1 ⊢
    obtain ⟨kk, vv, t, c, hg, ht⟩ := guess_total l (by omega) (l.length + 3000) (by omega)
    unfold key_Parse.f
    rw [hg, Option.bind_some]
    dsimp only
    cases hm : mayB kk vv (BA t) c
    · have hN : key_Name.f (l.length + 3000) kk vv (BA t) c = some (⟨#[]⟩, 2) := by
        unfold key_Name.f
        rw [key_Check_f _ _ _ _ _ (by omega), hm]
        rfl
      rw [hN]
      simp [show (⟨#[]⟩ : ByteArray).toList = [] from BA_toList []]
    · rw [key_Name_f kk vv t c hm _ (by omega), Option.bind_some, if_pos rfl]
      by_cases hn : (nameK kk vv t c).toList = (BA l).toList
      · rw [if_pos hn]
        simp only [Option.bind_some, if_true]
        rw [ref_May_f _ _ _ _ _ (by omega), Option.bind_some, hm, if_pos rfl, ref_Name_f kk vv t c hm _ (by omega), Option.bind_some, hn, beq_self_eq_true]
      · rw [if_neg hn]
        simp [show (⟨#[]⟩ : ByteArray).toList = [] from BA_toList []]

end Go.Proofs.Ytemoocoedibbpaa.X
