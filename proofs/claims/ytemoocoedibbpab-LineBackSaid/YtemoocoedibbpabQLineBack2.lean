/- Written by a program of this session (wip/tools/hp.py, pack.py) and by this session: what the law LineBack reaches, function by function: a Lean function with the same answers, and the proof that the machine's call gives them. No condition but the ones the theorems state. -/
import Derived.Test.YtemoocoedibbpabQLineBack1
namespace Go.Proofs.Ytemoocoedibbpab.X
open Go.RowKit Go.Proofs.YtemoocoedibbpabW.PrintWords Go.Proofs.YtemoocoedibbpabW.PrintLast Go.Proofs.YtemoocoedibbpabW.PrintMore
attribute [local go_sem] max2_int min2_int max_two min_two max_three min_three max_four min_four
set_option linter.unusedVariables false
set_option linter.unusedSimpArgs false

/-! ### line_SwapWords: function 32 -/
def line_SwapWords.j0 : Nat → List (S47) → Int → Int → Int → Int → Bool → List (S47) → Int → Option ((List (S47)) × Int × Bool)
 | 0, _, _, _, _, _, _, _, _ => none
 | k + 1, x4, x5, x6, x7, x8, x56, x102000, x102001 => if x56 = true then ((line_copied.f x102000 x102001).bind fun bt113 => (some (bt113.1, bt113.2, false))) else (if 0 ≤ x7 then (if x7 ≤ (x4.length : Int) then (if 0 ≤ x5 then (if x5 ≤ x6 then (if x6 ≤ (x4.length : Int) then (if 0 ≤ x8 then (if x8 ≤ x5 then (if x5 ≤ (x4.length : Int) then (if x7 ≤ x8 then (if x8 ≤ (x4.length : Int) then (if 0 ≤ x6 then ((Concat_Sign.f (([(x4.take (x7 : Int).toNat), ((x4.take (x6 : Int).toNat).drop (x5 : Int).toNat), ((x4.take (x5 : Int).toNat).drop (x8 : Int).toNat), ((x4.take (x8 : Int).toNat).drop (x7 : Int).toNat), (x4.drop (x6 : Int).toNat)] : List (List (S47))))).bind fun t145 => (some (t145, x6, true))) else (none)) else (none)) else (none)) else (none)) else (none)) else (none)) else (none)) else (none)) else (none)) else (none)) else (none))
def line_SwapWords.f (k : Nat) (l0_0 : List (S47)) (a0_1 : Int) : Option ((List (S47)) × Int × Bool) := (word_Next.f l0_0 a0_1).bind fun t103 => ((word_Back.f l0_0 t103).bind fun t104 => ((word_Next.f l0_0 t104).bind fun t105 => ((word_Back.f l0_0 t104).bind fun t106 => ((word_Next.f l0_0 t106).bind fun t107 => ((line_Right.f l0_0 a0_1).bind fun t108 => (if t108 = true then (if t106 ≥ t104 then (line_SwapWords.j0 k l0_0 t104 t105 t106 t107 true l0_0 a0_1) else (if t107 > t104 then (line_SwapWords.j0 k l0_0 t104 t105 t106 t107 true l0_0 a0_1) else (if 0 ≤ t106 then (if t106 < (l0_0.length : Int) then ((word_Kind.f k ((rd_T47 l0_0 t106).f0)).bind fun t110 => (if t110 = 1 then (if 0 ≤ t104 then (if t104 < (l0_0.length : Int) then ((word_Kind.f k ((rd_T47 l0_0 t104).f0)).bind fun t112 => (line_SwapWords.j0 k l0_0 t104 t105 t106 t107 (t112 != 1) l0_0 a0_1)) else (none)) else (none)) else (line_SwapWords.j0 k l0_0 t104 t105 t106 t107 true l0_0 a0_1))) else (none)) else (none)))) else (line_SwapWords.j0 k l0_0 t104 t105 t106 t107 true l0_0 a0_1)))))))
theorem line_SwapWords.mono_l : ∀ k, (∀ y0 y1 y2 y3 y4 y5 y6 y7, LeO (line_SwapWords.j0 k y0 y1 y2 y3 y4 y5 y6 y7) (line_SwapWords.j0 (k + 1) y0 y1 y2 y3 y4 y5 y6 y7))
 | 0 => fun _ _ _ _ _ _ _ _ r h => by simp [line_SwapWords.j0] at h
 | k + 1 => by
  have ih0 := line_SwapWords.mono_l k
  ·intro y0 y1 y2 y3 y4 y5 y6 y7
   unfold line_SwapWords.j0
   repeat' first
   | (with_reducible exact ih0 _ _ _ _ _ _ _ _)
   | (with_reducible exact word_Kind.mono _ _)
   | (with_reducible exact LeO.refl _)
   | (with_reducible exact LeO.none _)
   | (with_reducible refine LeO.ite ?_ ?_)
   | (with_reducible refine LeO.bind ?_ (fun _ => ?_))
   | exact ih0 _ _ _ _ _ _ _ _
   | exact word_Kind.mono _ _
   | exact LeO.none _
   | refine LeO.ite ?_ ?_
   | refine LeO.bind ?_ (fun _ => ?_)
theorem line_SwapWords.mono : ∀ a0 a1 k, LeO (line_SwapWords.f k a0 a1) (line_SwapWords.f (k + 1) a0 a1) := by
 intro a0 a1 k
 have ih0 := line_SwapWords.mono_l k
 unfold line_SwapWords.f
 repeat' first
   | (with_reducible exact ih0 _ _ _ _ _ _ _ _)
   | (with_reducible exact word_Kind.mono _ _)
   | (with_reducible exact LeO.refl _)
   | (with_reducible exact LeO.none _)
   | (with_reducible refine LeO.ite ?_ ?_)
   | (with_reducible refine LeO.bind ?_ (fun _ => ?_))
   | exact ih0 _ _ _ _ _ _ _ _
   | exact word_Kind.mono _ _
   | exact LeO.none _
   | refine LeO.ite ?_ ?_
   | refine LeO.bind ?_ (fun _ => ?_)
def line_SwapWords.T8 : Bool × List (List Nat × List Nat) := (true, [([], []), ([], []), ([0, 1], [0, 1]), ([], []), ([], []), ([], []), ([3, 4, 5], [3, 4, 5]), ([], []), ([], []), ([], []), ([7, 8, 9], [7, 8, 9]), ([], []), ([], []), ([], []), ([11, 12, 13], [11, 12, 13]), ([], []), ([], []), ([15, 16], [15, 16]), ([2, 6, 10, 14, 17], [2, 6, 10, 14, 17]), ([18], [18]), ([], []), ([19, 20], [19, 20]), ([21, 19, 0, 1, 2, 3, 4, 5, 6, 7, 8, 9, 10, 11, 12, 13, 14, 15, 16, 17, 18, 19, 20, 21], [21]), ([22, 0, 1, 2, 3, 4, 5, 6, 7, 8, 9, 10, 11, 12, 13, 14, 15, 16, 17, 18, 19, 20, 21, 22], [])])
def line_SwapWords.B8 : List Nat := [0, 0, 3, 0, 0, 0, 56, 0, 0, 0, 896, 0, 0, 0, 14336, 0, 0, 98304, 262143, 524287, 0, 2097151, 4194303, 8388607]
theorem line_SwapWords.tab8 : rtab .any (opsOf Try.f32 8) = line_SwapWords.T8 := by kernel_rfl
theorem line_SwapWords.bits8 : waitsOk line_SwapWords.T8.2 line_SwapWords.B8 = true := by kernel_rfl
set_option maxHeartbeats 8000000 in
set_option maxRecDepth 100000 in
theorem line_SwapWords.calls (k : Nat) (P0_0_ : Nat → Prop) (A0_0 : Option Addr) (c0_0 : Nat) (l0_0 : List (S47)) (a0_1 : Int) (r1 : List (S47)) (r2 : Int) (r3 : Bool) (w : World) (hs0_0 : Kd.V k47 47 w w.heap.size (fun k_ => P0_0_ k_) (.slice A0_0 l0_0.length c0_0) l0_0) (h : line_SwapWords.f k l0_0 a0_1 = some (r1, r2, r3)) :
  Calls Try.prog 32 #[.agg #[.slice A0_0 l0_0.length c0_0, .int .i64 a0_1]] w fun e w' => ∃ v0_ : Value, e = .returned (.tuple #[.agg #[v0_, .int .i64 r2], .bool r3]) ∧ Kd.R k47 47 w' w.heap.size (fun k_ => (w.heap.size ≤ k_)) v0_ r1 ∧ Below w.heap.size w w' := by
 have hu24 := Try.underlying24
 have HO0_0 := Aside0.mk (show Kd.V k47 47 w w.heap.size (fun k_ => (P0_0_ k_ ∨ w.heap.size ≤ k_)) (.slice A0_0 l0_0.length c0_0) l0_0 from Kd.V_mono hs0_0 (fun k_ hk => .inl hk))
 have HB := Aside0.mk (Below.refl w.heap.size w)
 have H : ((word_Next.f l0_0 a0_1).bind fun t103 => ((word_Back.f l0_0 t103).bind fun t104 => ((word_Next.f l0_0 t104).bind fun t105 => ((word_Back.f l0_0 t104).bind fun t106 => ((word_Next.f l0_0 t106).bind fun t107 => ((line_Right.f l0_0 a0_1).bind fun t108 => (if t108 = true then (if t106 ≥ t104 then (line_SwapWords.j0 k l0_0 t104 t105 t106 t107 true l0_0 a0_1) else (if t107 > t104 then (line_SwapWords.j0 k l0_0 t104 t105 t106 t107 true l0_0 a0_1) else (if 0 ≤ t106 then (if t106 < (l0_0.length : Int) then ((word_Kind.f k ((rd_T47 l0_0 t106).f0)).bind fun t110 => (if t110 = 1 then (if 0 ≤ t104 then (if t104 < (l0_0.length : Int) then ((word_Kind.f k ((rd_T47 l0_0 t104).f0)).bind fun t112 => (line_SwapWords.j0 k l0_0 t104 t105 t106 t107 (t112 != 1) l0_0 a0_1)) else (none)) else (none)) else (line_SwapWords.j0 k l0_0 t104 t105 t106 t107 true l0_0 a0_1))) else (none)) else (none)))) else (line_SwapWords.j0 k l0_0 t104 t105 t106 t107 true l0_0 a0_1)))))))) = some (r1, r2, r3) := h
 clear h
 replace H := Option.bind_eq_some_iff.mp H
 obtain ⟨t103, A20, H⟩ := H
 try dsimp only at H
 have A2 := Aside0.mk A20
 clear A20
 replace H := Option.bind_eq_some_iff.mp H
 obtain ⟨t104, A30, H⟩ := H
 try dsimp only at H
 have A3 := Aside0.mk A30
 clear A30
 replace H := Option.bind_eq_some_iff.mp H
 obtain ⟨t105, A40, H⟩ := H
 try dsimp only at H
 have A4 := Aside0.mk A40
 clear A40
 replace H := Option.bind_eq_some_iff.mp H
 obtain ⟨t106, A50, H⟩ := H
 try dsimp only at H
 have A5 := Aside0.mk A50
 clear A50
 replace H := Option.bind_eq_some_iff.mp H
 obtain ⟨t107, A60, H⟩ := H
 try dsimp only at H
 have A6 := Aside0.mk A60
 clear A60
 have HC7 := Aside0.mk H
 clear H
 go_enter Try.func32, Try.ntmps32
 go_upto_region 6 with (first | ((with_reducible refine gate_dst (N := 1) rfl ?_); refine box_event ?hg (N := 1) ?hd (cs := #[.slice A0_0 l0_0.length c0_0, .int .i64 a0_1]) (t := 24) ?hr ?_; (case hd => rfl); (case hg => rfl); (case hr => first | (go_simp; done) | (go_simp; rfl)); intro gb101 hg w8 hbox hb; replace HO0_0 := a0 (Kd.V_below (Kd.V_elderB HO0_0.out gb101 (Nat.le_of_eq hg.symm)) hb); have BK101 := a0 (hbox); have GW101 := a0 ((by rw [hg]; exact (below_size HB.out) : w.heap.size ≤ gb101)); have GE101 := a0 ((by rw [hg]; exact (below_size HB.out) : w.heap.size ≤ gb101)); replace HB := a0 (below_step HB.out hb); clear hb hbox hg) | ((with_reducible refine gate_dst (N := 2) rfl ?_); refine box_event ?hg (N := 2) ?hd (cs := #[.slice none 0 0, .int .i64 0]) (t := 24) ?hr ?_; (case hd => rfl); (case hg => rfl); (case hr => first | (go_simp; done) | (go_simp; rfl)); intro gb102 hg w9 hbox hb; replace HO0_0 := a0 (Kd.V_below (Kd.V_elderB HO0_0.out gb102 (Nat.le_of_eq hg.symm)) hb); have BK102 := a0 (hbox); have GW102 := a0 ((by rw [hg]; exact (below_size HB.out) : w.heap.size ≤ gb102)); have GE102 := a0 ((by rw [hg]; exact (below_size HB.out) : w.heap.size ≤ gb102)); replace HB := a0 (below_step HB.out hb); have NB101_102 := a0 ((by rw [hg]; exact Nat.ne_of_lt (blk_lt BK101.out) : gb101 ≠ gb102)); have NB102_101 := a0 ((by rw [hg]; exact Nat.ne_of_gt (blk_lt BK101.out) : gb102 ≠ gb101)); replace BK101 := a0 (bB hb BK101.out); clear hb hbox hg; have hnb10 := NB101_102.out; have hnc10 := NB102_101.out; obtain ⟨hcz11_0, hcz11_1, hfz11_0, hfz11_1⟩ := c2 BK101.out) | ((with_reducible refine gate_callee (f := 72) rfl ?_); refine gL (some 15) Try.func72 (by kernel_rfl) #[.slice A0_0 l0_0.length c0_0, .int .i64 a0_1] rfl rfl rfl rfl rfl ?_; (with_reducible refine (word_Next.calls _ _ l0_0 a0_1 t103 _ ?side1 ?side2 A2.out).mono ?_); (case side1 => repeat (first | exact (Kd.V_reads' HO0_0.out).2.2 | (with_reducible refine Kd.C_alloc ?_ _) | (with_reducible refine Kd.C_drewN ?_ _) | (with_reducible refine Kd.C_drew ?_))); (case side2 => exact (Kd.V_reads' HO0_0.out).2.1); rintro e w12 ⟨rfl, hb⟩; refine ⟨_, rfl, ?_⟩; replace HO0_0 := a0 (Kd.V_below HO0_0.out hb); replace BK101 := a0 (bB hb BK101.out); replace BK102 := a0 (bB hb BK102.out); replace HB := a0 (below_step HB.out hb); (try clear hb); (try clear hb2); (try clear hk); (try clear hi)) | ((with_reducible refine gate_callee (f := 71) rfl ?_); refine gL (some 16) Try.func71 (by kernel_rfl) #[.slice A0_0 l0_0.length c0_0, .int .i64 t103] rfl rfl rfl rfl rfl ?_; (with_reducible refine (word_Back.calls _ _ l0_0 t103 t104 _ ?side1 ?side2 A3.out).mono ?_); (case side1 => repeat (first | exact (Kd.V_reads' HO0_0.out).2.2 | (with_reducible refine Kd.C_alloc ?_ _) | (with_reducible refine Kd.C_drewN ?_ _) | (with_reducible refine Kd.C_drew ?_))); (case side2 => exact (Kd.V_reads' HO0_0.out).2.1); rintro e w13 ⟨rfl, hb⟩; refine ⟨_, rfl, ?_⟩; replace HO0_0 := a0 (Kd.V_below HO0_0.out hb); replace BK101 := a0 (bB hb BK101.out); replace BK102 := a0 (bB hb BK102.out); replace HB := a0 (below_step HB.out hb); (try clear hb); (try clear hb2); (try clear hk); (try clear hi)) | ((with_reducible refine gate_callee (f := 72) rfl ?_); refine gL (some 19) Try.func72 (by kernel_rfl) #[.slice A0_0 l0_0.length c0_0, .int .i64 t104] rfl rfl rfl rfl rfl ?_; (with_reducible refine (word_Next.calls _ _ l0_0 t104 t105 _ ?side1 ?side2 A4.out).mono ?_); (case side1 => repeat (first | exact (Kd.V_reads' HO0_0.out).2.2 | (with_reducible refine Kd.C_alloc ?_ _) | (with_reducible refine Kd.C_drewN ?_ _) | (with_reducible refine Kd.C_drew ?_))); (case side2 => exact (Kd.V_reads' HO0_0.out).2.1); rintro e w14 ⟨rfl, hb⟩; refine ⟨_, rfl, ?_⟩; replace HO0_0 := a0 (Kd.V_below HO0_0.out hb); replace BK101 := a0 (bB hb BK101.out); replace BK102 := a0 (bB hb BK102.out); replace HB := a0 (below_step HB.out hb); (try clear hb); (try clear hb2); (try clear hk); (try clear hi)) | ((with_reducible refine gate_callee (f := 71) rfl ?_); refine gL (some 22) Try.func71 (by kernel_rfl) #[.slice A0_0 l0_0.length c0_0, .int .i64 t104] rfl rfl rfl rfl rfl ?_; (with_reducible refine (word_Back.calls _ _ l0_0 t104 t106 _ ?side1 ?side2 A5.out).mono ?_); (case side1 => repeat (first | exact (Kd.V_reads' HO0_0.out).2.2 | (with_reducible refine Kd.C_alloc ?_ _) | (with_reducible refine Kd.C_drewN ?_ _) | (with_reducible refine Kd.C_drew ?_))); (case side2 => exact (Kd.V_reads' HO0_0.out).2.1); rintro e w15 ⟨rfl, hb⟩; refine ⟨_, rfl, ?_⟩; replace HO0_0 := a0 (Kd.V_below HO0_0.out hb); replace BK101 := a0 (bB hb BK101.out); replace BK102 := a0 (bB hb BK102.out); replace HB := a0 (below_step HB.out hb); (try clear hb); (try clear hb2); (try clear hk); (try clear hi)) | ((with_reducible refine gate_callee (f := 72) rfl ?_); refine gL (some 25) Try.func72 (by kernel_rfl) #[.slice A0_0 l0_0.length c0_0, .int .i64 t106] rfl rfl rfl rfl rfl ?_; (with_reducible refine (word_Next.calls _ _ l0_0 t106 t107 _ ?side1 ?side2 A6.out).mono ?_); (case side1 => repeat (first | exact (Kd.V_reads' HO0_0.out).2.2 | (with_reducible refine Kd.C_alloc ?_ _) | (with_reducible refine Kd.C_drewN ?_ _) | (with_reducible refine Kd.C_drew ?_))); (case side2 => exact (Kd.V_reads' HO0_0.out).2.1); rintro e w16 ⟨rfl, hb⟩; refine ⟨_, rfl, ?_⟩; replace HO0_0 := a0 (Kd.V_below HO0_0.out hb); replace BK101 := a0 (bB hb BK101.out); replace BK102 := a0 (bB hb BK102.out); replace HB := a0 (below_step HB.out hb); (try clear hb); (try clear hb2); (try clear hk); (try clear hi)))
 (try simp only [Act.put, List.setIfInBounds_toArray, List.set_cons_zero, List.set_cons_succ])
 go_cut [56] (fun v56 wc => ∃ (kq : Nat) (x56_6 : Bool), v56 = .bool x56_6 ∧ Aside0 (line_SwapWords.j0 kq l0_0 t104 t105 t106 t107 x56_6 l0_0 a0_1 = some (r1, r2, r3)) ∧ Aside0 (kq ≤ k) ∧ Aside0 (Kd.V k47 47 wc w.heap.size (fun k_ => (P0_0_ k_ ∨ w.heap.size ≤ k_) ∧ k_ ≠ gb101 ∧ k_ ≠ gb102) (.slice A0_0 l0_0.length c0_0) l0_0) ∧ Aside0 (Kd.V k47 47 wc w.heap.size (fun k_ => (P0_0_ k_ ∨ w.heap.size ≤ k_) ∧ k_ ≠ gb101 ∧ k_ ≠ gb102) (.slice A0_0 l0_0.length c0_0) l0_0) ∧ Aside0 (wc.heap[gb101]? = some (.cells #[(.slice A0_0 l0_0.length c0_0), .int .i64 a0_1] 24 (0, 0))) ∧ Aside0 (wc.heap[gb102]? = some (.cells #[(.slice none 0 0), .int .i64 0] 24 (0, 0))) ∧ Aside0 (Below w.heap.size w wc))
 case first =>
  have H := HC7.out
  clear HC7
  replace H := Option.bind_eq_some_iff.mp H
  obtain ⟨t108, A170, H⟩ := H
  try dsimp only at H
  have A17 := Aside0.mk A170
  clear A170
  by_cases c18 : t108 = true
  ·subst c18
   have H1 : (if t106 ≥ t104 then (line_SwapWords.j0 k l0_0 t104 t105 t106 t107 true l0_0 a0_1) else (if t107 > t104 then (line_SwapWords.j0 k l0_0 t104 t105 t106 t107 true l0_0 a0_1) else (if 0 ≤ t106 then (if t106 < (l0_0.length : Int) then ((word_Kind.f k ((rd_T47 l0_0 t106).f0)).bind fun t110 => (if t110 = 1 then (if 0 ≤ t104 then (if t104 < (l0_0.length : Int) then ((word_Kind.f k ((rd_T47 l0_0 t104).f0)).bind fun t112 => (line_SwapWords.j0 k l0_0 t104 t105 t106 t107 (t112 != 1) l0_0 a0_1)) else (none)) else (none)) else (line_SwapWords.j0 k l0_0 t104 t105 t106 t107 true l0_0 a0_1))) else (none)) else (none)))) = some (r1, r2, r3) := by rw [if_pos rfl] at H; exact H
   clear H
   have H := H1
   clear H1
   by_cases c19 : t106 ≥ t104
   ·rw [if_pos c19] at H
    have c19b0 : decide (t104 ≤ t106) = true := decide_eq_true c19
    clear c19
    (first | rw [c19b0] | (simp only [i64_w, i32_w]; rw [c19b0]) | skip)
    have H' := Aside0.mk H
    clear H
    have hnb20 := NB101_102.out
    have hnc20 := NB102_101.out
    obtain ⟨hcz21_0, hcz21_1, hfz21_0, hfz21_1⟩ := c2 BK101.out
    go_wp2_with (first | ((with_reducible refine gate_callee (f := 57) rfl ?_); refine gL (some 27) Try.func57 (by kernel_rfl) #[.agg #[.slice A0_0 l0_0.length c0_0, .int .i64 a0_1]] rfl rfl rfl rfl rfl ?_; (with_reducible refine (line_Right.calls _ _ l0_0 a0_1 true _ ?side1 ?side2 A17.out).mono ?_); (case side1 => repeat (first | exact (Kd.V_reads' HO0_0.out).2.2 | (with_reducible refine Kd.C_alloc ?_ _) | (with_reducible refine Kd.C_drewN ?_ _) | (with_reducible refine Kd.C_drew ?_))); (case side2 => exact (Kd.V_reads' HO0_0.out).2.1); rintro e w22 ⟨rfl, hb⟩; refine ⟨_, rfl, ?_⟩; replace HO0_0 := a0 (Kd.V_below HO0_0.out hb); replace BK101 := a0 (bB hb BK101.out); replace BK102 := a0 (bB hb BK102.out); replace HB := a0 (below_step HB.out hb); (try clear hb); (try clear hb2); (try clear hk); (try clear hi)))
    go_meet
    case rel => exact ⟨_, (true), (by first | rfl | (simp; done) | (simp [*]; done)), H', ⟨by first | omega | exact Nat.le_refl _⟩, ⟨by exact Kd.V_mono HO0_0.out (fun _ hk => ⟨hk.1.1, ⟨hk.1.2, hk.2⟩⟩)⟩, ⟨by exact Kd.V_mono HO0_0.out (fun _ hk => ⟨hk.1.1, ⟨hk.1.2, hk.2⟩⟩)⟩, ⟨by exact BK101.out⟩, ⟨by exact BK102.out⟩, ⟨by repeat (first | (with_reducible first | exact HB.out | apply below_alloc | apply pw_below_drewN | apply below_drew1 | refine below_set ?_ GE101.out | refine below_set ?_ GE102.out) | exact HB.out)⟩⟩
   ·rw [if_neg c19] at H
    have c19b0 : decide (t104 ≤ t106) = false := decide_eq_false c19
    clear c19
    (first | rw [c19b0] | (simp only [i64_w, i32_w]; rw [c19b0]) | skip)
    by_cases c23 : t107 > t104
    ·rw [if_pos c23] at H
     have c23b0 : decide (t104 < t107) = true := decide_eq_true c23
     clear c23
     have H' := Aside0.mk H
     clear H
     have hnb24 := NB101_102.out
     have hnc24 := NB102_101.out
     obtain ⟨hcz25_0, hcz25_1, hfz25_0, hfz25_1⟩ := c2 BK101.out
     go_wp2_with (first | ((with_reducible refine gate_callee (f := 57) rfl ?_); refine gL (some 27) Try.func57 (by kernel_rfl) #[.agg #[.slice A0_0 l0_0.length c0_0, .int .i64 a0_1]] rfl rfl rfl rfl rfl ?_; (with_reducible refine (line_Right.calls _ _ l0_0 a0_1 true _ ?side1 ?side2 A17.out).mono ?_); (case side1 => repeat (first | exact (Kd.V_reads' HO0_0.out).2.2 | (with_reducible refine Kd.C_alloc ?_ _) | (with_reducible refine Kd.C_drewN ?_ _) | (with_reducible refine Kd.C_drew ?_))); (case side2 => exact (Kd.V_reads' HO0_0.out).2.1); rintro e w26 ⟨rfl, hb⟩; refine ⟨_, rfl, ?_⟩; replace HO0_0 := a0 (Kd.V_below HO0_0.out hb); replace BK101 := a0 (bB hb BK101.out); replace BK102 := a0 (bB hb BK102.out); replace HB := a0 (below_step HB.out hb); (try clear hb); (try clear hb2); (try clear hk); (try clear hi)))
     go_meet
     case rel => exact ⟨_, (true), (by first | rfl | (simp; done) | (simp [*]; done)), H', ⟨by first | omega | exact Nat.le_refl _⟩, ⟨by exact Kd.V_mono HO0_0.out (fun _ hk => ⟨hk.1.1, ⟨hk.1.2, hk.2⟩⟩)⟩, ⟨by exact Kd.V_mono HO0_0.out (fun _ hk => ⟨hk.1.1, ⟨hk.1.2, hk.2⟩⟩)⟩, ⟨by exact BK101.out⟩, ⟨by exact BK102.out⟩, ⟨by repeat (first | (with_reducible first | exact HB.out | apply below_alloc | apply pw_below_drewN | apply below_drew1 | refine below_set ?_ GE101.out | refine below_set ?_ GE102.out) | exact HB.out)⟩⟩
    ·rw [if_neg c23] at H
     have c23b0 : decide (t104 < t107) = false := decide_eq_false c23
     clear c23
     by_cases c27 : 0 ≤ t106
     ·rw [if_pos c27] at H
      have c27b0 : decide (0 ≤ t106) = true := decide_eq_true c27
      clear c27
      by_cases c28 : t106 < (l0_0.length : Int)
      ·rw [if_pos c28] at H
       have c28b0 : decide (t106 < (l0_0.length : Int)) = true := decide_eq_true c28
       clear c28
       replace H := Option.bind_eq_some_iff.mp H
       obtain ⟨t110, A290, H⟩ := H
       try dsimp only at H
       have A29 := Aside0.mk A290
       clear A290
       by_cases c30 : t110 = 1
       ·rw [if_pos c30] at H
        have c30b0 : (t110 == 1) = true := beq_iff_eq.mpr c30
        have c30b1 : (t110 != 1) = false := bne_eq_false_iff_eq.mpr c30
        clear c30
        by_cases c31 : 0 ≤ t104
        ·rw [if_pos c31] at H
         have c31b0 : decide (0 ≤ t104) = true := decide_eq_true c31
         clear c31
         by_cases c32 : t104 < (l0_0.length : Int)
         ·rw [if_pos c32] at H
          have c32b0 : decide (t104 < (l0_0.length : Int)) = true := decide_eq_true c32
          clear c32
          replace H := Option.bind_eq_some_iff.mp H
          obtain ⟨t112, A330, H⟩ := H
          try dsimp only at H
          have A33 := Aside0.mk A330
          clear A330
          have H' := Aside0.mk H
          clear H
          have hnb34 := NB101_102.out
          have hnc34 := NB102_101.out
          obtain ⟨hcz35_0, hcz35_1, hfz35_0, hfz35_1⟩ := c2 BK101.out
          go_wp2_with (first | ((with_reducible refine gate_callee (f := 57) rfl ?_); refine gL (some 27) Try.func57 (by kernel_rfl) #[.agg #[.slice A0_0 l0_0.length c0_0, .int .i64 a0_1]] rfl rfl rfl rfl rfl ?_; (with_reducible refine (line_Right.calls _ _ l0_0 a0_1 true _ ?side1 ?side2 A17.out).mono ?_); (case side1 => repeat (first | exact (Kd.V_reads' HO0_0.out).2.2 | (with_reducible refine Kd.C_alloc ?_ _) | (with_reducible refine Kd.C_drewN ?_ _) | (with_reducible refine Kd.C_drew ?_))); (case side2 => exact (Kd.V_reads' HO0_0.out).2.1); rintro e w36 ⟨rfl, hb⟩; refine ⟨_, rfl, ?_⟩; replace HO0_0 := a0 (Kd.V_below HO0_0.out hb); replace BK101 := a0 (bB hb BK101.out); replace BK102 := a0 (bB hb BK102.out); replace HB := a0 (below_step HB.out hb); clear hb; have p109 : 0 ≤ (t106 : Int) := of_decide_eq_true (by first | (with_reducible assumption) | assumption); have q109 : t106 < (l0_0.length : Int) := of_decide_eq_true (by first | (with_reducible assumption) | assumption); obtain ⟨ad109, e109, hx109_0, hx109_1⟩ := at_T47 (Kd.V_reads' HO0_0.out).2.2 t106 p109 q109; cases e109; replace p109 := eq_true p109; replace q109 := eq_true q109) | (go_at_call 61; (with_reducible refine (word_Kind.calls k ((rd_T47 l0_0 t106).f0) t110 _ A29.out).mono ?_); rintro e w37 ⟨rfl, hb⟩; replace HO0_0 := a0 (Kd.V_below HO0_0.out hb); replace BK101 := a0 (bB hb BK101.out); replace BK102 := a0 (bB hb BK102.out); replace HB := a0 (below_step HB.out hb); (try clear hb); (try clear hb2); (try clear hk); (try clear hi); have p111 : 0 ≤ (t104 : Int) := of_decide_eq_true (by first | (with_reducible assumption) | assumption); have q111 : t104 < (l0_0.length : Int) := of_decide_eq_true (by first | (with_reducible assumption) | assumption); obtain ⟨ad111, e111, hx111_0, hx111_1⟩ := at_T47 (Kd.V_reads' HO0_0.out).2.2 t104 p111 q111; obtain rfl : ad109 = ad111 := (by injection e111); replace p111 := eq_true p111; replace q111 := eq_true q111) | (go_at_call 61; (with_reducible refine (word_Kind.calls k ((rd_T47 l0_0 t104).f0) t112 _ A33.out).mono ?_); rintro e w38 ⟨rfl, hb⟩; replace HO0_0 := a0 (Kd.V_below HO0_0.out hb); replace BK101 := a0 (bB hb BK101.out); replace BK102 := a0 (bB hb BK102.out); replace HB := a0 (below_step HB.out hb); (try clear hb); (try clear hb2); (try clear hk); (try clear hi)))
          go_meet
          case rel => exact ⟨_, ((t112 != 1)), (by first | rfl | (simp; done) | (simp [*]; done)), H', ⟨by first | omega | exact Nat.le_refl _⟩, ⟨by exact Kd.V_mono HO0_0.out (fun _ hk => ⟨hk.1.1, ⟨hk.1.2, hk.2⟩⟩)⟩, ⟨by exact Kd.V_mono HO0_0.out (fun _ hk => ⟨hk.1.1, ⟨hk.1.2, hk.2⟩⟩)⟩, ⟨by exact BK101.out⟩, ⟨by exact BK102.out⟩, ⟨by repeat (first | (with_reducible first | exact HB.out | apply below_alloc | apply pw_below_drewN | apply below_drew1 | refine below_set ?_ GE101.out | refine below_set ?_ GE102.out) | exact HB.out)⟩⟩
         ·rw [if_neg c32] at H
          exact absurd H (by simp)
        ·rw [if_neg c31] at H
         exact absurd H (by simp)
       ·rw [if_neg c30] at H
        have c30b0 : (t110 == 1) = false := beq_eq_false_iff_ne.mpr c30
        have c30b1 : (t110 != 1) = true := bne_iff_ne.mpr c30
        have H' := Aside0.mk H
        clear H
        have hnb39 := NB101_102.out
        have hnc39 := NB102_101.out
        obtain ⟨hcz40_0, hcz40_1, hfz40_0, hfz40_1⟩ := c2 BK101.out
        go_wp2_with (first | ((with_reducible refine gate_callee (f := 57) rfl ?_); refine gL (some 27) Try.func57 (by kernel_rfl) #[.agg #[.slice A0_0 l0_0.length c0_0, .int .i64 a0_1]] rfl rfl rfl rfl rfl ?_; (with_reducible refine (line_Right.calls _ _ l0_0 a0_1 true _ ?side1 ?side2 A17.out).mono ?_); (case side1 => repeat (first | exact (Kd.V_reads' HO0_0.out).2.2 | (with_reducible refine Kd.C_alloc ?_ _) | (with_reducible refine Kd.C_drewN ?_ _) | (with_reducible refine Kd.C_drew ?_))); (case side2 => exact (Kd.V_reads' HO0_0.out).2.1); rintro e w41 ⟨rfl, hb⟩; refine ⟨_, rfl, ?_⟩; replace HO0_0 := a0 (Kd.V_below HO0_0.out hb); replace BK101 := a0 (bB hb BK101.out); replace BK102 := a0 (bB hb BK102.out); replace HB := a0 (below_step HB.out hb); clear hb; have p109 : 0 ≤ (t106 : Int) := of_decide_eq_true (by first | (with_reducible assumption) | assumption); have q109 : t106 < (l0_0.length : Int) := of_decide_eq_true (by first | (with_reducible assumption) | assumption); obtain ⟨ad109, e109, hx109_0, hx109_1⟩ := at_T47 (Kd.V_reads' HO0_0.out).2.2 t106 p109 q109; cases e109; replace p109 := eq_true p109; replace q109 := eq_true q109) | (go_at_call 61; (with_reducible refine (word_Kind.calls k ((rd_T47 l0_0 t106).f0) t110 _ A29.out).mono ?_); rintro e w42 ⟨rfl, hb⟩; replace HO0_0 := a0 (Kd.V_below HO0_0.out hb); replace BK101 := a0 (bB hb BK101.out); replace BK102 := a0 (bB hb BK102.out); replace HB := a0 (below_step HB.out hb); (try clear hb); (try clear hb2); (try clear hk); (try clear hi)))
        go_meet
        case rel => exact ⟨_, (true), (by first | rfl | (simp; done) | (simp [*]; done)), H', ⟨by first | omega | exact Nat.le_refl _⟩, ⟨by exact Kd.V_mono HO0_0.out (fun _ hk => ⟨hk.1.1, ⟨hk.1.2, hk.2⟩⟩)⟩, ⟨by exact Kd.V_mono HO0_0.out (fun _ hk => ⟨hk.1.1, ⟨hk.1.2, hk.2⟩⟩)⟩, ⟨by exact BK101.out⟩, ⟨by exact BK102.out⟩, ⟨by repeat (first | (with_reducible first | exact HB.out | apply below_alloc | apply pw_below_drewN | apply below_drew1 | refine below_set ?_ GE101.out | refine below_set ?_ GE102.out) | exact HB.out)⟩⟩
      ·rw [if_neg c28] at H
       exact absurd H (by simp)
     ·rw [if_neg c27] at H
      exact absurd H (by simp)
  ·replace c18 := Bool.eq_false_iff.mpr c18
   subst c18
   have H1 : (line_SwapWords.j0 k l0_0 t104 t105 t106 t107 true l0_0 a0_1) = some (r1, r2, r3) := by rw [if_neg (show ¬ (false = true) by decide)] at H; exact H
   clear H
   have H := H1
   clear H1
   have H' := Aside0.mk H
   clear H
   have hnb43 := NB101_102.out
   have hnc43 := NB102_101.out
   obtain ⟨hcz44_0, hcz44_1, hfz44_0, hfz44_1⟩ := c2 BK101.out
   go_wp2_with (first | ((with_reducible refine gate_callee (f := 57) rfl ?_); refine gL (some 27) Try.func57 (by kernel_rfl) #[.agg #[.slice A0_0 l0_0.length c0_0, .int .i64 a0_1]] rfl rfl rfl rfl rfl ?_; (with_reducible refine (line_Right.calls _ _ l0_0 a0_1 false _ ?side1 ?side2 A17.out).mono ?_); (case side1 => repeat (first | exact (Kd.V_reads' HO0_0.out).2.2 | (with_reducible refine Kd.C_alloc ?_ _) | (with_reducible refine Kd.C_drewN ?_ _) | (with_reducible refine Kd.C_drew ?_))); (case side2 => exact (Kd.V_reads' HO0_0.out).2.1); rintro e w45 ⟨rfl, hb⟩; refine ⟨_, rfl, ?_⟩; replace HO0_0 := a0 (Kd.V_below HO0_0.out hb); replace BK101 := a0 (bB hb BK101.out); replace BK102 := a0 (bB hb BK102.out); replace HB := a0 (below_step HB.out hb); (try clear hb); (try clear hb2); (try clear hk); (try clear hi)))
   go_meet
   case rel => exact ⟨_, (true), (by first | rfl | (simp; done) | (simp [*]; done)), H', ⟨by first | omega | exact Nat.le_refl _⟩, ⟨by exact Kd.V_mono HO0_0.out (fun _ hk => ⟨hk.1.1, ⟨hk.1.2, hk.2⟩⟩)⟩, ⟨by exact Kd.V_mono HO0_0.out (fun _ hk => ⟨hk.1.1, ⟨hk.1.2, hk.2⟩⟩)⟩, ⟨by exact BK101.out⟩, ⟨by exact BK102.out⟩, ⟨by repeat (first | (with_reducible first | exact HB.out | apply below_alloc | apply pw_below_drewN | apply below_drew1 | refine below_set ?_ GE101.out | refine below_set ?_ GE102.out) | exact HB.out)⟩⟩
 case rest =>
  clear HC7
  try clear c1
  try clear p1
  try clear q1
  try clear hx1
  try clear c2
  try clear p2
  try clear c3
  try clear c4
  try clear c5
  try clear c7
  try clear c10
  try clear p10
  try clear q10
  try clear hx10
  try clear p11
  try clear q11
  try clear hx11
  try clear c18
  try clear c19
  try clear c19b0
  try clear c20
  try clear c23
  try clear c23b0
  try clear c24
  try clear c27
  try clear c27b0
  try clear c28
  try clear c28b0
  try clear c30
  try clear c30b0
  try clear c30b1
  try clear c31
  try clear c31b0
  try clear c32
  try clear c32b0
  try clear c34
  try clear c39
  try clear c43
  try clear hcz11_0
  try clear hcz11_1
  try clear hcz21_0
  try clear hcz21_1
  try clear hcz25_0
  try clear hcz25_1
  try clear hcz35_0
  try clear hcz35_1
  try clear hcz40_0
  try clear hcz40_1
  try clear hcz44_0
  try clear hcz44_1
  try clear hfz11_0
  try clear hfz11_1
  try clear hfz21_0
  try clear hfz21_1
  try clear hfz25_0
  try clear hfz25_1
  try clear hfz35_0
  try clear hfz35_1
  try clear hfz40_0
  try clear hfz40_1
  try clear hfz44_0
  try clear hfz44_1
  try clear hx109_0
  try clear hx109_1
  try clear hx111_0
  try clear hx111_1
  try clear p109
  try clear p111
  try clear q109
  try clear q111
  obtain ⟨kq, x56_6, rfl, HA, HJ6, HO_4, HO_102000, BK101, BK102, HB⟩ := hcut
  cases kq with
  | zero => exact absurd HA.out (by simp [line_SwapWords.j0])
  | succ kj6 =>
   have H := HA.out
   clear HA
   simp only [line_SwapWords.j0] at H
   by_cases c46 : x56_6 = true
   ·subst c46
    have H1 : ((line_copied.f l0_0 a0_1).bind fun bt113 => (some (bt113.1, bt113.2, false))) = some (r1, r2, r3) := by rw [if_pos rfl] at H; exact H
    clear H
    have H := H1
    clear H1
    replace H := Option.bind_eq_some_iff.mp H
    obtain ⟨⟨t113, t116⟩, A470, H⟩ := H
    try dsimp only at H
    have A47 := Aside0.mk A470
    clear A470
    simp only [Option.some.injEq, Prod.mk.injEq] at H
    obtain ⟨rfl, rfl, rfl⟩ := H
    have hnb48 := NB101_102.out
    have hnc48 := NB102_101.out
    obtain ⟨hcz49_0, hcz49_1, hfz49_0, hfz49_1⟩ := c2 BK101.out
    go_wp2_with (first | ((with_reducible refine gate_callee (f := 70) rfl ?_); refine gL (some 58) Try.func70 (by kernel_rfl) #[.agg #[.slice A0_0 l0_0.length c0_0, .int .i64 a0_1]] rfl rfl rfl rfl rfl ?_; (with_reducible refine (line_copied.calls _ _ l0_0 a0_1 t113 t116 _ ?side1 ?side2 A47.out).mono ?_); (case side1 => repeat (first | exact (Kd.V_reads' HO_102000.out).2.2 | (with_reducible refine Kd.C_alloc ?_ _) | (with_reducible refine Kd.C_drewN ?_ _) | (with_reducible refine Kd.C_drew ?_))); (case side2 => exact (Kd.V_reads' HO_102000.out).2.1); rintro e w50 ⟨v114, rfl, ho0, hb⟩; refine ⟨_, rfl, ?_⟩; replace HO_4 := a0 (Kd.V_elder' HO_4.out (Kd.R_base ho0) hb); replace HO_102000 := a0 (Kd.V_elder' HO_102000.out (Kd.R_base ho0) hb); have HO115 := a0 (Kd.R_lower (Kd.R_newM (M := fun k_ => (w.heap.size ≤ k_)) ho0 (below_size HB.out) (fun k_ h_ => h_)) (below_size HB.out)); replace BK101 := a0 (bB hb BK101.out); replace BK102 := a0 (bB hb BK102.out); replace HB := a0 (below_step HB.out hb); clear hb ho0; obtain ⟨Ao51, co51, eo51⟩ := Kd.R_slice HO115.out; subst eo51; obtain ⟨hcz52_0, hcz52_1, hfz52_0, hfz52_1⟩ := c2 BK102.out))
    refine bodyPost_ret (results_ct rfl _ _ gb102 24 #[.slice Ao51 t113.length co51, .int .i64 t116] (0, 0) _ rfl (by refine blk_put (cs := #[.slice Ao51 t113.length co51, .int .i64 0]) ?_ 1 _ rfl; refine blk_put (cs := #[.slice none 0 0, .int .i64 0]) ?_ 0 _ rfl; exact BK102.out) Try.underlying24 rfl (by kernel_rfl)) rfl ?_
    exact ⟨_, by first | rfl | (simp [errW_none, errW_some] <;> rfl) | (simp [*, errW_none, errW_some] <;> rfl), by exact Kd.R_mono (Kd.R_far (p := ⟨gb102, 1, none⟩) (Kd.R_far (p := ⟨gb102, 0, none⟩) (Kd.R_types HO115.out BK102.out (by decide)) (fun _ hk => hk.2) (.slice Ao51 t113.length co51)) (fun _ hk => hk.2) (.int .i64 t116)) (fun _ hk => hk.1.1), by repeat (first | (with_reducible first | exact HB.out | apply below_alloc | apply pw_below_drewN | apply below_drew1 | refine below_set ?_ GE101.out | refine below_set ?_ GE102.out) | exact HB.out)⟩
   ·replace c46 := Bool.eq_false_iff.mpr c46
    subst c46
    have H1 : (if 0 ≤ t106 then (if t106 ≤ (l0_0.length : Int) then (if 0 ≤ t104 then (if t104 ≤ t105 then (if t105 ≤ (l0_0.length : Int) then (if 0 ≤ t107 then (if t107 ≤ t104 then (if t104 ≤ (l0_0.length : Int) then (if t106 ≤ t107 then (if t107 ≤ (l0_0.length : Int) then (if 0 ≤ t105 then ((Concat_Sign.f (([(l0_0.take (t106 : Int).toNat), ((l0_0.take (t105 : Int).toNat).drop (t104 : Int).toNat), ((l0_0.take (t104 : Int).toNat).drop (t107 : Int).toNat), ((l0_0.take (t107 : Int).toNat).drop (t106 : Int).toNat), (l0_0.drop (t105 : Int).toNat)] : List (List (S47))))).bind fun t145 => (some (t145, t105, true))) else (none)) else (none)) else (none)) else (none)) else (none)) else (none)) else (none)) else (none)) else (none)) else (none)) else (none)) = some (r1, r2, r3) := by rw [if_neg (show ¬ (false = true) by decide)] at H; exact H
    clear H
    have H := H1
    clear H1
    by_cases c53 : 0 ≤ t106
    ·rw [if_pos c53] at H
     have c53b0 := eq_true c53
     have c53b1 : decide (0 ≤ t106) = true := decide_eq_true c53
     clear c53
     by_cases c54 : t106 ≤ (l0_0.length : Int)
     ·rw [if_pos c54] at H
      have c54b0 := eq_true c54
      have c54b1 : decide (t106 ≤ (l0_0.length : Int)) = true := decide_eq_true c54
      clear c54
      obtain ⟨y117, hy117⟩ : ∃ y_ : List (S47), y_ = (l0_0.take (t106 : Int).toNat) := ⟨_, rfl⟩
      replace H : (if 0 ≤ t104 then (if t104 ≤ t105 then (if t105 ≤ (l0_0.length : Int) then (if 0 ≤ t107 then (if t107 ≤ t104 then (if t104 ≤ (l0_0.length : Int) then (if t106 ≤ t107 then (if t107 ≤ (l0_0.length : Int) then (if 0 ≤ t105 then ((Concat_Sign.f (([y117, ((l0_0.take (t105 : Int).toNat).drop (t104 : Int).toNat), ((l0_0.take (t104 : Int).toNat).drop (t107 : Int).toNat), ((l0_0.take (t107 : Int).toNat).drop (t106 : Int).toNat), (l0_0.drop (t105 : Int).toNat)] : List (List (S47))))).bind fun t145 => (some (t145, t105, true))) else (none)) else (none)) else (none)) else (none)) else (none)) else (none)) else (none)) else (none)) else (none)) = some (r1, r2, r3) := by first | (rw [hy117]; with_reducible exact H) | (have H2_ := (Option.bind_some _ _).symm.trans H; rw [hy117]; with_reducible exact H2_) | (have H2_ := (Option.bind_some _ _).symm.trans H; with_reducible exact H2_) | with_reducible exact H | (rw [hy117]; exact H) | exact H
      have Ny117 := Aside0.mk hy117
      clear hy117
      by_cases c55 : 0 ≤ t104
      ·rw [if_pos c55] at H
       have c55b0 := eq_true c55
       have c55b1 : decide (0 ≤ t104) = true := decide_eq_true c55
       clear c55
       by_cases c56 : t104 ≤ t105
       ·rw [if_pos c56] at H
        have c56b0 := eq_true c56
        have c56b1 : decide (t104 ≤ t105) = true := decide_eq_true c56
        clear c56
        by_cases c57 : t105 ≤ (l0_0.length : Int)
        ·rw [if_pos c57] at H
         have c57b0 := eq_true c57
         have c57b1 : decide (t105 ≤ (l0_0.length : Int)) = true := decide_eq_true c57
         clear c57
         obtain ⟨y122, hy122⟩ : ∃ y_ : List (S47), y_ = ((l0_0.take (t105 : Int).toNat).drop (t104 : Int).toNat) := ⟨_, rfl⟩
         replace H : (if 0 ≤ t107 then (if t107 ≤ t104 then (if t104 ≤ (l0_0.length : Int) then (if t106 ≤ t107 then (if t107 ≤ (l0_0.length : Int) then (if 0 ≤ t105 then ((Concat_Sign.f (([y117, y122, ((l0_0.take (t104 : Int).toNat).drop (t107 : Int).toNat), ((l0_0.take (t107 : Int).toNat).drop (t106 : Int).toNat), (l0_0.drop (t105 : Int).toNat)] : List (List (S47))))).bind fun t145 => (some (t145, t105, true))) else (none)) else (none)) else (none)) else (none)) else (none)) else (none)) = some (r1, r2, r3) := by first | (rw [hy122]; with_reducible exact H) | (have H2_ := (Option.bind_some _ _).symm.trans H; rw [hy122]; with_reducible exact H2_) | (have H2_ := (Option.bind_some _ _).symm.trans H; with_reducible exact H2_) | with_reducible exact H | (rw [hy122]; exact H) | exact H
         have Ny122 := Aside0.mk hy122
         clear hy122
         by_cases c58 : 0 ≤ t107
         ·rw [if_pos c58] at H
          have c58b0 := eq_true c58
          have c58b1 : decide (0 ≤ t107) = true := decide_eq_true c58
          clear c58
          by_cases c59 : t107 ≤ t104
          ·rw [if_pos c59] at H
           have c59b0 := eq_true c59
           have c59b1 : decide (t107 ≤ t104) = true := decide_eq_true c59
           clear c59
           by_cases c60 : t104 ≤ (l0_0.length : Int)
           ·rw [if_pos c60] at H
            have c60b0 := eq_true c60
            have c60b1 : decide (t104 ≤ (l0_0.length : Int)) = true := decide_eq_true c60
            clear c60
            obtain ⟨y127, hy127⟩ : ∃ y_ : List (S47), y_ = ((l0_0.take (t104 : Int).toNat).drop (t107 : Int).toNat) := ⟨_, rfl⟩
            replace H : (if t106 ≤ t107 then (if t107 ≤ (l0_0.length : Int) then (if 0 ≤ t105 then ((Concat_Sign.f (([y117, y122, y127, ((l0_0.take (t107 : Int).toNat).drop (t106 : Int).toNat), (l0_0.drop (t105 : Int).toNat)] : List (List (S47))))).bind fun t145 => (some (t145, t105, true))) else (none)) else (none)) else (none)) = some (r1, r2, r3) := by first | (rw [hy127]; with_reducible exact H) | (have H2_ := (Option.bind_some _ _).symm.trans H; rw [hy127]; with_reducible exact H2_) | (have H2_ := (Option.bind_some _ _).symm.trans H; with_reducible exact H2_) | with_reducible exact H | (rw [hy127]; exact H) | exact H
            have Ny127 := Aside0.mk hy127
            clear hy127
            have c61b0 := eq_true (of_decide_eq_true (by first | (with_reducible assumption) | assumption) : 0 ≤ t106)
            by_cases c62 : t106 ≤ t107
            ·rw [if_pos c62] at H
             have c62b0 := eq_true c62
             have c62b1 : decide (t106 ≤ t107) = true := decide_eq_true c62
             clear c62
             by_cases c63 : t107 ≤ (l0_0.length : Int)
             ·rw [if_pos c63] at H
              have c63b0 := eq_true c63
              have c63b1 : decide (t107 ≤ (l0_0.length : Int)) = true := decide_eq_true c63
              clear c63
              obtain ⟨y132, hy132⟩ : ∃ y_ : List (S47), y_ = ((l0_0.take (t107 : Int).toNat).drop (t106 : Int).toNat) := ⟨_, rfl⟩
              replace H : (if 0 ≤ t105 then ((Concat_Sign.f (([y117, y122, y127, y132, (l0_0.drop (t105 : Int).toNat)] : List (List (S47))))).bind fun t145 => (some (t145, t105, true))) else (none)) = some (r1, r2, r3) := by first | (rw [hy132]; with_reducible exact H) | (have H2_ := (Option.bind_some _ _).symm.trans H; rw [hy132]; with_reducible exact H2_) | (have H2_ := (Option.bind_some _ _).symm.trans H; with_reducible exact H2_) | with_reducible exact H | (rw [hy132]; exact H) | exact H
              have Ny132 := Aside0.mk hy132
              clear hy132
              by_cases c64 : 0 ≤ t105
              ·rw [if_pos c64] at H
               have c64b0 := eq_true c64
               have c64b1 : decide (0 ≤ t105) = true := decide_eq_true c64
               clear c64
               have c65b0 := eq_true (of_decide_eq_true (by first | (with_reducible assumption) | assumption) : t105 ≤ (l0_0.length : Int))
               obtain ⟨y137, hy137⟩ : ∃ y_ : List (S47), y_ = (l0_0.drop (t105 : Int).toNat) := ⟨_, rfl⟩
               replace H : ((Concat_Sign.f (([y117, y122, y127, y132, y137] : List (List (S47))))).bind fun t145 => (some (t145, t105, true))) = some (r1, r2, r3) := by first | (rw [hy137]; with_reducible exact H) | (have H2_ := (Option.bind_some _ _).symm.trans H; rw [hy137]; with_reducible exact H2_) | (have H2_ := (Option.bind_some _ _).symm.trans H; with_reducible exact H2_) | with_reducible exact H | (rw [hy137]; exact H) | exact H
               have Ny137 := Aside0.mk hy137
               clear hy137
               obtain ⟨y142, hy142⟩ : ∃ y_ : List (List (S47)), y_ = (([y117, y122, y127, y132, y137] : List (List (S47)))) := ⟨_, rfl⟩
               replace H : ((Concat_Sign.f y142).bind fun t145 => (some (t145, t105, true))) = some (r1, r2, r3) := by first | (rw [hy142]; with_reducible exact H) | (have H2_ := (Option.bind_some _ _).symm.trans H; rw [hy142]; with_reducible exact H2_) | (have H2_ := (Option.bind_some _ _).symm.trans H; with_reducible exact H2_) | with_reducible exact H | (rw [hy142]; exact H) | exact H
               have Ny142 := Aside0.mk hy142
               clear hy142
               replace H := Option.bind_eq_some_iff.mp H
               obtain ⟨t145, A660, H⟩ := H
               try dsimp only at H
               have A66 := Aside0.mk A660
               clear A660
               simp only [Option.some.injEq, Prod.mk.injEq] at H
               obtain ⟨rfl, rfl, rfl⟩ := H
               try go_wp2
               replace HO_4 := a0 (Kd.V_drew HO_4.out)
               replace HO_102000 := a0 (Kd.V_drew HO_102000.out)
               replace BK101 := a0 (blk_drew BK101.out)
               replace BK102 := a0 (blk_drew BK102.out)
               replace HB := a0 (below_drew1 HB.out)
               have q68 : (t106 : Int) ≤ ((l0_0.length : Int) : Int) := of_decide_eq_true (by first | (with_reducible assumption) | assumption)
               obtain ⟨i068, hi068, _, hsz68, _⟩ := info_parts info47
               have hroom68 : l0_0.length ≤ c0_0 := (Kd.V_reads' HO_4.out).2.1
               have hC68 : Kd.F k47 _ _ A0_0 l0_0.length l0_0 := (Kd.V_at (base := w.heap.size) HO_4.out).2.2
               have hcut68 := cut_to (P := Try.prog) 22 47 .i64 Try.underlying22 hi068 A0_0 l0_0.length c0_0 t106 (of_decide_eq_true (by first | (with_reducible assumption) | assumption)) q68 hroom68
               have hr68 := Kd.F_take (m := (t106 : Int).toNat) hC68 (by omega)
               have hy68 : y117.length = (t106 : Int).toNat := (by rw [Ny117.out, List.length_take]; omega)
               rw [← Ny117.out] at hr68
               rw [← hy68] at hcut68
               have HO121 := Aside0.mk (show Kd.V k47 47 _ w.heap.size _ (.slice A0_0 y117.length c0_0) y117 from Kd.V_mk (by omega) hr68)
               have HC121 := Aside0.mk (show y117.length ≤ c0_0 from by omega)
               clear hr68 hC68 hroom68 hi068 hsz68
               have KY68 := Aside0.mk hy68
               clear hy68
               replace q68 := eq_true q68
               have q69 : (t105 : Int) ≤ ((l0_0.length : Int) : Int) := of_decide_eq_true (by first | (with_reducible assumption) | assumption)
               obtain ⟨i069, hi069, _, hsz69, _⟩ := info_parts info47
               have hroom69 : l0_0.length ≤ c0_0 := (Kd.V_reads' HO_4.out).2.1
               have hC69 : Kd.F k47 _ _ A0_0 l0_0.length l0_0 := (Kd.V_at (base := w.heap.size) HO_4.out).2.2
               have ql69 : (t104 : Int) ≤ (t105 : Int) := of_decide_eq_true (by first | (with_reducible assumption) | assumption)
               have q069 : (0 : Int) ≤ (t104 : Int) := of_decide_eq_true (by first | (with_reducible assumption) | assumption)
               have hcut69 := cut_mid (P := Try.prog) 22 47 .i64 .i64 Try.underlying22 hi069 2 hsz69 A0_0 l0_0.length c0_0 t104 t105 q069 ql69 q69 hroom69
               have hr69 := Kd.F_mid (lo := (t104 : Int).toNat) (hi := (t105 : Int).toNat) (c := c0_0) hC69 (by omega) (by omega) hroom69
               obtain ⟨A69, hA69⟩ : ∃ A1, A1 = (if c0_0 = (t104 : Int).toNat then A0_0 else (A0_0 : Option Addr).map (·.add ((t104 : Int).toNat * 2))) := ⟨_, rfl⟩
               obtain ⟨c69, hc69⟩ : ∃ c1, c1 = c0_0 - (t104 : Int).toNat := ⟨_, rfl⟩
               have hy69 : y122.length = (t105 : Int).toNat - (t104 : Int).toNat := (by rw [Ny122.out, List.length_drop, List.length_take] <;> omega)
               rw [show ((l0_0).take (t105 : Int).toNat).drop (t104 : Int).toNat = y122 from Ny122.out.symm] at hr69
               replace hr69 : Kd.F k47 _ _ A69 y122.length y122 := (by rw [hA69]; exact hr69)
               rw [← hy69, ← hA69, ← hc69] at hcut69
               have HO126 := Aside0.mk (show Kd.V k47 47 _ w.heap.size _ (.slice A69 y122.length c69) y122 from Kd.V_mk (by rw [hy69, hc69]; exact Nat.sub_le_sub_right (Nat.le_trans (by omega) hroom69) _) hr69)
               have HC126 := Aside0.mk (show y122.length ≤ c69 from by rw [hy69, hc69]; exact Nat.sub_le_sub_right (Nat.le_trans (by omega) hroom69) _)
               clear hr69 hC69 hroom69 hi069 hsz69 hc69
               have KY69 := Aside0.mk hy69
               have KA69 := Aside0.mk hA69
               clear hy69 hA69
               replace q69 := eq_true q69
               have q70 : (t104 : Int) ≤ ((l0_0.length : Int) : Int) := of_decide_eq_true (by first | (with_reducible assumption) | assumption)
               obtain ⟨i070, hi070, _, hsz70, _⟩ := info_parts info47
               have hroom70 : l0_0.length ≤ c0_0 := (Kd.V_reads' HO_4.out).2.1
               have hC70 : Kd.F k47 _ _ A0_0 l0_0.length l0_0 := (Kd.V_at (base := w.heap.size) HO_4.out).2.2
               have ql70 : (t107 : Int) ≤ (t104 : Int) := of_decide_eq_true (by first | (with_reducible assumption) | assumption)
               have q070 : (0 : Int) ≤ (t107 : Int) := of_decide_eq_true (by first | (with_reducible assumption) | assumption)
               have hcut70 := cut_mid (P := Try.prog) 22 47 .i64 .i64 Try.underlying22 hi070 2 hsz70 A0_0 l0_0.length c0_0 t107 t104 q070 ql70 q70 hroom70
               have hr70 := Kd.F_mid (lo := (t107 : Int).toNat) (hi := (t104 : Int).toNat) (c := c0_0) hC70 (by omega) (by omega) hroom70
               obtain ⟨A70, hA70⟩ : ∃ A1, A1 = (if c0_0 = (t107 : Int).toNat then A0_0 else (A0_0 : Option Addr).map (·.add ((t107 : Int).toNat * 2))) := ⟨_, rfl⟩
               obtain ⟨c70, hc70⟩ : ∃ c1, c1 = c0_0 - (t107 : Int).toNat := ⟨_, rfl⟩
               have hy70 : y127.length = (t104 : Int).toNat - (t107 : Int).toNat := (by rw [Ny127.out, List.length_drop, List.length_take] <;> omega)
               rw [show ((l0_0).take (t104 : Int).toNat).drop (t107 : Int).toNat = y127 from Ny127.out.symm] at hr70
               replace hr70 : Kd.F k47 _ _ A70 y127.length y127 := (by rw [hA70]; exact hr70)
               rw [← hy70, ← hA70, ← hc70] at hcut70
               have HO131 := Aside0.mk (show Kd.V k47 47 _ w.heap.size _ (.slice A70 y127.length c70) y127 from Kd.V_mk (by rw [hy70, hc70]; exact Nat.sub_le_sub_right (Nat.le_trans (by omega) hroom70) _) hr70)
               have HC131 := Aside0.mk (show y127.length ≤ c70 from by rw [hy70, hc70]; exact Nat.sub_le_sub_right (Nat.le_trans (by omega) hroom70) _)
               clear hr70 hC70 hroom70 hi070 hsz70 hc70
               have KY70 := Aside0.mk hy70
               have KA70 := Aside0.mk hA70
               clear hy70 hA70
               replace q70 := eq_true q70
               have q71 : (t107 : Int) ≤ ((l0_0.length : Int) : Int) := of_decide_eq_true (by first | (with_reducible assumption) | assumption)
               obtain ⟨i071, hi071, _, hsz71, _⟩ := info_parts info47
               have hroom71 : l0_0.length ≤ c0_0 := (Kd.V_reads' HO_4.out).2.1
               have hC71 : Kd.F k47 _ _ A0_0 l0_0.length l0_0 := (Kd.V_at (base := w.heap.size) HO_4.out).2.2
               have ql71 : (t106 : Int) ≤ (t107 : Int) := of_decide_eq_true (by first | (with_reducible assumption) | assumption)
               have q071 : (0 : Int) ≤ (t106 : Int) := of_decide_eq_true (by first | (with_reducible assumption) | assumption)
               have hcut71 := cut_mid (P := Try.prog) 22 47 .i64 .i64 Try.underlying22 hi071 2 hsz71 A0_0 l0_0.length c0_0 t106 t107 q071 ql71 q71 hroom71
               have hr71 := Kd.F_mid (lo := (t106 : Int).toNat) (hi := (t107 : Int).toNat) (c := c0_0) hC71 (by omega) (by omega) hroom71
               obtain ⟨A71, hA71⟩ : ∃ A1, A1 = (if c0_0 = (t106 : Int).toNat then A0_0 else (A0_0 : Option Addr).map (·.add ((t106 : Int).toNat * 2))) := ⟨_, rfl⟩
               obtain ⟨c71, hc71⟩ : ∃ c1, c1 = c0_0 - (t106 : Int).toNat := ⟨_, rfl⟩
               have hy71 : y132.length = (t107 : Int).toNat - (t106 : Int).toNat := (by rw [Ny132.out, List.length_drop, List.length_take] <;> omega)
               rw [show ((l0_0).take (t107 : Int).toNat).drop (t106 : Int).toNat = y132 from Ny132.out.symm] at hr71
               replace hr71 : Kd.F k47 _ _ A71 y132.length y132 := (by rw [hA71]; exact hr71)
               rw [← hy71, ← hA71, ← hc71] at hcut71
               have HO136 := Aside0.mk (show Kd.V k47 47 _ w.heap.size _ (.slice A71 y132.length c71) y132 from Kd.V_mk (by rw [hy71, hc71]; exact Nat.sub_le_sub_right (Nat.le_trans (by omega) hroom71) _) hr71)
               have HC136 := Aside0.mk (show y132.length ≤ c71 from by rw [hy71, hc71]; exact Nat.sub_le_sub_right (Nat.le_trans (by omega) hroom71) _)
               clear hr71 hC71 hroom71 hi071 hsz71 hc71
               have KY71 := Aside0.mk hy71
               have KA71 := Aside0.mk hA71
               clear hy71 hA71
               replace q71 := eq_true q71
               have q72 : (t105 : Int) ≤ ((l0_0.length : Int) : Int) := of_decide_eq_true (by first | (with_reducible assumption) | assumption)
               obtain ⟨i072, hi072, _, hsz72, _⟩ := info_parts info47
               have hroom72 : l0_0.length ≤ c0_0 := (Kd.V_reads' HO_4.out).2.1
               have hC72 : Kd.F k47 _ _ A0_0 l0_0.length l0_0 := (Kd.V_at (base := w.heap.size) HO_4.out).2.2
               have q072 : (0 : Int) ≤ (t105 : Int) := of_decide_eq_true (by first | (with_reducible assumption) | assumption)
               have hcut72 := cut_from (P := Try.prog) 22 47 .i64 Try.underlying22 hi072 2 hsz72 A0_0 l0_0.length c0_0 t105 q072 q72
               have hr72 := Kd.F_cut (m := (t105 : Int).toNat) (c := c0_0) hC72 (by omega) hroom72
               obtain ⟨A72, hA72⟩ : ∃ A1, A1 = (if c0_0 = (t105 : Int).toNat then A0_0 else (A0_0 : Option Addr).map (·.add ((t105 : Int).toNat * 2))) := ⟨_, rfl⟩
               obtain ⟨c72, hc72⟩ : ∃ c1, c1 = c0_0 - (t105 : Int).toNat := ⟨_, rfl⟩
               have hy72 : y137.length = l0_0.length - (t105 : Int).toNat := (by rw [Ny137.out, List.length_drop] <;> omega)
               rw [show (l0_0).drop (t105 : Int).toNat = y137 from Ny137.out.symm] at hr72
               replace hr72 : Kd.F k47 _ _ A72 y137.length y137 := (by rw [hA72]; exact hr72)
               rw [← hy72, ← hA72, ← hc72] at hcut72
               have HO141 := Aside0.mk (show Kd.V k47 47 _ w.heap.size _ (.slice A72 y137.length c72) y137 from Kd.V_mk (by rw [hy72, hc72]; exact Nat.sub_le_sub_right hroom72 _) hr72)
               have HC141 := Aside0.mk (show y137.length ≤ c72 from by rw [hy72, hc72]; exact Nat.sub_le_sub_right hroom72 _)
               clear hr72 hC72 hroom72 hi072 hsz72 hc72
               have KY72 := Aside0.mk hy72
               have KA72 := Aside0.mk hA72
               clear hy72 hA72
               replace q72 := eq_true q72
               refine start_ (n := 24) (S := fun w' => True) (ds := []) (ba 24 0) (by kernel_rfl) rfl rfl trivial (fun hHeld => ?_); refine with_tabW line_SwapWords.tab8 line_SwapWords.bits8 (fun HT_ HW_ => ?_)
               generalize wc.drew = w67 at HO_4 HO_102000 BK101 BK102 HB HO121 HO126 HO131 HO136 HO141 hHeld ⊢
               refine pS 0 59 (v := ?_) (a' := ?_) (ba 24 1) HT_ (by kernel_rfl) rfl rfl (fun _ _ _ h => h) (by rfl) ?_ ?_ ?_; rotate_left 2; (intro w'; go_simp; with_reducible rfl); (simp only [Act.put, List.setIfInBounds_toArray, List.set_cons_zero, List.set_cons_succ, i64_w, i32_w]; rfl)
               refine pS 1 60 (v := ?_) (a' := ?_) (ba 24 3) HT_ (by kernel_rfl) rfl rfl (fun _ _ _ h => h) (by rfl) ?_ ?_ ?_; rotate_left 2; (intro w'; go_simp; with_reducible rfl); (simp only [Act.put, List.setIfInBounds_toArray, List.set_cons_zero, List.set_cons_succ, i64_w, i32_w]; rfl)
               refine pS 2 61 (v := ?_) (a' := ?_) (ba 24 7) HT_ (by kernel_rfl) rfl rfl (fun _ _ _ h => h) (by rfl) ?_ ?_ ?_; rotate_left 2; (intro w'; go_simp; with_reducible rfl); (simp only [Act.put, List.setIfInBounds_toArray, List.set_cons_zero, List.set_cons_succ, i64_w, i32_w]; rfl)
               refine pS 3 62 (v := ?_) (a' := ?_) (ba 24 15) HT_ (by kernel_rfl) rfl rfl (fun _ _ _ h => h) (by rfl) ?_ ?_ ?_; rotate_left 2; (intro w'; go_simp; with_reducible rfl); (simp only [Act.put, List.setIfInBounds_toArray, List.set_cons_zero, List.set_cons_succ, i64_w, i32_w]; rfl)
               refine pS 4 63 (v := ?_) (a' := ?_) (ba 24 31) HT_ (by kernel_rfl) rfl rfl (fun _ _ _ h => h) (by rfl) ?_ ?_ ?_; rotate_left 2; (intro w'; go_simp; with_reducible rfl); (simp only [Act.put, List.setIfInBounds_toArray, List.set_cons_zero, List.set_cons_succ, i64_w, i32_w]; rfl)
               refine pS 5 64 (v := ?_) (a' := ?_) (ba 24 63) HT_ (by kernel_rfl) rfl rfl (fun _ _ _ h => h) (by rfl) ?_ ?_ ?_; rotate_left 2; (intro w'; go_simp; with_reducible rfl); (simp only [Act.put, List.setIfInBounds_toArray, List.set_cons_zero, List.set_cons_succ, i64_w, i32_w]; rfl)
               refine pS 6 65 (v := ?_) (a' := ?_) (ba 24 127) HT_ (by kernel_rfl) rfl rfl (fun _ _ _ h => h) (by rfl) ?_ ?_ ?_; rotate_left 2; (intro w'; go_simp; with_reducible rfl); (simp only [Act.put, List.setIfInBounds_toArray, List.set_cons_zero, List.set_cons_succ, i64_w, i32_w]; rfl)
               refine pS 7 66 (v := ?_) (a' := ?_) (ba 24 255) HT_ (by kernel_rfl) rfl rfl (fun _ _ _ h => h) (by rfl) ?_ ?_ ?_; rotate_left 2; (intro w'; go_simp; with_reducible rfl); (simp only [Act.put, List.setIfInBounds_toArray, List.set_cons_zero, List.set_cons_succ, i64_w, i32_w]; rfl)
               refine pS 8 67 (v := ?_) (a' := ?_) (ba 24 511) HT_ (by kernel_rfl) rfl rfl (fun _ _ _ h => h) (by rfl) ?_ ?_ ?_; rotate_left 2; (intro w'; go_simp; with_reducible rfl); (simp only [Act.put, List.setIfInBounds_toArray, List.set_cons_zero, List.set_cons_succ, i64_w, i32_w]; rfl)
               refine pS 9 68 (v := ?_) (a' := ?_) (ba 24 1023) HT_ (by kernel_rfl) rfl rfl (fun _ _ _ h => h) (by rfl) ?_ ?_ ?_; rotate_left 2; (intro w'; go_simp; with_reducible rfl); (simp only [Act.put, List.setIfInBounds_toArray, List.set_cons_zero, List.set_cons_succ, i64_w, i32_w]; rfl)
               refine pS 10 69 (v := ?_) (a' := ?_) (ba 24 2047) HT_ (by kernel_rfl) rfl rfl (fun _ _ _ h => h) (by rfl) ?_ ?_ ?_; rotate_left 2; (intro w'; go_simp; with_reducible rfl); (simp only [Act.put, List.setIfInBounds_toArray, List.set_cons_zero, List.set_cons_succ, i64_w, i32_w]; rfl)
               refine pS 11 70 (v := ?_) (a' := ?_) (ba 24 4095) HT_ (by kernel_rfl) rfl rfl (fun _ _ _ h => h) (by rfl) ?_ ?_ ?_; rotate_left 2; (intro w'; go_simp; with_reducible rfl); (simp only [Act.put, List.setIfInBounds_toArray, List.set_cons_zero, List.set_cons_succ, i64_w, i32_w]; rfl)
               refine pS 12 71 (v := ?_) (a' := ?_) (ba 24 8191) HT_ (by kernel_rfl) rfl rfl (fun _ _ _ h => h) (by rfl) ?_ ?_ ?_; rotate_left 2; (intro w'; go_simp; with_reducible rfl); (simp only [Act.put, List.setIfInBounds_toArray, List.set_cons_zero, List.set_cons_succ, i64_w, i32_w]; rfl)
               refine pS 13 72 (v := ?_) (a' := ?_) (ba 24 16383) HT_ (by kernel_rfl) rfl rfl (fun _ _ _ h => h) (by rfl) ?_ ?_ ?_; rotate_left 2; (intro w'; go_simp; with_reducible rfl); (simp only [Act.put, List.setIfInBounds_toArray, List.set_cons_zero, List.set_cons_succ, i64_w, i32_w]; rfl)
               refine pS 14 73 (v := ?_) (a' := ?_) (ba 24 32767) HT_ (by kernel_rfl) rfl rfl (fun _ _ _ h => h) (by rfl) ?_ ?_ ?_; rotate_left 2; (intro w'; go_simp; with_reducible rfl); (simp only [Act.put, List.setIfInBounds_toArray, List.set_cons_zero, List.set_cons_succ, i64_w, i32_w]; rfl)
               refine pS 15 74 (v := ?_) (a' := ?_) (ba 24 65535) HT_ (by kernel_rfl) rfl rfl (fun _ _ _ h => h) (by rfl) ?_ ?_ ?_; rotate_left 2; (intro w'; go_simp; with_reducible rfl); (simp only [Act.put, List.setIfInBounds_toArray, List.set_cons_zero, List.set_cons_succ, i64_w, i32_w]; rfl)
               refine pS 16 75 (v := ?_) (a' := ?_) (ba 24 131071) HT_ (by kernel_rfl) rfl rfl (fun _ _ _ h => h) (by rfl) ?_ ?_ ?_; rotate_left 2; (intro w'; go_simp; with_reducible rfl); (simp only [Act.put, List.setIfInBounds_toArray, List.set_cons_zero, List.set_cons_succ, i64_w, i32_w]; rfl)
               refine pS 17 76 (v := ?_) (a' := ?_) (ba 24 262143) HT_ (by kernel_rfl) rfl rfl (fun _ _ _ h => h) (by rfl) ?_ ?_ ?_; rotate_left 2; (intro w'; go_simp; with_reducible rfl); (simp only [Act.put, List.setIfInBounds_toArray, List.set_cons_zero, List.set_cons_succ, i64_w, i32_w]; rfl)
               refine pS 20 79 (v := ?_) (a' := ?_) (ba 24 1310719) HT_ (by kernel_rfl) rfl rfl (fun _ _ _ h => h) (by rfl) ?_ ?_ ?_; rotate_left 2; (intro w'; go_simp; with_reducible rfl); (simp only [Act.put, List.setIfInBounds_toArray, List.set_cons_zero, List.set_cons_succ, i64_w, i32_w]; rfl)
               refine one_ (i := 18) (N := some 77) (ba 24 1572863) rfl rfl (one_of HT_.out (by kernel_rfl)) (by decide) (fun K hK => ?_)
               refine Kd.N_lit_step (Kd.slice 47 k47) _ 22 ?hg (N' := 77) ?hd (xs := ([y117, y122, y127, y132, y137] : List (List (S47)))) (inner := [.slice A0_0 y117.length c0_0, .slice A69 y122.length c69, .slice A70 y127.length c70, .slice A71 y132.length c71, .slice A72 y137.length c72]) (ok := (fun k_ => (P0_0_ k_ ∨ w.heap.size ≤ k_) ∧ k_ ≠ gb101 ∧ k_ ≠ gb102)) (okp := (fun k_ => (P0_0_ k_ ∨ w.heap.size ≤ k_) ∧ k_ ≠ gb101 ∧ k_ ≠ gb102)) ?hr ?hp (fun _ hk => hk) ((show ∀ k_, w67.heap.size ≤ k_ → (fun k_ => (P0_0_ k_ ∨ w.heap.size ≤ k_) ∧ k_ ≠ gb101 ∧ k_ ≠ gb102) k_ from fun k_ hk => ⟨(.inr (Nat.le_trans (below_size HB.out) hk)), Kd.freshB (g := gb101) (o := .cells #[.slice A0_0 l0_0.length c0_0, .int .i64 a0_1] 24 (0, 0)) BK101.out k_ hk, Kd.freshB (g := gb102) (o := .cells #[.slice none 0 0, .int .i64 0] 24 (0, 0)) BK102.out k_ hk⟩) _ (Nat.le_refl _)) (Below.refl _ _) (Nat.le_refl _) (by simp) ?_; (case hd => rfl); (case hg => rfl); (case hr => first | (go_simp; done) | (go_simp; rfl)); (case hp => exact (Reps.one (show Kd.FK (Kd.slice 47 k47) _ _ y117 [.slice A0_0 y117.length c0_0] from (Kd.FK_slice_mk (Kd.V_reads' (Kd.V_mono (ok' := (fun k_ => (P0_0_ k_ ∨ w.heap.size ≤ k_) ∧ k_ ≠ gb101 ∧ k_ ≠ gb102)) (HO121.out) (fun k_ hk => ⟨hk.1, ⟨hk.2.1, hk.2.2⟩⟩))).2.1 (Kd.V_F (Kd.V_mono (ok' := (fun k_ => (P0_0_ k_ ∨ w.heap.size ≤ k_) ∧ k_ ≠ gb101 ∧ k_ ≠ gb102)) (HO121.out) (fun k_ hk => ⟨hk.1, ⟨hk.2.1, hk.2.2⟩⟩))))) (Reps.one (show Kd.FK (Kd.slice 47 k47) _ _ y122 [.slice A69 y122.length c69] from (Kd.FK_slice_mk (Kd.V_reads' (Kd.V_mono (ok' := (fun k_ => (P0_0_ k_ ∨ w.heap.size ≤ k_) ∧ k_ ≠ gb101 ∧ k_ ≠ gb102)) (HO126.out) (fun k_ hk => ⟨hk.1, ⟨hk.2.1, hk.2.2⟩⟩))).2.1 (Kd.V_F (Kd.V_mono (ok' := (fun k_ => (P0_0_ k_ ∨ w.heap.size ≤ k_) ∧ k_ ≠ gb101 ∧ k_ ≠ gb102)) (HO126.out) (fun k_ hk => ⟨hk.1, ⟨hk.2.1, hk.2.2⟩⟩))))) (Reps.one (show Kd.FK (Kd.slice 47 k47) _ _ y127 [.slice A70 y127.length c70] from (Kd.FK_slice_mk (Kd.V_reads' (Kd.V_mono (ok' := (fun k_ => (P0_0_ k_ ∨ w.heap.size ≤ k_) ∧ k_ ≠ gb101 ∧ k_ ≠ gb102)) (HO131.out) (fun k_ hk => ⟨hk.1, ⟨hk.2.1, hk.2.2⟩⟩))).2.1 (Kd.V_F (Kd.V_mono (ok' := (fun k_ => (P0_0_ k_ ∨ w.heap.size ≤ k_) ∧ k_ ≠ gb101 ∧ k_ ≠ gb102)) (HO131.out) (fun k_ hk => ⟨hk.1, ⟨hk.2.1, hk.2.2⟩⟩))))) (Reps.one (show Kd.FK (Kd.slice 47 k47) _ _ y132 [.slice A71 y132.length c71] from (Kd.FK_slice_mk (Kd.V_reads' (Kd.V_mono (ok' := (fun k_ => (P0_0_ k_ ∨ w.heap.size ≤ k_) ∧ k_ ≠ gb101 ∧ k_ ≠ gb102)) (HO136.out) (fun k_ hk => ⟨hk.1, ⟨hk.2.1, hk.2.2⟩⟩))).2.1 (Kd.V_F (Kd.V_mono (ok' := (fun k_ => (P0_0_ k_ ∨ w.heap.size ≤ k_) ∧ k_ ≠ gb101 ∧ k_ ≠ gb102)) (HO136.out) (fun k_ hk => ⟨hk.1, ⟨hk.2.1, hk.2.2⟩⟩))))) (Reps.one (show Kd.FK (Kd.slice 47 k47) _ _ y137 [.slice A72 y137.length c72] from (Kd.FK_slice_mk (Kd.V_reads' (Kd.V_mono (ok' := (fun k_ => (P0_0_ k_ ∨ w.heap.size ≤ k_) ∧ k_ ≠ gb101 ∧ k_ ≠ gb102)) (HO141.out) (fun k_ hk => ⟨hk.1, ⟨hk.2.1, hk.2.2⟩⟩))).2.1 (Kd.V_F (Kd.V_mono (ok' := (fun k_ => (P0_0_ k_ ∨ w.heap.size ≤ k_) ∧ k_ ≠ gb101 ∧ k_ ≠ gb102)) (HO141.out) (fun k_ hk => ⟨hk.1, ⟨hk.2.1, hk.2.2⟩⟩))))) (Reps.none _ _)))))))
               intro v143 w73 ho74 hb hg_ hnew_
               clear hg_ hnew_
               (first | rw [← Ny142.out] at ho74 | (simp only [Int.reduceToNat] at ho74; rw [← Ny142.out] at ho74))
               replace HO_4 := a0 (Kd.V_elder' HO_4.out (Kd.N_base ho74) hb)
               replace HO_102000 := a0 (Kd.V_elder' HO_102000.out (Kd.N_base ho74) hb)
               replace HO121 := a0 (Kd.V_elder' HO121.out (Kd.N_base ho74) hb)
               replace HO126 := a0 (Kd.V_elder' HO126.out (Kd.N_base ho74) hb)
               replace HO131 := a0 (Kd.V_elder' HO131.out (Kd.N_base ho74) hb)
               replace HO136 := a0 (Kd.V_elder' HO136.out (Kd.N_base ho74) hb)
               replace HO141 := a0 (Kd.V_elder' HO141.out (Kd.N_base ho74) hb)
               have HO144 := a0 (Kd.N_lower ho74 (below_size HB.out))
               replace BK101 := a0 (bB hb BK101.out)
               replace BK102 := a0 (bB hb BK102.out)
               replace HB := a0 (below_step HB.out hb)
               clear hb ho74
               obtain ⟨Ao75, co75, eo75⟩ := Kd.N_slice HO144.out
               (first | subst eo75 | (injection eo75 with f1_ f2_ f3_; have f4_ := f1_.symm; have f5_ := f3_.symm; clear f1_ f2_ f3_; subst f4_; subst f5_))
               refine hK.out _ _ trivial (fun hHeld => ?_)
               clear hK K
               refine norm_ (a' := ?_) ?_ ?_; rotate_left; (show Act.put _ (some 77) _ = _; simp only [Act.put, List.setIfInBounds_toArray, List.set_cons_zero, List.set_cons_succ, i64_w, i32_w]; rfl)
               refine one_ (i := 19) (N := some 78) (ba 24 2097151) rfl rfl (one_of HT_.out (by kernel_rfl)) (by decide) (fun K hK => ?_)
               refine gR Try.func73 (by kernel_rfl) #[.slice Ao75 y142.length co75] (by rfl) rfl rfl rfl rfl ?_
               with_reducible refine (Concat_Sign.calls _ _ y142 t145 _ ?side1 ?side2 A66.out).mono ?_
               (case side1 => repeat (first | exact (Kd.N_reads' HO144.out).2.2 | (with_reducible refine Kd.C_alloc ?_ _) | (with_reducible refine Kd.C_drewN ?_ _) | (with_reducible refine Kd.C_drew ?_)))
               (case side2 => exact (Kd.N_reads' HO144.out).2.1)
               rintro e w76 ⟨v146, rfl, ho0, hb⟩
               refine ⟨_, rfl, ?_⟩
               replace HO_4 := a0 (Kd.V_elder' HO_4.out (Kd.R_base ho0) hb)
               replace HO_102000 := a0 (Kd.V_elder' HO_102000.out (Kd.R_base ho0) hb)
               replace HO121 := a0 (Kd.V_elder' HO121.out (Kd.R_base ho0) hb)
               replace HO126 := a0 (Kd.V_elder' HO126.out (Kd.R_base ho0) hb)
               replace HO131 := a0 (Kd.V_elder' HO131.out (Kd.R_base ho0) hb)
               replace HO136 := a0 (Kd.V_elder' HO136.out (Kd.R_base ho0) hb)
               replace HO141 := a0 (Kd.V_elder' HO141.out (Kd.R_base ho0) hb)
               replace HO144 := a0 (Kd.N_elder' HO144.out (Kd.R_base ho0) hb)
               have HO147 := a0 (Kd.R_lower (Kd.R_newM (M := fun k_ => (w.heap.size ≤ k_)) ho0 (below_size HB.out) (fun k_ h_ => h_)) (below_size HB.out))
               replace BK101 := a0 (bB hb BK101.out)
               replace BK102 := a0 (bB hb BK102.out)
               replace HB := a0 (below_step HB.out hb)
               (try clear hb)
               (try clear hb2)
               (try clear hk)
               (try clear hi)
               (try clear ho0)
               obtain ⟨Ao77, co77, eo77⟩ := Kd.R_slice HO147.out
               (first | subst eo77 | (injection eo77 with f1_ f2_ f3_; have f4_ := f1_.symm; have f5_ := f3_.symm; clear f1_ f2_ f3_; subst f4_; subst f5_))
               refine hK.out _ _ trivial (fun hHeld => ?_)
               clear hK K
               refine norm_ (a' := ?_) ?_ ?_; rotate_left; (show Act.put _ (some 78) _ = _; simp only [Act.put, List.setIfInBounds_toArray, List.set_cons_zero, List.set_cons_succ, i64_w, i32_w]; rfl)
               refine pS 21 80 (v := ?_) (a' := ?_) (ba 24 4194303) HT_ (by kernel_rfl) rfl rfl (fun _ _ _ h => h) (by rfl) ?_ ?_ ?_; rotate_left 2; (intro w'; go_simp; with_reducible rfl); (simp only [Act.put, List.setIfInBounds_toArray, List.set_cons_zero, List.set_cons_succ, i64_w, i32_w]; rfl)
               refine one_ (i := 22) (N := none) (ba 24 8388607) rfl rfl (one_of HT_.out (by kernel_rfl)) (by decide) (fun K hK => ?_)
               have hs78 : w76.cell? ⟨gb102, 0, none⟩ = some (.slice none 0 0) := (blk_cell BK102.out 0).trans rfl
               have hfs78 := blk_frozen BK102.out 0
               have hns78_0 := NB101_102.out
               have hms78_0 := NB102_101.out
               have hs79 : w76.cell? ⟨gb102, 1, none⟩ = some (.int .i64 0) := (blk_cell BK102.out 1).trans rfl
               have hfs79 := blk_frozen BK102.out 1
               have hns79_0 := NB101_102.out
               have hms79_0 := NB102_101.out
               refine skip_ (w1 := ?_) (by rfl) rfl ?_ ?_
               rotate_left
               ·go_simp
                rfl
               refine hK.out _ _ trivial (fun hHeld => ?_)
               clear hK K
               refine pS 23 3 (v := ?_) (a' := ?_) (ba 24 16777215) HT_ (by kernel_rfl) rfl rfl (fun _ _ _ h => h) (by rfl) ?_ ?_ ?_; rotate_left 2; (intro w'; go_simp; with_reducible rfl); (simp only [Act.put, List.setIfInBounds_toArray, List.set_cons_zero, List.set_cons_succ, i64_w, i32_w]; rfl)
               refine done_ (done_of HT_.out (by kernel_rfl)) ?_
               try go_wp2
               refine bodyPost_ret (results_ct rfl _ _ gb102 24 #[.slice Ao77 t145.length co77, .int .i64 t105] (0, 0) _ rfl (by refine blk_put (cs := #[.slice Ao77 t145.length co77, .int .i64 0]) ?_ 1 _ rfl; refine blk_put (cs := #[.slice none 0 0, .int .i64 0]) ?_ 0 _ rfl; exact BK102.out) Try.underlying24 rfl (by kernel_rfl)) rfl ?_
               exact ⟨_, by first | rfl | (simp [errW_none, errW_some] <;> rfl) | (simp [*, errW_none, errW_some] <;> rfl), by exact Kd.R_mono (Kd.R_far (p := ⟨gb102, 1, none⟩) (Kd.R_far (p := ⟨gb102, 0, none⟩) (Kd.R_types HO147.out BK102.out (by decide)) (fun _ hk => hk.2) (.slice Ao77 t145.length co77)) (fun _ hk => hk.2) (.int .i64 t105)) (fun _ hk => hk.1.1), by repeat (first | (with_reducible first | exact HB.out | apply below_alloc | apply pw_below_drewN | apply below_drew1 | refine below_set ?_ GE101.out | refine below_set ?_ GE102.out) | exact HB.out)⟩
              ·rw [if_neg c64] at H
               exact absurd H (by simp)
             ·rw [if_neg c63] at H
              exact absurd H (by simp)
            ·rw [if_neg c62] at H
             exact absurd H (by simp)
           ·rw [if_neg c60] at H
            exact absurd H (by simp)
          ·rw [if_neg c59] at H
           exact absurd H (by simp)
         ·rw [if_neg c58] at H
          exact absurd H (by simp)
        ·rw [if_neg c57] at H
         exact absurd H (by simp)
       ·rw [if_neg c56] at H
        exact absurd H (by simp)
      ·rw [if_neg c55] at H
       exact absurd H (by simp)
     ·rw [if_neg c54] at H
      exact absurd H (by simp)
    ·rw [if_neg c53] at H
     exact absurd H (by simp)

end Go.Proofs.Ytemoocoedibbpab.X

namespace Go.Proofs.Ytemoocoedibbpab.X
open Go.RowKit Go.Proofs.YtemoocoedibbpabW.PrintWords Go.Proofs.YtemoocoedibbpabW.PrintLast Go.Proofs.YtemoocoedibbpabW.PrintMore
attribute [local go_sem] max2_int min2_int max_two min_two max_three min_three max_four min_four
set_option linter.unusedVariables false
set_option linter.unusedSimpArgs false

/-! ### line_places: function 77 -/
def line_places.f (l0_0 : List (S47)) (a0_1 : Int) (a1 : Int) (a2 : Int) : Option (Int × Int) := some (mn (mn (mx a1 0) (l0_0.length : Int)) (mn (mx a2 0) (l0_0.length : Int)), mx (mn (mx a1 0) (l0_0.length : Int)) (mn (mx a2 0) (l0_0.length : Int)))
set_option maxHeartbeats 8000000 in
set_option maxRecDepth 100000 in
theorem line_places.calls (A0_0 : Option Addr) (c0_0 : Nat) (l0_0 : List (S47)) (a0_1 : Int) (a1 : Int) (a2 : Int) (r1 : Int) (r2 : Int) (w : World) (hr0_0 : Kd.C k47 w A0_0 l0_0.length l0_0) (hc0_0 : l0_0.length ≤ c0_0) (h : line_places.f l0_0 a0_1 a1 a2 = some (r1, r2)) :
  Calls Try.prog 77 #[.agg #[.slice A0_0 l0_0.length c0_0, .int .i64 a0_1], .int .i64 a1, .int .i64 a2] w fun e w' => e = .returned (.tuple #[.int .i64 r1, .int .i64 r2]) ∧ Below w.heap.size w w' := by
 have hu24 := Try.underlying24
 have HR0_0 := Aside0.mk hr0_0
 have HC0_0 := Aside0.mk hc0_0
 clear hr0_0 hc0_0
 have HB := Aside0.mk (Below.refl w.heap.size w)
 have H : (some (mn (mn (mx a1 0) (l0_0.length : Int)) (mn (mx a2 0) (l0_0.length : Int)), mx (mn (mx a1 0) (l0_0.length : Int)) (mn (mx a2 0) (l0_0.length : Int)))) = some (r1, r2) := h
 clear h
 obtain ⟨ji4, hji4⟩ : ∃ j_ : Int, (mx a1 0) = j_ := ⟨_, rfl⟩
 replace H : (some (mn (mn (ji4) (l0_0.length : Int)) (mn (mx a2 0) (l0_0.length : Int)), mx (mn (ji4) (l0_0.length : Int)) (mn (mx a2 0) (l0_0.length : Int)))) = some (r1, r2) := by first | (rw [hji4] at H; exact H) | (simp only [hji4] at H ⊢; exact H)
 (try (have hji4l : 0 ≤ ji4 := by (rw [← hji4]; unfold mx; (repeat' split) <;> omega)))
 (try (have hji4m : 0 ≤ ji4 := by omega))
 have hji4_ : (if a1 < 0 then 0 else a1) = ji4 := hji4
 obtain ⟨ji5, hji5⟩ : ∃ j_ : Int, (mn (ji4) (l0_0.length : Int)) = j_ := ⟨_, rfl⟩
 replace H : (some (mn (ji5) (mn (mx a2 0) (l0_0.length : Int)), mx (ji5) (mn (mx a2 0) (l0_0.length : Int)))) = some (r1, r2) := by first | (rw [hji5] at H; exact H) | (simp only [hji5] at H ⊢; exact H)
 have hji5_ : (if (l0_0.length : Int) < (ji4) then (l0_0.length : Int) else (ji4)) = ji5 := hji5
 obtain ⟨ji6, hji6⟩ : ∃ j_ : Int, (mx a2 0) = j_ := ⟨_, rfl⟩
 replace H : (some (mn (ji5) (mn (ji6) (l0_0.length : Int)), mx (ji5) (mn (ji6) (l0_0.length : Int)))) = some (r1, r2) := by first | (rw [hji6] at H; exact H) | (simp only [hji6] at H ⊢; exact H)
 (try (have hji6l : 0 ≤ ji6 := by (rw [← hji6]; unfold mx; (repeat' split) <;> omega)))
 (try (have hji6m : 0 ≤ ji6 := by omega))
 have hji6_ : (if a2 < 0 then 0 else a2) = ji6 := hji6
 obtain ⟨ji7, hji7⟩ : ∃ j_ : Int, (mn (ji6) (l0_0.length : Int)) = j_ := ⟨_, rfl⟩
 replace H : (some (mn (ji5) (ji7), mx (ji5) (ji7))) = some (r1, r2) := by first | (rw [hji7] at H; exact H) | (simp only [hji7] at H ⊢; exact H)
 have hji7_ : (if (l0_0.length : Int) < (ji6) then (l0_0.length : Int) else (ji6)) = ji7 := hji7
 obtain ⟨ji8, hji8⟩ : ∃ j_ : Int, (mn (ji5) (ji7)) = j_ := ⟨_, rfl⟩
 replace H : (some (ji8, mx (ji5) (ji7))) = some (r1, r2) := by first | (rw [hji8] at H; exact H) | (simp only [hji8] at H ⊢; exact H)
 have hji8_ : (if (ji7) < (ji5) then (ji7) else (ji5)) = ji8 := hji8
 obtain ⟨ji9, hji9⟩ : ∃ j_ : Int, (mx (ji5) (ji7)) = j_ := ⟨_, rfl⟩
 replace H : (some (ji8, ji9)) = some (r1, r2) := by first | (rw [hji9] at H; exact H) | (simp only [hji9] at H ⊢; exact H)
 have hji9_ : (if (ji5) < (ji7) then (ji7) else (ji5)) = ji9 := hji9
 simp only [Option.some.injEq, Prod.mk.injEq] at H
 obtain ⟨rfl, rfl⟩ := H
 go_enter Try.func77, Try.ntmps77
 go_wp2_with (first | ((with_reducible refine gate_dst (N := 3) rfl ?_); refine box_event ?hg (N := 3) ?hd (cs := #[.slice A0_0 l0_0.length c0_0, .int .i64 a0_1]) (t := 24) ?hr ?_; (case hd => rfl); (case hg => rfl); (case hr => first | (go_simp; done) | (go_simp; rfl)); intro gb101 hg w10 hbox hb; have BK101 := a0 (hbox); have GW101 := a0 ((by rw [hg]; exact (below_size HB.out) : w.heap.size ≤ gb101)); have GE101 := a0 ((by rw [hg]; exact (below_size HB.out) : w.heap.size ≤ gb101)); replace HB := a0 (below_step HB.out hb); clear hb hbox hg; obtain ⟨hcz11_0, hcz11_1, hfz11_0, hfz11_1⟩ := c2 BK101.out))
 repeat (go_quiet (first | ((with_reducible refine gate_dst (N := 3) rfl ?_); refine box_event ?hg (N := 3) ?hd (cs := #[.slice A0_0 l0_0.length c0_0, .int .i64 a0_1]) (t := 24) ?hr ?_; (case hd => rfl); (case hg => rfl); (case hr => first | (go_simp; done) | (go_simp; rfl)); intro gb101 hg w10 hbox hb; have BK101 := a0 (hbox); have GW101 := a0 ((by rw [hg]; exact (below_size HB.out) : w.heap.size ≤ gb101)); have GE101 := a0 ((by rw [hg]; exact (below_size HB.out) : w.heap.size ≤ gb101)); replace HB := a0 (below_step HB.out hb); clear hb hbox hg; obtain ⟨hcz11_0, hcz11_1, hfz11_0, hfz11_1⟩ := c2 BK101.out)); try go_wp2_with (first | ((with_reducible refine gate_dst (N := 3) rfl ?_); refine box_event ?hg (N := 3) ?hd (cs := #[.slice A0_0 l0_0.length c0_0, .int .i64 a0_1]) (t := 24) ?hr ?_; (case hd => rfl); (case hg => rfl); (case hr => first | (go_simp; done) | (go_simp; rfl)); intro gb101 hg w10 hbox hb; have BK101 := a0 (hbox); have GW101 := a0 ((by rw [hg]; exact (below_size HB.out) : w.heap.size ≤ gb101)); have GE101 := a0 ((by rw [hg]; exact (below_size HB.out) : w.heap.size ≤ gb101)); replace HB := a0 (below_step HB.out hb); clear hb hbox hg; obtain ⟨hcz11_0, hcz11_1, hfz11_0, hfz11_1⟩ := c2 BK101.out)))
 go_ret2
 exact ⟨by first | rfl | (simp [errW_none, errW_some] <;> rfl) | (simp only [← hji4, ← hji5, ← hji6, ← hji7, ← hji8, ← hji9]; first | rfl | (simp [errW_none, errW_some] <;> rfl)) | (simp [*, errW_none, errW_some] <;> rfl), by repeat (first | (with_reducible first | exact HB.out | apply below_alloc | apply pw_below_drewN | apply below_drew1 | refine below_set ?_ GE101.out) | exact HB.out)⟩

end Go.Proofs.Ytemoocoedibbpab.X

namespace Go.Proofs.Ytemoocoedibbpab.X
open Go.RowKit Go.Proofs.YtemoocoedibbpabW.PrintWords Go.Proofs.YtemoocoedibbpabW.PrintLast Go.Proofs.YtemoocoedibbpabW.PrintMore
attribute [local go_sem] max2_int min2_int max_two min_two max_three min_three max_four min_four
set_option linter.unusedVariables false
set_option linter.unusedSimpArgs false

/-! ### line_Cut: function 35 -/
def line_Cut.j0 : Nat → Int → Int → Int → List (S47) → Int → Option ((List (S47)) × Int × (List (S47)))
 | 0, _, _, _, _, _ => none
 | k + 1, x8, x9, x10, x102000, x102001 => if 0 ≤ x8 then (if x8 ≤ (x102000.length : Int) then (if 0 ≤ x9 then (if x9 ≤ (x102000.length : Int) then ((Concat_Sign.f (([(x102000.take (x8 : Int).toNat), (x102000.drop (x9 : Int).toNat)] : List (List (S47))))).bind fun t120 => (if x8 ≤ x9 then ((Clone_Sign.f ((x102000.take (x9 : Int).toNat).drop (x8 : Int).toNat)).bind fun t128 => (some (t120, x10, t128))) else (none))) else (none)) else (none)) else (none)) else (none)
def line_Cut.f (k : Nat) (l0_0 : List (S47)) (a0_1 : Int) (a1 : Int) (a2 : Int) : Option ((List (S47)) × Int × (List (S47))) := (line_places.f l0_0 a0_1 a1 a2).bind fun bt103 => ((line_places.f l0_0 a0_1 a0_1 (l0_0.length : Int)).bind fun bt105 => (if bt105.1 > bt103.2 then (line_Cut.j0 k bt103.1 bt103.2 (wrap64 (bt105.1 - (wrap64 (bt103.2 - bt103.1)))) l0_0 a0_1) else (if bt105.1 > bt103.1 then (line_Cut.j0 k bt103.1 bt103.2 bt103.1 l0_0 a0_1) else (line_Cut.j0 k bt103.1 bt103.2 bt105.1 l0_0 a0_1))))
theorem line_Cut.mono_l : ∀ k, (∀ y0 y1 y2 y3 y4, LeO (line_Cut.j0 k y0 y1 y2 y3 y4) (line_Cut.j0 (k + 1) y0 y1 y2 y3 y4))
 | 0 => fun _ _ _ _ _ r h => by simp [line_Cut.j0] at h
 | k + 1 => by
  have ih0 := line_Cut.mono_l k
  ·intro y0 y1 y2 y3 y4
   unfold line_Cut.j0
   repeat' first
   | (with_reducible exact ih0 _ _ _ _ _)
   | (with_reducible exact LeO.refl _)
   | (with_reducible exact LeO.none _)
   | (with_reducible refine LeO.ite ?_ ?_)
   | (with_reducible refine LeO.bind ?_ (fun _ => ?_))
   | exact ih0 _ _ _ _ _
   | exact LeO.none _
   | refine LeO.ite ?_ ?_
   | refine LeO.bind ?_ (fun _ => ?_)
theorem line_Cut.mono : ∀ a0 a1 a2 a3 k, LeO (line_Cut.f k a0 a1 a2 a3) (line_Cut.f (k + 1) a0 a1 a2 a3) := by
 intro a0 a1 a2 a3 k
 have ih0 := line_Cut.mono_l k
 unfold line_Cut.f
 repeat' first
   | (with_reducible exact ih0 _ _ _ _ _)
   | (with_reducible exact LeO.refl _)
   | (with_reducible exact LeO.none _)
   | (with_reducible refine LeO.ite ?_ ?_)
   | (with_reducible refine LeO.bind ?_ (fun _ => ?_))
   | exact ih0 _ _ _ _ _
   | exact LeO.none _
   | refine LeO.ite ?_ ?_
   | refine LeO.bind ?_ (fun _ => ?_)
def line_Cut.T7 : Bool × List (List Nat × List Nat) := (true, [([], []), ([0], [0]), ([], []), ([1, 2], [1, 2]), ([], []), ([4], [4]), ([], []), ([5, 6], [5, 6]), ([3, 7], [3, 7]), ([8], [8]), ([], []), ([9, 10], [9, 10]), ([], []), ([12], [12]), ([], []), ([], []), ([13, 14, 15], [13, 14, 15]), ([16, 9], [16]), ([11, 17, 0, 1, 2, 3, 4, 5, 6, 7, 8, 9, 10, 11], [11]), ([17, 18, 0, 1, 2, 3, 4, 5, 6, 7, 8, 9, 10, 11, 12, 13, 14, 15, 16, 17, 18], [17])])
def line_Cut.B7 : List Nat := [0, 1, 0, 7, 0, 16, 0, 112, 255, 511, 0, 2047, 0, 4096, 0, 0, 61440, 127999, 262143, 524287]
theorem line_Cut.tab7 : rtab .any (opsOf Try.f35 7) = line_Cut.T7 := by kernel_rfl
theorem line_Cut.bits7 : waitsOk line_Cut.T7.2 line_Cut.B7 = true := by kernel_rfl
set_option maxHeartbeats 8000000 in
set_option maxRecDepth 100000 in
theorem line_Cut.calls (k : Nat) (P0_0_ : Nat → Prop) (A0_0 : Option Addr) (c0_0 : Nat) (l0_0 : List (S47)) (a0_1 : Int) (a1 : Int) (a2 : Int) (r1 : List (S47)) (r2 : Int) (r3 : List (S47)) (w : World) (hs0_0 : Kd.V k47 47 w w.heap.size (fun k_ => P0_0_ k_) (.slice A0_0 l0_0.length c0_0) l0_0) (h : line_Cut.f k l0_0 a0_1 a1 a2 = some (r1, r2, r3)) :
  Calls Try.prog 35 #[.agg #[.slice A0_0 l0_0.length c0_0, .int .i64 a0_1], .int .i64 a1, .int .i64 a2] w fun e w' => ∃ v0_ v2_ : Value, e = .returned (.tuple #[.agg #[v0_, .int .i64 r2], v2_]) ∧ Kd.R k47 47 w' w.heap.size (fun k_ => (w.heap.size ≤ k_) ∧ some k_ ≠ (v2_ : Value).ownBlock) v0_ r1 ∧ Kd.R k47 47 w' w.heap.size (fun k_ => (w.heap.size ≤ k_) ∧ some k_ ≠ (v0_ : Value).ownBlock) v2_ r3 ∧ Below w.heap.size w w' := by
 have hu24 := Try.underlying24
 have HO0_0 := Aside0.mk (show Kd.V k47 47 w w.heap.size (fun k_ => (P0_0_ k_ ∨ w.heap.size ≤ k_)) (.slice A0_0 l0_0.length c0_0) l0_0 from Kd.V_mono hs0_0 (fun k_ hk => .inl hk))
 have HB := Aside0.mk (Below.refl w.heap.size w)
 have H : ((line_places.f l0_0 a0_1 a1 a2).bind fun bt103 => ((line_places.f l0_0 a0_1 a0_1 (l0_0.length : Int)).bind fun bt105 => (if bt105.1 > bt103.2 then (line_Cut.j0 k bt103.1 bt103.2 (wrap64 (bt105.1 - (wrap64 (bt103.2 - bt103.1)))) l0_0 a0_1) else (if bt105.1 > bt103.1 then (line_Cut.j0 k bt103.1 bt103.2 bt103.1 l0_0 a0_1) else (line_Cut.j0 k bt103.1 bt103.2 bt105.1 l0_0 a0_1))))) = some (r1, r2, r3) := h
 clear h
 replace H := Option.bind_eq_some_iff.mp H
 obtain ⟨⟨t103, t104⟩, A40, H⟩ := H
 try dsimp only at H
 have A4 := Aside0.mk A40
 clear A40
 replace H := Option.bind_eq_some_iff.mp H
 obtain ⟨⟨t105, t106⟩, A50, H⟩ := H
 try dsimp only at H
 have A5 := Aside0.mk A50
 clear A50
 have HC6 := Aside0.mk H
 clear H
 go_enter Try.func35, Try.ntmps35
 go_upto_block 0 with (first | ((with_reducible refine gate_dst (N := 3) rfl ?_); refine box_event ?hg (N := 3) ?hd (cs := #[.slice A0_0 l0_0.length c0_0, .int .i64 a0_1]) (t := 24) ?hr ?_; (case hd => rfl); (case hg => rfl); (case hr => first | (go_simp; done) | (go_simp; rfl)); intro gb101 hg w7 hbox hb; replace HO0_0 := a0 (Kd.V_below (Kd.V_elderB HO0_0.out gb101 (Nat.le_of_eq hg.symm)) hb); have BK101 := a0 (hbox); have GW101 := a0 ((by rw [hg]; exact (below_size HB.out) : w.heap.size ≤ gb101)); have GE101 := a0 ((by rw [hg]; exact (below_size HB.out) : w.heap.size ≤ gb101)); replace HB := a0 (below_step HB.out hb); clear hb hbox hg) | ((with_reducible refine gate_dst (N := 6) rfl ?_); refine box_event ?hg (N := 6) ?hd (cs := #[.slice none 0 0, .int .i64 0]) (t := 24) ?hr ?_; (case hd => rfl); (case hg => rfl); (case hr => first | (go_simp; done) | (go_simp; rfl)); intro gb102 hg w8 hbox hb; replace HO0_0 := a0 (Kd.V_below (Kd.V_elderB HO0_0.out gb102 (Nat.le_of_eq hg.symm)) hb); have BK102 := a0 (hbox); have GW102 := a0 ((by rw [hg]; exact (below_size HB.out) : w.heap.size ≤ gb102)); have GE102 := a0 ((by rw [hg]; exact (below_size HB.out) : w.heap.size ≤ gb102)); replace HB := a0 (below_step HB.out hb); have NB101_102 := a0 ((by rw [hg]; exact Nat.ne_of_lt (blk_lt BK101.out) : gb101 ≠ gb102)); have NB102_101 := a0 ((by rw [hg]; exact Nat.ne_of_gt (blk_lt BK101.out) : gb102 ≠ gb101)); replace BK101 := a0 (bB hb BK101.out); clear hb hbox hg; have hnb9 := NB101_102.out; have hnc9 := NB102_101.out; obtain ⟨hcz10_0, hcz10_1, hfz10_0, hfz10_1⟩ := c2 BK101.out) | ((with_reducible refine gate_callee (f := 77) rfl ?_); refine gL (some 16) Try.func77 (by kernel_rfl) #[.agg #[.slice A0_0 l0_0.length c0_0, .int .i64 a0_1], .int .i64 a1, .int .i64 a2] rfl rfl rfl rfl rfl ?_; (with_reducible refine (line_places.calls _ _ l0_0 a0_1 a1 a2 t103 t104 _ ?side1 ?side2 A4.out).mono ?_); (case side1 => repeat (first | exact (Kd.V_reads' HO0_0.out).2.2 | (with_reducible refine Kd.C_alloc ?_ _) | (with_reducible refine Kd.C_drewN ?_ _) | (with_reducible refine Kd.C_drew ?_))); (case side2 => exact (Kd.V_reads' HO0_0.out).2.1); rintro e w11 ⟨rfl, hb⟩; refine ⟨_, rfl, ?_⟩; replace HO0_0 := a0 (Kd.V_below HO0_0.out hb); replace BK101 := a0 (bB hb BK101.out); replace BK102 := a0 (bB hb BK102.out); replace HB := a0 (below_step HB.out hb); clear hb; obtain ⟨hcz12_0, hcz12_1, hfz12_0, hfz12_1⟩ := c2 BK101.out) | ((with_reducible refine gate_callee (f := 77) rfl ?_); refine gL (some 26) Try.func77 (by kernel_rfl) #[.agg #[.slice A0_0 l0_0.length c0_0, .int .i64 a0_1], .int .i64 a0_1, .int .i64 (l0_0.length : Int)] rfl rfl rfl rfl rfl ?_; (with_reducible refine (line_places.calls _ _ l0_0 a0_1 a0_1 (l0_0.length : Int) t105 t106 _ ?side1 ?side2 A5.out).mono ?_); (case side1 => repeat (first | exact (Kd.V_reads' HO0_0.out).2.2 | (with_reducible refine Kd.C_alloc ?_ _) | (with_reducible refine Kd.C_drewN ?_ _) | (with_reducible refine Kd.C_drew ?_))); (case side2 => exact (Kd.V_reads' HO0_0.out).2.1); rintro e w13 ⟨rfl, hb⟩; refine ⟨_, rfl, ?_⟩; replace HO0_0 := a0 (Kd.V_below HO0_0.out hb); replace BK101 := a0 (bB hb BK101.out); replace BK102 := a0 (bB hb BK102.out); replace HB := a0 (below_step HB.out hb); (try clear hb); (try clear hb2); (try clear hk); (try clear hi)))
 (try simp only [Act.put, List.setIfInBounds_toArray, List.set_cons_zero, List.set_cons_succ])
 go_cut [10] (fun v10 wc => ∃ (kq : Nat) (x10_5 : Int), v10 = .int .i64 x10_5 ∧ Aside0 (line_Cut.j0 kq t103 t104 x10_5 l0_0 a0_1 = some (r1, r2, r3)) ∧ Aside0 (kq ≤ k) ∧ Aside0 (Kd.V k47 47 wc w.heap.size (fun k_ => (P0_0_ k_ ∨ w.heap.size ≤ k_) ∧ k_ ≠ gb101 ∧ k_ ≠ gb102) (.slice A0_0 l0_0.length c0_0) l0_0) ∧ Aside0 (wc.heap[gb101]? = some (.cells #[(.slice A0_0 l0_0.length c0_0), .int .i64 a0_1] 24 (0, 0))) ∧ Aside0 (wc.heap[gb102]? = some (.cells #[(.slice none 0 0), .int .i64 0] 24 (0, 0))) ∧ Aside0 (Below w.heap.size w wc))
 case first =>
  have H := HC6.out
  clear HC6
  by_cases c14 : t105 > t104
  ·rw [if_pos c14] at H
   have c14b0 : decide (t104 < t105) = true := decide_eq_true c14
   clear c14
   (first | rw [c14b0] | (simp only [i64_w, i32_w]; rw [c14b0]) | skip)
   have H' := Aside0.mk H
   clear H
   go_wp2
   go_meet
   case rel => exact ⟨_, (wrap64 (t105 - (wrap64 (t104 - t103)))), (by first | rfl | (simp; done) | (simp [*]; done)), H', ⟨by first | omega | exact Nat.le_refl _⟩, ⟨by exact Kd.V_mono HO0_0.out (fun _ hk => ⟨hk.1.1, ⟨hk.1.2, hk.2⟩⟩)⟩, ⟨by exact BK101.out⟩, ⟨by exact BK102.out⟩, ⟨by repeat (first | (with_reducible first | exact HB.out | apply below_alloc | apply pw_below_drewN | apply below_drew1 | refine below_set ?_ GE101.out | refine below_set ?_ GE102.out) | exact HB.out)⟩⟩
  ·rw [if_neg c14] at H
   have c14b0 : decide (t104 < t105) = false := decide_eq_false c14
   clear c14
   (first | rw [c14b0] | (simp only [i64_w, i32_w]; rw [c14b0]) | skip)
   by_cases c15 : t105 > t103
   ·rw [if_pos c15] at H
    have c15b0 : decide (t103 < t105) = true := decide_eq_true c15
    clear c15
    have H' := Aside0.mk H
    clear H
    go_wp2
    go_meet
    case rel => exact ⟨_, (t103), (by first | rfl | (simp; done) | (simp [*]; done)), H', ⟨by first | omega | exact Nat.le_refl _⟩, ⟨by exact Kd.V_mono HO0_0.out (fun _ hk => ⟨hk.1.1, ⟨hk.1.2, hk.2⟩⟩)⟩, ⟨by exact BK101.out⟩, ⟨by exact BK102.out⟩, ⟨by repeat (first | (with_reducible first | exact HB.out | apply below_alloc | apply pw_below_drewN | apply below_drew1 | refine below_set ?_ GE101.out | refine below_set ?_ GE102.out) | exact HB.out)⟩⟩
   ·rw [if_neg c15] at H
    have c15b0 : decide (t103 < t105) = false := decide_eq_false c15
    clear c15
    have H' := Aside0.mk H
    clear H
    go_wp2
    go_meet
    case rel => exact ⟨_, (t105), (by first | rfl | (simp; done) | (simp [*]; done)), H', ⟨by first | omega | exact Nat.le_refl _⟩, ⟨by exact Kd.V_mono HO0_0.out (fun _ hk => ⟨hk.1.1, ⟨hk.1.2, hk.2⟩⟩)⟩, ⟨by exact BK101.out⟩, ⟨by exact BK102.out⟩, ⟨by repeat (first | (with_reducible first | exact HB.out | apply below_alloc | apply pw_below_drewN | apply below_drew1 | refine below_set ?_ GE101.out | refine below_set ?_ GE102.out) | exact HB.out)⟩⟩
 case rest =>
  clear HC6
  try clear c1
  try clear p2
  try clear c3
  try clear p6
  try clear c7
  try clear c9
  try clear c14
  try clear c14b0
  try clear c15
  try clear c15b0
  try clear hcz10_0
  try clear hcz10_1
  try clear hcz12_0
  try clear hcz12_1
  try clear hfz10_0
  try clear hfz10_1
  try clear hfz12_0
  try clear hfz12_1
  obtain ⟨kq, x10_5, rfl, HA, HJ5, HO_102000, BK101, BK102, HB⟩ := hcut
  cases kq with
  | zero => exact absurd HA.out (by simp [line_Cut.j0])
  | succ kj5 =>
   have H := HA.out
   clear HA
   simp only [line_Cut.j0] at H
   by_cases c16 : 0 ≤ t103
   ·rw [if_pos c16] at H
    have c16b0 := eq_true c16
    have c16b1 : decide (0 ≤ t103) = true := decide_eq_true c16
    clear c16
    by_cases c17 : t103 ≤ (l0_0.length : Int)
    ·rw [if_pos c17] at H
     have c17b0 := eq_true c17
     have c17b1 : decide (t103 ≤ (l0_0.length : Int)) = true := decide_eq_true c17
     clear c17
     obtain ⟨y107, hy107⟩ : ∃ y_ : List (S47), y_ = (l0_0.take (t103 : Int).toNat) := ⟨_, rfl⟩
     replace H : (if 0 ≤ t104 then (if t104 ≤ (l0_0.length : Int) then ((Concat_Sign.f (([y107, (l0_0.drop (t104 : Int).toNat)] : List (List (S47))))).bind fun t120 => (if t103 ≤ t104 then ((Clone_Sign.f ((l0_0.take (t104 : Int).toNat).drop (t103 : Int).toNat)).bind fun t128 => (some (t120, x10_5, t128))) else (none))) else (none)) else (none)) = some (r1, r2, r3) := by first | (rw [hy107]; with_reducible exact H) | (have H2_ := (Option.bind_some _ _).symm.trans H; rw [hy107]; with_reducible exact H2_) | (have H2_ := (Option.bind_some _ _).symm.trans H; with_reducible exact H2_) | with_reducible exact H | (rw [hy107]; exact H) | exact H
     have Ny107 := Aside0.mk hy107
     clear hy107
     by_cases c18 : 0 ≤ t104
     ·rw [if_pos c18] at H
      have c18b0 := eq_true c18
      have c18b1 : decide (0 ≤ t104) = true := decide_eq_true c18
      clear c18
      by_cases c19 : t104 ≤ (l0_0.length : Int)
      ·rw [if_pos c19] at H
       have c19b0 := eq_true c19
       have c19b1 : decide (t104 ≤ (l0_0.length : Int)) = true := decide_eq_true c19
       clear c19
       obtain ⟨y112, hy112⟩ : ∃ y_ : List (S47), y_ = (l0_0.drop (t104 : Int).toNat) := ⟨_, rfl⟩
       replace H : ((Concat_Sign.f (([y107, y112] : List (List (S47))))).bind fun t120 => (if t103 ≤ t104 then ((Clone_Sign.f ((l0_0.take (t104 : Int).toNat).drop (t103 : Int).toNat)).bind fun t128 => (some (t120, x10_5, t128))) else (none))) = some (r1, r2, r3) := by first | (rw [hy112]; with_reducible exact H) | (have H2_ := (Option.bind_some _ _).symm.trans H; rw [hy112]; with_reducible exact H2_) | (have H2_ := (Option.bind_some _ _).symm.trans H; with_reducible exact H2_) | with_reducible exact H | (rw [hy112]; exact H) | exact H
       have Ny112 := Aside0.mk hy112
       clear hy112
       obtain ⟨y117, hy117⟩ : ∃ y_ : List (List (S47)), y_ = (([y107, y112] : List (List (S47)))) := ⟨_, rfl⟩
       replace H : ((Concat_Sign.f y117).bind fun t120 => (if t103 ≤ t104 then ((Clone_Sign.f ((l0_0.take (t104 : Int).toNat).drop (t103 : Int).toNat)).bind fun t128 => (some (t120, x10_5, t128))) else (none))) = some (r1, r2, r3) := by first | (rw [hy117]; with_reducible exact H) | (have H2_ := (Option.bind_some _ _).symm.trans H; rw [hy117]; with_reducible exact H2_) | (have H2_ := (Option.bind_some _ _).symm.trans H; with_reducible exact H2_) | with_reducible exact H | (rw [hy117]; exact H) | exact H
       have Ny117 := Aside0.mk hy117
       clear hy117
       replace H := Option.bind_eq_some_iff.mp H
       obtain ⟨t120, A200, H⟩ := H
       try dsimp only at H
       have A20 := Aside0.mk A200
       clear A200
       have c21b0 := eq_true (of_decide_eq_true (by first | (with_reducible assumption) | assumption) : 0 ≤ t103)
       by_cases c22 : t103 ≤ t104
       ·rw [if_pos c22] at H
        have c22b0 := eq_true c22
        have c22b1 : decide (t103 ≤ t104) = true := decide_eq_true c22
        clear c22
        have c23b0 := eq_true (of_decide_eq_true (by first | (with_reducible assumption) | assumption) : t104 ≤ (l0_0.length : Int))
        obtain ⟨y123, hy123⟩ : ∃ y_ : List (S47), y_ = ((l0_0.take (t104 : Int).toNat).drop (t103 : Int).toNat) := ⟨_, rfl⟩
        replace H : ((Clone_Sign.f y123).bind fun t128 => (some (t120, x10_5, t128))) = some (r1, r2, r3) := by first | (rw [hy123]; with_reducible exact H) | (have H2_ := (Option.bind_some _ _).symm.trans H; rw [hy123]; with_reducible exact H2_) | (have H2_ := (Option.bind_some _ _).symm.trans H; with_reducible exact H2_) | with_reducible exact H | (rw [hy123]; exact H) | exact H
        have Ny123 := Aside0.mk hy123
        clear hy123
        replace H := Option.bind_eq_some_iff.mp H
        obtain ⟨t128, A240, H⟩ := H
        try dsimp only at H
        have A24 := Aside0.mk A240
        clear A240
        simp only [Option.some.injEq, Prod.mk.injEq] at H
        obtain ⟨rfl, rfl, rfl⟩ := H
        try go_wp2
        replace HO_102000 := a0 (Kd.V_drew HO_102000.out)
        replace BK101 := a0 (blk_drew BK101.out)
        replace BK102 := a0 (blk_drew BK102.out)
        replace HB := a0 (below_drew1 HB.out)
        have q26 : (t103 : Int) ≤ ((l0_0.length : Int) : Int) := of_decide_eq_true (by first | (with_reducible assumption) | assumption)
        obtain ⟨i026, hi026, _, hsz26, _⟩ := info_parts info47
        have hroom26 : l0_0.length ≤ c0_0 := (Kd.V_reads' HO_102000.out).2.1
        have hC26 : Kd.F k47 _ _ A0_0 l0_0.length l0_0 := (Kd.V_at (base := w.heap.size) HO_102000.out).2.2
        have hcut26 := cut_to (P := Try.prog) 22 47 .i64 Try.underlying22 hi026 A0_0 l0_0.length c0_0 t103 (of_decide_eq_true (by first | (with_reducible assumption) | assumption)) q26 hroom26
        have hr26 := Kd.F_take (m := (t103 : Int).toNat) hC26 (by omega)
        have hy26 : y107.length = (t103 : Int).toNat := (by rw [Ny107.out, List.length_take]; omega)
        rw [← Ny107.out] at hr26
        rw [← hy26] at hcut26
        have HO111 := Aside0.mk (show Kd.V k47 47 _ w.heap.size _ (.slice A0_0 y107.length c0_0) y107 from Kd.V_mk (by omega) hr26)
        have HC111 := Aside0.mk (show y107.length ≤ c0_0 from by omega)
        clear hr26 hC26 hroom26 hi026 hsz26
        have KY26 := Aside0.mk hy26
        clear hy26
        replace q26 := eq_true q26
        have q27 : (t104 : Int) ≤ ((l0_0.length : Int) : Int) := of_decide_eq_true (by first | (with_reducible assumption) | assumption)
        obtain ⟨i027, hi027, _, hsz27, _⟩ := info_parts info47
        have hroom27 : l0_0.length ≤ c0_0 := (Kd.V_reads' HO_102000.out).2.1
        have hC27 : Kd.F k47 _ _ A0_0 l0_0.length l0_0 := (Kd.V_at (base := w.heap.size) HO_102000.out).2.2
        have q027 : (0 : Int) ≤ (t104 : Int) := of_decide_eq_true (by first | (with_reducible assumption) | assumption)
        have hcut27 := cut_from (P := Try.prog) 22 47 .i64 Try.underlying22 hi027 2 hsz27 A0_0 l0_0.length c0_0 t104 q027 q27
        have hr27 := Kd.F_cut (m := (t104 : Int).toNat) (c := c0_0) hC27 (by omega) hroom27
        obtain ⟨A27, hA27⟩ : ∃ A1, A1 = (if c0_0 = (t104 : Int).toNat then A0_0 else (A0_0 : Option Addr).map (·.add ((t104 : Int).toNat * 2))) := ⟨_, rfl⟩
        obtain ⟨c27, hc27⟩ : ∃ c1, c1 = c0_0 - (t104 : Int).toNat := ⟨_, rfl⟩
        have hy27 : y112.length = l0_0.length - (t104 : Int).toNat := (by rw [Ny112.out, List.length_drop] <;> omega)
        rw [show (l0_0).drop (t104 : Int).toNat = y112 from Ny112.out.symm] at hr27
        replace hr27 : Kd.F k47 _ _ A27 y112.length y112 := (by rw [hA27]; exact hr27)
        rw [← hy27, ← hA27, ← hc27] at hcut27
        have HO116 := Aside0.mk (show Kd.V k47 47 _ w.heap.size _ (.slice A27 y112.length c27) y112 from Kd.V_mk (by rw [hy27, hc27]; exact Nat.sub_le_sub_right hroom27 _) hr27)
        have HC116 := Aside0.mk (show y112.length ≤ c27 from by rw [hy27, hc27]; exact Nat.sub_le_sub_right hroom27 _)
        clear hr27 hC27 hroom27 hi027 hsz27 hc27
        have KY27 := Aside0.mk hy27
        have KA27 := Aside0.mk hA27
        clear hy27 hA27
        replace q27 := eq_true q27
        have q28 : (t104 : Int) ≤ ((l0_0.length : Int) : Int) := of_decide_eq_true (by first | (with_reducible assumption) | assumption)
        obtain ⟨i028, hi028, _, hsz28, _⟩ := info_parts info47
        have hroom28 : l0_0.length ≤ c0_0 := (Kd.V_reads' HO_102000.out).2.1
        have hC28 : Kd.F k47 _ _ A0_0 l0_0.length l0_0 := (Kd.V_at (base := w.heap.size) HO_102000.out).2.2
        have ql28 : (t103 : Int) ≤ (t104 : Int) := of_decide_eq_true (by first | (with_reducible assumption) | assumption)
        have q028 : (0 : Int) ≤ (t103 : Int) := of_decide_eq_true (by first | (with_reducible assumption) | assumption)
        have hcut28 := cut_mid (P := Try.prog) 22 47 .i64 .i64 Try.underlying22 hi028 2 hsz28 A0_0 l0_0.length c0_0 t103 t104 q028 ql28 q28 hroom28
        have hr28 := Kd.F_mid (lo := (t103 : Int).toNat) (hi := (t104 : Int).toNat) (c := c0_0) hC28 (by omega) (by omega) hroom28
        obtain ⟨A28, hA28⟩ : ∃ A1, A1 = (if c0_0 = (t103 : Int).toNat then A0_0 else (A0_0 : Option Addr).map (·.add ((t103 : Int).toNat * 2))) := ⟨_, rfl⟩
        obtain ⟨c28, hc28⟩ : ∃ c1, c1 = c0_0 - (t103 : Int).toNat := ⟨_, rfl⟩
        have hy28 : y123.length = (t104 : Int).toNat - (t103 : Int).toNat := (by rw [Ny123.out, List.length_drop, List.length_take] <;> omega)
        rw [show ((l0_0).take (t104 : Int).toNat).drop (t103 : Int).toNat = y123 from Ny123.out.symm] at hr28
        replace hr28 : Kd.F k47 _ _ A28 y123.length y123 := (by rw [hA28]; exact hr28)
        rw [← hy28, ← hA28, ← hc28] at hcut28
        have HO127 := Aside0.mk (show Kd.V k47 47 _ w.heap.size _ (.slice A28 y123.length c28) y123 from Kd.V_mk (by rw [hy28, hc28]; exact Nat.sub_le_sub_right (Nat.le_trans (by omega) hroom28) _) hr28)
        have HC127 := Aside0.mk (show y123.length ≤ c28 from by rw [hy28, hc28]; exact Nat.sub_le_sub_right (Nat.le_trans (by omega) hroom28) _)
        clear hr28 hC28 hroom28 hi028 hsz28 hc28
        have KY28 := Aside0.mk hy28
        have KA28 := Aside0.mk hA28
        clear hy28 hA28
        replace q28 := eq_true q28
        refine start_ (n := 20) (S := fun w' => w'.cell? ⟨gb101, 0, none⟩ = some (.slice A0_0 l0_0.length c0_0) ∧ w'.cell? ⟨gb101, 1, none⟩ = some (.int .i64 a0_1)) (ds := []) (ba 20 0) (by kernel_rfl) rfl rfl ⟨(blk_cell BK101.out 0).trans rfl, (blk_cell BK101.out 1).trans rfl⟩ (fun hHeld => ?_); refine with_tabW line_Cut.tab7 line_Cut.bits7 (fun HT_ HW_ => ?_)
        generalize wc.drew = w25 at HO_102000 BK101 BK102 HB HO111 HO116 HO127 hHeld ⊢
        refine pS 0 43 (v := ?_) (a' := ?_) (ba 20 1) HT_ (by kernel_rfl) rfl rfl (fun _ _ _ h => h) (by rfl) ?_ ?_ ?_; rotate_left 2; (intro w'; go_simp; with_reducible rfl); (simp only [Act.put, List.setIfInBounds_toArray, List.set_cons_zero, List.set_cons_succ, i64_w, i32_w]; rfl)
        refine pS 2 45 (v := ?_) (a' := ?_) (ba 20 5) HT_ (by kernel_rfl) rfl rfl (fun _ _ _ h => h) (by rfl) ?_ ?_ ?_; rotate_left 2; (intro w'; go_simp; with_reducible rfl); (simp only [Act.put, List.setIfInBounds_toArray, List.set_cons_zero, List.set_cons_succ, i64_w, i32_w]; rfl)
        refine pS 4 47 (v := ?_) (a' := ?_) (ba 20 21) HT_ (by kernel_rfl) rfl rfl (fun _ _ _ h => h) (by rfl) ?_ ?_ ?_; rotate_left 2; (intro w'; go_simp; with_reducible rfl); (simp only [Act.put, List.setIfInBounds_toArray, List.set_cons_zero, List.set_cons_succ, i64_w, i32_w]; rfl)
        refine pS 6 49 (v := ?_) (a' := ?_) (ba 20 85) HT_ (by kernel_rfl) rfl rfl (fun _ _ _ h => h) (by rfl) ?_ ?_ ?_; rotate_left 2; (intro w'; go_simp; with_reducible rfl); (simp only [Act.put, List.setIfInBounds_toArray, List.set_cons_zero, List.set_cons_succ, i64_w, i32_w]; rfl)
        refine pS 10 53 (v := ?_) (a' := ?_) (ba 20 1109) HT_ (by kernel_rfl) rfl rfl (fun _ _ _ h => h) (by rfl) ?_ ?_ ?_; rotate_left 2; (intro w'; go_simp; with_reducible rfl); (simp only [Act.put, List.setIfInBounds_toArray, List.set_cons_zero, List.set_cons_succ, i64_w, i32_w]; rfl)
        refine pS 12 55 (v := ?_) (a' := ?_) (ba 20 5205) HT_ (by kernel_rfl) rfl rfl (fun _ _ _ h => h) (by rfl) ?_ ?_ ?_; rotate_left 2; (intro w'; go_simp; with_reducible rfl); (simp only [Act.put, List.setIfInBounds_toArray, List.set_cons_zero, List.set_cons_succ, i64_w, i32_w]; rfl)
        refine pS 14 57 (v := ?_) (a' := ?_) (ba 20 21589) HT_ (by kernel_rfl) rfl rfl (fun _ _ _ h => h) (by rfl) ?_ ?_ ?_; rotate_left 2; (intro w'; go_simp; with_reducible rfl); (simp only [Act.put, List.setIfInBounds_toArray, List.set_cons_zero, List.set_cons_succ, i64_w, i32_w]; rfl)
        refine pS 15 58 (v := ?_) (a' := ?_) (ba 20 54357) HT_ (by kernel_rfl) rfl rfl (fun _ _ _ h => h) (by rfl) ?_ ?_ ?_; rotate_left 2; (intro w'; go_simp; with_reducible rfl); (simp only [Act.put, List.setIfInBounds_toArray, List.set_cons_zero, List.set_cons_succ, i64_w, i32_w]; rfl)
        refine take_ (i := 1) (N := some 44) (v := ?_) (a' := ?_) (ba 20 54359) rfl rfl (take_ofW HT_.out HW_.out (by kernel_rfl)) (fun _ _ _ h => h) (Or.inl ⟨by rfl, ?_⟩) hHeld ?_ ?_; rotate_left; (rintro w' ⟨s0, s1⟩; go_simp; with_reducible rfl); rotate_left; (simp only [Act.put, List.setIfInBounds_toArray, List.set_cons_zero, List.set_cons_succ, i64_w, i32_w]; rfl)
        refine pS 3 46 (v := ?_) (a' := ?_) (ba 20 54367) HT_ (by kernel_rfl) rfl rfl (fun _ _ _ h => h) (by rfl) ?_ ?_ ?_; rotate_left 2; (intro w'; go_simp; with_reducible rfl); (simp only [Act.put, List.setIfInBounds_toArray, List.set_cons_zero, List.set_cons_succ, i64_w, i32_w]; rfl)
        refine take_ (i := 5) (N := some 48) (v := ?_) (a' := ?_) (ba 20 54399) rfl rfl (take_ofW HT_.out HW_.out (by kernel_rfl)) (fun _ _ _ h => h) (Or.inl ⟨by rfl, ?_⟩) hHeld ?_ ?_; rotate_left; (rintro w' ⟨s0, s1⟩; go_simp; with_reducible rfl); rotate_left; (simp only [Act.put, List.setIfInBounds_toArray, List.set_cons_zero, List.set_cons_succ, i64_w, i32_w]; rfl)
        refine pS 7 50 (v := ?_) (a' := ?_) (ba 20 54527) HT_ (by kernel_rfl) rfl rfl (fun _ _ _ h => h) (by rfl) ?_ ?_ ?_; rotate_left 2; (intro w'; go_simp; with_reducible rfl); (simp only [Act.put, List.setIfInBounds_toArray, List.set_cons_zero, List.set_cons_succ, i64_w, i32_w]; rfl)
        refine take_ (i := 13) (N := some 56) (v := ?_) (a' := ?_) (ba 20 62719) rfl rfl (take_ofW HT_.out HW_.out (by kernel_rfl)) (fun _ _ _ h => h) (Or.inl ⟨by rfl, ?_⟩) hHeld ?_ ?_; rotate_left; (rintro w' ⟨s0, s1⟩; go_simp; with_reducible rfl); rotate_left; (simp only [Act.put, List.setIfInBounds_toArray, List.set_cons_zero, List.set_cons_succ, i64_w, i32_w]; rfl)
        refine pS 16 59 (v := ?_) (a' := ?_) (ba 20 128255) HT_ (by kernel_rfl) rfl rfl (fun _ _ _ h => h) (by rfl) ?_ ?_ ?_; rotate_left 2; (intro w'; go_simp; with_reducible rfl); (simp only [Act.put, List.setIfInBounds_toArray, List.set_cons_zero, List.set_cons_succ, i64_w, i32_w]; rfl)
        refine one_ (i := 8) (N := some 51) (ba 20 128511) rfl rfl (one_of HT_.out (by kernel_rfl)) (by decide) (fun K hK => ?_)
        refine Kd.N_lit_step (Kd.slice 47 k47) _ 22 ?hg (N' := 51) ?hd (xs := ([y107, y112] : List (List (S47)))) (inner := [.slice A0_0 y107.length c0_0, .slice A27 y112.length c27]) (ok := (fun k_ => (P0_0_ k_ ∨ w.heap.size ≤ k_) ∧ k_ ≠ gb101 ∧ k_ ≠ gb102)) (okp := (fun k_ => (P0_0_ k_ ∨ w.heap.size ≤ k_) ∧ k_ ≠ gb101 ∧ k_ ≠ gb102)) ?hr ?hp (fun _ hk => hk) ((show ∀ k_, w25.heap.size ≤ k_ → (fun k_ => (P0_0_ k_ ∨ w.heap.size ≤ k_) ∧ k_ ≠ gb101 ∧ k_ ≠ gb102) k_ from fun k_ hk => ⟨(.inr (Nat.le_trans (below_size HB.out) hk)), Kd.freshB (g := gb101) (o := .cells #[.slice A0_0 l0_0.length c0_0, .int .i64 a0_1] 24 (0, 0)) BK101.out k_ hk, Kd.freshB (g := gb102) (o := .cells #[.slice none 0 0, .int .i64 0] 24 (0, 0)) BK102.out k_ hk⟩) _ (Nat.le_refl _)) (Below.refl _ _) (Nat.le_refl _) (by simp) ?_; (case hd => rfl); (case hg => rfl); (case hr => first | (go_simp; done) | (go_simp; rfl)); (case hp => exact (Reps.one (show Kd.FK (Kd.slice 47 k47) _ _ y107 [.slice A0_0 y107.length c0_0] from (Kd.FK_slice_mk (Kd.V_reads' (Kd.V_mono (ok' := (fun k_ => (P0_0_ k_ ∨ w.heap.size ≤ k_) ∧ k_ ≠ gb101 ∧ k_ ≠ gb102)) (HO111.out) (fun k_ hk => ⟨hk.1, ⟨hk.2.1, hk.2.2⟩⟩))).2.1 (Kd.V_F (Kd.V_mono (ok' := (fun k_ => (P0_0_ k_ ∨ w.heap.size ≤ k_) ∧ k_ ≠ gb101 ∧ k_ ≠ gb102)) (HO111.out) (fun k_ hk => ⟨hk.1, ⟨hk.2.1, hk.2.2⟩⟩))))) (Reps.one (show Kd.FK (Kd.slice 47 k47) _ _ y112 [.slice A27 y112.length c27] from (Kd.FK_slice_mk (Kd.V_reads' (Kd.V_mono (ok' := (fun k_ => (P0_0_ k_ ∨ w.heap.size ≤ k_) ∧ k_ ≠ gb101 ∧ k_ ≠ gb102)) (HO116.out) (fun k_ hk => ⟨hk.1, ⟨hk.2.1, hk.2.2⟩⟩))).2.1 (Kd.V_F (Kd.V_mono (ok' := (fun k_ => (P0_0_ k_ ∨ w.heap.size ≤ k_) ∧ k_ ≠ gb101 ∧ k_ ≠ gb102)) (HO116.out) (fun k_ hk => ⟨hk.1, ⟨hk.2.1, hk.2.2⟩⟩))))) (Reps.none _ _))))
        intro v118 w29 ho30 hb hg_ hnew_
        clear hg_ hnew_
        (first | rw [← Ny117.out] at ho30 | (simp only [Int.reduceToNat] at ho30; rw [← Ny117.out] at ho30))
        replace HO_102000 := a0 (Kd.V_elder' HO_102000.out (Kd.N_base ho30) hb)
        replace HO111 := a0 (Kd.V_elder' HO111.out (Kd.N_base ho30) hb)
        replace HO116 := a0 (Kd.V_elder' HO116.out (Kd.N_base ho30) hb)
        replace HO127 := a0 (Kd.V_elder' HO127.out (Kd.N_base ho30) hb)
        have HO119 := a0 (Kd.N_lower ho30 (below_size HB.out))
        replace BK101 := a0 (bB hb BK101.out)
        replace BK102 := a0 (bB hb BK102.out)
        replace HB := a0 (below_step HB.out hb)
        clear hb ho30
        obtain ⟨Ao31, co31, eo31⟩ := Kd.N_slice HO119.out
        (first | subst eo31 | (injection eo31 with f1_ f2_ f3_; have f4_ := f1_.symm; have f5_ := f3_.symm; clear f1_ f2_ f3_; subst f4_; subst f5_))
        refine hK.out _ _ ⟨(blk_cell BK101.out 0).trans rfl, (blk_cell BK101.out 1).trans rfl⟩ (fun hHeld => ?_)
        clear hK K
        refine norm_ (a' := ?_) ?_ ?_; rotate_left; (show Act.put _ (some 51) _ = _; simp only [Act.put, List.setIfInBounds_toArray, List.set_cons_zero, List.set_cons_succ, i64_w, i32_w]; rfl)
        refine one_ (i := 9) (N := some 52) (ba 20 129023) rfl rfl (one_of HT_.out (by kernel_rfl)) (by decide) (fun K hK => ?_)
        refine gR Try.func73 (by kernel_rfl) #[.slice Ao31 y117.length co31] (by rfl) rfl rfl rfl rfl ?_
        with_reducible refine (Concat_Sign.calls _ _ y117 t120 _ ?side1 ?side2 A20.out).mono ?_
        (case side1 => repeat (first | exact (Kd.N_reads' HO119.out).2.2 | (with_reducible refine Kd.C_alloc ?_ _) | (with_reducible refine Kd.C_drewN ?_ _) | (with_reducible refine Kd.C_drew ?_)))
        (case side2 => exact (Kd.N_reads' HO119.out).2.1)
        rintro e w32 ⟨v121, rfl, ho0, hb⟩
        refine ⟨_, rfl, ?_⟩
        replace HO_102000 := a0 (Kd.V_elder' HO_102000.out (Kd.R_base ho0) hb)
        replace HO111 := a0 (Kd.V_elder' HO111.out (Kd.R_base ho0) hb)
        replace HO116 := a0 (Kd.V_elder' HO116.out (Kd.R_base ho0) hb)
        replace HO127 := a0 (Kd.V_elder' HO127.out (Kd.R_base ho0) hb)
        replace HO119 := a0 (Kd.N_elder' HO119.out (Kd.R_base ho0) hb)
        have HO122 := a0 (Kd.R_lower (Kd.R_newM (M := fun k_ => (w.heap.size ≤ k_)) ho0 (below_size HB.out) (fun k_ h_ => h_)) (below_size HB.out))
        replace BK101 := a0 (bB hb BK101.out)
        replace BK102 := a0 (bB hb BK102.out)
        replace HB := a0 (below_step HB.out hb)
        (try clear hb)
        (try clear hb2)
        (try clear hk)
        (try clear hi)
        (try clear ho0)
        obtain ⟨Ao33, co33, eo33⟩ := Kd.R_slice HO122.out
        (first | subst eo33 | (injection eo33 with f1_ f2_ f3_; have f4_ := f1_.symm; have f5_ := f3_.symm; clear f1_ f2_ f3_; subst f4_; subst f5_))
        refine hK.out _ _ ⟨(blk_cell BK101.out 0).trans rfl, (blk_cell BK101.out 1).trans rfl⟩ (fun hHeld => ?_)
        clear hK K
        refine norm_ (a' := ?_) ?_ ?_; rotate_left; (show Act.put _ (some 52) _ = _; simp only [Act.put, List.setIfInBounds_toArray, List.set_cons_zero, List.set_cons_succ, i64_w, i32_w]; rfl)
        refine pS 11 54 (v := ?_) (a' := ?_) (ba 20 131071) HT_ (by kernel_rfl) rfl rfl (fun _ _ _ h => h) (by rfl) ?_ ?_ ?_; rotate_left 2; (intro w'; go_simp; with_reducible rfl); (simp only [Act.put, List.setIfInBounds_toArray, List.set_cons_zero, List.set_cons_succ, i64_w, i32_w]; rfl)
        refine one_ (i := 17) (N := some 60) (ba 20 262143) rfl rfl (one_of HT_.out (by kernel_rfl)) (by decide) (fun K hK => ?_)
        refine gR Try.func58 (by kernel_rfl) #[.slice A28 y123.length c28] (by rfl) rfl rfl rfl rfl ?_
        with_reducible refine (Clone_Sign.calls _ _ y123 t128 _ ?side1 ?side2 A24.out).mono ?_
        (case side1 => repeat (first | exact (Kd.V_reads' HO127.out).2.2 | (with_reducible refine Kd.C_alloc ?_ _) | (with_reducible refine Kd.C_drewN ?_ _) | (with_reducible refine Kd.C_drew ?_)))
        (case side2 => exact (Kd.V_reads' HO127.out).2.1)
        rintro e w34 ⟨v129, rfl, ho0, hb⟩
        refine ⟨_, rfl, ?_⟩
        replace HO_102000 := a0 (Kd.V_elder' HO_102000.out (Kd.R_base ho0) hb)
        replace HO111 := a0 (Kd.V_elder' HO111.out (Kd.R_base ho0) hb)
        replace HO116 := a0 (Kd.V_elder' HO116.out (Kd.R_base ho0) hb)
        replace HO127 := a0 (Kd.V_elder' HO127.out (Kd.R_base ho0) hb)
        replace HO119 := a0 (Kd.N_elder' HO119.out (Kd.R_base ho0) hb)
        have HO130 := a0 (Kd.R_lower (Kd.R_new' (Kd.R_newM (M := fun k_ => (w.heap.size ≤ k_)) ho0 (below_size HB.out) (fun k_ h_ => h_)) (Kd.R_lt HO122.out)) (below_size HB.out))
        replace HO122 := a0 (Kd.R_elder' HO122.out (Kd.R_base ho0) hb)
        replace BK101 := a0 (bB hb BK101.out)
        replace BK102 := a0 (bB hb BK102.out)
        replace HB := a0 (below_step HB.out hb)
        (try clear hb)
        (try clear hb2)
        (try clear hk)
        (try clear hi)
        (try clear ho0)
        refine hK.out _ _ ⟨(blk_cell BK101.out 0).trans rfl, (blk_cell BK101.out 1).trans rfl⟩ (fun hHeld => ?_)
        clear hK K
        refine norm_ (a' := ?_) ?_ ?_; rotate_left; (show Act.put _ (some 60) _ = _; simp only [Act.put, List.setIfInBounds_toArray, List.set_cons_zero, List.set_cons_succ, i64_w, i32_w]; rfl)
        refine one_ (i := 18) (N := none) (ba 20 524287) rfl rfl (one_of HT_.out (by kernel_rfl)) (by decide) (fun K hK => ?_)
        have hs35 : w34.cell? ⟨gb102, 0, none⟩ = some (.slice none 0 0) := (blk_cell BK102.out 0).trans rfl
        have hfs35 := blk_frozen BK102.out 0
        have hns35_0 := NB101_102.out
        have hms35_0 := NB102_101.out
        have hs36 : w34.cell? ⟨gb102, 1, none⟩ = some (.int .i64 0) := (blk_cell BK102.out 1).trans rfl
        have hfs36 := blk_frozen BK102.out 1
        have hns36_0 := NB101_102.out
        have hms36_0 := NB102_101.out
        refine skip_ (w1 := ?_) (by rfl) rfl ?_ ?_
        rotate_left
        ·go_simp
         rfl
        refine hK.out _ _ ⟨((cell_far (p := ⟨gb102, _, none⟩) NB101_102.out _).trans (((cell_far (p := ⟨gb102, _, none⟩) NB101_102.out _).trans (hHeld.1)))), ((cell_far (p := ⟨gb102, _, none⟩) NB101_102.out _).trans (((cell_far (p := ⟨gb102, _, none⟩) NB101_102.out _).trans (hHeld.2))))⟩ (fun hHeld => ?_)
        clear hK K
        refine pS 19 7 (v := ?_) (a' := ?_) (ba 20 1048575) HT_ (by kernel_rfl) rfl rfl (fun _ _ _ h => h) (by rfl) ?_ ?_ ?_; rotate_left 2; (intro w'; go_simp; with_reducible rfl); (simp only [Act.put, List.setIfInBounds_toArray, List.set_cons_zero, List.set_cons_succ, i64_w, i32_w]; rfl)
        refine done_ (done_of HT_.out (by kernel_rfl)) ?_
        try go_wp2
        refine bodyPost_ret (results_ct rfl _ _ gb102 24 #[.slice Ao33 t120.length co33, .int .i64 x10_5] (0, 0) _ rfl (by refine blk_put (cs := #[.slice Ao33 t120.length co33, .int .i64 0]) ?_ 1 _ rfl; refine blk_put (cs := #[.slice none 0 0, .int .i64 0]) ?_ 0 _ rfl; exact BK102.out) Try.underlying24 rfl (by kernel_rfl)) rfl ?_
        exact ⟨_, _, by first | rfl | (simp [errW_none, errW_some] <;> rfl) | (simp [*, errW_none, errW_some] <;> rfl), by exact Kd.R_mono (Kd.R_far (p := ⟨gb102, 1, none⟩) (Kd.R_far (p := ⟨gb102, 0, none⟩) (Kd.R_types HO122.out BK102.out (by decide)) (fun _ hk => hk.2) (.slice Ao33 t120.length co33)) (fun _ hk => hk.2) (.int .i64 x10_5)) (fun _ hk => ⟨hk.1.1.1, hk.1.2⟩), by exact Kd.R_mono (Kd.R_far (p := ⟨gb102, 1, none⟩) (Kd.R_far (p := ⟨gb102, 0, none⟩) (Kd.R_types HO130.out BK102.out (by decide)) (fun _ hk => hk.2) (.slice Ao33 t120.length co33)) (fun _ hk => hk.2) (.int .i64 x10_5)) (fun _ hk => ⟨hk.1.1.1, hk.1.2⟩), by repeat (first | (with_reducible first | exact HB.out | apply below_alloc | apply pw_below_drewN | apply below_drew1 | refine below_set ?_ GE101.out | refine below_set ?_ GE102.out) | exact HB.out)⟩
       ·rw [if_neg c22] at H
        exact absurd H (by simp)
      ·rw [if_neg c19] at H
       exact absurd H (by simp)
     ·rw [if_neg c18] at H
      exact absurd H (by simp)
    ·rw [if_neg c17] at H
     exact absurd H (by simp)
   ·rw [if_neg c16] at H
    exact absurd H (by simp)

end Go.Proofs.Ytemoocoedibbpab.X

namespace Go.Proofs.Ytemoocoedibbpab.X
open Go.RowKit Go.Proofs.YtemoocoedibbpabW.PrintWords Go.Proofs.YtemoocoedibbpabW.PrintLast Go.Proofs.YtemoocoedibbpabW.PrintMore
attribute [local go_sem] max2_int min2_int max_two min_two max_three min_three max_four min_four
set_option linter.unusedVariables false
set_option linter.unusedSimpArgs false

/-! ### line_Insert: function 38 -/
def line_Insert.f (l0_0 : List (S47)) (a0_1 : Int) (l1 : List (S47)) : Option ((List (S47)) × Int) := (line_places.f l0_0 a0_1 a0_1 (l0_0.length : Int)).bind fun bt103 => (if 0 ≤ bt103.1 then (if bt103.1 ≤ (l0_0.length : Int) then ((Concat_Sign.f (([(l0_0.take (bt103.1 : Int).toNat), l1, (l0_0.drop (bt103.1 : Int).toNat)] : List (List (S47))))).bind fun t118 => (some (t118, wrap64 (bt103.1 + (l1.length : Int))))) else (none)) else (none))
def line_Insert.T2 : Bool × List (List Nat × List Nat) := (true, [([], []), ([0], [0]), ([], []), ([1, 2], [1, 2]), ([], []), ([], []), ([5], [5]), ([], []), ([6, 7], [6, 7]), ([3, 4, 8], [3, 4, 8]), ([9], [9]), ([], []), ([], []), ([12], [12]), ([11, 13], [11, 13]), ([10, 14], [10, 14]), ([15, 10, 0, 1, 2, 3, 4, 5, 6, 7, 8, 9, 10, 11, 12, 13, 14, 15], [15])])
def line_Insert.B2 : List Nat := [0, 1, 0, 7, 0, 0, 32, 0, 224, 511, 1023, 0, 0, 4096, 14336, 32767, 65535]
theorem line_Insert.tab2 : rtab .any (opsOf Try.f38 2) = line_Insert.T2 := by kernel_rfl
theorem line_Insert.bits2 : waitsOk line_Insert.T2.2 line_Insert.B2 = true := by kernel_rfl
set_option maxHeartbeats 8000000 in
set_option maxRecDepth 100000 in
theorem line_Insert.calls (P0_0_ : Nat → Prop) (A0_0 : Option Addr) (c0_0 : Nat) (l0_0 : List (S47)) (a0_1 : Int) (P1_ : Nat → Prop) (A1 : Option Addr) (c1 : Nat) (l1 : List (S47)) (r1 : List (S47)) (r2 : Int) (w : World) (hs0_0 : Kd.V k47 47 w w.heap.size (fun k_ => P0_0_ k_) (.slice A0_0 l0_0.length c0_0) l0_0) (hs1 : Kd.V k47 47 w w.heap.size (fun k_ => P1_ k_) (.slice A1 l1.length c1) l1) (h : line_Insert.f l0_0 a0_1 l1 = some (r1, r2)) :
  Calls Try.prog 38 #[.agg #[.slice A0_0 l0_0.length c0_0, .int .i64 a0_1], .slice A1 l1.length c1] w fun e w' => ∃ v0_ : Value, e = .returned (.agg #[v0_, .int .i64 r2]) ∧ Kd.R k47 47 w' w.heap.size (fun k_ => (w.heap.size ≤ k_)) v0_ r1 ∧ Below w.heap.size w w' := by
 have hu24 := Try.underlying24
 have HO0_0 := Aside0.mk (show Kd.V k47 47 w w.heap.size (fun k_ => ((P0_0_ k_ ∨ P1_ k_) ∨ w.heap.size ≤ k_)) (.slice A0_0 l0_0.length c0_0) l0_0 from Kd.V_mono hs0_0 (fun k_ hk => .inl (.inl hk)))
 have HO1 := Aside0.mk (show Kd.V k47 47 w w.heap.size (fun k_ => ((P0_0_ k_ ∨ P1_ k_) ∨ w.heap.size ≤ k_)) (.slice A1 l1.length c1) l1 from Kd.V_mono hs1 (fun k_ hk => .inl (.inr hk)))
 have HB := Aside0.mk (Below.refl w.heap.size w)
 have H : ((line_places.f l0_0 a0_1 a0_1 (l0_0.length : Int)).bind fun bt103 => (if 0 ≤ bt103.1 then (if bt103.1 ≤ (l0_0.length : Int) then ((Concat_Sign.f (([(l0_0.take (bt103.1 : Int).toNat), l1, (l0_0.drop (bt103.1 : Int).toNat)] : List (List (S47))))).bind fun t118 => (some (t118, wrap64 (bt103.1 + (l1.length : Int))))) else (none)) else (none))) = some (r1, r2) := h
 clear h
 replace H := Option.bind_eq_some_iff.mp H
 obtain ⟨⟨t103, t104⟩, A30, H⟩ := H
 try dsimp only at H
 have A3 := Aside0.mk A30
 clear A30
 by_cases c4 : 0 ≤ t103
 ·rw [if_pos c4] at H
  have c4b0 := eq_true c4
  have c4b1 : decide (0 ≤ t103) = true := decide_eq_true c4
  clear c4
  by_cases c5 : t103 ≤ (l0_0.length : Int)
  ·rw [if_pos c5] at H
   have c5b0 := eq_true c5
   have c5b1 : decide (t103 ≤ (l0_0.length : Int)) = true := decide_eq_true c5
   clear c5
   obtain ⟨y105, hy105⟩ : ∃ y_ : List (S47), y_ = (l0_0.take (t103 : Int).toNat) := ⟨_, rfl⟩
   replace H : ((Concat_Sign.f (([y105, l1, (l0_0.drop (t103 : Int).toNat)] : List (List (S47))))).bind fun t118 => (some (t118, wrap64 (t103 + (l1.length : Int))))) = some (r1, r2) := by first | (rw [hy105]; with_reducible exact H) | (have H2_ := (Option.bind_some _ _).symm.trans H; rw [hy105]; with_reducible exact H2_) | (have H2_ := (Option.bind_some _ _).symm.trans H; with_reducible exact H2_) | with_reducible exact H | (rw [hy105]; exact H) | exact H
   have Ny105 := Aside0.mk hy105
   clear hy105
   have c6b0 := eq_true (of_decide_eq_true (by first | (with_reducible assumption) | assumption) : 0 ≤ t103)
   have c7b0 := eq_true (of_decide_eq_true (by first | (with_reducible assumption) | assumption) : t103 ≤ (l0_0.length : Int))
   obtain ⟨y110, hy110⟩ : ∃ y_ : List (S47), y_ = (l0_0.drop (t103 : Int).toNat) := ⟨_, rfl⟩
   replace H : ((Concat_Sign.f (([y105, l1, y110] : List (List (S47))))).bind fun t118 => (some (t118, wrap64 (t103 + (l1.length : Int))))) = some (r1, r2) := by first | (rw [hy110]; with_reducible exact H) | (have H2_ := (Option.bind_some _ _).symm.trans H; rw [hy110]; with_reducible exact H2_) | (have H2_ := (Option.bind_some _ _).symm.trans H; with_reducible exact H2_) | with_reducible exact H | (rw [hy110]; exact H) | exact H
   have Ny110 := Aside0.mk hy110
   clear hy110
   obtain ⟨y115, hy115⟩ : ∃ y_ : List (List (S47)), y_ = (([y105, l1, y110] : List (List (S47)))) := ⟨_, rfl⟩
   replace H : ((Concat_Sign.f y115).bind fun t118 => (some (t118, wrap64 (t103 + (l1.length : Int))))) = some (r1, r2) := by first | (rw [hy115]; with_reducible exact H) | (have H2_ := (Option.bind_some _ _).symm.trans H; rw [hy115]; with_reducible exact H2_) | (have H2_ := (Option.bind_some _ _).symm.trans H; with_reducible exact H2_) | with_reducible exact H | (rw [hy115]; exact H) | exact H
   have Ny115 := Aside0.mk hy115
   clear hy115
   replace H := Option.bind_eq_some_iff.mp H
   obtain ⟨t118, A80, H⟩ := H
   try dsimp only at H
   have A8 := Aside0.mk A80
   clear A80
   simp only [Option.some.injEq, Prod.mk.injEq] at H
   obtain ⟨rfl, rfl⟩ := H
   go_enter Try.func38, Try.ntmps38
   try go_wp2_with (first | ((with_reducible refine gate_dst (N := 2) rfl ?_); refine box_event ?hg (N := 2) ?hd (cs := #[.slice A0_0 l0_0.length c0_0, .int .i64 a0_1]) (t := 24) ?hr ?_; (case hd => rfl); (case hg => rfl); (case hr => first | (go_simp; done) | (go_simp; rfl)); intro gb101 hg w9 hbox hb; replace HO0_0 := a0 (Kd.V_below (Kd.V_elderB HO0_0.out gb101 (Nat.le_of_eq hg.symm)) hb); replace HO1 := a0 (Kd.V_below (Kd.V_elderB HO1.out gb101 (Nat.le_of_eq hg.symm)) hb); have BK101 := a0 (hbox); have GW101 := a0 ((by rw [hg]; exact (below_size HB.out) : w.heap.size ≤ gb101)); have GE101 := a0 ((by rw [hg]; exact (below_size HB.out) : w.heap.size ≤ gb101)); replace HB := a0 (below_step HB.out hb); clear hb hbox hg) | ((with_reducible refine gate_dst (N := 4) rfl ?_); refine box_event ?hg (N := 4) ?hd (cs := #[.slice none 0 0, .int .i64 0]) (t := 24) ?hr ?_; (case hd => rfl); (case hg => rfl); (case hr => first | (go_simp; done) | (go_simp; rfl)); intro gb102 hg w10 hbox hb; replace HO0_0 := a0 (Kd.V_below (Kd.V_elderB HO0_0.out gb102 (Nat.le_of_eq hg.symm)) hb); replace HO1 := a0 (Kd.V_below (Kd.V_elderB HO1.out gb102 (Nat.le_of_eq hg.symm)) hb); have BK102 := a0 (hbox); have GW102 := a0 ((by rw [hg]; exact (below_size HB.out) : w.heap.size ≤ gb102)); have GE102 := a0 ((by rw [hg]; exact (below_size HB.out) : w.heap.size ≤ gb102)); replace HB := a0 (below_step HB.out hb); have NB101_102 := a0 ((by rw [hg]; exact Nat.ne_of_lt (blk_lt BK101.out) : gb101 ≠ gb102)); have NB102_101 := a0 ((by rw [hg]; exact Nat.ne_of_gt (blk_lt BK101.out) : gb102 ≠ gb101)); replace BK101 := a0 (bB hb BK101.out); clear hb hbox hg; have hnb11 := NB101_102.out; have hnc11 := NB102_101.out; obtain ⟨hcz12_0, hcz12_1, hfz12_0, hfz12_1⟩ := c2 BK101.out) | ((with_reducible refine gate_callee (f := 77) rfl ?_); refine gL (some 14) Try.func77 (by kernel_rfl) #[.agg #[.slice A0_0 l0_0.length c0_0, .int .i64 a0_1], .int .i64 a0_1, .int .i64 (l0_0.length : Int)] rfl rfl rfl rfl rfl ?_; (with_reducible refine (line_places.calls _ _ l0_0 a0_1 a0_1 (l0_0.length : Int) t103 t104 _ ?side1 ?side2 A3.out).mono ?_); (case side1 => repeat (first | exact (Kd.V_reads' HO0_0.out).2.2 | (with_reducible refine Kd.C_alloc ?_ _) | (with_reducible refine Kd.C_drewN ?_ _) | (with_reducible refine Kd.C_drew ?_))); (case side2 => exact (Kd.V_reads' HO0_0.out).2.1); rintro e w13 ⟨rfl, hb⟩; refine ⟨_, rfl, ?_⟩; replace HO0_0 := a0 (Kd.V_below HO0_0.out hb); replace HO1 := a0 (Kd.V_below HO1.out hb); replace BK101 := a0 (bB hb BK101.out); replace BK102 := a0 (bB hb BK102.out); replace HB := a0 (below_step HB.out hb); (try clear hb); (try clear hb2); (try clear hk); (try clear hi)))
   replace HO0_0 := a0 (Kd.V_drew HO0_0.out)
   replace HO1 := a0 (Kd.V_drew HO1.out)
   replace BK101 := a0 (blk_drew BK101.out)
   replace BK102 := a0 (blk_drew BK102.out)
   replace HB := a0 (below_drew1 HB.out)
   have q15 : (t103 : Int) ≤ ((l0_0.length : Int) : Int) := of_decide_eq_true (by first | (with_reducible assumption) | assumption)
   obtain ⟨i015, hi015, _, hsz15, _⟩ := info_parts info47
   have hroom15 : l0_0.length ≤ c0_0 := (Kd.V_reads' HO0_0.out).2.1
   have hC15 : Kd.F k47 _ _ A0_0 l0_0.length l0_0 := (Kd.V_at (base := w.heap.size) HO0_0.out).2.2
   have hcut15 := cut_to (P := Try.prog) 22 47 .i64 Try.underlying22 hi015 A0_0 l0_0.length c0_0 t103 (of_decide_eq_true (by first | (with_reducible assumption) | assumption)) q15 hroom15
   have hr15 := Kd.F_take (m := (t103 : Int).toNat) hC15 (by omega)
   have hy15 : y105.length = (t103 : Int).toNat := (by rw [Ny105.out, List.length_take]; omega)
   rw [← Ny105.out] at hr15
   rw [← hy15] at hcut15
   have HO109 := Aside0.mk (show Kd.V k47 47 _ w.heap.size _ (.slice A0_0 y105.length c0_0) y105 from Kd.V_mk (by omega) hr15)
   have HC109 := Aside0.mk (show y105.length ≤ c0_0 from by omega)
   clear hr15 hC15 hroom15 hi015 hsz15
   have KY15 := Aside0.mk hy15
   clear hy15
   replace q15 := eq_true q15
   have q16 : (t103 : Int) ≤ ((l0_0.length : Int) : Int) := of_decide_eq_true (by first | (with_reducible assumption) | assumption)
   obtain ⟨i016, hi016, _, hsz16, _⟩ := info_parts info47
   have hroom16 : l0_0.length ≤ c0_0 := (Kd.V_reads' HO0_0.out).2.1
   have hC16 : Kd.F k47 _ _ A0_0 l0_0.length l0_0 := (Kd.V_at (base := w.heap.size) HO0_0.out).2.2
   have q016 : (0 : Int) ≤ (t103 : Int) := of_decide_eq_true (by first | (with_reducible assumption) | assumption)
   have hcut16 := cut_from (P := Try.prog) 22 47 .i64 Try.underlying22 hi016 2 hsz16 A0_0 l0_0.length c0_0 t103 q016 q16
   have hr16 := Kd.F_cut (m := (t103 : Int).toNat) (c := c0_0) hC16 (by omega) hroom16
   obtain ⟨A16, hA16⟩ : ∃ A1, A1 = (if c0_0 = (t103 : Int).toNat then A0_0 else (A0_0 : Option Addr).map (·.add ((t103 : Int).toNat * 2))) := ⟨_, rfl⟩
   obtain ⟨c16, hc16⟩ : ∃ c1, c1 = c0_0 - (t103 : Int).toNat := ⟨_, rfl⟩
   have hy16 : y110.length = l0_0.length - (t103 : Int).toNat := (by rw [Ny110.out, List.length_drop] <;> omega)
   rw [show (l0_0).drop (t103 : Int).toNat = y110 from Ny110.out.symm] at hr16
   replace hr16 : Kd.F k47 _ _ A16 y110.length y110 := (by rw [hA16]; exact hr16)
   rw [← hy16, ← hA16, ← hc16] at hcut16
   have HO114 := Aside0.mk (show Kd.V k47 47 _ w.heap.size _ (.slice A16 y110.length c16) y110 from Kd.V_mk (by rw [hy16, hc16]; exact Nat.sub_le_sub_right hroom16 _) hr16)
   have HC114 := Aside0.mk (show y110.length ≤ c16 from by rw [hy16, hc16]; exact Nat.sub_le_sub_right hroom16 _)
   clear hr16 hC16 hroom16 hi016 hsz16 hc16
   have KY16 := Aside0.mk hy16
   have KA16 := Aside0.mk hA16
   clear hy16 hA16
   replace q16 := eq_true q16
   refine start_ (n := 17) (S := fun w' => w'.cell? ⟨gb101, 0, none⟩ = some (.slice A0_0 l0_0.length c0_0) ∧ w'.cell? ⟨gb101, 1, none⟩ = some (.int .i64 a0_1)) (ds := []) (ba 17 0) (by kernel_rfl) rfl rfl ⟨(blk_cell BK101.out 0).trans rfl, (blk_cell BK101.out 1).trans rfl⟩ (fun hHeld => ?_); refine with_tabW line_Insert.tab2 line_Insert.bits2 (fun HT_ HW_ => ?_)
   generalize w13.drew = w14 at HO0_0 HO1 BK101 BK102 HB HO109 HO114 hHeld ⊢
   refine pS 0 17 (v := ?_) (a' := ?_) (ba 17 1) HT_ (by kernel_rfl) rfl rfl (fun _ _ _ h => h) (by rfl) ?_ ?_ ?_; rotate_left 2; (intro w'; go_simp; with_reducible rfl); (simp only [Act.put, List.setIfInBounds_toArray, List.set_cons_zero, List.set_cons_succ, i64_w, i32_w]; rfl)
   refine pS 2 19 (v := ?_) (a' := ?_) (ba 17 5) HT_ (by kernel_rfl) rfl rfl (fun _ _ _ h => h) (by rfl) ?_ ?_ ?_; rotate_left 2; (intro w'; go_simp; with_reducible rfl); (simp only [Act.put, List.setIfInBounds_toArray, List.set_cons_zero, List.set_cons_succ, i64_w, i32_w]; rfl)
   refine pS 4 21 (v := ?_) (a' := ?_) (ba 17 21) HT_ (by kernel_rfl) rfl rfl (fun _ _ _ h => h) (by rfl) ?_ ?_ ?_; rotate_left 2; (intro w'; go_simp; with_reducible rfl); (simp only [Act.put, List.setIfInBounds_toArray, List.set_cons_zero, List.set_cons_succ, i64_w, i32_w]; rfl)
   refine pS 5 22 (v := ?_) (a' := ?_) (ba 17 53) HT_ (by kernel_rfl) rfl rfl (fun _ _ _ h => h) (by rfl) ?_ ?_ ?_; rotate_left 2; (intro w'; go_simp; with_reducible rfl); (simp only [Act.put, List.setIfInBounds_toArray, List.set_cons_zero, List.set_cons_succ, i64_w, i32_w]; rfl)
   refine pS 7 24 (v := ?_) (a' := ?_) (ba 17 181) HT_ (by kernel_rfl) rfl rfl (fun _ _ _ h => h) (by rfl) ?_ ?_ ?_; rotate_left 2; (intro w'; go_simp; with_reducible rfl); (simp only [Act.put, List.setIfInBounds_toArray, List.set_cons_zero, List.set_cons_succ, i64_w, i32_w]; rfl)
   refine pS 11 28 (v := ?_) (a' := ?_) (ba 17 2229) HT_ (by kernel_rfl) rfl rfl (fun _ _ _ h => h) (by rfl) ?_ ?_ ?_; rotate_left 2; (intro w'; go_simp; with_reducible rfl); (simp only [Act.put, List.setIfInBounds_toArray, List.set_cons_zero, List.set_cons_succ, i64_w, i32_w]; rfl)
   refine pS 12 29 (v := ?_) (a' := ?_) (ba 17 6325) HT_ (by kernel_rfl) rfl rfl (fun _ _ _ h => h) (by rfl) ?_ ?_ ?_; rotate_left 2; (intro w'; go_simp; with_reducible rfl); (simp only [Act.put, List.setIfInBounds_toArray, List.set_cons_zero, List.set_cons_succ, i64_w, i32_w]; rfl)
   refine pS 13 30 (v := ?_) (a' := ?_) (ba 17 14517) HT_ (by kernel_rfl) rfl rfl (fun _ _ _ h => h) (by rfl) ?_ ?_ ?_; rotate_left 2; (intro w'; go_simp; with_reducible rfl); (simp only [Act.put, List.setIfInBounds_toArray, List.set_cons_zero, List.set_cons_succ, i64_w, i32_w]; rfl)
   refine pS 14 31 (v := ?_) (a' := ?_) (ba 17 30901) HT_ (by kernel_rfl) rfl rfl (fun _ _ _ h => h) (by rfl) ?_ ?_ ?_; rotate_left 2; (intro w'; go_simp; with_reducible rfl); (simp only [Act.put, List.setIfInBounds_toArray, List.set_cons_zero, List.set_cons_succ, i64_w, i32_w]; rfl)
   refine take_ (i := 1) (N := some 18) (v := ?_) (a' := ?_) (ba 17 30903) rfl rfl (take_ofW HT_.out HW_.out (by kernel_rfl)) (fun _ _ _ h => h) (Or.inl ⟨by rfl, ?_⟩) hHeld ?_ ?_; rotate_left; (rintro w' ⟨s0, s1⟩; go_simp; with_reducible rfl); rotate_left; (simp only [Act.put, List.setIfInBounds_toArray, List.set_cons_zero, List.set_cons_succ, i64_w, i32_w]; rfl)
   refine pS 3 20 (v := ?_) (a' := ?_) (ba 17 30911) HT_ (by kernel_rfl) rfl rfl (fun _ _ _ h => h) (by rfl) ?_ ?_ ?_; rotate_left 2; (intro w'; go_simp; with_reducible rfl); (simp only [Act.put, List.setIfInBounds_toArray, List.set_cons_zero, List.set_cons_succ, i64_w, i32_w]; rfl)
   refine take_ (i := 6) (N := some 23) (v := ?_) (a' := ?_) (ba 17 30975) rfl rfl (take_ofW HT_.out HW_.out (by kernel_rfl)) (fun _ _ _ h => h) (Or.inl ⟨by rfl, ?_⟩) hHeld ?_ ?_; rotate_left; (rintro w' ⟨s0, s1⟩; go_simp; with_reducible rfl); rotate_left; (simp only [Act.put, List.setIfInBounds_toArray, List.set_cons_zero, List.set_cons_succ, i64_w, i32_w]; rfl)
   refine pS 8 25 (v := ?_) (a' := ?_) (ba 17 31231) HT_ (by kernel_rfl) rfl rfl (fun _ _ _ h => h) (by rfl) ?_ ?_ ?_; rotate_left 2; (intro w'; go_simp; with_reducible rfl); (simp only [Act.put, List.setIfInBounds_toArray, List.set_cons_zero, List.set_cons_succ, i64_w, i32_w]; rfl)
   refine one_ (i := 9) (N := some 26) (ba 17 31743) rfl rfl (one_of HT_.out (by kernel_rfl)) (by decide) (fun K hK => ?_)
   refine Kd.N_lit_step (Kd.slice 47 k47) _ 22 ?hg (N' := 26) ?hd (xs := ([y105, l1, y110] : List (List (S47)))) (inner := [.slice A0_0 y105.length c0_0, .slice A1 l1.length c1, .slice A16 y110.length c16]) (ok := (fun k_ => ((P0_0_ k_ ∨ P1_ k_) ∨ w.heap.size ≤ k_) ∧ k_ ≠ gb101 ∧ k_ ≠ gb102)) (okp := (fun k_ => ((P0_0_ k_ ∨ P1_ k_) ∨ w.heap.size ≤ k_) ∧ k_ ≠ gb101 ∧ k_ ≠ gb102)) ?hr ?hp (fun _ hk => hk) ((show ∀ k_, w14.heap.size ≤ k_ → (fun k_ => ((P0_0_ k_ ∨ P1_ k_) ∨ w.heap.size ≤ k_) ∧ k_ ≠ gb101 ∧ k_ ≠ gb102) k_ from fun k_ hk => ⟨(.inr (Nat.le_trans (below_size HB.out) hk)), Kd.freshB (g := gb101) (o := .cells #[.slice A0_0 l0_0.length c0_0, .int .i64 a0_1] 24 (0, 0)) BK101.out k_ hk, Kd.freshB (g := gb102) (o := .cells #[.slice none 0 0, .int .i64 0] 24 (0, 0)) BK102.out k_ hk⟩) _ (Nat.le_refl _)) (Below.refl _ _) (Nat.le_refl _) (by simp) ?_; (case hd => rfl); (case hg => rfl); (case hr => first | (go_simp; done) | (go_simp; rfl)); (case hp => exact (Reps.one (show Kd.FK (Kd.slice 47 k47) _ _ y105 [.slice A0_0 y105.length c0_0] from (Kd.FK_slice_mk (Kd.V_reads' (Kd.V_mono (ok' := (fun k_ => ((P0_0_ k_ ∨ P1_ k_) ∨ w.heap.size ≤ k_) ∧ k_ ≠ gb101 ∧ k_ ≠ gb102)) (HO109.out) (fun k_ hk => ⟨hk.1.1, ⟨hk.1.2, hk.2⟩⟩))).2.1 (Kd.V_F (Kd.V_mono (ok' := (fun k_ => ((P0_0_ k_ ∨ P1_ k_) ∨ w.heap.size ≤ k_) ∧ k_ ≠ gb101 ∧ k_ ≠ gb102)) (HO109.out) (fun k_ hk => ⟨hk.1.1, ⟨hk.1.2, hk.2⟩⟩))))) (Reps.one (show Kd.FK (Kd.slice 47 k47) _ _ l1 [.slice A1 l1.length c1] from (Kd.FK_slice_mk (Kd.V_reads' (Kd.V_mono (ok' := (fun k_ => ((P0_0_ k_ ∨ P1_ k_) ∨ w.heap.size ≤ k_) ∧ k_ ≠ gb101 ∧ k_ ≠ gb102)) (HO1.out) (fun k_ hk => ⟨hk.1.1, ⟨hk.1.2, hk.2⟩⟩))).2.1 (Kd.V_F (Kd.V_mono (ok' := (fun k_ => ((P0_0_ k_ ∨ P1_ k_) ∨ w.heap.size ≤ k_) ∧ k_ ≠ gb101 ∧ k_ ≠ gb102)) (HO1.out) (fun k_ hk => ⟨hk.1.1, ⟨hk.1.2, hk.2⟩⟩))))) (Reps.one (show Kd.FK (Kd.slice 47 k47) _ _ y110 [.slice A16 y110.length c16] from (Kd.FK_slice_mk (Kd.V_reads' (Kd.V_mono (ok' := (fun k_ => ((P0_0_ k_ ∨ P1_ k_) ∨ w.heap.size ≤ k_) ∧ k_ ≠ gb101 ∧ k_ ≠ gb102)) (HO114.out) (fun k_ hk => ⟨hk.1.1, ⟨hk.1.2, hk.2⟩⟩))).2.1 (Kd.V_F (Kd.V_mono (ok' := (fun k_ => ((P0_0_ k_ ∨ P1_ k_) ∨ w.heap.size ≤ k_) ∧ k_ ≠ gb101 ∧ k_ ≠ gb102)) (HO114.out) (fun k_ hk => ⟨hk.1.1, ⟨hk.1.2, hk.2⟩⟩))))) (Reps.none _ _)))))
   intro v116 w17 ho18 hb hg_ hnew_
   clear hg_ hnew_
   (first | rw [← Ny115.out] at ho18 | (simp only [Int.reduceToNat] at ho18; rw [← Ny115.out] at ho18))
   replace HO0_0 := a0 (Kd.V_elder' HO0_0.out (Kd.N_base ho18) hb)
   replace HO1 := a0 (Kd.V_elder' HO1.out (Kd.N_base ho18) hb)
   replace HO109 := a0 (Kd.V_elder' HO109.out (Kd.N_base ho18) hb)
   replace HO114 := a0 (Kd.V_elder' HO114.out (Kd.N_base ho18) hb)
   have HO117 := a0 (Kd.N_lower ho18 (below_size HB.out))
   replace BK101 := a0 (bB hb BK101.out)
   replace BK102 := a0 (bB hb BK102.out)
   replace HB := a0 (below_step HB.out hb)
   clear hb ho18
   obtain ⟨Ao19, co19, eo19⟩ := Kd.N_slice HO117.out
   (first | subst eo19 | (injection eo19 with f1_ f2_ f3_; have f4_ := f1_.symm; have f5_ := f3_.symm; clear f1_ f2_ f3_; subst f4_; subst f5_))
   refine hK.out _ _ ⟨(blk_cell BK101.out 0).trans rfl, (blk_cell BK101.out 1).trans rfl⟩ (fun hHeld => ?_)
   clear hK K
   refine norm_ (a' := ?_) ?_ ?_; rotate_left; (show Act.put _ (some 26) _ = _; simp only [Act.put, List.setIfInBounds_toArray, List.set_cons_zero, List.set_cons_succ, i64_w, i32_w]; rfl)
   refine one_ (i := 10) (N := some 27) (ba 17 32767) rfl rfl (one_of HT_.out (by kernel_rfl)) (by decide) (fun K hK => ?_)
   refine gR Try.func73 (by kernel_rfl) #[.slice Ao19 y115.length co19] (by rfl) rfl rfl rfl rfl ?_
   with_reducible refine (Concat_Sign.calls _ _ y115 t118 _ ?side1 ?side2 A8.out).mono ?_
   (case side1 => repeat (first | exact (Kd.N_reads' HO117.out).2.2 | (with_reducible refine Kd.C_alloc ?_ _) | (with_reducible refine Kd.C_drewN ?_ _) | (with_reducible refine Kd.C_drew ?_)))
   (case side2 => exact (Kd.N_reads' HO117.out).2.1)
   rintro e w20 ⟨v119, rfl, ho0, hb⟩
   refine ⟨_, rfl, ?_⟩
   replace HO0_0 := a0 (Kd.V_elder' HO0_0.out (Kd.R_base ho0) hb)
   replace HO1 := a0 (Kd.V_elder' HO1.out (Kd.R_base ho0) hb)
   replace HO109 := a0 (Kd.V_elder' HO109.out (Kd.R_base ho0) hb)
   replace HO114 := a0 (Kd.V_elder' HO114.out (Kd.R_base ho0) hb)
   replace HO117 := a0 (Kd.N_elder' HO117.out (Kd.R_base ho0) hb)
   have HO120 := a0 (Kd.R_lower (Kd.R_newM (M := fun k_ => (w.heap.size ≤ k_)) ho0 (below_size HB.out) (fun k_ h_ => h_)) (below_size HB.out))
   replace BK101 := a0 (bB hb BK101.out)
   replace BK102 := a0 (bB hb BK102.out)
   replace HB := a0 (below_step HB.out hb)
   (try clear hb)
   (try clear hb2)
   (try clear hk)
   (try clear hi)
   (try clear ho0)
   obtain ⟨Ao21, co21, eo21⟩ := Kd.R_slice HO120.out
   (first | subst eo21 | (injection eo21 with f1_ f2_ f3_; have f4_ := f1_.symm; have f5_ := f3_.symm; clear f1_ f2_ f3_; subst f4_; subst f5_))
   refine hK.out _ _ ⟨(blk_cell BK101.out 0).trans rfl, (blk_cell BK101.out 1).trans rfl⟩ (fun hHeld => ?_)
   clear hK K
   refine norm_ (a' := ?_) ?_ ?_; rotate_left; (show Act.put _ (some 27) _ = _; simp only [Act.put, List.setIfInBounds_toArray, List.set_cons_zero, List.set_cons_succ, i64_w, i32_w]; rfl)
   refine pS 15 32 (v := ?_) (a' := ?_) (ba 17 65535) HT_ (by kernel_rfl) rfl rfl (fun _ _ _ h => h) (by rfl) ?_ ?_ ?_; rotate_left 2; (intro w'; go_simp; with_reducible rfl); (simp only [Act.put, List.setIfInBounds_toArray, List.set_cons_zero, List.set_cons_succ, i64_w, i32_w]; rfl)
   refine one_ (i := 16) (N := none) (ba 17 131071) rfl rfl (one_of HT_.out (by kernel_rfl)) (by decide) (fun K hK => ?_)
   have hs22 : w20.cell? ⟨gb102, 0, none⟩ = some (.slice none 0 0) := (blk_cell BK102.out 0).trans rfl
   have hfs22 := blk_frozen BK102.out 0
   have hns22_0 := NB101_102.out
   have hms22_0 := NB102_101.out
   have hs23 : w20.cell? ⟨gb102, 1, none⟩ = some (.int .i64 0) := (blk_cell BK102.out 1).trans rfl
   have hfs23 := blk_frozen BK102.out 1
   have hns23_0 := NB101_102.out
   have hms23_0 := NB102_101.out
   refine skip_ (w1 := ?_) (by rfl) rfl ?_ ?_
   rotate_left
   ·go_simp
    rfl
   refine hK.out _ _ ⟨((cell_far (p := ⟨gb102, _, none⟩) NB101_102.out _).trans (((cell_far (p := ⟨gb102, _, none⟩) NB101_102.out _).trans (hHeld.1)))), ((cell_far (p := ⟨gb102, _, none⟩) NB101_102.out _).trans (((cell_far (p := ⟨gb102, _, none⟩) NB101_102.out _).trans (hHeld.2))))⟩ (fun hHeld => ?_)
   clear hK K
   refine done_ (done_of HT_.out (by kernel_rfl)) ?_
   try go_wp2
   refine bodyPost_ret (results_cell_row rfl _ _ gb102 24 #[.slice Ao21 t118.length co21, .int .i64 (wrap64 (t103 + (l1.length : Int)))] (0, 0) _ rfl (by refine blk_put (cs := #[.slice Ao21 t118.length co21, .int .i64 0]) ?_ 1 _ rfl; refine blk_put (cs := #[.slice none 0 0, .int .i64 0]) ?_ 0 _ rfl; exact BK102.out) Try.underlying24 rfl (by kernel_rfl)) rfl ?_
   exact ⟨_, by first | rfl | (simp [errW_none, errW_some] <;> rfl) | (simp [*, errW_none, errW_some] <;> rfl), by exact Kd.R_mono (Kd.R_far (p := ⟨gb102, 1, none⟩) (Kd.R_far (p := ⟨gb102, 0, none⟩) (Kd.R_types HO120.out BK102.out (by decide)) (fun _ hk => hk.2) (.slice Ao21 t118.length co21)) (fun _ hk => hk.2) (.int .i64 (wrap64 (t103 + (l1.length : Int))))) (fun _ hk => hk.1.1), by repeat (first | (with_reducible first | exact HB.out | apply below_alloc | apply pw_below_drewN | apply below_drew1 | refine below_set ?_ GE101.out | refine below_set ?_ GE102.out) | exact HB.out)⟩
  ·rw [if_neg c5] at H
   exact absurd H (by simp)
 ·rw [if_neg c4] at H
  exact absurd H (by simp)

end Go.Proofs.Ytemoocoedibbpab.X

namespace Go.Proofs.Ytemoocoedibbpab.X
open Go.RowKit Go.Proofs.YtemoocoedibbpabW.PrintWords Go.Proofs.YtemoocoedibbpabW.PrintLast Go.Proofs.YtemoocoedibbpabW.PrintMore
attribute [local go_sem] max2_int min2_int max_two min_two max_three min_three max_four min_four
set_option linter.unusedVariables false
set_option linter.unusedSimpArgs false

/-! ### line_cased_1: function 121 -/
/-- Does a letter stand at a place? -/
def isL (l : List S47) (i : Int) : Bool := if 0 ≤ i then kindT (rd_T47 l i).f0 == 1 else false
set_option maxHeartbeats 4000000 in
set_option maxRecDepth 100000 in
theorem line_cased_1.calls (b1 : Nat) (A : Option Addr) (c : Nat) (l : List S47) (i : Int) (W : World) (hi : i < l.length) (hr : Kd.C k47 W A l.length l) (h1 : W.cell? ⟨b1, 0, none⟩ = some (.slice A l.length c)) :
    Calls Try.prog 121 #[.int .i64 i, .pointer (some ⟨b1, 0, none⟩)] W fun e w' => e = .returned (.bool (isL l i)) ∧ Below W.heap.size W w' := by
  unfold isL
  by_cases c1 : 0 ≤ i
  · rw [if_pos c1]
    have e1 : decide (0 ≤ i) = true := decide_eq_true c1
    obtain ⟨ad, e, x0, x1⟩ := at_T47 hr i c1 hi
    cases e
    generalize (rd_T47 l i).f0 = v at x0
    have HK := Aside0.mk (kindT_f v)
    generalize kindT v = q at HK
    have p1 := eq_true c1
    have p2 := eq_true hi
    clear c1 x1 hr hi
    go_enter Try.func121, Try.ntmps121
    go_wp2_with fail
    refine (word_Kind.calls 9 v q _ HK.out).mono ?_
    rintro e w1 ⟨rfl, hb⟩
    go_wp2
    go_ret
    exact ⟨rfl, hb⟩
  · rw [if_neg c1]
    have e1 : decide (0 ≤ i) = false := decide_eq_false c1
    clear c1 hr hi
    go_enter Try.func121, Try.ntmps121
    go_wp2
    go_ret
    exact ⟨rfl, Below.refl _ _⟩

end Go.Proofs.Ytemoocoedibbpab.X

namespace Go.Proofs.Ytemoocoedibbpab.X
open Go.RowKit Go.Proofs.YtemoocoedibbpabW.PrintWords Go.Proofs.YtemoocoedibbpabW.PrintLast Go.Proofs.YtemoocoedibbpabW.PrintMore
attribute [local go_sem] max2_int min2_int max_two min_two max_three min_three max_four min_four
set_option linter.unusedVariables false
set_option linter.unusedSimpArgs false

/-! ### line_great: function 123 -/
def line_great.f (a0 : Int) : Option (Int) := if a0 ≥ 97 then (if a0 ≤ 122 then (some (wrap64 (a0 - 32))) else (some a0)) else (some a0)
set_option maxHeartbeats 8000000 in
set_option maxRecDepth 100000 in
theorem line_great.calls (a0 : Int) (r : Int) (w : World) (h : line_great.f a0 = some r) :
    Calls Try.prog 123 #[.int .i64 a0] w fun e w' => e = .returned (.int .i64 r) ∧ Drawn0 w w' := by
  have H : (if a0 ≥ 97 then (if a0 ≤ 122 then (some (wrap64 (a0 - 32))) else (some a0)) else (some a0)) = some r := h
  clear h
  by_cases c2 : a0 ≥ 97
  · rw [if_pos c2] at H
    have c2b0 : decide (97 ≤ a0) = true := decide_eq_true c2
    clear c2
    by_cases c3 : a0 ≤ 122
    · rw [if_pos c3] at H
      have c3b0 : decide (a0 ≤ 122) = true := decide_eq_true c3
      clear c3
      obtain rfl := Option.some.inj H
      go_enter Try.func123, Try.ntmps123
      go_wp2
      go_ret
      exact ⟨by first | rfl | (simp; done) | (simp [*]; done), by repeat (first | exact Drawn0.refl _ | apply Drawn0.step)⟩
    · rw [if_neg c3] at H
      have c3b0 : decide (a0 ≤ 122) = false := decide_eq_false c3
      clear c3
      obtain rfl := Option.some.inj H
      go_enter Try.func123, Try.ntmps123
      go_wp2
      go_ret
      exact ⟨by first | rfl | (simp; done) | (simp [*]; done), by repeat (first | exact Drawn0.refl _ | apply Drawn0.step)⟩
  · rw [if_neg c2] at H
    have c2b0 : decide (97 ≤ a0) = false := decide_eq_false c2
    clear c2
    obtain rfl := Option.some.inj H
    go_enter Try.func123, Try.ntmps123
    go_wp2
    go_ret
    exact ⟨by first | rfl | (simp; done) | (simp [*]; done), by repeat (first | exact Drawn0.refl _ | apply Drawn0.step)⟩

end Go.Proofs.Ytemoocoedibbpab.X

namespace Go.Proofs.Ytemoocoedibbpab.X
open Go.RowKit Go.Proofs.YtemoocoedibbpabW.PrintWords Go.Proofs.YtemoocoedibbpabW.PrintLast Go.Proofs.YtemoocoedibbpabW.PrintMore
attribute [local go_sem] max2_int min2_int max_two min_two max_three min_three max_four min_four
set_option linter.unusedVariables false
set_option linter.unusedSimpArgs false

/-! ### line_small: function 124 -/
def line_small.f (a0 : Int) : Option (Int) := if a0 ≥ 65 then (if a0 ≤ 90 then (some (wrap64 (a0 + 32))) else (some a0)) else (some a0)
set_option maxHeartbeats 8000000 in
set_option maxRecDepth 100000 in
theorem line_small.calls (a0 : Int) (r : Int) (w : World) (h : line_small.f a0 = some r) :
    Calls Try.prog 124 #[.int .i64 a0] w fun e w' => e = .returned (.int .i64 r) ∧ Drawn0 w w' := by
  have H : (if a0 ≥ 65 then (if a0 ≤ 90 then (some (wrap64 (a0 + 32))) else (some a0)) else (some a0)) = some r := h
  clear h
  by_cases c2 : a0 ≥ 65
  · rw [if_pos c2] at H
    have c2b0 : decide (65 ≤ a0) = true := decide_eq_true c2
    clear c2
    by_cases c3 : a0 ≤ 90
    · rw [if_pos c3] at H
      have c3b0 : decide (a0 ≤ 90) = true := decide_eq_true c3
      clear c3
      obtain rfl := Option.some.inj H
      go_enter Try.func124, Try.ntmps124
      go_wp2
      go_ret
      exact ⟨by first | rfl | (simp; done) | (simp [*]; done), by repeat (first | exact Drawn0.refl _ | apply Drawn0.step)⟩
    · rw [if_neg c3] at H
      have c3b0 : decide (a0 ≤ 90) = false := decide_eq_false c3
      clear c3
      obtain rfl := Option.some.inj H
      go_enter Try.func124, Try.ntmps124
      go_wp2
      go_ret
      exact ⟨by first | rfl | (simp; done) | (simp [*]; done), by repeat (first | exact Drawn0.refl _ | apply Drawn0.step)⟩
  · rw [if_neg c2] at H
    have c2b0 : decide (65 ≤ a0) = false := decide_eq_false c2
    clear c2
    obtain rfl := Option.some.inj H
    go_enter Try.func124, Try.ntmps124
    go_wp2
    go_ret
    exact ⟨by first | rfl | (simp; done) | (simp [*]; done), by repeat (first | exact Drawn0.refl _ | apply Drawn0.step)⟩

end Go.Proofs.Ytemoocoedibbpab.X

namespace Go.Proofs.Ytemoocoedibbpab.X
open Go.RowKit Go.Proofs.YtemoocoedibbpabW.PrintWords Go.Proofs.YtemoocoedibbpabW.PrintLast Go.Proofs.YtemoocoedibbpabW.PrintMore
attribute [local go_sem] max2_int min2_int max_two min_two max_three min_three max_four min_four
set_option linter.unusedVariables false
set_option linter.unusedSimpArgs false

/-! ### line_cased_2: function 122 -/
theorem line_great_some (v : Int) : ∃ r, line_great.f v = some r := by
 unfold line_great.f
 repeat' (first | exact ⟨_, rfl⟩ | split)
theorem line_small_some (v : Int) : ∃ r, line_small.f v = some r := by
 unfold line_small.f
 repeat' (first | exact ⟨_, rfl⟩ | split)
def greatT (v : Int) : Int := (line_great.f v).getD 0
def smallT (v : Int) : Int := (line_small.f v).getD 0
theorem greatT_f (v : Int) : line_great.f v = some (greatT v) := by
 obtain ⟨r, h⟩ := line_great_some v
 unfold greatT
 rw [h]
 rfl
theorem smallT_f (v : Int) : line_small.f v = some (smallT v) := by
 obtain ⟨r, h⟩ := line_small_some v
 unfold smallT
 rw [h]
 rfl
/-- What the value of the sign at a place becomes. -/
def caseV (l : List S47) (how i : Int) : Int :=
 if how = 0 then greatT (rd_T47 l i).f0 else if how = 2 then (if isL l i = true then (if isL l (i - 1) = true then smallT (rd_T47 l i).f0 else greatT (rd_T47 l i).f0) else smallT (rd_T47 l i).f0)
 else if how = 1 then smallT (rd_T47 l i).f0 else (rd_T47 l i).f0
set_option maxHeartbeats 8000000 in
set_option maxRecDepth 100000 in
theorem line_cased_2.calls (b1 b2 b3 : Nat) (A : Option Addr) (c : Nat) (l : List S47) (how i : Int) (W : World) (h0 : 0 ≤ i) (hi : i < l.length) (hn : l.length ≤ 1000000000000000) (hr : Kd.C k47 W A l.length l) (g1 : W.cell? ⟨b1, 0, none⟩ = some (.slice A l.length c)) (g2 : W.cell? ⟨b2, 0, none⟩ = some (.int .i64 how)) (g3 : W.cell? ⟨b3, 0, none⟩ = some (.func (.func 121) #[] #[.pointer (some ⟨b1, 0, none⟩)])) :
  Calls Try.prog 122 #[.int .i64 i, .pointer (some ⟨b1, 0, none⟩), .pointer (some ⟨b2, 0, none⟩), .pointer (some ⟨b3, 0, none⟩)] W fun e w' => e = .returned (.int .i64 (caseV l how i)) ∧ Below W.heap.size W w' := by
 have G1 := Aside0.mk g1
 have G2 := Aside0.mk g2
 have G3 := Aside0.mk g3
 have eg := enters_fn Try.func121 (by kernel_rfl) rfl
 have hw : wrap64 (i - 1) = i - 1 := by unfold wrap64; omega
 have C1 := Aside0.mk (line_cased_1.calls b1 A c l i W hi hr g1)
 have C2 := Aside0.mk (show ∀ w1, Below W.heap.size W w1 → Calls Try.prog 121 #[.int .i64 (i - 1), .pointer (some ⟨b1, 0, none⟩)] w1 fun e w' => e = .returned (.bool (isL l (i - 1))) ∧ Below w1.heap.size w1 w' from fun w1 hb =>
  line_cased_1.calls b1 A c l (i - 1) w1 (by omega) (Kd.C_below hr hb) ((hb.cell (p := ⟨b1, 0, none⟩) (World.block_lt_of_cell? W _ g1)).trans g1))
 have L1 := Aside0.mk (World.block_lt_of_cell? W _ g1)
 have L2 := Aside0.mk (World.block_lt_of_cell? W _ g2)
 have L3 := Aside0.mk (World.block_lt_of_cell? W _ g3)
 obtain ⟨ad, e, x0, x1⟩ := at_T47 hr i h0 hi
 cases e
 unfold caseV
 generalize (rd_T47 l i).f0 = v at x0 ⊢
 generalize isL l i = p1 at C1 ⊢
 generalize isL l (i - 1) = p2 at C2 ⊢
 have HG := Aside0.mk (greatT_f v)
 have HS := Aside0.mk (smallT_f v)
 generalize greatT v = vg at HG ⊢
 generalize smallT v = vs at HS ⊢
 have q1 := eq_true h0
 have q2 := eq_true hi
 clear x1 hr h0 hi hn
 by_cases c0 : how = 0
 ·rw [if_pos c0]
  have e0 : (how == 0) = true := beq_iff_eq.mpr c0
  clear c0
  go_enter Try.func122, Try.ntmps122
  go_wp2_with fail
  repeat (go_quiet (fail); try go_wp2_with fail)
  refine (line_great.calls v vg _ HG.out).mono ?_
  rintro e w1 ⟨rfl, hb⟩
  go_wp2
  go_ret
  exact ⟨rfl, hb.below⟩
 ·rw [if_neg c0]
  have e0 : (how == 0) = false := beq_eq_false_iff_ne.mpr c0
  clear c0
  by_cases c2 : how = 2
  ·rw [if_pos c2]
   have e2 : (how == 2) = true := beq_iff_eq.mpr c2
   have e1 : (how == 1) = false := beq_eq_false_iff_ne.mpr (by omega)
   clear c2
   cases p1 with
   | true =>
    rw [if_pos rfl]
    cases p2 with
    | true =>
     rw [if_pos rfl]
     go_enter Try.func122, Try.ntmps122
     go_wp2_with fail
     refine C1.out.mono ?_
     rintro e w1 ⟨rfl, hb⟩
     have g3' : w1.cell? ⟨b3, 0, none⟩ = some (.func (.func 121) #[] #[.pointer (some ⟨b1, 0, none⟩)]) := (hb.cell (p := ⟨b3, 0, none⟩) L3.out).trans G3.out
     have C3 := Aside0.mk (C2.out w1 hb)
     go_wp2_with fail
     refine C3.out.mono ?_
     rintro e w2 ⟨rfl, hb2⟩
     have hb3 := below_step hb hb2
     have g2' : w2.cell? ⟨b2, 0, none⟩ = some (.int .i64 how) := (hb3.cell (p := ⟨b2, 0, none⟩) L2.out).trans G2.out
     go_wp2_with fail
     refine (line_small.calls v vs _ HS.out).mono ?_
     rintro e w3 ⟨rfl, hb4⟩
     go_wp2
     go_ret
     exact ⟨rfl, below_step hb3 hb4.below⟩
    | false =>
     rw [if_neg (by decide)]
     go_enter Try.func122, Try.ntmps122
     go_wp2_with fail
     refine C1.out.mono ?_
     rintro e w1 ⟨rfl, hb⟩
     have g3' : w1.cell? ⟨b3, 0, none⟩ = some (.func (.func 121) #[] #[.pointer (some ⟨b1, 0, none⟩)]) := (hb.cell (p := ⟨b3, 0, none⟩) L3.out).trans G3.out
     have C3 := Aside0.mk (C2.out w1 hb)
     go_wp2_with fail
     refine C3.out.mono ?_
     rintro e w2 ⟨rfl, hb2⟩
     have hb3 := below_step hb hb2
     go_wp2_with fail
     refine (line_great.calls v vg _ HG.out).mono ?_
     rintro e w3 ⟨rfl, hb4⟩
     go_wp2
     go_ret
     exact ⟨rfl, below_step hb3 hb4.below⟩
   | false =>
    rw [if_neg (by decide)]
    go_enter Try.func122, Try.ntmps122
    go_wp2_with fail
    refine C1.out.mono ?_
    rintro e w1 ⟨rfl, hb⟩
    have g2' : w1.cell? ⟨b2, 0, none⟩ = some (.int .i64 how) := (hb.cell (p := ⟨b2, 0, none⟩) L2.out).trans G2.out
    go_wp2_with fail
    refine (line_small.calls v vs _ HS.out).mono ?_
    rintro e w3 ⟨rfl, hb4⟩
    go_wp2
    go_ret
    exact ⟨rfl, below_step hb hb4.below⟩
  ·rw [if_neg c2]
   have e2 : (how == 2) = false := beq_eq_false_iff_ne.mpr c2
   clear c2
   by_cases c1 : how = 1
   ·rw [if_pos c1]
    have e1 : (how == 1) = true := beq_iff_eq.mpr c1
    clear c1
    go_enter Try.func122, Try.ntmps122
    go_wp2_with fail
    refine (line_small.calls v vs _ HS.out).mono ?_
    rintro e w1 ⟨rfl, hb⟩
    go_wp2
    go_ret
    exact ⟨rfl, hb.below⟩
   ·rw [if_neg c1]
    have e1 : (how == 1) = false := beq_eq_false_iff_ne.mpr c1
    clear c1
    go_enter Try.func122, Try.ntmps122
    go_wp2
    go_ret
    exact ⟨rfl, Below.refl _ _⟩

end Go.Proofs.Ytemoocoedibbpab.X

namespace Go.Proofs.Ytemoocoedibbpab.X
open Go.RowKit Go.Proofs.YtemoocoedibbpabW.PrintWords Go.Proofs.YtemoocoedibbpabW.PrintLast Go.Proofs.YtemoocoedibbpabW.PrintMore
attribute [local go_sem] max2_int min2_int max_two min_two max_three min_three max_four min_four
set_option linter.unusedVariables false
set_option linter.unusedSimpArgs false

/-! ### line_cased: function 79 -/
attribute [local go_sem] run_store_func
set_option maxHeartbeats 4000000 in
theorem line_cased.calls (A : Option Addr) (n c : Nat) (how : Int) (w : World) :
    Calls Try.prog 79 #[.slice A n c, .int .i64 how] w fun e w' => e = .returned (.func (.func 122) #[] #[.pointer (some ⟨w.heap.size, 0, none⟩), .pointer (some ⟨w.heap.size + 1, 0, none⟩), .pointer (some ⟨w.heap.size + 1 + 1, 0, none⟩)]) ∧ w' = ((w.alloc (.cells #[.slice A n c] 22)).alloc (.cells #[.int .i64 how] 3)).alloc (.cells #[.func (.func 121) #[] #[.pointer (some ⟨w.heap.size, 0, none⟩)]] 97) := by
  go_enter Try.func79, Try.ntmps79
  go_wp2
  go_ret
  exact ⟨by first | rfl | (simp; done), rfl⟩

end Go.Proofs.Ytemoocoedibbpab.X

namespace Go.Proofs.Ytemoocoedibbpab.X
open Go.RowKit Go.Proofs.YtemoocoedibbpabW.PrintWords Go.Proofs.YtemoocoedibbpabW.PrintLast Go.Proofs.YtemoocoedibbpabW.PrintMore
attribute [local go_sem] max2_int min2_int max_two min_two max_three min_three max_four min_four
set_option linter.unusedVariables false
set_option linter.unusedSimpArgs false

/-! ### line_Case: function 39 -/
/-- The signs of which those from one place on, so many, have other values. -/
def caseL (l : List S47) (how from_ : Int) : Nat → List S47
 | 0 => l
 | n + 1 => (caseL l how from_ n).set (from_ + n).toNat ⟨caseV l how (from_ + n), (rd_T47 (caseL l how from_ n) (from_ + n)).f1⟩
def line_Case.f (l0 : List S47) (a0_1 a1 a2 : Int) : Option (List S47 × Int) :=
 (line_places.f l0 a0_1 a0_1 a1).bind fun p => if l0.length < 1000000000000 then some (caseL l0 a2 p.1 (p.2 - p.1).toNat, p.2) else none
theorem places_range (l : List S47) (x a b f e : Int) (h : line_places.f l x a b = some (f, e)) : 0 ≤ f ∧ f ≤ e ∧ e ≤ l.length := by
 unfold line_places.f at h
 simp only [Option.some.injEq, Prod.mk.injEq] at h
 obtain ⟨rfl, rfl⟩ := h
 unfold mn mx
 refine ⟨?_, ?_, ?_⟩ <;> (repeat' split) <;> omega
/-- What line.Case stands over. -/
structure CaseI (w : World) (b9 : Nat) (A : Option Addr) (c : Nat) (l : List S47) (how e : Int) (W : World) (v : Value) (xs : List S47) : Prop where
 z : W.heap[w.heap.size + 1]? = some (.cells #[.slice none 0 0, .int .i64 0] 24 (0, 0))
 o : W.heap[b9]? = some (.cells #[v, .int .i64 e] 24 (0, 0))
 k0 : W.heap[b9 + 1]? = some (.cells #[.slice A l.length c] 22 (0, 0))
 k1 : W.heap[b9 + 1 + 1]? = some (.cells #[.int .i64 how] 3 (0, 0))
 k2 : W.heap[b9 + 1 + 1 + 1]? = some (.cells #[.func (.func 121) #[] #[.pointer (some ⟨b9 + 1, 0, none⟩)]] 97 (0, 0))
 row : Kd.R k47 47 W w.heap.size (fun _ => True) v xs
 bel : Below w.heap.size w W
theorem CaseI.below {w : World} {b9 : Nat} {A : Option Addr} {c : Nat} {l : List S47} {how e : Int} {W W1 : World} {v : Value} {xs : List S47} (h : CaseI w b9 A c l how e W v xs) (hb : Below W.heap.size W W1) : CaseI w b9 A c l how e W1 v xs :=
 ⟨blk_below h.z hb, blk_below h.o hb, blk_below h.k0 hb, blk_below h.k1 hb, blk_below h.k2 hb, Kd.R_below h.row hb, below_step h.bel hb⟩
theorem CaseI.stored {w : World} {b9 : Nat} {A : Option Addr} {c : Nat} {l : List S47} {how e : Int} {W W1 : World} {g cap : Nat} {xs ys : List S47} {n : Nat} (h : CaseI w b9 A c l how e W (.slice (some ⟨g, 0, none⟩) n cap) xs) (hr : Kd.R k47 47 W1 w.heap.size (fun _ => True) (.slice (some ⟨g, 0, none⟩) n cap) ys) (hg : W.grownBy W1 (some g)) : CaseI w b9 A c l how e W1 (.slice (some ⟨g, 0, none⟩) n cap) ys := by
 have st : ∀ {q t : Nat} {cs : Array Value}, W.heap[q]? = some (Obj.cells cs t (0, 0)) → 47 ≠ t → W1.heap[q]? = some (Obj.cells cs t (0, 0)) := fun hq ht => blk_grown hq hg (fun he => by have := Kd.R_ne h.row hq ht; simp [Value.ownBlock] at this; injection he with he; exact this he)
 refine ⟨st h.z (by decide), st h.o (by decide), st h.k0 (by decide), st h.k1 (by decide), st h.k2 (by decide), hr, h.bel.grown hg h.bel.size (fun j hj => ?_)⟩
 injection hj with hj
 subst hj
 exact Kd.R_base h.row _ (by simp [Value.ownBlock])
theorem caseL_len (l : List S47) (how from_ : Int) (n : Nat) : (caseL l how from_ n).length = l.length := by
 induction n with
 | zero => rfl
 | succ n ih => simp [caseL, ih]
def line_Case.T7 : Bool × List (List Nat × List Nat) := (true, [([], []), ([0], [0]), ([], []), ([], []), ([], []), ([3, 4], [3, 4]), ([1, 2, 0, 1, 2, 3, 4, 5], [1, 2]), ([6, 0, 1, 2, 3, 4, 5], [6]), ([7, 5, 5, 0, 1, 2, 3, 4, 5], [5, 7])])
def line_Case.B7 : List Nat := [0, 1, 0, 0, 0, 24, 63, 127, 255]
theorem line_Case.tab7 : rtab .any (opsOf Try.f39 7) = line_Case.T7 := by kernel_rfl
theorem line_Case.bits7 : waitsOk line_Case.T7.2 line_Case.B7 = true := by kernel_rfl
set_option maxHeartbeats 8000000 in
set_option maxRecDepth 100000 in
theorem line_Case.calls (A0 : Option Addr) (c0 : Nat) (l0 : List S47) (a0_1 : Int) (a1 a2 : Int) (r1 : List S47) (r2 : Int) (w : World) (hr0 : Kd.C k47 w A0 l0.length l0) (hc0 : l0.length ≤ c0) (h : line_Case.f l0 a0_1 a1 a2 = some (r1, r2)) :
  Calls Try.prog 39 #[.agg #[.slice A0 l0.length c0, .int .i64 a0_1], .int .i64 a1, .int .i64 a2] w fun e w' => ∃ v0_ : Value, e = .returned (.agg #[v0_, .int .i64 r2]) ∧ Kd.R k47 47 w' w.heap.size (fun _ => True) v0_ r1 ∧ Below w.heap.size w w' := by
 have hu := Try.underlying24
 unfold line_Case.f at h
 obtain ⟨⟨f, e⟩, h1, h⟩ := Option.bind_eq_some_iff.mp h
 dsimp only at h
 by_cases hl : l0.length < 1000000000000
 ·rw [if_pos hl] at h
  simp only [Option.some.injEq, Prod.mk.injEq] at h
  obtain ⟨rfl, rfl⟩ := h
  obtain ⟨pf0, pf1, pf2⟩ := places_range l0 _ _ _ _ _ h1
  have H1 := Aside0.mk h1
  have HR := Aside0.mk hr0
  have HC := Aside0.mk hc0
  have HP := Aside0.mk (And.intro pf0 (And.intro pf1 (And.intro pf2 hl)))
  have B0 := Aside0.mk (blk_alloc (blk_new w (.cells #[.slice A0 l0.length c0, .int .i64 a0_1] 24)) (.cells #[.slice none 0 0, .int .i64 0] 24))
  have BZ := Aside0.mk (blk2 w (.cells #[.slice A0 l0.length c0, .int .i64 a0_1] 24) (.cells #[.slice none 0 0, .int .i64 0] 24))
  have HB := Aside0.mk (below_alloc (below_alloc (Below.refl w.heap.size w) (.cells #[.slice A0 l0.length c0, .int .i64 a0_1] 24)) (.cells #[.slice none 0 0, .int .i64 0] 24))
  clear h1 hr0 hc0 pf0 pf1 pf2 hl
  go_enter Try.func39, Try.ntmps39
  go_wp2_with fail
  generalize ((w.alloc (.cells #[.slice A0 l0.length c0, .int .i64 a0_1] 24)).alloc (.cells #[.slice none 0 0, .int .i64 0] 24)) = W0 at B0 BZ HB ⊢
  refine (line_places.calls A0 c0 l0 a0_1 a0_1 a1 f e _ (Kd.C_below HR.out HB.out) HC.out H1.out).mono ?_
  rintro _ w1 ⟨rfl, hb⟩
  have B0' := Aside0.mk (blk_below B0.out hb)
  have BZ' := Aside0.mk (blk_below BZ.out hb)
  have HB' := Aside0.mk (below_step HB.out hb)
  clear hb B0 BZ HB
  have q0 : w1.cell? ⟨w.heap.size, 0, none⟩ = some (.slice A0 l0.length c0) := (blk_cell B0'.out 0).trans rfl
  go_wp2_with fail
  refine (Clone_Sign.calls A0 c0 l0 l0 _ (Kd.C_below HR.out HB'.out) HC.out (by unfold Clone_Sign.f; rw [if_pos (by have := HP.out; omega)])).mono ?_
  rintro _ w2 ⟨v, rfl, hro, hb⟩
  have B0 := Aside0.mk (blk_below B0'.out hb)
  have BZ := Aside0.mk (blk_below BZ'.out hb)
  have HB := Aside0.mk (below_step HB'.out hb)
  have HO := Aside0.mk (Kd.R_lower hro HB'.out.size)
  clear hb B0' BZ' HB' hro q0
  have q0 : w2.cell? ⟨w.heap.size, 0, none⟩ = some (.slice A0 l0.length c0) := (blk_cell B0.out 0).trans rfl
  obtain ⟨Av, cv, rfl⟩ := Kd.R_slice HO.out
  have q1 : (w2.alloc (.cells #[.slice Av l0.length cv, .int .i64 e] 24)).cell? ⟨w.heap.size, 0, none⟩ = some (.slice A0 l0.length c0) := (blk_cell (blk_alloc B0.out _) 0).trans rfl
  go_wp2_with fail
  refine (line_cased.calls A0 l0.length c0 a2 _).mono ?_
  rintro _ w3 ⟨rfl, hw3⟩
  have HI := Aside0.mk (show CaseI w w2.heap.size A0 c0 l0 a2 e w3 (.slice Av l0.length cv) l0 from by
   have hs : (w2.alloc (.cells #[.slice Av l0.length cv, .int .i64 e] 24)).heap.size = w2.heap.size + 1 := World.size_alloc _ _
   rw [hw3, hs]
   have hO := blk_new w2 (.cells #[.slice Av l0.length cv, .int .i64 e] 24)
   have h0 := blk_new (w2.alloc (.cells #[.slice Av l0.length cv, .int .i64 e] 24)) (.cells #[.slice A0 l0.length c0] 22)
   have h1 := blk2 (w2.alloc (.cells #[.slice Av l0.length cv, .int .i64 e] 24)) (.cells #[.slice A0 l0.length c0] 22) (.cells #[.int .i64 a2] 3)
   have h2 := blk3 (w2.alloc (.cells #[.slice Av l0.length cv, .int .i64 e] 24)) (.cells #[.slice A0 l0.length c0] 22) (.cells #[.int .i64 a2] 3) (.cells #[.func (.func 121) #[] #[.pointer (some ⟨(w2.alloc (.cells #[.slice Av l0.length cv, .int .i64 e] 24)).heap.size, 0, none⟩)]] 97)
   rw [hs] at h0 h1 h2
   refine ⟨blk_alloc (blk_alloc (blk_alloc (blk_alloc BZ.out _) _) _) _, blk_alloc (blk_alloc (blk_alloc hO _) _) _, blk_alloc (blk_alloc h0 _) _, blk_alloc h1 _, h2, Kd.R_alloc (Kd.R_alloc (Kd.R_alloc (Kd.R_alloc HO.out _) _) _) _, below_alloc (below_alloc (below_alloc (below_alloc HB.out _) _) _) _⟩)
  clear hw3 HO HB BZ B0 q0 q1
  simp only [World.size_alloc]
  go_wp2
  have EG := enters_fn Try.func122 (by kernel_rfl) rfl
  go_loopg [11] l0.length (fun gg s11 wr => ∃ i : Nat, f + i ≤ e ∧ e - f - i ≤ gg ∧ s11 = .int .i64 (f + i) ∧ Aside0 (∃ v, CaseI w w2.heap.size A0 c0 l0 a2 e wr v (caseL l0 a2 f i)))
  case atStart => exact ⟨0, by have := HP.out; omega, by have := HP.out; omega, by first | rfl | (simp; done), ⟨⟨_, HI.out⟩⟩⟩
  case round =>
   clear HI
   obtain ⟨i, hi1, hg, rfl, ⟨v, hI⟩⟩ := hrel
   have HI := Aside0.mk hI
   clear hI
   obtain ⟨hp0, hp1, hp2, hp3⟩ := HP.out
   by_cases hlt : f + i < e
   ·have hlt1 : decide (f + (i : Int) < e) = true := decide_eq_true hlt
    have hw1 : wrap64 (f + (i : Int) + 1) = f + (i + 1 : Nat) := by unfold wrap64; omega
    have hlen := caseL_len l0 a2 f i
    obtain ⟨g, cap, rfl, hg0, -, cur, hcur⟩ := R_atn HI.out.row l0.length hlen (by omega)
    have hq0 : wr.cell? ⟨w2.heap.size, 0, none⟩ = some (.slice (some ⟨g, 0, none⟩) l0.length cap) := (blk_cell HI.out.o 0).trans rfl
    have p1 := eq_true (show 0 ≤ f + (i : Int) by omega)
    have p2 := eq_true (show f + (i : Int) < (l0.length : Int) by omega)
    have HC := Aside0.mk (line_cased_2.calls (w2.heap.size + 1) (w2.heap.size + 1 + 1) (w2.heap.size + 1 + 1 + 1) A0 c0 l0 a2 (f + i) wr.drew (by omega) (by omega) (by omega) (Kd.C_below HR.out (below_drew1 HI.out.bel)) ((blk_cell (blk_drew HI.out.k0) 0).trans rfl) ((blk_cell (blk_drew HI.out.k1) 0).trans rfl) ((blk_cell (blk_drew HI.out.k2) 0).trans rfl))
    go_wp2
    refine start_ (n := 9) (S := fun w' => w'.cell? ⟨w2.heap.size, 0, none⟩ = some (.slice (some ⟨g, 0, none⟩) l0.length cap)) (ds := []) (ba 9 0) (by kernel_rfl) rfl rfl hq0 (fun hHeld => ?_); refine with_tabW line_Case.tab7 line_Case.bits7 (fun HT_ HW_ => ?_)
    have HI2 := Aside0.mk (HI.out.below (below_drew1 (Below.refl _ _)))
    clear HI hq0 hcur
    generalize wr.drew = W4 at HI2 HC hHeld ⊢
    refine pS 0 35 (v := ?_) (a' := ?_) (ba 9 1) HT_ (by kernel_rfl) rfl rfl (fun _ _ _ h => h) (by rfl) ?_ ?_ ?_; rotate_left 2; (intro w'; go_simp; with_reducible rfl); (simp only [Act.put, List.setIfInBounds_toArray, List.set_cons_zero, List.set_cons_succ, i64_w, i32_w]; rfl)
    refine pS 2 37 (v := ?_) (a' := ?_) (ba 9 5) HT_ (by kernel_rfl) rfl rfl (fun _ _ _ h => h) (by rfl) ?_ ?_ ?_; rotate_left 2; (intro w'; go_simp; with_reducible rfl); (simp only [Act.put, List.setIfInBounds_toArray, List.set_cons_zero, List.set_cons_succ, i64_w, i32_w]; rfl)
    refine pS 3 38 (v := ?_) (a' := ?_) (ba 9 13) HT_ (by kernel_rfl) rfl rfl (fun _ _ _ h => h) (by rfl) ?_ ?_ ?_; rotate_left 2; (intro w'; go_simp; with_reducible rfl); (simp only [Act.put, List.setIfInBounds_toArray, List.set_cons_zero, List.set_cons_succ, i64_w, i32_w]; rfl)
    refine pS 4 39 (v := ?_) (a' := ?_) (ba 9 29) HT_ (by kernel_rfl) rfl rfl (fun _ _ _ h => h) (by rfl) ?_ ?_ ?_; rotate_left 2; (intro w'; go_simp; with_reducible rfl); (simp only [Act.put, List.setIfInBounds_toArray, List.set_cons_zero, List.set_cons_succ, i64_w, i32_w]; rfl)
    refine take_ (i := 1) (N := some 36) (v := ?_) (a' := ?_) (ba 9 31) rfl rfl (take_ofW HT_.out HW_.out (by kernel_rfl)) (fun _ _ _ h => h) (Or.inl ⟨by rfl, ?_⟩) hHeld ?_ ?_; rotate_left; (rintro w' hs; go_simp; with_reducible rfl); rotate_left; (simp only [Act.put, List.setIfInBounds_toArray, List.set_cons_zero, List.set_cons_succ, i64_w, i32_w]; rfl)
    refine one_ (i := 5) (N := some 40) (ba 9 63) rfl rfl (one_of HT_.out (by kernel_rfl)) (by decide) (fun K hK => ?_)
    refine call_ 122 #[.int .i64 (f + i), .pointer (some ⟨w2.heap.size + 1, 0, none⟩), .pointer (some ⟨w2.heap.size + 1 + 1, 0, none⟩), .pointer (some ⟨w2.heap.size + 1 + 1 + 1, 0, none⟩)] (by rfl) rfl (by unfold execOp; simp [resolve, Deferred.ofValue, invoke, Act.eval, EG]) ?_
    refine HC.out.mono ?_
    rintro _ w5 ⟨rfl, hb⟩
    refine ⟨_, rfl, ?_⟩
    have HI3 := Aside0.mk (HI2.out.below hb)
    clear HI2 HC hb
    refine hK.out _ _ ((blk_cell HI3.out.o 0).trans rfl) (fun hHeld => ?_)
    clear hK K
    refine norm_ (a' := ?_) ?_ ?_; rotate_left; (show Act.put _ (some 40) _ = _; simp only [Act.put, List.setIfInBounds_toArray, List.set_cons_zero, List.set_cons_succ, i64_w, i32_w]; rfl)
    refine pS 6 41 (v := ?_) (a' := ?_) (ba 9 127) HT_ (by kernel_rfl) rfl rfl (fun _ _ _ h => h) (by rfl) ?_ ?_ ?_; rotate_left 2; (intro w'; go_simp; with_reducible rfl); (simp only [Act.put, List.setIfInBounds_toArray, List.set_cons_zero, List.set_cons_succ, i64_w, i32_w]; rfl)
    refine pS 7 42 (v := ?_) (a' := ?_) (ba 9 255) HT_ (by kernel_rfl) rfl rfl (fun _ _ _ h => h) (by rfl) ?_ ?_ ?_; rotate_left 2; (intro w'; go_simp; with_reducible rfl); (simp only [Act.put, List.setIfInBounds_toArray, List.set_cons_zero, List.set_cons_succ, i64_w, i32_w]; rfl)
    refine one_ (i := 8) (N := none) (ba 9 511) rfl rfl (one_of HT_.out (by kernel_rfl)) (by decide) (fun K hK => ?_)
    obtain ⟨hrun, hro, hgr⟩ := sign_storeV HI3.out.row (f + i) (by omega) (by omega) (caseV l0 a2 (f + i)) (by kernel_rfl)
    refine skip_store 3 (.tmp 42) (.tmp 40) _ _ (by rfl) rfl rfl rfl rfl hrun ?_
    have HI4 := Aside0.mk (HI3.out.stored hro hgr)
    refine hK.out _ _ ((blk_cell HI4.out.o 0).trans rfl) (fun hHeld => ?_)
    clear hK K
    refine done_ (done_of HT_.out (by kernel_rfl)) ?_
    go_wp2
    go_roundg (e - f - (i + 1)).toNat
    case measure => omega
    case rel => exact ⟨i + 1, by omega, by omega, by first | rfl | (simp [hw1]; omega), ⟨⟨_, HI4.out⟩⟩⟩
   ·have hlt1 : decide (f + (i : Int) < e) = false := decide_eq_false hlt
    obtain rfl : e = f + i := by omega
    obtain ⟨Av2, cv2, rfl⟩ := Kd.R_slice HI.out.row
    have q0 : wr.cell? ⟨w2.heap.size, 0, none⟩ = _ := (blk_cell HI.out.o 0).trans rfl
    have q1 : wr.cell? ⟨w2.heap.size, 1, none⟩ = _ := (blk_cell HI.out.o 1).trans rfl
    have z0 : wr.cell? ⟨w.heap.size + 1, 0, none⟩ = _ := (blk_cell HI.out.z 0).trans rfl
    have z1 : wr.cell? ⟨w.heap.size + 1, 1, none⟩ = _ := (blk_cell HI.out.z 1).trans rfl
    have f0 := blk_frozen HI.out.z 0
    have f1 := blk_frozen HI.out.z 1
    rw [caseL_len] at q0
    go_wp2
    refine bodyPost_ret (results_cell_row rfl _ _ (w.heap.size + 1) 24 #[.slice Av2 l0.length cv2, .int .i64 (f + i)] (0, 0) _ rfl (by refine blk_put (cs := #[.slice Av2 l0.length cv2, .int .i64 0]) ?_ 1 _ rfl; refine blk_put (cs := #[.slice none 0 0, .int .i64 0]) ?_ 0 _ rfl; exact HI.out.z) Try.underlying24 rfl (by kernel_rfl)) rfl ?_
    refine ⟨_, rfl, ?_, ?_⟩
    ·have hr := HI.out.row
     rw [caseL_len] at hr
     rw [show (f + (i : Int) - f).toNat = i by omega]
     exact Kd.R_set (Kd.R_set hr HI.out.z (by decide) 0 _) (blk_put HI.out.z 0 _ rfl) (by decide) 1 _
    ·exact below_set (below_set HI.out.bel (Nat.le_succ _)) (Nat.le_succ _)
 ·rw [if_neg hl] at h
  cases h

end Go.Proofs.Ytemoocoedibbpab.X

namespace Go.Proofs.Ytemoocoedibbpab.X
open Go.RowKit Go.Proofs.YtemoocoedibbpabW.PrintWords Go.Proofs.YtemoocoedibbpabW.PrintLast Go.Proofs.YtemoocoedibbpabW.PrintMore
attribute [local go_sem] max2_int min2_int max_two min_two max_three min_three max_four min_four
set_option linter.unusedVariables false
set_option linter.unusedSimpArgs false

/-! ### stringslite_HasPrefix: function 173 -/
def stringslite_HasPrefix.f (a0 : ByteArray) (a1 : ByteArray) : Option (Bool) := if (a0.size : Int) ≥ (a1.size : Int) then (if 0 ≤ (a1.size : Int) then (if (a1.size : Int) ≤ (a0.size : Int) then (some ((a0.extract 0 ((a1.size : Int) : Int).toNat).toList == a1.toList)) else (none)) else (none)) else (some false)
set_option maxHeartbeats 8000000 in
set_option maxRecDepth 100000 in
theorem stringslite_HasPrefix.calls (a0 : ByteArray) (a1 : ByteArray) (r : Bool) (w : World) (h : stringslite_HasPrefix.f a0 a1 = some r) :
    Calls Try.prog 173 #[.string a0, .string a1] w fun e w' => e = .returned (.bool r) ∧ Drawn0 w w' := by
  have H : (if (a0.size : Int) ≥ (a1.size : Int) then (if 0 ≤ (a1.size : Int) then (if (a1.size : Int) ≤ (a0.size : Int) then (some ((a0.extract 0 ((a1.size : Int) : Int).toNat).toList == a1.toList)) else (none)) else (none)) else (some false)) = some r := h
  clear h
  by_cases c3 : (a0.size : Int) ≥ (a1.size : Int)
  · rw [if_pos c3] at H
    have c3b0 : decide ((a1.size : Int) ≤ (a0.size : Int)) = true := decide_eq_true c3
    have c3b1 : decide (a1.size ≤ a0.size) = true := decide_eq_true (Int.ofNat_le.mp c3)
    clear c3
    by_cases c4 : 0 ≤ (a1.size : Int)
    · rw [if_pos c4] at H
      have c4b0 := eq_true c4
      have c4b1 : decide (0 ≤ (a1.size : Int)) = true := decide_eq_true c4
      clear c4
      by_cases c5 : (a1.size : Int) ≤ (a0.size : Int)
      · rw [if_pos c5] at H
        have c5b0 := eq_true c5
        have c5b1 : decide ((a1.size : Int) ≤ (a0.size : Int)) = true := decide_eq_true c5
        clear c5
        obtain rfl := Option.some.inj H
        go_enter Try.func173, Try.ntmps173
        go_wp2
        go_ret
        exact ⟨by first | rfl | (simp; done) | (simp [*]; done), by repeat (first | exact Drawn0.refl _ | apply Drawn0.step)⟩
      · rw [if_neg c5] at H
        exact absurd H (by simp)
    · rw [if_neg c4] at H
      exact absurd H (by simp)
  · rw [if_neg c3] at H
    have c3b0 : decide ((a1.size : Int) ≤ (a0.size : Int)) = false := decide_eq_false c3
    have c3b1 : decide (a1.size ≤ a0.size) = false := decide_eq_false (fun h => c3 (Int.ofNat_le.mpr h))
    clear c3
    obtain rfl := Option.some.inj H
    go_enter Try.func173, Try.ntmps173
    go_wp2
    go_ret
    exact ⟨by first | rfl | (simp; done) | (simp [*]; done), by repeat (first | exact Drawn0.refl _ | apply Drawn0.step)⟩

end Go.Proofs.Ytemoocoedibbpab.X

namespace Go.Proofs.Ytemoocoedibbpab.X
open Go.RowKit Go.Proofs.YtemoocoedibbpabW.PrintWords Go.Proofs.YtemoocoedibbpabW.PrintLast Go.Proofs.YtemoocoedibbpabW.PrintMore
attribute [local go_sem] max2_int min2_int max_two min_two max_three min_three max_four min_four
set_option linter.unusedVariables false
set_option linter.unusedSimpArgs false

/-! ### strings_HasPrefix: function 162 -/
def strings_HasPrefix.f (a0 : ByteArray) (a1 : ByteArray) : Option (Bool) := (stringslite_HasPrefix.f a0 a1).bind fun t101 => (some t101)
set_option maxHeartbeats 8000000 in
set_option maxRecDepth 100000 in
theorem strings_HasPrefix.calls (a0 : ByteArray) (a1 : ByteArray) (r : Bool) (w : World) (h : strings_HasPrefix.f a0 a1 = some r) :
    Calls Try.prog 162 #[.string a0, .string a1] w fun e w' => e = .returned (.bool r) ∧ Drawn0 w w' := by
  have H : ((stringslite_HasPrefix.f a0 a1).bind fun t101 => (some t101)) = some r := h
  clear h
  replace H := Option.bind_eq_some_iff.mp H
  obtain ⟨t101, A30, H⟩ := H
  replace H : (some t101) = some r := H
  have A3 := Aside0.mk A30
  clear A30
  obtain rfl := Option.some.inj H
  go_enter Try.func162, Try.ntmps162
  go_wp2_with (first | ((with_reducible refine gate_callee (f := 173) rfl ?_); refine goesL_ (some 7) rfl rfl Try.func173 (by kernel_rfl) rfl #[.string a0, .string a1] rfl (by (try simp only [List.map_toArray, List.map_cons, List.map_nil]); first | done | rfl | (simp only [List.length_drop, List.length_take]; rfl)) ?_; (with_reducible refine (stringslite_HasPrefix.calls a0 a1 t101 _ A3.out).mono ?_); rintro e w' ⟨rfl, ⟨nd, rfl⟩⟩; refine ⟨_, rfl, ?_⟩))
  go_ret
  exact ⟨by first | rfl | (simp; done) | (simp [*]; done), by repeat (first | exact Drawn0.refl _ | apply Drawn0.step)⟩

end Go.Proofs.Ytemoocoedibbpab.X

namespace Go.Proofs.Ytemoocoedibbpab.X
open Go.RowKit Go.Proofs.YtemoocoedibbpabW.PrintWords Go.Proofs.YtemoocoedibbpabW.PrintLast Go.Proofs.YtemoocoedibbpabW.PrintMore
attribute [local go_sem] max2_int min2_int max_two min_two max_three min_three max_four min_four
set_option linter.unusedVariables false
set_option linter.unusedSimpArgs false

/-! ### utf_value: function 140 -/
def utf_value.f (a0 : ByteArray) (a1 : Int) : Option (Int) := if a1 = 65533 then ((strings_HasPrefix.f a0 (⟨#[239, 191, 189]⟩ : ByteArray)).bind fun t101 => (if t101 = true then (some (wrap64 (a1))) else (if 0 < (a0.size : Int) then (some (wrap64 (1114112 + (wrap64 (bt a0 0))))) else (none)))) else (some (wrap64 (a1)))
set_option maxHeartbeats 8000000 in
set_option maxRecDepth 100000 in
theorem utf_value.calls (a0 : ByteArray) (a1 : Int) (r : Int) (w : World) (h : utf_value.f a0 a1 = some r) :
    Calls Try.prog 140 #[.string a0, .int .i32 a1] w fun e w' => e = .returned (.int .i64 r) ∧ Drawn0 w w' := by
  have H : (if a1 = 65533 then ((strings_HasPrefix.f a0 (⟨#[239, 191, 189]⟩ : ByteArray)).bind fun t101 => (if t101 = true then (some (wrap64 (a1))) else (if 0 < (a0.size : Int) then (some (wrap64 (1114112 + (wrap64 (bt a0 0))))) else (none)))) else (some (wrap64 (a1)))) = some r := h
  clear h
  by_cases c3 : a1 = 65533
  · rw [if_pos c3] at H
    have c3b0 : (a1 == 65533) = true := beq_iff_eq.mpr c3
    have c3b1 : (a1 != 65533) = false := bne_eq_false_iff_eq.mpr c3
    clear c3
    replace H := Option.bind_eq_some_iff.mp H
    obtain ⟨t101, A40, H⟩ := H
    replace H : (if t101 = true then (some (wrap64 (a1))) else (if 0 < (a0.size : Int) then (some (wrap64 (1114112 + (wrap64 (bt a0 0))))) else (none))) = some r := H
    have A4 := Aside0.mk A40
    clear A40
    by_cases c5 : t101 = true
    · subst c5
      have H1 : (some (wrap64 (a1))) = some r := by rw [if_pos rfl] at H; exact H
      clear H
      have H := H1
      clear H1
      obtain rfl := Option.some.inj H
      go_enter Try.func140, Try.ntmps140
      go_wp2_with (first | (go_at_call 162; (with_reducible refine (strings_HasPrefix.calls a0 (⟨#[239, 191, 189]⟩ : ByteArray) true _ A4.out).mono ?_); rintro e w' ⟨rfl, ⟨nd, rfl⟩⟩))
      go_ret
      exact ⟨by first | rfl | (simp; done) | (simp [*]; done), by repeat (first | exact Drawn0.refl _ | apply Drawn0.step)⟩
    · replace c5 := Bool.eq_false_iff.mpr c5
      subst c5
      have H1 : (if 0 < (a0.size : Int) then (some (wrap64 (1114112 + (wrap64 (bt a0 0))))) else (none)) = some r := by rw [if_neg (show ¬ (false = true) by decide)] at H; exact H
      clear H
      have H := H1
      clear H1
      by_cases c6 : 0 < (a0.size : Int)
      · rw [if_pos c6] at H
        have c6b0 : decide (0 < (a0.size : Int)) = true := decide_eq_true c6
        have c6b1 : decide (0 < a0.size) = true := decide_eq_true (by omega)
        clear c6
        obtain rfl := Option.some.inj H
        go_enter Try.func140, Try.ntmps140
        go_wp2_with (first | (go_at_call 162; (with_reducible refine (strings_HasPrefix.calls a0 (⟨#[239, 191, 189]⟩ : ByteArray) false _ A4.out).mono ?_); rintro e w' ⟨rfl, ⟨nd, rfl⟩⟩; have p7 : 0 ≤ (0 : Int) := (by omega); have q7 : 0 < a0.size := (by have : (0 : Int) < (a0.size : Int) := of_decide_eq_true (by first | (with_reducible assumption) | assumption); omega); have hx7 : ∀ h : 0 < a0.size, ((a0[0]'h).toNat : Int) = bt a0 0 := bt_at a0 0; clear p7; have qi7 : (0 < (a0.size : Int)) = True := eq_true (of_decide_eq_true (by first | (with_reducible assumption) | assumption)); replace q7 := eq_true q7))
        go_ret
        exact ⟨by first | rfl | (simp; done) | (simp [*]; done), by repeat (first | exact Drawn0.refl _ | apply Drawn0.step)⟩
      · rw [if_neg c6] at H
        exact absurd H (by simp)
  · rw [if_neg c3] at H
    have c3b0 : (a1 == 65533) = false := beq_eq_false_iff_ne.mpr c3
    have c3b1 : (a1 != 65533) = true := bne_iff_ne.mpr c3
    obtain rfl := Option.some.inj H
    go_enter Try.func140, Try.ntmps140
    go_wp2
    go_ret
    exact ⟨by first | rfl | (simp; done) | (simp [*]; done), by repeat (first | exact Drawn0.refl _ | apply Drawn0.step)⟩

end Go.Proofs.Ytemoocoedibbpab.X

namespace Go.Proofs.Ytemoocoedibbpab.X
open Go.RowKit Go.Proofs.YtemoocoedibbpabW.PrintWords Go.Proofs.YtemoocoedibbpabW.PrintLast Go.Proofs.YtemoocoedibbpabW.PrintMore
attribute [local go_sem] max2_int min2_int max_two min_two max_three min_three max_four min_four
set_option linter.unusedVariables false
set_option linter.unusedSimpArgs false

theorem info3 : (Try.prog.info? 3).map (fun i => (i.zero, i.size, i.bytes)) = some (some (.int .i64 0), 1, 8) := by kernel_rfl
end Go.Proofs.Ytemoocoedibbpab.X

namespace Go.Proofs.Ytemoocoedibbpab.X
open Go.RowKit Go.Proofs.YtemoocoedibbpabW.PrintWords Go.Proofs.YtemoocoedibbpabW.PrintLast Go.Proofs.YtemoocoedibbpabW.PrintMore
attribute [local go_sem] max2_int min2_int max_two min_two max_three min_three max_four min_four
set_option linter.unusedVariables false
set_option linter.unusedSimpArgs false

/-! ### utf_Decode: function 102 -/
def utf_Decode.l0 : Nat → ByteArray → List Int → Nat → Option (List Int)
 | 0, _, _, _ => none
 | k + 1, s, acc, pos => if pos < s.size then (utf_value.f (s.extract pos s.size) (Utf8.decode s pos).1).bind fun v => if acc.length < 17592186044416 then utf_Decode.l0 k s (acc ++ [v]) (pos + (Utf8.decode s pos).2) else none else some acc
def utf_Decode.f (k : Nat) (a0 : ByteArray) : Option (List Int) := utf_Decode.l0 k a0 [] 0
theorem utf_Decode.mono_l : ∀ k s acc pos, LeO (utf_Decode.l0 k s acc pos) (utf_Decode.l0 (k + 1) s acc pos)
 | 0 => fun _ _ _ r h => by simp [utf_Decode.l0] at h
 | k + 1 => fun s acc pos => by
  have ih := utf_Decode.mono_l k
  rw [utf_Decode.l0, utf_Decode.l0]
  exact LeO.ite (LeO.bind (LeO.refl _) (fun v => LeO.ite (ih _ _ _) (LeO.refl _))) (LeO.refl _)
theorem utf_Decode.mono : ∀ a0 k, LeO (utf_Decode.f k a0) (utf_Decode.f (k + 1) a0) := fun a0 k => utf_Decode.mono_l k a0 [] 0
/-- A world whose iterator has been put on. -/
def iterTo (W : World) (g : Nat) (s : ByteArray) (p : Nat) : World := { W with heap := W.heap.setIfInBounds g (.stringIter s p) }
theorem iterTo_at {W : World} {g : Nat} {s : ByteArray} {p : Nat} (h : g < W.heap.size) : (iterTo W g s p).heap[g]? = some (.stringIter s p) := by simp [iterTo, h]
theorem iterTo_other (W : World) (g : Nat) (s : ByteArray) (p k : Nat) (h : k ≠ g) : (iterTo W g s p).heap[k]? = W.heap[k]? := by simp [iterTo, Array.getElem?_setIfInBounds, h.symm]
theorem iterTo_size (W : World) (g : Nat) (s : ByteArray) (p : Nat) : (iterTo W g s p).heap.size = W.heap.size := by simp [iterTo]
theorem iterTo_below {B : Nat} {w W : World} (h : Below B w W) (g : Nat) (s : ByteArray) (p : Nat) (hg : B ≤ g) : Below B w (iterTo W g s p) :=
 ⟨h.os, h.tape, h.output, by rw [iterTo_size]; exact h.size, fun k hk => (iterTo_other W g s p k (by omega)).trans (h.block k hk)⟩
theorem run_next_at {P : Program} (W : World) (g : Nat) (s : ByteArray) (pos : Nat) (ty : TypeId) (hW : W.heap[g]? = some (.stringIter s pos)) (h : pos < s.size) :
  (Instr.next (.pointer (some ⟨g, 0, none⟩)) true ty).run P W = .ok (.tuple #[.bool true, .int .i64 pos, .int .i32 (Utf8.decode s pos).1]) (iterTo W g s (pos + (Utf8.decode s pos).2)) := by
 simp only [Instr.next, getObj, setObj, Sem.run_bind, Sem.run, hW, Result.andThen, h, if_true]
 simp [goInt, iterTo]
theorem run_next_stop {P : Program} (W : World) (g : Nat) (s : ByteArray) (pos : Nat) (ty : TypeId) (hW : W.heap[g]? = some (.stringIter s pos)) (h : ¬ pos < s.size) :
  (Instr.next (.pointer (some ⟨g, 0, none⟩)) true ty).run P W = .ok (.tuple #[.bool false]) W := by
 simp [Instr.next, getObj, Sem.run, hW, h]
set_option maxHeartbeats 4000000 in
set_option maxRecDepth 100000 in
theorem utf_Decode.calls (k : Nat) (a0 : ByteArray) (r : List Int) (w : World) (h : utf_Decode.f k a0 = some r) :
  Calls Try.prog 102 #[.string a0] w fun e w' => ∃ v0_ : Value, e = .returned (v0_) ∧ Kd.R (Kd.int .i64) 3 w' w.heap.size (fun _ => True) v0_ r ∧ Below w.heap.size w w' := by
 have H' := Aside0.mk h
 clear h
 unfold utf_Decode.f at H'
 go_enter Try.func102, Try.ntmps102
 go_wp2
 go_loopg [3] k (fun kq v3 w' => ∃ (acc : List Int) (pos : Nat), Aside0 (utf_Decode.l0 kq a0 acc pos = some r) ∧ Aside0 (kq ≤ k) ∧ Aside0 (Kd.R (Kd.int .i64) 3 w' w.heap.size (fun k => k ≠ w.heap.size) v3 acc) ∧ Aside0 (w'.heap[w.heap.size]? = some (.stringIter a0 pos)) ∧ Aside0 (Below w.heap.size w w'))
 case atStart => exact ⟨[], 0, H', ⟨Nat.le_refl _⟩, ⟨Kd.R_nil _ _ _ _ _⟩, ⟨World.iter_heap w a0 0⟩, ⟨below_alloc (Below.refl _ _) _⟩⟩
 case round =>
  clear H'
  obtain ⟨acc, pos, HA, HK1, HO, HI, HB⟩ := hrel
  cases gk with
  | zero => exact absurd HA.out (by simp [utf_Decode.l0])
  | succ k1 =>
   have H := HA.out
   clear HA
   rw [utf_Decode.l0] at H
   by_cases hp : pos < a0.size
   ·rw [if_pos hp] at H
    obtain ⟨v, h1, H⟩ := Option.bind_eq_some_iff.mp H
    by_cases hl : acc.length < 17592186044416
    ·rw [if_pos hl] at H
     have H1 := Aside0.mk h1
     have HL := Aside0.mk hl
     have HR := Aside0.mk H
     clear h1 hl H
     have hI := HI.out
     have hg : w.heap.size < wr.heap.size := blk_lt hI
     have hnx : ∀ ty, (Instr.next (.pointer (some ⟨w.heap.size, 0, none⟩)) true ty).run Try.prog wr = _ := fun ty => run_next_at wr w.heap.size a0 pos ty hI hp
     have HO2 := Aside0.mk (Kd.R_step (w1 := iterTo wr w.heap.size a0 (pos + (Utf8.decode a0 pos).2)) HO.out (fun k ho _ => iterTo_other _ _ _ _ k ho))
     have HI2 := Aside0.mk (iterTo_at (s := a0) (p := pos + (Utf8.decode a0 pos).2) hg)
     have HB2 := Aside0.mk (iterTo_below HB.out w.heap.size a0 (pos + (Utf8.decode a0 pos).2) (Nat.le_refl _))
     generalize hW : iterTo wr w.heap.size a0 (pos + (Utf8.decode a0 pos).2) = W2 at hnx HO2 HI2 HB2
     clear hW HO HI HB hI hg
     have q1 : (pos : Int) ≤ (a0.size : Int) := by omega
     have q2 : 0 ≤ (pos : Int) := by omega
     have q3 : ((pos : Int)).toNat = pos := by omega
     have q4 : pos ≤ a0.size := by omega
     have q5 : decide ((pos : Int) ≤ (a0.size : Int)) = true := decide_eq_true q1
     have q6 : decide (0 ≤ (pos : Int)) = true := decide_eq_true q2
     go_wp2_with (first | ((with_reducible refine (utf_value.calls _ _ v _ H1.out).mono ?_); rintro e w1 ⟨rfl, ⟨n, rfl⟩⟩) | ((with_reducible refine gate_builtin (b := .append) (xs := #[.tmp 12, .tmp 18]) rfl ?_); at_builtin; refine Kd.R_append (Kd.int .i64) (w0 := w) w.heap.size rfl (.tmp 12) (.tmp 18) 84 3 (.int .i64 0) 8 rfl Try.underlying84 info3 rfl (by decide) (by omega) u3 acc v [.int .i64 v] (fun k => k ≠ w.heap.size) (fun _ => False) rfl rfl ?aP (fun _ hk => hk.elim) ?aF ?aO ?aB ?aS ?aL ?_; (case aP => exact rfl); (case aF => exact (fun k hk => by have h1 := blk_lt HI2.out; have h2 : W2.heap.size ≤ k := hk; show k ≠ w.heap.size; omega)); (case aO => exact Kd.R_drewN HO2.out _); (case aB => exact pw_below_drewN HB2.out _); (case aS => exact HB2.out.size); (case aL => have := HL.out; omega); intro v1 w1 ho hb hg hat; have HO3 := Aside0.mk ho; have HB3 := Aside0.mk hb; have HI3 := Aside0.mk (blk_grown (blk_drewN HI2.out n) hg (fun he => absurd rfl (HO2.out.1 _ he.symm))); clear ho hb hg hat))
     go_roundg k1
     case measure => have := HK1.out; omega
     case rel => exact ⟨acc ++ [v], pos + (Utf8.decode a0 pos).2, HR, ⟨by have := HK1.out; omega⟩, HO3, HI3, HB3⟩
    ·rw [if_neg hl] at H
     cases H
   ·rw [if_neg hp] at H
    have HR := Aside0.mk H
    clear H
    obtain rfl := Option.some.inj HR.out
    have hnx : ∀ ty, (Instr.next (.pointer (some ⟨w.heap.size, 0, none⟩)) true ty).run Try.prog wr = _ := fun ty => run_next_stop wr w.heap.size a0 pos ty HI.out hp
    go_wp2
    go_ret
    exact ⟨_, rfl, Kd.R_mono HO.out (fun _ _ => trivial), HB.out⟩

end Go.Proofs.Ytemoocoedibbpab.X

namespace Go.Proofs.Ytemoocoedibbpab.X
open Go.RowKit Go.Proofs.YtemoocoedibbpabW.PrintWords Go.Proofs.YtemoocoedibbpabW.PrintLast Go.Proofs.YtemoocoedibbpabW.PrintMore
attribute [local go_sem] max2_int min2_int max_two min_two max_three min_three max_four min_four
set_option linter.unusedVariables false
set_option linter.unusedSimpArgs false

/-! ### sign_Of: function 55 -/
def sign_Of.l0 : Nat → Int → List (S47) → List Int → Int → Int → Option ((List (S47)))
 | 0, _, _, _, _, _ => none
 | k + 1, x0, x5, x9, x10, x11 => if x11 < x10 then (if 0 ≤ x11 then (if x11 < (x9.length : Int) then (if x5.length < 8796093022208 then (sign_Of.l0 k x0 (x5 ++ [(⟨rd x9 x11, x0⟩ : S47)]) x9 x10 (wrap64 (x11 + 1))) else (none)) else (none)) else (none)) else (some x5)
def sign_Of.f (k : Nat) (a0 : Int) (a1 : ByteArray) : Option ((List (S47))) := (utf_Decode.f k a1).bind fun t101 => (sign_Of.l0 k a0 ([] : List (S47)) t101 (t101.length : Int) 0)
theorem sign_Of.mono_l : ∀ k, (∀ y0 y1 y2 y3 y4, LeO (sign_Of.l0 k y0 y1 y2 y3 y4) (sign_Of.l0 (k + 1) y0 y1 y2 y3 y4))
 | 0 => fun _ _ _ _ _ r h => by simp [sign_Of.l0] at h
 | k + 1 => by
  have ih0 := sign_Of.mono_l k
  ·intro y0 y1 y2 y3 y4
   unfold sign_Of.l0
   repeat' first
   | (with_reducible exact ih0 _ _ _ _ _)
   | (with_reducible exact utf_Decode.mono _ _)
   | (with_reducible exact LeO.refl _)
   | (with_reducible exact LeO.none _)
   | (with_reducible refine LeO.ite ?_ ?_)
   | (with_reducible refine LeO.bind ?_ (fun _ => ?_))
   | exact ih0 _ _ _ _ _
   | exact utf_Decode.mono _ _
   | exact LeO.none _
   | refine LeO.ite ?_ ?_
   | refine LeO.bind ?_ (fun _ => ?_)
theorem sign_Of.mono : ∀ a0 a1 k, LeO (sign_Of.f k a0 a1) (sign_Of.f (k + 1) a0 a1) := by
 intro a0 a1 k
 have ih0 := sign_Of.mono_l k
 unfold sign_Of.f
 repeat' first
   | (with_reducible exact ih0 _ _ _ _ _)
   | (with_reducible exact utf_Decode.mono _ _)
   | (with_reducible exact LeO.refl _)
   | (with_reducible exact LeO.none _)
   | (with_reducible refine LeO.ite ?_ ?_)
   | (with_reducible refine LeO.bind ?_ (fun _ => ?_))
   | exact ih0 _ _ _ _ _
   | exact utf_Decode.mono _ _
   | exact LeO.none _
   | refine LeO.ite ?_ ?_
   | refine LeO.bind ?_ (fun _ => ?_)
set_option maxHeartbeats 8000000 in
set_option maxRecDepth 100000 in
theorem sign_Of.calls (k : Nat) (a0 : Int) (a1 : ByteArray) (r : List (S47)) (w : World) (h : sign_Of.f k a0 a1 = some r) :
  Calls Try.prog 55 #[.int .i64 a0, .string a1] w fun e w' => ∃ v0_ : Value, e = .returned (v0_) ∧ Kd.R k47 47 w' w.heap.size (fun _ => True) v0_ r ∧ Below w.heap.size w w' := by
 have hu47 := Try.underlying47
 have HB := Aside0.mk (Below.refl w.heap.size w)
 have H : ((utf_Decode.f k a1).bind fun t101 => (sign_Of.l0 k a0 ([] : List (S47)) t101 (t101.length : Int) 0)) = some r := h
 clear h
 replace H := Option.bind_eq_some_iff.mp H
 obtain ⟨t101, A30, H⟩ := H
 replace H : (sign_Of.l0 k a0 ([] : List (S47)) t101 (t101.length : Int) 0) = some r := H
 have A3 := Aside0.mk A30
 clear A30
 have H' := Aside0.mk H
 clear H
 go_enter Try.func55, Try.ntmps55
 go_wp2_with (first | ((with_reducible refine gate_callee (f := 102) rfl ?_); refine gL (some 9) Try.func102 (by kernel_rfl) #[.string a1] rfl rfl rfl rfl rfl ?_; (with_reducible refine (utf_Decode.calls k a1 t101 _ A3.out).mono ?_); rintro e w4 ⟨v102, rfl, ho0, hb⟩; refine ⟨_, rfl, ?_⟩; have n0_ := Aside0.mk (Kd.R_lower ho0 (below_size (by repeat (first | exact HB.out | apply below_alloc | apply pw_below_drewN | apply below_drew1)))); have n1_ := Aside0.mk (below_step (by repeat (first | exact HB.out | apply below_alloc | apply pw_below_drewN | apply below_drew1)) hb); clear HB; have HO103 := n0_; have HB := n1_; clear n0_ n1_; (try clear hb); (try clear hb2); (try clear hk); (try clear hi); (try clear ho0); obtain ⟨Ao5, co5, eo5⟩ := Kd.R_slice HO103.out; subst eo5))
 go_loopg [5, 11] k (fun kq v5 v11 w' => ∃ (x5_1 : List (S47)) (x11_1 : Int), v11 = .int .i64 x11_1 ∧ Aside0 (sign_Of.l0 kq a0 x5_1 t101 (t101.length : Int) x11_1 = some r) ∧ Aside0 (kq ≤ k) ∧ Aside0 (Kd.R k47 47 w' w.heap.size (fun _ => True) v5 x5_1) ∧ Aside0 (Kd.R (Kd.int .i64) 3 w' w.heap.size (fun _ => True) (.slice Ao5 t101.length co5) t101) ∧ Aside0 (Below w.heap.size w w'))
 case atStart => exact ⟨(([] : List (S47))), (0), (by first | rfl | (simp; done) | (simp [*]; done)), H', ⟨Nat.le_refl _⟩, ⟨by first | exact Kd.R_nil _ _ _ _ _ | exact Kd.N_nil _ _ _ _ _ | exact Kd.V_nil _ _ _ _ _ | exact Kd.Q_nil _ _ _ _ _ | exact Kd.S_nil _ _ _ _ _⟩, ⟨by exact HO103.out⟩, ⟨by repeat (first | exact HB.out | apply below_alloc | apply pw_below_drewN | apply below_drew1)⟩⟩
 case round =>
  clear H'
  try clear c1
  try clear p2
  try clear c5
  obtain ⟨x5_1, x11_1, rfl, HA, HK1, HO_5, HO_9, HB⟩ := hrel
  cases gk with
  | zero => exact absurd HA.out (by simp [sign_Of.l0])
  | succ k1 =>
   have H := HA.out
   clear HA
   simp only [sign_Of.l0] at H
   by_cases c6 : x11_1 < (t101.length : Int)
   ·rw [if_pos c6] at H
    have c6b0 : decide (x11_1 < (t101.length : Int)) = true := decide_eq_true c6
    clear c6
    by_cases c7 : 0 ≤ x11_1
    ·rw [if_pos c7] at H
     have c7b0 : decide (0 ≤ x11_1) = true := decide_eq_true c7
     clear c7
     by_cases c8 : x11_1 < (t101.length : Int)
     ·rw [if_pos c8] at H
      have c8b0 : decide (x11_1 < (t101.length : Int)) = true := decide_eq_true c8
      clear c8
      by_cases c9 : x5_1.length < 8796093022208
      ·rw [if_pos c9] at H
       have LMc9 := Aside0.mk c9
       clear c9
       obtain ⟨y105, hy105⟩ : ∃ y_ : List (S47), y_ = (x5_1 ++ [(⟨rd t101 x11_1, a0⟩ : S47)]) := ⟨_, rfl⟩
       replace H : (sign_Of.l0 k1 a0 y105 t101 (t101.length : Int) (wrap64 (x11_1 + 1))) = some r := by first | (rw [hy105]; with_reducible exact H) | (have H2_ := (Option.bind_some _ _).symm.trans H; rw [hy105]; with_reducible exact H2_) | (have H2_ := (Option.bind_some _ _).symm.trans H; with_reducible exact H2_) | with_reducible exact H | (rw [hy105]; exact H) | exact H
       have Ny105 := Aside0.mk hy105
       clear hy105
       have H' := Aside0.mk H
       clear H
       have p104 : 0 ≤ (x11_1 : Int) := of_decide_eq_true (by first | (with_reducible assumption) | assumption)
       have q104 : x11_1 < (t101.length : Int) := of_decide_eq_true (by first | (with_reducible assumption) | assumption)
       obtain ⟨ad104, e104, hx104_0⟩ := Kd.at_int (Kd.R_reads' HO_9.out).2.2 x11_1 p104 q104
       cases e104
       replace p104 := eq_true p104
       replace q104 := eq_true q104
       go_wp2_with (first | ((with_reducible refine gate_builtin (b := .append) (xs := #[.tmp 15, .tmp 19]) rfl ?_); at_builtin; refine Kd.R_append k47 (w0 := w) w.heap.size rfl (.tmp 15) (.tmp 19) 22 47 (.agg #[(.int .i64 0), (.int .i64 0)]) 16 rfl Try.underlying22 info47 rfl (by decide) (by omega) u5 x5_1 (⟨rd t101 x11_1, a0⟩ : S47) [.int .i64 (rd t101 x11_1), .int .i64 a0] (fun _ => True) (fun _ => False) rfl rfl ?aP (fun _ hk => hk.elim) ?aF ?aO ?aB ?aS ?aL ?_; (case aP => exact k47_mkM _ _ _ (⟨rd t101 x11_1, a0⟩ : S47)); (case aB => exact (by repeat (first | exact HB.out | apply below_alloc | apply pw_below_drewN | apply below_drew1))); (case aF => exact (fun _ _ => trivial)); (case aO => exact HO_5.out); (case aS => exact (below_size (by repeat (first | exact HB.out | apply below_alloc | apply pw_below_drewN | apply below_drew1)))); (case aL => have := LMc9.out; omega); intro v106 w10 ho hb hg hat; rw [← Ny105.out] at ho; have n0_ := Aside0.mk (Kd.R_over' HO_9.out (Kd.R_typed HO_5.out) (by decide) hg); have n1_ := Aside0.mk (hb); have n2_ := Aside0.mk (ho); clear HO_9; clear HB; clear HO_5; have HO_9 := n0_; have HB := n1_; have HO107 := n2_; clear n0_ n1_ n2_; clear ho hb hg hat))
       go_roundg k1
       case measure => have := HK1.out; omega
       case rel => exact ⟨(y105), (wrap64 (x11_1 + 1)), (by first | rfl | (simp; done) | (simp [*]; done)), H', ⟨by have := HK1.out; omega⟩, ⟨by exact HO107.out⟩, ⟨by exact HO_9.out⟩, ⟨by repeat (first | exact HB.out | apply below_alloc | apply pw_below_drewN | apply below_drew1)⟩⟩
      ·rw [if_neg c9] at H
       exact absurd H (by simp)
     ·rw [if_neg c8] at H
      exact absurd H (by simp)
    ·rw [if_neg c7] at H
     exact absurd H (by simp)
   ·rw [if_neg c6] at H
    have c6b0 : decide (x11_1 < (t101.length : Int)) = false := decide_eq_false c6
    clear c6
    obtain rfl := Option.some.inj H
    go_wp2
    go_ret
    exact ⟨_, by first | rfl | (simp [errW_none, errW_some] <;> rfl) | (simp [*, errW_none, errW_some] <;> rfl), by exact HO_5.out, by repeat (first | exact HB.out | apply below_alloc | apply pw_below_drewN | apply below_drew1)⟩

end Go.Proofs.Ytemoocoedibbpab.X

namespace Go.Proofs.Ytemoocoedibbpab.X
open Go.RowKit Go.Proofs.YtemoocoedibbpabW.PrintWords Go.Proofs.YtemoocoedibbpabW.PrintLast Go.Proofs.YtemoocoedibbpabW.PrintMore
attribute [local go_sem] max2_int min2_int max_two min_two max_three min_three max_four min_four
set_option linter.unusedVariables false
set_option linter.unusedSimpArgs false

theorem info5 : (Try.prog.info? 5).map (fun i => (i.zero, i.size, i.bytes)) = some (some (.int .u8 0), 1, 1) := by kernel_rfl
end Go.Proofs.Ytemoocoedibbpab.X

namespace Go.Proofs.Ytemoocoedibbpab.X
open Go.RowKit Go.Proofs.YtemoocoedibbpabW.PrintWords Go.Proofs.YtemoocoedibbpabW.PrintLast Go.Proofs.YtemoocoedibbpabW.PrintMore
attribute [local go_sem] max2_int min2_int max_two min_two max_three min_three max_four min_four
set_option linter.unusedVariables false
set_option linter.unusedSimpArgs false

/-! ### utf8_appendRuneNonASCII: function 163 -/
def utf8_appendRuneNonASCII.j0 : Nat → List Int → Int → Int → Bool → Option (List Int)
 | 0, _, _, _, _ => none
 | k + 1, x0, x1, x5, x25 => if x25 = true then ((some (([Go.bits .or .u8 224 ((x1 / 4096) % 256), 128 + ((x1 / 64) % 64), 128 + (x1 % 64)] : List Int) : List Int)).bind fun y107 => (if x0.length + y107.length < 140737488355328 then (some (x0 ++ y107)) else (none))) else (if x5 > 65535 then (if x5 ≤ 1114111 then ((some (([Go.bits .or .u8 240 ((x1 / 262144) % 256), 128 + ((x1 / 4096) % 64), 128 + ((x1 / 64) % 64), 128 + (x1 % 64)] : List Int) : List Int)).bind fun y113 => (if x0.length + y113.length < 140737488355328 then (some (x0 ++ y113)) else (none))) else ((some (([239, 191, 189] : List Int) : List Int)).bind fun y119 => (if x0.length + y119.length < 140737488355328 then (some (x0 ++ y119)) else (none)))) else ((some (([239, 191, 189] : List Int) : List Int)).bind fun y125 => (if x0.length + y125.length < 140737488355328 then (some (x0 ++ y125)) else (none))))
def utf8_appendRuneNonASCII.f (k : Nat) (l0 : List Int) (a1 : Int) : Option (List Int) := if ((a1) % 4294967296) ≤ 2047 then ((some (([Go.bits .or .u8 192 ((a1 / 64) % 256), 128 + (a1 % 64)] : List Int) : List Int)).bind fun y101 => (if l0.length + y101.length < 140737488355328 then (some (l0 ++ y101)) else (none))) else (if ((a1) % 4294967296) < 55296 then (utf8_appendRuneNonASCII.j0 k l0 a1 ((a1) % 4294967296) (decide (((a1) % 4294967296) < 55296))) else (if 57343 < ((a1) % 4294967296) then (utf8_appendRuneNonASCII.j0 k l0 a1 ((a1) % 4294967296) (decide (((a1) % 4294967296) ≤ 65535))) else (utf8_appendRuneNonASCII.j0 k l0 a1 ((a1) % 4294967296) false)))
theorem utf8_appendRuneNonASCII.mono_l : ∀ k, (∀ y0 y1 y2 y3, LeO (utf8_appendRuneNonASCII.j0 k y0 y1 y2 y3) (utf8_appendRuneNonASCII.j0 (k + 1) y0 y1 y2 y3))
 | 0 => fun _ _ _ _ r h => by simp [utf8_appendRuneNonASCII.j0] at h
 | k + 1 => by
  have ih0 := utf8_appendRuneNonASCII.mono_l k
  ·intro y0 y1 y2 y3
   unfold utf8_appendRuneNonASCII.j0
   repeat' first
   | (with_reducible exact ih0 _ _ _ _)
   | (with_reducible exact LeO.refl _)
   | (with_reducible exact LeO.none _)
   | (with_reducible refine LeO.ite ?_ ?_)
   | (with_reducible refine LeO.bind ?_ (fun _ => ?_))
   | exact ih0 _ _ _ _
   | exact LeO.none _
   | refine LeO.ite ?_ ?_
   | refine LeO.bind ?_ (fun _ => ?_)
theorem utf8_appendRuneNonASCII.mono : ∀ a0 a1 k, LeO (utf8_appendRuneNonASCII.f k a0 a1) (utf8_appendRuneNonASCII.f (k + 1) a0 a1) := by
 intro a0 a1 k
 have ih0 := utf8_appendRuneNonASCII.mono_l k
 unfold utf8_appendRuneNonASCII.f
 repeat' first
   | (with_reducible exact ih0 _ _ _ _)
   | (with_reducible exact LeO.refl _)
   | (with_reducible exact LeO.none _)
   | (with_reducible refine LeO.ite ?_ ?_)
   | (with_reducible refine LeO.bind ?_ (fun _ => ?_))
   | exact ih0 _ _ _ _
   | exact LeO.none _
   | refine LeO.ite ?_ ?_
   | refine LeO.bind ?_ (fun _ => ?_)
set_option maxHeartbeats 8000000 in
set_option maxRecDepth 100000 in
theorem utf8_appendRuneNonASCII.calls (k : Nat) (P0_ : Nat → Prop) (u9000_ : Value) (l0 : List Int) (a1 : Int) (r : List Int) (w0 w : World) (hB : Below w0.heap.size w0 w) (ho0 : Kd.R (Kd.int .u8) 5 w w0.heap.size P0_ u9000_ l0) (h : utf8_appendRuneNonASCII.f k l0 a1 = some r) :
  Calls Try.prog 163 #[u9000_, .int .i32 a1] w fun e w' => ∃ v0_ : Value, e = .returned (v0_) ∧ Kd.R (Kd.int .u8) 5 w' w0.heap.size (fun k_ => (P0_ k_ ∨ w.heap.size ≤ k_)) v0_ r ∧ Below w0.heap.size w0 w' ∧ Kept w w' (fun k_ => P0_ k_) := by
 have HO0 := Aside0.mk (show Kd.R (Kd.int .u8) 5 w w0.heap.size (fun k_ => (P0_ k_ ∨ w.heap.size ≤ k_)) u9000_ l0 from Kd.R_mono ho0 (fun k_ hk => (.inl hk)))
 have HK := Aside0.mk (Kept.refl w (fun k_ => P0_ k_))
 have HW0 := Aside0.mk hB.size
 have HB := Aside0.mk hB
 clear hB
 have H : (if ((a1) % 4294967296) ≤ 2047 then ((some (([Go.bits .or .u8 192 ((a1 / 64) % 256), 128 + (a1 % 64)] : List Int) : List Int)).bind fun y101 => (if l0.length + y101.length < 140737488355328 then (some (l0 ++ y101)) else (none))) else (if ((a1) % 4294967296) < 55296 then (utf8_appendRuneNonASCII.j0 k l0 a1 ((a1) % 4294967296) (decide (((a1) % 4294967296) < 55296))) else (if 57343 < ((a1) % 4294967296) then (utf8_appendRuneNonASCII.j0 k l0 a1 ((a1) % 4294967296) (decide (((a1) % 4294967296) ≤ 65535))) else (utf8_appendRuneNonASCII.j0 k l0 a1 ((a1) % 4294967296) false)))) = some r := h
 clear h
 by_cases c3 : ((a1) % 4294967296) ≤ 2047
 ·rw [if_pos c3] at H
  have c3b0 : decide (((a1) % 4294967296) ≤ 2047) = true := decide_eq_true c3
  clear c3
  obtain ⟨y101, hy101⟩ : ∃ y_ : List Int, y_ = (([Go.bits .or .u8 192 ((a1 / 64) % 256), 128 + (a1 % 64)] : List Int)) := ⟨_, rfl⟩
  replace H : (if l0.length + y101.length < 140737488355328 then (some (l0 ++ y101)) else (none)) = some r := by first | (rw [hy101]; with_reducible exact H) | (have H2_ := (Option.bind_some _ _).symm.trans H; rw [hy101]; with_reducible exact H2_) | (have H2_ := (Option.bind_some _ _).symm.trans H; with_reducible exact H2_) | with_reducible exact H | (rw [hy101]; exact H) | exact H
  have Ny101 := Aside0.mk hy101
  clear hy101
  by_cases c4 : l0.length + y101.length < 140737488355328
  ·rw [if_pos c4] at H
   have LMc4 := Aside0.mk c4
   clear c4
   obtain ⟨y104, hy104⟩ : ∃ y_ : List Int, y_ = (l0 ++ y101) := ⟨_, rfl⟩
   replace H : (some y104) = some r := by first | (rw [hy104]; with_reducible exact H) | (have H2_ := (Option.bind_some _ _).symm.trans H; rw [hy104]; with_reducible exact H2_) | (have H2_ := (Option.bind_some _ _).symm.trans H; with_reducible exact H2_) | with_reducible exact H | (rw [hy104]; exact H) | exact H
   have Ny104 := Aside0.mk hy104
   clear hy104
   obtain rfl := Option.some.inj H
   go_enter Try.func163, Try.ntmps163
   go_wp2_with (first | ((with_reducible refine gate_dst (N := 23) rfl ?_); refine Kd.R_lit (Kd.int .u8) _ 5 ?hg (N := 23) ?hd (xs := ([Go.bits .or .u8 192 ((a1 / 64) % 256), 128 + (a1 % 64)] : List Int)) (inner := [.int .u8 (Go.bits .or .u8 192 ((a1 / 64) % 256)), .int .u8 (128 + (a1 % 64))]) (ok := fun _ => True) (okp := fun _ => True) ?hr ?hp (fun _ hk => hk) trivial (Below.refl _ _) (Nat.le_refl _) (by simp) ?_; (case hd => rfl); (case hg => rfl); (case hr => first | (go_simp; done) | (go_simp; rfl)); (case hp => exact (Reps.one (show Kd.M (Kd.int .u8) _ _ _ (Go.bits .or .u8 192 ((a1 / 64) % 256)) [.int .u8 (Go.bits .or .u8 192 ((a1 / 64) % 256))] from rfl) (Reps.one (show Kd.M (Kd.int .u8) _ _ _ (128 + (a1 % 64)) [.int .u8 (128 + (a1 % 64))] from rfl) (Reps.none _ _)))); intro v102 w5 ho6 hb hg_ hnew_; clear hg_ hnew_; (first | rw [← Ny101.out] at ho6 | (simp only [Int.reduceToNat] at ho6; rw [← Ny101.out] at ho6)); have HO103 := a0 (Kd.R_lower (Kd.R_new' (Kd.R_newM (M := fun k_ => (P0_ k_ ∨ w.heap.size ≤ k_)) ho6 (by first | exact HK.out.1 | exact (show Kept w _ (fun k_ => P0_ k_) from by repeat (first | (with_reducible first | exact HK.out | apply Kept.alloc | apply Kept.drewN | apply Kept.drew) | exact HK.out)).1) (fun k_ h_ => .inr h_)) (Kd.R_lt HO0.out)) (below_size HB.out)); replace HO0 := a0 (Kd.R_elder' HO0.out (Kd.R_base ho6) hb); replace HK := a0 (Kept.below (S := (fun k_ => P0_ k_)) (by repeat (first | (with_reducible first | exact HK.out | apply Kept.alloc | apply Kept.drewN | apply Kept.drew) | exact HK.out)) hb); replace HB := a0 (below_step HB.out hb); clear hb ho6; obtain ⟨Ao8, co8, eo8⟩ := Kd.R_slice HO103.out; subst eo8) | ((with_reducible refine gate_builtin (b := .append) (xs := #[.tmp 14, .tmp 23]) rfl ?_); at_builtin; refine Kd.R_append_rows (Kd.int .u8) (w0 := w0) w0.heap.size rfl (.tmp 14) (.tmp 23) 145 5 (.int .u8 0) 1 rfl Try.underlying145 info5 rfl (by decide) (by omega) u9000_ l0 y101 _ _ _ (fun k_ => (P0_ k_ ∨ w.heap.size ≤ k_) ∧ some k_ ≠ (.slice Ao8 y101.length co8 : Value).ownBlock) (fun _ => False) rfl rfl ?aO ?aR (fun _ _ h => h) (fun _ h => h.elim) ?aF ?aB ?aS ?aL ?_; (case aR => repeat (first | exact (Kd.R_reads' HO103.out).2.2 | (with_reducible refine Kd.C_alloc ?_ _) | (with_reducible refine Kd.C_drewN ?_ _) | (with_reducible refine Kd.C_drew ?_))); (case aB => exact HB.out); (case aF => exact (fun k_ hk => ⟨(.inr (Nat.le_trans (by first | exact HK.out.1 | exact (show Kept w _ (fun k_ => P0_ k_) from by repeat (first | (with_reducible first | exact HK.out | apply Kept.alloc | apply Kept.drewN | apply Kept.drew) | exact HK.out)).1) hk)), Kd.fresh' (Kd.R_lt HO103.out) k_ hk⟩)); (case aO => exact HO0.out); (case aS => exact (below_size HB.out)); (case aL => have := LMc4.out; omega); intro v105 w7 ho hb hg hat; rw [← Ny104.out] at ho; have n0_ := Aside0.mk (Kd.R_after (ok := (fun k_ => (P0_ k_ ∨ w.heap.size ≤ k_))) (Kd.R_mono HO103.out (fun _ hk => ⟨hk.1.1, hk.2⟩)) hg hat); have n1_ := Aside0.mk (hb); have n2_ := Aside0.mk (Kept.of_grown (S := (fun k_ => P0_ k_)) hg (by repeat (first | (with_reducible first | exact HK.out | apply Kept.alloc | apply Kept.drewN | apply Kept.drew) | exact HK.out)) (fun k_ e_ => (HO0.out.1 k_ e_).1)); have n3_ := Aside0.mk (ho); clear HO103; clear HB; clear HK; clear HO0; have HO103 := n0_; have HB := n1_; have HK := n2_; have HO106 := n3_; clear n0_ n1_ n2_ n3_; clear ho hb hg hat))
   go_ret
   exact ⟨_, by first | rfl | (simp [errW_none, errW_some] <;> rfl) | (simp [*, errW_none, errW_some] <;> rfl), by exact Kd.R_mono HO106.out (fun _ hk => hk.1), by repeat (first | (with_reducible first | exact HB.out | apply below_alloc | apply pw_below_drewN | apply below_drew1) | exact HB.out), by repeat (first | (with_reducible first | exact HK.out | apply Kept.alloc | apply Kept.drewN | apply Kept.drew) | exact HK.out)⟩
  ·rw [if_neg c4] at H
   exact absurd H (by simp)
 ·rw [if_neg c3] at H
  have c3b0 : decide (((a1) % 4294967296) ≤ 2047) = false := decide_eq_false c3
  clear c3
  have HC9 := Aside0.mk H
  clear H
  go_enter Try.func163, Try.ntmps163
  go_upto_if 25 with (fail)
  go_cut [25] (fun v25 wc => ∃ (kq : Nat) (x25_8 : Bool), v25 = .bool x25_8 ∧ Aside0 (utf8_appendRuneNonASCII.j0 kq l0 a1 ((a1) % 4294967296) x25_8 = some r) ∧ Aside0 (kq ≤ k) ∧ Aside0 (Kd.R (Kd.int .u8) 5 wc w0.heap.size (fun k_ => (P0_ k_ ∨ w.heap.size ≤ k_)) u9000_ l0) ∧ Aside0 (Kept w wc (fun k_ => P0_ k_)) ∧ Aside0 (Below w0.heap.size w0 wc))
  case first =>
   have H := HC9.out
   clear HC9
   by_cases c10 : ((a1) % 4294967296) < 55296
   ·rw [if_pos c10] at H
    have c10b0 : decide (((a1) % 4294967296) < 55296) = true := decide_eq_true c10
    clear c10
    (first | rw [c10b0] | (simp only [i64_w, i32_w]; rw [c10b0]) | skip)
    have H' := Aside0.mk H
    clear H
    go_wp2
    go_meet
    case rel => exact ⟨_, (decide (((a1) % 4294967296) < 55296)), (by first | rfl | (simp; done) | (simp [*]; done)), H', ⟨by first | omega | exact Nat.le_refl _⟩, ⟨by exact HO0.out⟩, ⟨by repeat (first | (with_reducible first | exact HK.out | apply Kept.alloc | apply Kept.drewN | apply Kept.drew) | exact HK.out)⟩, ⟨by repeat (first | (with_reducible first | exact HB.out | apply below_alloc | apply pw_below_drewN | apply below_drew1) | exact HB.out)⟩⟩
   ·rw [if_neg c10] at H
    have c10b0 : decide (((a1) % 4294967296) < 55296) = false := decide_eq_false c10
    clear c10
    (first | rw [c10b0] | (simp only [i64_w, i32_w]; rw [c10b0]) | skip)
    by_cases c11 : 57343 < ((a1) % 4294967296)
    ·rw [if_pos c11] at H
     have c11b0 : decide (57343 < ((a1) % 4294967296)) = true := decide_eq_true c11
     clear c11
     have H' := Aside0.mk H
     clear H
     go_wp2
     go_meet
     case rel => exact ⟨_, (decide (((a1) % 4294967296) ≤ 65535)), (by first | rfl | (simp; done) | (simp [*]; done)), H', ⟨by first | omega | exact Nat.le_refl _⟩, ⟨by exact HO0.out⟩, ⟨by repeat (first | (with_reducible first | exact HK.out | apply Kept.alloc | apply Kept.drewN | apply Kept.drew) | exact HK.out)⟩, ⟨by repeat (first | (with_reducible first | exact HB.out | apply below_alloc | apply pw_below_drewN | apply below_drew1) | exact HB.out)⟩⟩
    ·rw [if_neg c11] at H
     have c11b0 : decide (57343 < ((a1) % 4294967296)) = false := decide_eq_false c11
     clear c11
     have H' := Aside0.mk H
     clear H
     go_wp2
     go_meet
     case rel => exact ⟨_, (false), (by first | rfl | (simp; done) | (simp [*]; done)), H', ⟨by first | omega | exact Nat.le_refl _⟩, ⟨by exact HO0.out⟩, ⟨by repeat (first | (with_reducible first | exact HK.out | apply Kept.alloc | apply Kept.drewN | apply Kept.drew) | exact HK.out)⟩, ⟨by repeat (first | (with_reducible first | exact HB.out | apply below_alloc | apply pw_below_drewN | apply below_drew1) | exact HB.out)⟩⟩
  case rest =>
   clear HC9
   try clear c1
   try clear p2
   try clear c3
   try clear c3b0
   try clear c4
   try clear c10
   try clear c10b0
   try clear c11
   try clear c11b0
   obtain ⟨kq, x25_8, rfl, HA, HJ8, HO_0, HK, HB⟩ := hcut
   cases kq with
   | zero => exact absurd HA.out (by simp [utf8_appendRuneNonASCII.j0])
   | succ kj8 =>
    have H := HA.out
    clear HA
    simp only [utf8_appendRuneNonASCII.j0] at H
    by_cases c12 : x25_8 = true
    ·subst c12
     have H1 : ((some (([Go.bits .or .u8 224 ((a1 / 4096) % 256), 128 + ((a1 / 64) % 64), 128 + (a1 % 64)] : List Int) : List Int)).bind fun y107 => (if l0.length + y107.length < 140737488355328 then (some (l0 ++ y107)) else (none))) = some r := by rw [if_pos rfl] at H; exact H
     clear H
     have H := H1
     clear H1
     obtain ⟨y107, hy107⟩ : ∃ y_ : List Int, y_ = (([Go.bits .or .u8 224 ((a1 / 4096) % 256), 128 + ((a1 / 64) % 64), 128 + (a1 % 64)] : List Int)) := ⟨_, rfl⟩
     replace H : (if l0.length + y107.length < 140737488355328 then (some (l0 ++ y107)) else (none)) = some r := by first | (rw [hy107]; with_reducible exact H) | (have H2_ := (Option.bind_some _ _).symm.trans H; rw [hy107]; with_reducible exact H2_) | (have H2_ := (Option.bind_some _ _).symm.trans H; with_reducible exact H2_) | with_reducible exact H | (rw [hy107]; exact H) | exact H
     have Ny107 := Aside0.mk hy107
     clear hy107
     by_cases c13 : l0.length + y107.length < 140737488355328
     ·rw [if_pos c13] at H
      have LMc13 := Aside0.mk c13
      clear c13
      obtain ⟨y110, hy110⟩ : ∃ y_ : List Int, y_ = (l0 ++ y107) := ⟨_, rfl⟩
      replace H : (some y110) = some r := by first | (rw [hy110]; with_reducible exact H) | (have H2_ := (Option.bind_some _ _).symm.trans H; rw [hy110]; with_reducible exact H2_) | (have H2_ := (Option.bind_some _ _).symm.trans H; with_reducible exact H2_) | with_reducible exact H | (rw [hy110]; exact H) | exact H
      have Ny110 := Aside0.mk hy110
      clear hy110
      obtain rfl := Option.some.inj H
      go_wp2_with (first | ((with_reducible refine gate_dst (N := 48) rfl ?_); refine Kd.R_lit (Kd.int .u8) _ 5 ?hg (N := 48) ?hd (xs := ([Go.bits .or .u8 224 ((a1 / 4096) % 256), 128 + ((a1 / 64) % 64), 128 + (a1 % 64)] : List Int)) (inner := [.int .u8 (Go.bits .or .u8 224 ((a1 / 4096) % 256)), .int .u8 (128 + ((a1 / 64) % 64)), .int .u8 (128 + (a1 % 64))]) (ok := fun _ => True) (okp := fun _ => True) ?hr ?hp (fun _ hk => hk) trivial (Below.refl _ _) (Nat.le_refl _) (by simp) ?_; (case hd => rfl); (case hg => rfl); (case hr => first | (go_simp; done) | (go_simp; rfl)); (case hp => exact (Reps.one (show Kd.M (Kd.int .u8) _ _ _ (Go.bits .or .u8 224 ((a1 / 4096) % 256)) [.int .u8 (Go.bits .or .u8 224 ((a1 / 4096) % 256))] from rfl) (Reps.one (show Kd.M (Kd.int .u8) _ _ _ (128 + ((a1 / 64) % 64)) [.int .u8 (128 + ((a1 / 64) % 64))] from rfl) (Reps.one (show Kd.M (Kd.int .u8) _ _ _ (128 + (a1 % 64)) [.int .u8 (128 + (a1 % 64))] from rfl) (Reps.none _ _))))); intro v108 w14 ho15 hb hg_ hnew_; clear hg_ hnew_; (first | rw [← Ny107.out] at ho15 | (simp only [Int.reduceToNat] at ho15; rw [← Ny107.out] at ho15)); have HO109 := a0 (Kd.R_lower (Kd.R_new' (Kd.R_newM (M := fun k_ => (P0_ k_ ∨ w.heap.size ≤ k_)) ho15 (by first | exact HK.out.1 | exact (show Kept w _ (fun k_ => P0_ k_) from by repeat (first | (with_reducible first | exact HK.out | apply Kept.alloc | apply Kept.drewN | apply Kept.drew) | exact HK.out)).1) (fun k_ h_ => .inr h_)) (Kd.R_lt HO_0.out)) (below_size HB.out)); replace HO_0 := a0 (Kd.R_elder' HO_0.out (Kd.R_base ho15) hb); replace HK := a0 (Kept.below (S := (fun k_ => P0_ k_)) (by repeat (first | (with_reducible first | exact HK.out | apply Kept.alloc | apply Kept.drewN | apply Kept.drew) | exact HK.out)) hb); replace HB := a0 (below_step HB.out hb); clear hb ho15; obtain ⟨Ao17, co17, eo17⟩ := Kd.R_slice HO109.out; subst eo17) | ((with_reducible refine gate_builtin (b := .append) (xs := #[.tmp 34, .tmp 48]) rfl ?_); at_builtin; refine Kd.R_append_rows (Kd.int .u8) (w0 := w0) w0.heap.size rfl (.tmp 34) (.tmp 48) 145 5 (.int .u8 0) 1 rfl Try.underlying145 info5 rfl (by decide) (by omega) u9000_ l0 y107 _ _ _ (fun k_ => (P0_ k_ ∨ w.heap.size ≤ k_) ∧ some k_ ≠ (.slice Ao17 y107.length co17 : Value).ownBlock) (fun _ => False) rfl rfl ?aO ?aR (fun _ _ h => h) (fun _ h => h.elim) ?aF ?aB ?aS ?aL ?_; (case aR => repeat (first | exact (Kd.R_reads' HO109.out).2.2 | (with_reducible refine Kd.C_alloc ?_ _) | (with_reducible refine Kd.C_drewN ?_ _) | (with_reducible refine Kd.C_drew ?_))); (case aB => exact HB.out); (case aF => exact (fun k_ hk => ⟨(.inr (Nat.le_trans (by first | exact HK.out.1 | exact (show Kept w _ (fun k_ => P0_ k_) from by repeat (first | (with_reducible first | exact HK.out | apply Kept.alloc | apply Kept.drewN | apply Kept.drew) | exact HK.out)).1) hk)), Kd.fresh' (Kd.R_lt HO109.out) k_ hk⟩)); (case aO => exact HO_0.out); (case aS => exact (below_size HB.out)); (case aL => have := LMc13.out; omega); intro v111 w16 ho hb hg hat; rw [← Ny110.out] at ho; have n0_ := Aside0.mk (Kd.R_after (ok := (fun k_ => (P0_ k_ ∨ w.heap.size ≤ k_))) (Kd.R_mono HO109.out (fun _ hk => ⟨hk.1.1, hk.2⟩)) hg hat); have n1_ := Aside0.mk (hb); have n2_ := Aside0.mk (Kept.of_grown (S := (fun k_ => P0_ k_)) hg (by repeat (first | (with_reducible first | exact HK.out | apply Kept.alloc | apply Kept.drewN | apply Kept.drew) | exact HK.out)) (fun k_ e_ => (HO_0.out.1 k_ e_).1)); have n3_ := Aside0.mk (ho); clear HO109; clear HB; clear HK; clear HO_0; have HO109 := n0_; have HB := n1_; have HK := n2_; have HO112 := n3_; clear n0_ n1_ n2_ n3_; clear ho hb hg hat))
      go_ret
      exact ⟨_, by first | rfl | (simp [errW_none, errW_some] <;> rfl) | (simp [*, errW_none, errW_some] <;> rfl), by exact Kd.R_mono HO112.out (fun _ hk => hk.1), by repeat (first | (with_reducible first | exact HB.out | apply below_alloc | apply pw_below_drewN | apply below_drew1) | exact HB.out), by repeat (first | (with_reducible first | exact HK.out | apply Kept.alloc | apply Kept.drewN | apply Kept.drew) | exact HK.out)⟩
     ·rw [if_neg c13] at H
      exact absurd H (by simp)
    ·replace c12 := Bool.eq_false_iff.mpr c12
     subst c12
     have H1 : (if ((a1) % 4294967296) > 65535 then (if ((a1) % 4294967296) ≤ 1114111 then ((some (([Go.bits .or .u8 240 ((a1 / 262144) % 256), 128 + ((a1 / 4096) % 64), 128 + ((a1 / 64) % 64), 128 + (a1 % 64)] : List Int) : List Int)).bind fun y113 => (if l0.length + y113.length < 140737488355328 then (some (l0 ++ y113)) else (none))) else ((some (([239, 191, 189] : List Int) : List Int)).bind fun y119 => (if l0.length + y119.length < 140737488355328 then (some (l0 ++ y119)) else (none)))) else ((some (([239, 191, 189] : List Int) : List Int)).bind fun y125 => (if l0.length + y125.length < 140737488355328 then (some (l0 ++ y125)) else (none)))) = some r := by rw [if_neg (show ¬ (false = true) by decide)] at H; exact H
     clear H
     have H := H1
     clear H1
     by_cases c18 : ((a1) % 4294967296) > 65535
     ·rw [if_pos c18] at H
      have c18b0 : decide (65535 < ((a1) % 4294967296)) = true := decide_eq_true c18
      clear c18
      by_cases c19 : ((a1) % 4294967296) ≤ 1114111
      ·rw [if_pos c19] at H
       have c19b0 : decide (((a1) % 4294967296) ≤ 1114111) = true := decide_eq_true c19
       clear c19
       obtain ⟨y113, hy113⟩ : ∃ y_ : List Int, y_ = (([Go.bits .or .u8 240 ((a1 / 262144) % 256), 128 + ((a1 / 4096) % 64), 128 + ((a1 / 64) % 64), 128 + (a1 % 64)] : List Int)) := ⟨_, rfl⟩
       replace H : (if l0.length + y113.length < 140737488355328 then (some (l0 ++ y113)) else (none)) = some r := by first | (rw [hy113]; with_reducible exact H) | (have H2_ := (Option.bind_some _ _).symm.trans H; rw [hy113]; with_reducible exact H2_) | (have H2_ := (Option.bind_some _ _).symm.trans H; with_reducible exact H2_) | with_reducible exact H | (rw [hy113]; exact H) | exact H
       have Ny113 := Aside0.mk hy113
       clear hy113
       by_cases c20 : l0.length + y113.length < 140737488355328
       ·rw [if_pos c20] at H
        have LMc20 := Aside0.mk c20
        clear c20
        obtain ⟨y116, hy116⟩ : ∃ y_ : List Int, y_ = (l0 ++ y113) := ⟨_, rfl⟩
        replace H : (some y116) = some r := by first | (rw [hy116]; with_reducible exact H) | (have H2_ := (Option.bind_some _ _).symm.trans H; rw [hy116]; with_reducible exact H2_) | (have H2_ := (Option.bind_some _ _).symm.trans H; with_reducible exact H2_) | with_reducible exact H | (rw [hy116]; exact H) | exact H
        have Ny116 := Aside0.mk hy116
        clear hy116
        obtain rfl := Option.some.inj H
        go_wp2_with (first | ((with_reducible refine gate_dst (N := 76) rfl ?_); refine Kd.R_lit (Kd.int .u8) _ 5 ?hg (N := 76) ?hd (xs := ([Go.bits .or .u8 240 ((a1 / 262144) % 256), 128 + ((a1 / 4096) % 64), 128 + ((a1 / 64) % 64), 128 + (a1 % 64)] : List Int)) (inner := [.int .u8 (Go.bits .or .u8 240 ((a1 / 262144) % 256)), .int .u8 (128 + ((a1 / 4096) % 64)), .int .u8 (128 + ((a1 / 64) % 64)), .int .u8 (128 + (a1 % 64))]) (ok := fun _ => True) (okp := fun _ => True) ?hr ?hp (fun _ hk => hk) trivial (Below.refl _ _) (Nat.le_refl _) (by simp) ?_; (case hd => rfl); (case hg => rfl); (case hr => first | (go_simp; done) | (go_simp; rfl)); (case hp => exact (Reps.one (show Kd.M (Kd.int .u8) _ _ _ (Go.bits .or .u8 240 ((a1 / 262144) % 256)) [.int .u8 (Go.bits .or .u8 240 ((a1 / 262144) % 256))] from rfl) (Reps.one (show Kd.M (Kd.int .u8) _ _ _ (128 + ((a1 / 4096) % 64)) [.int .u8 (128 + ((a1 / 4096) % 64))] from rfl) (Reps.one (show Kd.M (Kd.int .u8) _ _ _ (128 + ((a1 / 64) % 64)) [.int .u8 (128 + ((a1 / 64) % 64))] from rfl) (Reps.one (show Kd.M (Kd.int .u8) _ _ _ (128 + (a1 % 64)) [.int .u8 (128 + (a1 % 64))] from rfl) (Reps.none _ _)))))); intro v114 w21 ho22 hb hg_ hnew_; clear hg_ hnew_; (first | rw [← Ny113.out] at ho22 | (simp only [Int.reduceToNat] at ho22; rw [← Ny113.out] at ho22)); have HO115 := a0 (Kd.R_lower (Kd.R_new' (Kd.R_newM (M := fun k_ => (P0_ k_ ∨ w.heap.size ≤ k_)) ho22 (by first | exact HK.out.1 | exact (show Kept w _ (fun k_ => P0_ k_) from by repeat (first | (with_reducible first | exact HK.out | apply Kept.alloc | apply Kept.drewN | apply Kept.drew) | exact HK.out)).1) (fun k_ h_ => .inr h_)) (Kd.R_lt HO_0.out)) (below_size HB.out)); replace HO_0 := a0 (Kd.R_elder' HO_0.out (Kd.R_base ho22) hb); replace HK := a0 (Kept.below (S := (fun k_ => P0_ k_)) (by repeat (first | (with_reducible first | exact HK.out | apply Kept.alloc | apply Kept.drewN | apply Kept.drew) | exact HK.out)) hb); replace HB := a0 (below_step HB.out hb); clear hb ho22; obtain ⟨Ao24, co24, eo24⟩ := Kd.R_slice HO115.out; subst eo24) | ((with_reducible refine gate_builtin (b := .append) (xs := #[.tmp 57, .tmp 76]) rfl ?_); at_builtin; refine Kd.R_append_rows (Kd.int .u8) (w0 := w0) w0.heap.size rfl (.tmp 57) (.tmp 76) 145 5 (.int .u8 0) 1 rfl Try.underlying145 info5 rfl (by decide) (by omega) u9000_ l0 y113 _ _ _ (fun k_ => (P0_ k_ ∨ w.heap.size ≤ k_) ∧ some k_ ≠ (.slice Ao24 y113.length co24 : Value).ownBlock) (fun _ => False) rfl rfl ?aO ?aR (fun _ _ h => h) (fun _ h => h.elim) ?aF ?aB ?aS ?aL ?_; (case aR => repeat (first | exact (Kd.R_reads' HO115.out).2.2 | (with_reducible refine Kd.C_alloc ?_ _) | (with_reducible refine Kd.C_drewN ?_ _) | (with_reducible refine Kd.C_drew ?_))); (case aB => exact HB.out); (case aF => exact (fun k_ hk => ⟨(.inr (Nat.le_trans (by first | exact HK.out.1 | exact (show Kept w _ (fun k_ => P0_ k_) from by repeat (first | (with_reducible first | exact HK.out | apply Kept.alloc | apply Kept.drewN | apply Kept.drew) | exact HK.out)).1) hk)), Kd.fresh' (Kd.R_lt HO115.out) k_ hk⟩)); (case aO => exact HO_0.out); (case aS => exact (below_size HB.out)); (case aL => have := LMc20.out; omega); intro v117 w23 ho hb hg hat; rw [← Ny116.out] at ho; have n0_ := Aside0.mk (Kd.R_after (ok := (fun k_ => (P0_ k_ ∨ w.heap.size ≤ k_))) (Kd.R_mono HO115.out (fun _ hk => ⟨hk.1.1, hk.2⟩)) hg hat); have n1_ := Aside0.mk (hb); have n2_ := Aside0.mk (Kept.of_grown (S := (fun k_ => P0_ k_)) hg (by repeat (first | (with_reducible first | exact HK.out | apply Kept.alloc | apply Kept.drewN | apply Kept.drew) | exact HK.out)) (fun k_ e_ => (HO_0.out.1 k_ e_).1)); have n3_ := Aside0.mk (ho); clear HO115; clear HB; clear HK; clear HO_0; have HO115 := n0_; have HB := n1_; have HK := n2_; have HO118 := n3_; clear n0_ n1_ n2_ n3_; clear ho hb hg hat))
        go_ret
        exact ⟨_, by first | rfl | (simp [errW_none, errW_some] <;> rfl) | (simp [*, errW_none, errW_some] <;> rfl), by exact Kd.R_mono HO118.out (fun _ hk => hk.1), by repeat (first | (with_reducible first | exact HB.out | apply below_alloc | apply pw_below_drewN | apply below_drew1) | exact HB.out), by repeat (first | (with_reducible first | exact HK.out | apply Kept.alloc | apply Kept.drewN | apply Kept.drew) | exact HK.out)⟩
       ·rw [if_neg c20] at H
        exact absurd H (by simp)
      ·rw [if_neg c19] at H
       have c19b0 : decide (((a1) % 4294967296) ≤ 1114111) = false := decide_eq_false c19
       clear c19
       obtain ⟨y119, hy119⟩ : ∃ y_ : List Int, y_ = (([239, 191, 189] : List Int)) := ⟨_, rfl⟩
       replace H : (if l0.length + y119.length < 140737488355328 then (some (l0 ++ y119)) else (none)) = some r := by first | (rw [hy119]; with_reducible exact H) | (have H2_ := (Option.bind_some _ _).symm.trans H; rw [hy119]; with_reducible exact H2_) | (have H2_ := (Option.bind_some _ _).symm.trans H; with_reducible exact H2_) | with_reducible exact H | (rw [hy119]; exact H) | exact H
       have Ny119 := Aside0.mk hy119
       clear hy119
       by_cases c25 : l0.length + y119.length < 140737488355328
       ·rw [if_pos c25] at H
        have LMc25 := Aside0.mk c25
        clear c25
        obtain ⟨y122, hy122⟩ : ∃ y_ : List Int, y_ = (l0 ++ y119) := ⟨_, rfl⟩
        replace H : (some y122) = some r := by first | (rw [hy122]; with_reducible exact H) | (have H2_ := (Option.bind_some _ _).symm.trans H; rw [hy122]; with_reducible exact H2_) | (have H2_ := (Option.bind_some _ _).symm.trans H; with_reducible exact H2_) | with_reducible exact H | (rw [hy122]; exact H) | exact H
        have Ny122 := Aside0.mk hy122
        clear hy122
        obtain rfl := Option.some.inj H
        go_wp2_with (first | ((with_reducible refine gate_dst (N := 9) rfl ?_); refine Kd.R_lit (Kd.int .u8) _ 5 ?hg (N := 9) ?hd (xs := ([239, 191, 189] : List Int)) (inner := [.int .u8 239, .int .u8 191, .int .u8 189]) (ok := fun _ => True) (okp := fun _ => True) ?hr ?hp (fun _ hk => hk) trivial (Below.refl _ _) (Nat.le_refl _) (by simp) ?_; (case hd => rfl); (case hg => rfl); (case hr => first | (go_simp; done) | (go_simp; rfl)); (case hp => exact (repsJ .u8 [239, 191, 189])); intro v120 w26 ho27 hb hg_ hnew_; clear hg_ hnew_; (first | rw [← Ny119.out] at ho27 | (simp only [Int.reduceToNat] at ho27; rw [← Ny119.out] at ho27)); have HO121 := a0 (Kd.R_lower (Kd.R_new' (Kd.R_newM (M := fun k_ => (P0_ k_ ∨ w.heap.size ≤ k_)) ho27 (by first | exact HK.out.1 | exact (show Kept w _ (fun k_ => P0_ k_) from by repeat (first | (with_reducible first | exact HK.out | apply Kept.alloc | apply Kept.drewN | apply Kept.drew) | exact HK.out)).1) (fun k_ h_ => .inr h_)) (Kd.R_lt HO_0.out)) (below_size HB.out)); replace HO_0 := a0 (Kd.R_elder' HO_0.out (Kd.R_base ho27) hb); replace HK := a0 (Kept.below (S := (fun k_ => P0_ k_)) (by repeat (first | (with_reducible first | exact HK.out | apply Kept.alloc | apply Kept.drewN | apply Kept.drew) | exact HK.out)) hb); replace HB := a0 (below_step HB.out hb); clear hb ho27; obtain ⟨Ao29, co29, eo29⟩ := Kd.R_slice HO121.out; subst eo29) | ((with_reducible refine gate_builtin (b := .append) (xs := #[.tmp 8, .tmp 9]) rfl ?_); at_builtin; refine Kd.R_append_rows (Kd.int .u8) (w0 := w0) w0.heap.size rfl (.tmp 8) (.tmp 9) 145 5 (.int .u8 0) 1 rfl Try.underlying145 info5 rfl (by decide) (by omega) u9000_ l0 y119 _ _ _ (fun k_ => (P0_ k_ ∨ w.heap.size ≤ k_) ∧ some k_ ≠ (.slice Ao29 y119.length co29 : Value).ownBlock) (fun _ => False) rfl rfl ?aO ?aR (fun _ _ h => h) (fun _ h => h.elim) ?aF ?aB ?aS ?aL ?_; (case aR => repeat (first | exact (Kd.R_reads' HO121.out).2.2 | (with_reducible refine Kd.C_alloc ?_ _) | (with_reducible refine Kd.C_drewN ?_ _) | (with_reducible refine Kd.C_drew ?_))); (case aB => exact HB.out); (case aF => exact (fun k_ hk => ⟨(.inr (Nat.le_trans (by first | exact HK.out.1 | exact (show Kept w _ (fun k_ => P0_ k_) from by repeat (first | (with_reducible first | exact HK.out | apply Kept.alloc | apply Kept.drewN | apply Kept.drew) | exact HK.out)).1) hk)), Kd.fresh' (Kd.R_lt HO121.out) k_ hk⟩)); (case aO => exact HO_0.out); (case aS => exact (below_size HB.out)); (case aL => have := LMc25.out; omega); intro v123 w28 ho hb hg hat; rw [← Ny122.out] at ho; have n0_ := Aside0.mk (Kd.R_after (ok := (fun k_ => (P0_ k_ ∨ w.heap.size ≤ k_))) (Kd.R_mono HO121.out (fun _ hk => ⟨hk.1.1, hk.2⟩)) hg hat); have n1_ := Aside0.mk (hb); have n2_ := Aside0.mk (Kept.of_grown (S := (fun k_ => P0_ k_)) hg (by repeat (first | (with_reducible first | exact HK.out | apply Kept.alloc | apply Kept.drewN | apply Kept.drew) | exact HK.out)) (fun k_ e_ => (HO_0.out.1 k_ e_).1)); have n3_ := Aside0.mk (ho); clear HO121; clear HB; clear HK; clear HO_0; have HO121 := n0_; have HB := n1_; have HK := n2_; have HO124 := n3_; clear n0_ n1_ n2_ n3_; clear ho hb hg hat))
        go_ret
        exact ⟨_, by first | rfl | (simp [errW_none, errW_some] <;> rfl) | (simp [*, errW_none, errW_some] <;> rfl), by exact Kd.R_mono HO124.out (fun _ hk => hk.1), by repeat (first | (with_reducible first | exact HB.out | apply below_alloc | apply pw_below_drewN | apply below_drew1) | exact HB.out), by repeat (first | (with_reducible first | exact HK.out | apply Kept.alloc | apply Kept.drewN | apply Kept.drew) | exact HK.out)⟩
       ·rw [if_neg c25] at H
        exact absurd H (by simp)
     ·rw [if_neg c18] at H
      have c18b0 : decide (65535 < ((a1) % 4294967296)) = false := decide_eq_false c18
      clear c18
      obtain ⟨y125, hy125⟩ : ∃ y_ : List Int, y_ = (([239, 191, 189] : List Int)) := ⟨_, rfl⟩
      replace H : (if l0.length + y125.length < 140737488355328 then (some (l0 ++ y125)) else (none)) = some r := by first | (rw [hy125]; with_reducible exact H) | (have H2_ := (Option.bind_some _ _).symm.trans H; rw [hy125]; with_reducible exact H2_) | (have H2_ := (Option.bind_some _ _).symm.trans H; with_reducible exact H2_) | with_reducible exact H | (rw [hy125]; exact H) | exact H
      have Ny125 := Aside0.mk hy125
      clear hy125
      by_cases c30 : l0.length + y125.length < 140737488355328
      ·rw [if_pos c30] at H
       have LMc30 := Aside0.mk c30
       clear c30
       obtain ⟨y128, hy128⟩ : ∃ y_ : List Int, y_ = (l0 ++ y125) := ⟨_, rfl⟩
       replace H : (some y128) = some r := by first | (rw [hy128]; with_reducible exact H) | (have H2_ := (Option.bind_some _ _).symm.trans H; rw [hy128]; with_reducible exact H2_) | (have H2_ := (Option.bind_some _ _).symm.trans H; with_reducible exact H2_) | with_reducible exact H | (rw [hy128]; exact H) | exact H
       have Ny128 := Aside0.mk hy128
       clear hy128
       obtain rfl := Option.some.inj H
       go_wp2_with (first | ((with_reducible refine gate_dst (N := 9) rfl ?_); refine Kd.R_lit (Kd.int .u8) _ 5 ?hg (N := 9) ?hd (xs := ([239, 191, 189] : List Int)) (inner := [.int .u8 239, .int .u8 191, .int .u8 189]) (ok := fun _ => True) (okp := fun _ => True) ?hr ?hp (fun _ hk => hk) trivial (Below.refl _ _) (Nat.le_refl _) (by simp) ?_; (case hd => rfl); (case hg => rfl); (case hr => first | (go_simp; done) | (go_simp; rfl)); (case hp => exact (repsJ .u8 [239, 191, 189])); intro v126 w31 ho32 hb hg_ hnew_; clear hg_ hnew_; (first | rw [← Ny125.out] at ho32 | (simp only [Int.reduceToNat] at ho32; rw [← Ny125.out] at ho32)); have HO127 := a0 (Kd.R_lower (Kd.R_new' (Kd.R_newM (M := fun k_ => (P0_ k_ ∨ w.heap.size ≤ k_)) ho32 (by first | exact HK.out.1 | exact (show Kept w _ (fun k_ => P0_ k_) from by repeat (first | (with_reducible first | exact HK.out | apply Kept.alloc | apply Kept.drewN | apply Kept.drew) | exact HK.out)).1) (fun k_ h_ => .inr h_)) (Kd.R_lt HO_0.out)) (below_size HB.out)); replace HO_0 := a0 (Kd.R_elder' HO_0.out (Kd.R_base ho32) hb); replace HK := a0 (Kept.below (S := (fun k_ => P0_ k_)) (by repeat (first | (with_reducible first | exact HK.out | apply Kept.alloc | apply Kept.drewN | apply Kept.drew) | exact HK.out)) hb); replace HB := a0 (below_step HB.out hb); clear hb ho32; obtain ⟨Ao34, co34, eo34⟩ := Kd.R_slice HO127.out; subst eo34) | ((with_reducible refine gate_builtin (b := .append) (xs := #[.tmp 8, .tmp 9]) rfl ?_); at_builtin; refine Kd.R_append_rows (Kd.int .u8) (w0 := w0) w0.heap.size rfl (.tmp 8) (.tmp 9) 145 5 (.int .u8 0) 1 rfl Try.underlying145 info5 rfl (by decide) (by omega) u9000_ l0 y125 _ _ _ (fun k_ => (P0_ k_ ∨ w.heap.size ≤ k_) ∧ some k_ ≠ (.slice Ao34 y125.length co34 : Value).ownBlock) (fun _ => False) rfl rfl ?aO ?aR (fun _ _ h => h) (fun _ h => h.elim) ?aF ?aB ?aS ?aL ?_; (case aR => repeat (first | exact (Kd.R_reads' HO127.out).2.2 | (with_reducible refine Kd.C_alloc ?_ _) | (with_reducible refine Kd.C_drewN ?_ _) | (with_reducible refine Kd.C_drew ?_))); (case aB => exact HB.out); (case aF => exact (fun k_ hk => ⟨(.inr (Nat.le_trans (by first | exact HK.out.1 | exact (show Kept w _ (fun k_ => P0_ k_) from by repeat (first | (with_reducible first | exact HK.out | apply Kept.alloc | apply Kept.drewN | apply Kept.drew) | exact HK.out)).1) hk)), Kd.fresh' (Kd.R_lt HO127.out) k_ hk⟩)); (case aO => exact HO_0.out); (case aS => exact (below_size HB.out)); (case aL => have := LMc30.out; omega); intro v129 w33 ho hb hg hat; rw [← Ny128.out] at ho; have n0_ := Aside0.mk (Kd.R_after (ok := (fun k_ => (P0_ k_ ∨ w.heap.size ≤ k_))) (Kd.R_mono HO127.out (fun _ hk => ⟨hk.1.1, hk.2⟩)) hg hat); have n1_ := Aside0.mk (hb); have n2_ := Aside0.mk (Kept.of_grown (S := (fun k_ => P0_ k_)) hg (by repeat (first | (with_reducible first | exact HK.out | apply Kept.alloc | apply Kept.drewN | apply Kept.drew) | exact HK.out)) (fun k_ e_ => (HO_0.out.1 k_ e_).1)); have n3_ := Aside0.mk (ho); clear HO127; clear HB; clear HK; clear HO_0; have HO127 := n0_; have HB := n1_; have HK := n2_; have HO130 := n3_; clear n0_ n1_ n2_ n3_; clear ho hb hg hat))
       go_ret
       exact ⟨_, by first | rfl | (simp [errW_none, errW_some] <;> rfl) | (simp [*, errW_none, errW_some] <;> rfl), by exact Kd.R_mono HO130.out (fun _ hk => hk.1), by repeat (first | (with_reducible first | exact HB.out | apply below_alloc | apply pw_below_drewN | apply below_drew1) | exact HB.out), by repeat (first | (with_reducible first | exact HK.out | apply Kept.alloc | apply Kept.drewN | apply Kept.drew) | exact HK.out)⟩
      ·rw [if_neg c30] at H
       exact absurd H (by simp)

end Go.Proofs.Ytemoocoedibbpab.X

namespace Go.Proofs.Ytemoocoedibbpab.X
open Go.RowKit Go.Proofs.YtemoocoedibbpabW.PrintWords Go.Proofs.YtemoocoedibbpabW.PrintLast Go.Proofs.YtemoocoedibbpabW.PrintMore
attribute [local go_sem] max2_int min2_int max_two min_two max_three min_three max_four min_four
set_option linter.unusedVariables false
set_option linter.unusedSimpArgs false

/-! ### utf8_AppendRune: function 142 -/
def utf8_AppendRune.f (k : Nat) (l0 : List Int) (a1 : Int) : Option (List Int) := if ((a1) % 4294967296) ≤ 127 then (if l0.length < 140737488355328 then (some (l0 ++ [(a1) % 256])) else (none)) else ((utf8_appendRuneNonASCII.f k l0 a1).bind fun t104 => (some t104))
theorem utf8_AppendRune.mono : ∀ a0 a1 k, LeO (utf8_AppendRune.f k a0 a1) (utf8_AppendRune.f (k + 1) a0 a1) := by
 intro a0 a1 k
 unfold utf8_AppendRune.f
 repeat' first
   | (with_reducible exact utf8_appendRuneNonASCII.mono _ _ _)
   | (with_reducible exact LeO.refl _)
   | (with_reducible exact LeO.none _)
   | (with_reducible refine LeO.ite ?_ ?_)
   | (with_reducible refine LeO.bind ?_ (fun _ => ?_))
   | exact utf8_appendRuneNonASCII.mono _ _ _
   | exact LeO.none _
   | refine LeO.ite ?_ ?_
   | refine LeO.bind ?_ (fun _ => ?_)
set_option maxHeartbeats 8000000 in
set_option maxRecDepth 100000 in
theorem utf8_AppendRune.calls (k : Nat) (P0_ : Nat → Prop) (u9000_ : Value) (l0 : List Int) (a1 : Int) (r : List Int) (w0 w : World) (hB : Below w0.heap.size w0 w) (ho0 : Kd.R (Kd.int .u8) 5 w w0.heap.size P0_ u9000_ l0) (h : utf8_AppendRune.f k l0 a1 = some r) :
  Calls Try.prog 142 #[u9000_, .int .i32 a1] w fun e w' => ∃ v0_ : Value, e = .returned (v0_) ∧ Kd.R (Kd.int .u8) 5 w' w0.heap.size (fun k_ => (P0_ k_ ∨ w.heap.size ≤ k_)) v0_ r ∧ Below w0.heap.size w0 w' ∧ Kept w w' (fun k_ => P0_ k_) := by
 have HO0 := Aside0.mk (show Kd.R (Kd.int .u8) 5 w w0.heap.size (fun k_ => (P0_ k_ ∨ w.heap.size ≤ k_)) u9000_ l0 from Kd.R_mono ho0 (fun k_ hk => (.inl hk)))
 have HK := Aside0.mk (Kept.refl w (fun k_ => P0_ k_))
 have HW0 := Aside0.mk hB.size
 have HB := Aside0.mk hB
 clear hB
 have H : (if ((a1) % 4294967296) ≤ 127 then (if l0.length < 140737488355328 then (some (l0 ++ [(a1) % 256])) else (none)) else ((utf8_appendRuneNonASCII.f k l0 a1).bind fun t104 => (some t104))) = some r := h
 clear h
 by_cases c3 : ((a1) % 4294967296) ≤ 127
 ·rw [if_pos c3] at H
  have c3b0 : decide (((a1) % 4294967296) ≤ 127) = true := decide_eq_true c3
  clear c3
  by_cases c4 : l0.length < 140737488355328
  ·rw [if_pos c4] at H
   have LMc4 := Aside0.mk c4
   clear c4
   obtain ⟨y101, hy101⟩ : ∃ y_ : List Int, y_ = (l0 ++ [(a1) % 256]) := ⟨_, rfl⟩
   replace H : (some y101) = some r := by first | (rw [hy101]; with_reducible exact H) | (have H2_ := (Option.bind_some _ _).symm.trans H; rw [hy101]; with_reducible exact H2_) | (have H2_ := (Option.bind_some _ _).symm.trans H; with_reducible exact H2_) | with_reducible exact H | (rw [hy101]; exact H) | exact H
   have Ny101 := Aside0.mk hy101
   clear hy101
   obtain rfl := Option.some.inj H
   go_enter Try.func142, Try.ntmps142
   go_wp2_with (first | ((with_reducible refine gate_builtin (b := .append) (xs := #[.tmp 8, .tmp 11]) rfl ?_); at_builtin; refine Kd.R_append (Kd.int .u8) (w0 := w0) w0.heap.size rfl (.tmp 8) (.tmp 11) 145 5 (.int .u8 0) 1 rfl Try.underlying145 info5 rfl (by decide) (by omega) u9000_ l0 ((a1) % 256) [.int .u8 ((a1) % 256)] (fun k_ => (P0_ k_ ∨ w.heap.size ≤ k_)) (fun _ => False) rfl rfl ?aP (fun _ hk => hk.elim) ?aF ?aO ?aB ?aS ?aL ?_; (case aP => exact rfl); (case aB => exact HB.out); (case aF => exact (fun k_ hk => (.inr (Nat.le_trans (by first | exact HK.out.1 | exact (show Kept w _ (fun k_ => P0_ k_) from by repeat (first | (with_reducible first | exact HK.out | apply Kept.alloc | apply Kept.drewN | apply Kept.drew) | exact HK.out)).1) hk)))); (case aO => exact HO0.out); (case aS => exact (below_size HB.out)); (case aL => have := LMc4.out; omega); intro v102 w5 ho hb hg hat; rw [← Ny101.out] at ho; have n0_ := Aside0.mk (hb); have n1_ := Aside0.mk (Kept.of_grown (S := (fun k_ => P0_ k_)) hg (by repeat (first | (with_reducible first | exact HK.out | apply Kept.alloc | apply Kept.drewN | apply Kept.drew) | exact HK.out)) (fun k_ e_ => (HO0.out.1 k_ e_))); have n2_ := Aside0.mk (ho); clear HB; clear HK; clear HO0; have HB := n0_; have HK := n1_; have HO103 := n2_; clear n0_ n1_ n2_; clear ho hb hg hat))
   go_ret
   exact ⟨_, by first | rfl | (simp [errW_none, errW_some] <;> rfl) | (simp [*, errW_none, errW_some] <;> rfl), by exact HO103.out, by repeat (first | (with_reducible first | exact HB.out | apply below_alloc | apply pw_below_drewN | apply below_drew1) | exact HB.out), by repeat (first | (with_reducible first | exact HK.out | apply Kept.alloc | apply Kept.drewN | apply Kept.drew) | exact HK.out)⟩
  ·rw [if_neg c4] at H
   exact absurd H (by simp)
 ·rw [if_neg c3] at H
  have c3b0 : decide (((a1) % 4294967296) ≤ 127) = false := decide_eq_false c3
  clear c3
  replace H := Option.bind_eq_some_iff.mp H
  obtain ⟨t104, A60, H⟩ := H
  try dsimp only at H
  have A6 := Aside0.mk A60
  clear A60
  obtain rfl := Option.some.inj H
  obtain ⟨Ao7, co7, eo7⟩ := Kd.R_slice HO0.out
  subst eo7
  go_enter Try.func142, Try.ntmps142
  go_wp2_with (first | ((with_reducible refine gate_callee (f := 163) rfl ?_); refine gL (some 15) Try.func163 (by kernel_rfl) #[.slice Ao7 l0.length co7, .int .i32 a1] rfl rfl rfl rfl rfl ?_; (with_reducible refine (utf8_appendRuneNonASCII.calls k (fun k_ => some k_ = (.slice Ao7 l0.length co7 : Value).ownBlock) (.slice Ao7 l0.length co7) l0 a1 t104 w0 _ ?side1 ?side2 A6.out).mono ?_); (case side1 => repeat (first | (with_reducible first | exact HB.out | apply below_alloc | apply pw_below_drewN | apply below_drew1) | exact HB.out)); (case side2 => exact Kd.R_tight rfl HO0.out); rintro e w8 ⟨v105, rfl, ho0, hb, hkp⟩; refine ⟨_, rfl, ?_⟩; have n0_ := Aside0.mk (Kd.R_mono (ok' := fun k_ => (P0_ k_ ∨ w.heap.size ≤ k_)) ho0 (fun k_ hk_ => Or.elim hk_ (fun hs_ => (HO0.out.1 k_ (hs_).symm)) (fun hn_ => (.inr (Nat.le_trans (by first | exact HK.out.1 | exact (show Kept w _ (fun k_ => P0_ k_) from by repeat (first | (with_reducible first | exact HK.out | apply Kept.alloc | apply Kept.drewN | apply Kept.drew) | exact HK.out)).1) hn_))))); have n1_ := Aside0.mk (Kept.then_ (S := (fun k_ => P0_ k_)) (by repeat (first | (with_reducible first | exact HK.out | apply Kept.alloc | apply Kept.drewN | apply Kept.drew) | exact HK.out)) hkp (fun k_ hs_ => (fun e_ => (HO0.out.1 k_ e_.symm)) hs_)); have n2_ := Aside0.mk (hb); clear HK; clear HB; clear HO0; have HO106 := n0_; have HK := n1_; have HB := n2_; clear n0_ n1_ n2_; (try clear hb); (try clear hkp); (try clear ho0)))
  go_ret
  exact ⟨_, by first | rfl | (simp [errW_none, errW_some] <;> rfl) | (simp [*, errW_none, errW_some] <;> rfl), by exact HO106.out, by repeat (first | (with_reducible first | exact HB.out | apply below_alloc | apply pw_below_drewN | apply below_drew1) | exact HB.out), by repeat (first | (with_reducible first | exact HK.out | apply Kept.alloc | apply Kept.drewN | apply Kept.drew) | exact HK.out)⟩

end Go.Proofs.Ytemoocoedibbpab.X

namespace Go.Proofs.Ytemoocoedibbpab.X
open Go.RowKit Go.Proofs.YtemoocoedibbpabW.PrintWords Go.Proofs.YtemoocoedibbpabW.PrintLast Go.Proofs.YtemoocoedibbpabW.PrintMore
attribute [local go_sem] max2_int min2_int max_two min_two max_three min_three max_four min_four
set_option linter.unusedVariables false
set_option linter.unusedSimpArgs false

/-! ### utf_Encode: function 103 -/
def utf_Encode.l0 : Nat → List Int → List Int → Int → Int → Option (ByteArray)
 | 0, _, _, _, _ => none
 | k + 1, x3, x6, x7, x8 => if x8 < x7 then (if 0 ≤ x8 then (if x8 < (x6.length : Int) then ((utf_point.f (rd x6 x8)).bind fun t102 => (if t102 = true then ((utf8_AppendRune.f k x3 (wrap32 (rd x6 x8))).bind fun t103 => (utf_Encode.l0 k t103 x6 x7 (wrap64 (x8 + 1)))) else ((utf_Right.f (rd x6 x8)).bind fun t106 => (if t106 = true then (if x3.length < 140737488355328 then (utf_Encode.l0 k (x3 ++ [(wrap64 ((rd x6 x8) - 1114112)) % 256]) x6 x7 (wrap64 (x8 + 1))) else (none)) else (utf_Encode.l0 k x3 x6 x7 (wrap64 (x8 + 1))))))) else (none)) else (none)) else (some (strOfNums x3))
def utf_Encode.f (k : Nat) (l0 : List Int) : Option (ByteArray) := utf_Encode.l0 k ([] : List Int) l0 (l0.length : Int) 0
theorem utf_Encode.mono_l : ∀ k, (∀ y0 y1 y2 y3, LeO (utf_Encode.l0 k y0 y1 y2 y3) (utf_Encode.l0 (k + 1) y0 y1 y2 y3))
 | 0 => fun _ _ _ _ r h => by simp [utf_Encode.l0] at h
 | k + 1 => by
  have ih0 := utf_Encode.mono_l k
  ·intro y0 y1 y2 y3
   unfold utf_Encode.l0
   repeat' first
   | (with_reducible exact ih0 _ _ _ _)
   | (with_reducible exact utf8_AppendRune.mono _ _ _)
   | (with_reducible exact LeO.refl _)
   | (with_reducible exact LeO.none _)
   | (with_reducible refine LeO.ite ?_ ?_)
   | (with_reducible refine LeO.bind ?_ (fun _ => ?_))
   | exact ih0 _ _ _ _
   | exact utf8_AppendRune.mono _ _ _
   | exact LeO.none _
   | refine LeO.ite ?_ ?_
   | refine LeO.bind ?_ (fun _ => ?_)
theorem utf_Encode.mono : ∀ a0 k, LeO (utf_Encode.f k a0) (utf_Encode.f (k + 1) a0) := by
 intro a0 k
 have ih0 := utf_Encode.mono_l k
 unfold utf_Encode.f
 repeat' first
   | (with_reducible exact ih0 _ _ _ _)
   | (with_reducible exact utf8_AppendRune.mono _ _ _)
   | (with_reducible exact LeO.refl _)
   | (with_reducible exact LeO.none _)
   | (with_reducible refine LeO.ite ?_ ?_)
   | (with_reducible refine LeO.bind ?_ (fun _ => ?_))
   | exact ih0 _ _ _ _
   | exact utf8_AppendRune.mono _ _ _
   | exact LeO.none _
   | refine LeO.ite ?_ ?_
   | refine LeO.bind ?_ (fun _ => ?_)
set_option maxHeartbeats 8000000 in
set_option maxRecDepth 100000 in
theorem utf_Encode.calls (k : Nat) (A0 : Option Addr) (c0 : Nat) (l0 : List Int) (r : ByteArray) (w : World) (hr0 : Kd.C (Kd.int .i64) w A0 l0.length l0) (hc0 : l0.length ≤ c0) (h : utf_Encode.f k l0 = some r) :
  Calls Try.prog 103 #[.slice A0 l0.length c0] w fun e w' => e = .returned (.string r) ∧ Below w.heap.size w w' := by
 have HR0 := Aside0.mk hr0
 have HC0 := Aside0.mk hc0
 clear hr0 hc0
 have HB := Aside0.mk (Below.refl w.heap.size w)
 have H : (utf_Encode.l0 k ([] : List Int) l0 (l0.length : Int) 0) = some r := h
 clear h
 have H' := Aside0.mk H
 clear H
 go_enter Try.func103, Try.ntmps103
 go_wp2
 go_loopg [3, 8] k (fun kq v3 v8 w' => ∃ (x3_1 : List Int) (x8_1 : Int), v8 = .int .i64 x8_1 ∧ Aside0 (utf_Encode.l0 kq x3_1 l0 (l0.length : Int) x8_1 = some r) ∧ Aside0 (kq ≤ k) ∧ Aside0 (Kd.R (Kd.int .u8) 5 w' w.heap.size (fun _ => True) v3 x3_1) ∧ Aside0 (Below w.heap.size w w'))
 case atStart => exact ⟨(([] : List Int)), (0), (by first | rfl | (simp; done) | (simp [*]; done)), H', ⟨Nat.le_refl _⟩, ⟨by first | exact Kd.R_nil _ _ _ _ _ | exact Kd.N_nil _ _ _ _ _ | exact Kd.V_nil _ _ _ _ _ | exact Kd.Q_nil _ _ _ _ _ | exact Kd.S_nil _ _ _ _ _⟩, ⟨by repeat (first | exact HB.out | apply below_alloc | apply pw_below_drewN | apply below_drew1)⟩⟩
 case round =>
  clear H'
  try clear c1
  obtain ⟨x3_1, x8_1, rfl, HA, HK1, HO_3, HB⟩ := hrel
  cases gk with
  | zero => exact absurd HA.out (by simp [utf_Encode.l0])
  | succ k1 =>
   have H := HA.out
   clear HA
   simp only [utf_Encode.l0] at H
   by_cases c2 : x8_1 < (l0.length : Int)
   ·rw [if_pos c2] at H
    have c2b0 : decide (x8_1 < (l0.length : Int)) = true := decide_eq_true c2
    clear c2
    by_cases c3 : 0 ≤ x8_1
    ·rw [if_pos c3] at H
     have c3b0 : decide (0 ≤ x8_1) = true := decide_eq_true c3
     clear c3
     by_cases c4 : x8_1 < (l0.length : Int)
     ·rw [if_pos c4] at H
      have c4b0 : decide (x8_1 < (l0.length : Int)) = true := decide_eq_true c4
      clear c4
      replace H := Option.bind_eq_some_iff.mp H
      obtain ⟨t102, A50, H⟩ := H
      try dsimp only at H
      have A5 := Aside0.mk A50
      clear A50
      by_cases c6 : t102 = true
      ·subst c6
       have H1 : ((utf8_AppendRune.f k1 x3_1 (wrap32 (rd l0 x8_1))).bind fun t103 => (utf_Encode.l0 k1 t103 l0 (l0.length : Int) (wrap64 (x8_1 + 1)))) = some r := by rw [if_pos rfl] at H; exact H
       clear H
       have H := H1
       clear H1
       replace H := Option.bind_eq_some_iff.mp H
       obtain ⟨t103, A70, H⟩ := H
       try dsimp only at H
       have A7 := Aside0.mk A70
       clear A70
       have H' := Aside0.mk H
       clear H
       have p101 : 0 ≤ (x8_1 : Int) := of_decide_eq_true (by first | (with_reducible assumption) | assumption)
       have q101 : x8_1 < (l0.length : Int) := of_decide_eq_true (by first | (with_reducible assumption) | assumption)
       obtain ⟨ad101, e101, hx101_0⟩ := Kd.at_int HR0.out x8_1 p101 q101
       cases e101
       replace hx101_0 := (HB.out.cell (World.block_lt_of_cell? w _ hx101_0)).trans hx101_0
       replace p101 := eq_true p101
       replace q101 := eq_true q101
       go_wp2_with (first | ((with_reducible refine gate_callee (f := 141) rfl ?_); refine gL (some 14) Try.func141 (by kernel_rfl) #[.int .i64 (rd l0 x8_1)] rfl rfl rfl rfl rfl ?_; (with_reducible refine (utf_point.calls (rd l0 x8_1) true _ A5.out).mono ?_); rintro e w' ⟨rfl, ⟨nd, rfl⟩⟩; refine ⟨_, rfl, ?_⟩; obtain ⟨Ao8, co8, eo8⟩ := Kd.R_slice HO_3.out; subst eo8) | ((with_reducible refine gate_callee (f := 142) rfl ?_); refine gL (some 18) Try.func142 (by kernel_rfl) #[.slice Ao8 x3_1.length co8, .int .i32 (wrap32 (rd l0 x8_1))] rfl rfl rfl rfl rfl ?_; (with_reducible refine (utf8_AppendRune.calls k1 (fun k_ => some k_ = (.slice Ao8 x3_1.length co8 : Value).ownBlock) (.slice Ao8 x3_1.length co8) x3_1 (wrap32 (rd l0 x8_1)) t103 w _ ?side1 ?side2 A7.out).mono ?_); (case side1 => repeat (first | (with_reducible first | exact HB.out | apply below_alloc | apply pw_below_drewN | apply below_drew1) | exact HB.out)); (case side2 => exact Kd.R_tight rfl HO_3.out); rintro e w9 ⟨v104, rfl, ho0, hb, hkp⟩; refine ⟨_, rfl, ?_⟩; have n0_ := Aside0.mk (Kd.R_mono (ok' := fun k_ => True) ho0 (fun k_ hk_ => trivial)); have n1_ := Aside0.mk (hb); clear HB; clear HO_3; have HO105 := n0_; have HB := n1_; clear n0_ n1_; (try clear hb); (try clear hkp); (try clear ho0)))
       go_roundg k1
       case measure => have := HK1.out; omega
       case rel => exact ⟨(t103), (wrap64 (x8_1 + 1)), (by first | rfl | (simp; done) | (simp [*]; done)), H', ⟨by have := HK1.out; omega⟩, ⟨by exact HO105.out⟩, ⟨by repeat (first | exact HB.out | apply below_alloc | apply pw_below_drewN | apply below_drew1)⟩⟩
      ·replace c6 := Bool.eq_false_iff.mpr c6
       subst c6
       have H1 : ((utf_Right.f (rd l0 x8_1)).bind fun t106 => (if t106 = true then (if x3_1.length < 140737488355328 then (utf_Encode.l0 k1 (x3_1 ++ [(wrap64 ((rd l0 x8_1) - 1114112)) % 256]) l0 (l0.length : Int) (wrap64 (x8_1 + 1))) else (none)) else (utf_Encode.l0 k1 x3_1 l0 (l0.length : Int) (wrap64 (x8_1 + 1))))) = some r := by rw [if_neg (show ¬ (false = true) by decide)] at H; exact H
       clear H
       have H := H1
       clear H1
       replace H := Option.bind_eq_some_iff.mp H
       obtain ⟨t106, A100, H⟩ := H
       try dsimp only at H
       have A10 := Aside0.mk A100
       clear A100
       by_cases c11 : t106 = true
       ·subst c11
        have H1 : (if x3_1.length < 140737488355328 then (utf_Encode.l0 k1 (x3_1 ++ [(wrap64 ((rd l0 x8_1) - 1114112)) % 256]) l0 (l0.length : Int) (wrap64 (x8_1 + 1))) else (none)) = some r := by rw [if_pos rfl] at H; exact H
        clear H
        have H := H1
        clear H1
        by_cases c12 : x3_1.length < 140737488355328
        ·rw [if_pos c12] at H
         have LMc12 := Aside0.mk c12
         clear c12
         obtain ⟨y107, hy107⟩ : ∃ y_ : List Int, y_ = (x3_1 ++ [(wrap64 ((rd l0 x8_1) - 1114112)) % 256]) := ⟨_, rfl⟩
         replace H : (utf_Encode.l0 k1 y107 l0 (l0.length : Int) (wrap64 (x8_1 + 1))) = some r := by first | (rw [hy107]; with_reducible exact H) | (have H2_ := (Option.bind_some _ _).symm.trans H; rw [hy107]; with_reducible exact H2_) | (have H2_ := (Option.bind_some _ _).symm.trans H; with_reducible exact H2_) | with_reducible exact H | (rw [hy107]; exact H) | exact H
         have Ny107 := Aside0.mk hy107
         clear hy107
         have H' := Aside0.mk H
         clear H
         have p101 : 0 ≤ (x8_1 : Int) := of_decide_eq_true (by first | (with_reducible assumption) | assumption)
         have q101 : x8_1 < (l0.length : Int) := of_decide_eq_true (by first | (with_reducible assumption) | assumption)
         obtain ⟨ad101, e101, hx101_0⟩ := Kd.at_int HR0.out x8_1 p101 q101
         cases e101
         replace hx101_0 := (HB.out.cell (World.block_lt_of_cell? w _ hx101_0)).trans hx101_0
         replace p101 := eq_true p101
         replace q101 := eq_true q101
         go_wp2_with (first | ((with_reducible refine gate_callee (f := 141) rfl ?_); refine gL (some 14) Try.func141 (by kernel_rfl) #[.int .i64 (rd l0 x8_1)] rfl rfl rfl rfl rfl ?_; (with_reducible refine (utf_point.calls (rd l0 x8_1) false _ A5.out).mono ?_); rintro e w' ⟨rfl, ⟨nd, rfl⟩⟩; refine ⟨_, rfl, ?_⟩) | ((with_reducible refine gate_callee (f := 143) rfl ?_); refine gL (some 21) Try.func143 (by kernel_rfl) #[.int .i64 (rd l0 x8_1)] rfl rfl rfl rfl rfl ?_; (with_reducible refine (utf_Right.calls (rd l0 x8_1) true _ A10.out).mono ?_); rintro e w' ⟨rfl, ⟨nd, rfl⟩⟩; refine ⟨_, rfl, ?_⟩) | ((with_reducible refine gate_builtin (b := .append) (xs := #[.tmp 22, .tmp 26]) rfl ?_); at_builtin; refine Kd.R_append (Kd.int .u8) (w0 := w) w.heap.size rfl (.tmp 22) (.tmp 26) 145 5 (.int .u8 0) 1 rfl Try.underlying145 info5 rfl (by decide) (by omega) u3 x3_1 ((wrap64 ((rd l0 x8_1) - 1114112)) % 256) [.int .u8 ((wrap64 ((rd l0 x8_1) - 1114112)) % 256)] (fun _ => True) (fun _ => False) rfl rfl ?aP (fun _ hk => hk.elim) ?aF ?aO ?aB ?aS ?aL ?_; (case aP => exact rfl); (case aB => exact (by repeat (first | exact HB.out | apply below_alloc | apply pw_below_drewN | apply below_drew1))); (case aF => exact (fun _ _ => trivial)); (case aO => exact HO_3.out); (case aS => exact (below_size (by repeat (first | exact HB.out | apply below_alloc | apply pw_below_drewN | apply below_drew1)))); (case aL => have := LMc12.out; omega); intro v108 w13 ho hb hg hat; rw [← Ny107.out] at ho; have n0_ := Aside0.mk (hb); have n1_ := Aside0.mk (ho); clear HB; clear HO_3; have HB := n0_; have HO109 := n1_; clear n0_ n1_; clear ho hb hg hat))
         go_roundg k1
         case measure => have := HK1.out; omega
         case rel => exact ⟨(y107), (wrap64 (x8_1 + 1)), (by first | rfl | (simp; done) | (simp [*]; done)), H', ⟨by have := HK1.out; omega⟩, ⟨by exact HO109.out⟩, ⟨by repeat (first | exact HB.out | apply below_alloc | apply pw_below_drewN | apply below_drew1)⟩⟩
        ·rw [if_neg c12] at H
         exact absurd H (by simp)
       ·replace c11 := Bool.eq_false_iff.mpr c11
        subst c11
        have H1 : (utf_Encode.l0 k1 x3_1 l0 (l0.length : Int) (wrap64 (x8_1 + 1))) = some r := by rw [if_neg (show ¬ (false = true) by decide)] at H; exact H
        clear H
        have H := H1
        clear H1
        have H' := Aside0.mk H
        clear H
        have p101 : 0 ≤ (x8_1 : Int) := of_decide_eq_true (by first | (with_reducible assumption) | assumption)
        have q101 : x8_1 < (l0.length : Int) := of_decide_eq_true (by first | (with_reducible assumption) | assumption)
        obtain ⟨ad101, e101, hx101_0⟩ := Kd.at_int HR0.out x8_1 p101 q101
        cases e101
        replace hx101_0 := (HB.out.cell (World.block_lt_of_cell? w _ hx101_0)).trans hx101_0
        replace p101 := eq_true p101
        replace q101 := eq_true q101
        go_wp2_with (first | ((with_reducible refine gate_callee (f := 141) rfl ?_); refine gL (some 14) Try.func141 (by kernel_rfl) #[.int .i64 (rd l0 x8_1)] rfl rfl rfl rfl rfl ?_; (with_reducible refine (utf_point.calls (rd l0 x8_1) false _ A5.out).mono ?_); rintro e w' ⟨rfl, ⟨nd, rfl⟩⟩; refine ⟨_, rfl, ?_⟩) | ((with_reducible refine gate_callee (f := 143) rfl ?_); refine gL (some 21) Try.func143 (by kernel_rfl) #[.int .i64 (rd l0 x8_1)] rfl rfl rfl rfl rfl ?_; (with_reducible refine (utf_Right.calls (rd l0 x8_1) false _ A10.out).mono ?_); rintro e w' ⟨rfl, ⟨nd, rfl⟩⟩; refine ⟨_, rfl, ?_⟩))
        go_roundg k1
        case measure => have := HK1.out; omega
        case rel => exact ⟨(x3_1), (wrap64 (x8_1 + 1)), (by first | rfl | (simp; done) | (simp [*]; done)), H', ⟨by have := HK1.out; omega⟩, ⟨by exact HO_3.out⟩, ⟨by repeat (first | exact HB.out | apply below_alloc | apply pw_below_drewN | apply below_drew1)⟩⟩
     ·rw [if_neg c4] at H
      exact absurd H (by simp)
    ·rw [if_neg c3] at H
     exact absurd H (by simp)
   ·rw [if_neg c2] at H
    have c2b0 : decide (x8_1 < (l0.length : Int)) = false := decide_eq_false c2
    clear c2
    obtain rfl := Option.some.inj H
    have hcv14 := own_string (P := Try.prog) Try.underlying145 Try.underlying5 Try.underlying9 (Kd.own_of_R HO_3.out)
    go_wp2
    go_ret
    exact ⟨by first | rfl | (simp [errW_none, errW_some] <;> rfl) | (simp [*, errW_none, errW_some] <;> rfl), by repeat (first | exact HB.out | apply below_alloc | apply pw_below_drewN | apply below_drew1)⟩

end Go.Proofs.Ytemoocoedibbpab.X

namespace Go.Proofs.Ytemoocoedibbpab.X
open Go.RowKit Go.Proofs.YtemoocoedibbpabW.PrintWords Go.Proofs.YtemoocoedibbpabW.PrintLast Go.Proofs.YtemoocoedibbpabW.PrintMore
attribute [local go_sem] max2_int min2_int max_two min_two max_three min_three max_four min_four
set_option linter.unusedVariables false
set_option linter.unusedSimpArgs false

/-! ### sign_Values: function 104 -/
def sign_Values.l0 : Nat → List Int → List (S47) → Int → Int → Option (List Int)
 | 0, _, _, _, _ => none
 | k + 1, x3, x6, x7, x8 => if x8 < x7 then (if 0 ≤ x8 then (if x8 < (x6.length : Int) then (if x3.length < 17592186044416 then (sign_Values.l0 k (x3 ++ [(rd_T47 x6 x8).f0]) x6 x7 (wrap64 (x8 + 1))) else (none)) else (none)) else (none)) else (some x3)
def sign_Values.f (k : Nat) (l0 : List (S47)) : Option (List Int) := sign_Values.l0 k ([] : List Int) l0 (l0.length : Int) 0
theorem sign_Values.mono_l : ∀ k, (∀ y0 y1 y2 y3, LeO (sign_Values.l0 k y0 y1 y2 y3) (sign_Values.l0 (k + 1) y0 y1 y2 y3))
 | 0 => fun _ _ _ _ r h => by simp [sign_Values.l0] at h
 | k + 1 => by
  have ih0 := sign_Values.mono_l k
  ·intro y0 y1 y2 y3
   unfold sign_Values.l0
   repeat' first
   | (with_reducible exact ih0 _ _ _ _)
   | (with_reducible exact LeO.refl _)
   | (with_reducible exact LeO.none _)
   | (with_reducible refine LeO.ite ?_ ?_)
   | (with_reducible refine LeO.bind ?_ (fun _ => ?_))
   | exact ih0 _ _ _ _
   | exact LeO.none _
   | refine LeO.ite ?_ ?_
   | refine LeO.bind ?_ (fun _ => ?_)
theorem sign_Values.mono : ∀ a0 k, LeO (sign_Values.f k a0) (sign_Values.f (k + 1) a0) := by
 intro a0 k
 have ih0 := sign_Values.mono_l k
 unfold sign_Values.f
 repeat' first
   | (with_reducible exact ih0 _ _ _ _)
   | (with_reducible exact LeO.refl _)
   | (with_reducible exact LeO.none _)
   | (with_reducible refine LeO.ite ?_ ?_)
   | (with_reducible refine LeO.bind ?_ (fun _ => ?_))
   | exact ih0 _ _ _ _
   | exact LeO.none _
   | refine LeO.ite ?_ ?_
   | refine LeO.bind ?_ (fun _ => ?_)
set_option maxHeartbeats 8000000 in
set_option maxRecDepth 100000 in
theorem sign_Values.calls (k : Nat) (A0 : Option Addr) (c0 : Nat) (l0 : List (S47)) (r : List Int) (w : World) (hr0 : Kd.C k47 w A0 l0.length l0) (hc0 : l0.length ≤ c0) (h : sign_Values.f k l0 = some r) :
  Calls Try.prog 104 #[.slice A0 l0.length c0] w fun e w' => ∃ v0_ : Value, e = .returned (v0_) ∧ Kd.R (Kd.int .i64) 3 w' w.heap.size (fun _ => True) v0_ r ∧ Below w.heap.size w w' := by
 have hu47 := Try.underlying47
 have HR0 := Aside0.mk hr0
 have HC0 := Aside0.mk hc0
 clear hr0 hc0
 have HB := Aside0.mk (Below.refl w.heap.size w)
 have H : (sign_Values.l0 k ([] : List Int) l0 (l0.length : Int) 0) = some r := h
 clear h
 have H' := Aside0.mk H
 clear H
 go_enter Try.func104, Try.ntmps104
 go_wp2
 go_loopg [3, 8] k (fun kq v3 v8 w' => ∃ (x3_1 : List Int) (x8_1 : Int), v8 = .int .i64 x8_1 ∧ Aside0 (sign_Values.l0 kq x3_1 l0 (l0.length : Int) x8_1 = some r) ∧ Aside0 (kq ≤ k) ∧ Aside0 (Kd.R (Kd.int .i64) 3 w' w.heap.size (fun _ => True) v3 x3_1) ∧ Aside0 (Below w.heap.size w w'))
 case atStart => exact ⟨(([] : List Int)), (0), (by first | rfl | (simp; done) | (simp [*]; done)), H', ⟨Nat.le_refl _⟩, ⟨by first | exact Kd.R_nil _ _ _ _ _ | exact Kd.N_nil _ _ _ _ _ | exact Kd.V_nil _ _ _ _ _ | exact Kd.Q_nil _ _ _ _ _ | exact Kd.S_nil _ _ _ _ _⟩, ⟨by repeat (first | exact HB.out | apply below_alloc | apply pw_below_drewN | apply below_drew1)⟩⟩
 case round =>
  clear H'
  try clear c1
  obtain ⟨x3_1, x8_1, rfl, HA, HK1, HO_3, HB⟩ := hrel
  cases gk with
  | zero => exact absurd HA.out (by simp [sign_Values.l0])
  | succ k1 =>
   have H := HA.out
   clear HA
   simp only [sign_Values.l0] at H
   by_cases c2 : x8_1 < (l0.length : Int)
   ·rw [if_pos c2] at H
    have c2b0 : decide (x8_1 < (l0.length : Int)) = true := decide_eq_true c2
    clear c2
    by_cases c3 : 0 ≤ x8_1
    ·rw [if_pos c3] at H
     have c3b0 : decide (0 ≤ x8_1) = true := decide_eq_true c3
     clear c3
     by_cases c4 : x8_1 < (l0.length : Int)
     ·rw [if_pos c4] at H
      have c4b0 : decide (x8_1 < (l0.length : Int)) = true := decide_eq_true c4
      clear c4
      by_cases c5 : x3_1.length < 17592186044416
      ·rw [if_pos c5] at H
       have LMc5 := Aside0.mk c5
       clear c5
       obtain ⟨y103, hy103⟩ : ∃ y_ : List Int, y_ = (x3_1 ++ [(rd_T47 l0 x8_1).f0]) := ⟨_, rfl⟩
       replace H : (sign_Values.l0 k1 y103 l0 (l0.length : Int) (wrap64 (x8_1 + 1))) = some r := by first | (rw [hy103]; with_reducible exact H) | (have H2_ := (Option.bind_some _ _).symm.trans H; rw [hy103]; with_reducible exact H2_) | (have H2_ := (Option.bind_some _ _).symm.trans H; with_reducible exact H2_) | with_reducible exact H | (rw [hy103]; exact H) | exact H
       have Ny103 := Aside0.mk hy103
       clear hy103
       have H' := Aside0.mk H
       clear H
       have p101 : 0 ≤ (x8_1 : Int) := of_decide_eq_true (by first | (with_reducible assumption) | assumption)
       have q101 : x8_1 < (l0.length : Int) := of_decide_eq_true (by first | (with_reducible assumption) | assumption)
       obtain ⟨ad101, e101, hx101_0, hx101_1⟩ := at_T47 HR0.out x8_1 p101 q101
       cases e101
       replace hx101_0 := (HB.out.cell (World.block_lt_of_cell? w _ hx101_0)).trans hx101_0
       replace hx101_1 := (HB.out.cell (World.block_lt_of_cell? w _ hx101_1)).trans hx101_1
       replace p101 := eq_true p101
       replace q101 := eq_true q101
       go_wp2_with (first | ((with_reducible refine gate_dst (N := 5) rfl ?_); refine box_event ?hg (N := 5) ?hd (cs := #[.int .i64 0, .int .i64 0]) (t := 47) ?hr ?_; (case hd => rfl); (case hg => rfl); (case hr => first | (go_simp; done) | (go_simp; rfl)); intro gb102 hg w6 hbox hb; replace HO_3 := a0 (Kd.R_below HO_3.out hb); have BK102 := a0 (hbox); have GW102 := a0 ((by rw [hg]; exact (below_size (by repeat (first | exact HB.out | apply below_alloc | apply pw_below_drewN | apply below_drew1))) : w.heap.size ≤ gb102)); have GE102 := a0 ((by rw [hg]; exact (below_size (by repeat (first | exact HB.out | apply below_alloc | apply pw_below_drewN | apply below_drew1))) : w.heap.size ≤ gb102)); replace HB := a0 (below_step (by repeat (first | exact HB.out | apply below_alloc | apply pw_below_drewN | apply below_drew1)) hb); clear hb hbox hg; obtain ⟨hcz7_0, hcz7_1, hfz7_0, hfz7_1⟩ := c2 BK102.out) | ((with_reducible refine gate_builtin (b := .append) (xs := #[.tmp 12, .tmp 15]) rfl ?_); at_builtin; refine Kd.R_append (Kd.int .i64) (w0 := w) w.heap.size rfl (.tmp 12) (.tmp 15) 84 3 (.int .i64 0) 8 rfl Try.underlying84 info3 rfl (by decide) (by omega) u3 x3_1 ((rd_T47 l0 x8_1).f0) [.int .i64 ((rd_T47 l0 x8_1).f0)] (fun _ => True) (fun _ => False) rfl (by first | (go_simp; done) | (go_simp; rfl)) ?aP (fun _ hk => hk.elim) ?aF ?aO ?aB ?aS ?aL ?_; (case aP => exact rfl); (case aB => exact (by repeat (first | exact HB.out | apply below_alloc | apply pw_below_drewN | apply below_drew1 | refine below_set ?_ GE102.out))); (case aF => exact (fun _ _ => trivial)); (case aO => exact (Kd.R_mono (Kd.R_far (p := ⟨gb102, 1, none⟩) (Kd.R_far (p := ⟨gb102, 0, none⟩) (Kd.R_types HO_3.out BK102.out (by decide)) (fun _ hk => hk.2) (.int .i64 ((rd_T47 l0 x8_1).f0))) (fun _ hk => hk.2) (.int .i64 ((rd_T47 l0 x8_1).f1))) (fun _ hk => trivial))); (case aS => exact (below_size (by repeat (first | exact HB.out | apply below_alloc | apply pw_below_drewN | apply below_drew1 | refine below_set ?_ GE102.out)))); (case aL => have := LMc5.out; omega); intro v104 w8 ho hb hg hat; rw [← Ny103.out] at ho; have n0_ := Aside0.mk (blk_grown (g := gb102) (o := .cells #[.int .i64 ((rd_T47 l0 x8_1).f0), .int .i64 ((rd_T47 l0 x8_1).f1)] 47 (0, 0)) (by refine blk_put (cs := #[.int .i64 ((rd_T47 l0 x8_1).f0), .int .i64 0]) ?_ 1 _ rfl; refine blk_put (cs := #[.int .i64 0, .int .i64 0]) ?_ 0 _ rfl; exact BK102.out) hg (Kd.R_ne HO_3.out BK102.out (by decide))); have n1_ := Aside0.mk (hb); have n2_ := Aside0.mk (ho); clear BK102; clear HB; clear HO_3; have BK102 := n0_; have HB := n1_; have HO105 := n2_; clear n0_ n1_ n2_; clear ho hb hg hat))
       go_roundg k1
       case measure => have := HK1.out; omega
       case rel => exact ⟨(y103), (wrap64 (x8_1 + 1)), (by first | rfl | (simp; done) | (simp [*]; done)), H', ⟨by have := HK1.out; omega⟩, ⟨by exact HO105.out⟩, ⟨by repeat (first | exact HB.out | apply below_alloc | apply pw_below_drewN | apply below_drew1 | refine below_set ?_ GE102.out)⟩⟩
      ·rw [if_neg c5] at H
       exact absurd H (by simp)
     ·rw [if_neg c4] at H
      exact absurd H (by simp)
    ·rw [if_neg c3] at H
     exact absurd H (by simp)
   ·rw [if_neg c2] at H
    have c2b0 : decide (x8_1 < (l0.length : Int)) = false := decide_eq_false c2
    clear c2
    obtain rfl := Option.some.inj H
    go_wp2
    go_ret
    exact ⟨_, by first | rfl | (simp [errW_none, errW_some] <;> rfl) | (simp [*, errW_none, errW_some] <;> rfl), by exact HO_3.out, by repeat (first | exact HB.out | apply below_alloc | apply pw_below_drewN | apply below_drew1)⟩

end Go.Proofs.Ytemoocoedibbpab.X

namespace Go.Proofs.Ytemoocoedibbpab.X
open Go.RowKit Go.Proofs.YtemoocoedibbpabW.PrintWords Go.Proofs.YtemoocoedibbpabW.PrintLast Go.Proofs.YtemoocoedibbpabW.PrintMore
attribute [local go_sem] max2_int min2_int max_two min_two max_three min_three max_four min_four
set_option linter.unusedVariables false
set_option linter.unusedSimpArgs false

/-! ### sign_Text: function 56 -/
def sign_Text.f (k : Nat) (l0 : List (S47)) : Option (ByteArray) := (sign_Values.f k l0).bind fun t101 => ((utf_Encode.f k t101).bind fun t104 => (some t104))
theorem sign_Text.mono : ∀ a0 k, LeO (sign_Text.f k a0) (sign_Text.f (k + 1) a0) := by
 intro a0 k
 unfold sign_Text.f
 repeat' first
   | (with_reducible exact sign_Values.mono _ _)
   | (with_reducible exact utf_Encode.mono _ _)
   | (with_reducible exact LeO.refl _)
   | (with_reducible exact LeO.none _)
   | (with_reducible refine LeO.ite ?_ ?_)
   | (with_reducible refine LeO.bind ?_ (fun _ => ?_))
   | exact sign_Values.mono _ _
   | exact utf_Encode.mono _ _
   | exact LeO.none _
   | refine LeO.ite ?_ ?_
   | refine LeO.bind ?_ (fun _ => ?_)
set_option maxHeartbeats 8000000 in
set_option maxRecDepth 100000 in
theorem sign_Text.calls (k : Nat) (A0 : Option Addr) (c0 : Nat) (l0 : List (S47)) (r : ByteArray) (w : World) (hr0 : Kd.C k47 w A0 l0.length l0) (hc0 : l0.length ≤ c0) (h : sign_Text.f k l0 = some r) :
  Calls Try.prog 56 #[.slice A0 l0.length c0] w fun e w' => e = .returned (.string r) ∧ Below w.heap.size w w' := by
 have HR0 := Aside0.mk hr0
 have HC0 := Aside0.mk hc0
 clear hr0 hc0
 have HB := Aside0.mk (Below.refl w.heap.size w)
 have H : ((sign_Values.f k l0).bind fun t101 => ((utf_Encode.f k t101).bind fun t104 => (some t104))) = some r := h
 clear h
 replace H := Option.bind_eq_some_iff.mp H
 obtain ⟨t101, A20, H⟩ := H
 try dsimp only at H
 have A2 := Aside0.mk A20
 clear A20
 replace H := Option.bind_eq_some_iff.mp H
 obtain ⟨t104, A30, H⟩ := H
 try dsimp only at H
 have A3 := Aside0.mk A30
 clear A30
 obtain rfl := Option.some.inj H
 go_enter Try.func56, Try.ntmps56
 go_wp2_with (first | ((with_reducible refine gate_callee (f := 104) rfl ?_); refine gL (some 4) Try.func104 (by kernel_rfl) #[.slice A0 l0.length c0] rfl rfl rfl rfl rfl ?_; (with_reducible refine (sign_Values.calls k _ _ l0 t101 _ ?side1 ?side2 A2.out).mono ?_); (case side1 => repeat (first | exact HR0.out | (with_reducible refine Kd.C_alloc ?_ _) | (with_reducible refine Kd.C_drewN ?_ _) | (with_reducible refine Kd.C_drew ?_))); (case side2 => exact HC0.out); rintro e w4 ⟨v102, rfl, ho0, hb⟩; refine ⟨_, rfl, ?_⟩; have HO103 := a0 (Kd.R_lower ho0 (below_size HB.out)); replace HB := a0 (below_step HB.out hb); clear hb ho0; obtain ⟨Ao5, co5, eo5⟩ := Kd.R_slice HO103.out; subst eo5) | ((with_reducible refine gate_callee (f := 103) rfl ?_); refine gL (some 5) Try.func103 (by kernel_rfl) #[.slice Ao5 t101.length co5] rfl rfl rfl rfl rfl ?_; (with_reducible refine (utf_Encode.calls k _ _ t101 t104 _ ?side1 ?side2 A3.out).mono ?_); (case side1 => repeat (first | exact (Kd.R_reads' HO103.out).2.2 | (with_reducible refine Kd.C_alloc ?_ _) | (with_reducible refine Kd.C_drewN ?_ _) | (with_reducible refine Kd.C_drew ?_))); (case side2 => exact (Kd.R_reads' HO103.out).2.1); rintro e w6 ⟨rfl, hb⟩; refine ⟨_, rfl, ?_⟩; replace HO103 := a0 (Kd.R_below HO103.out hb); replace HB := a0 (below_step HB.out hb); (try clear hb); (try clear hb2); (try clear hk); (try clear hi)))
 go_ret
 exact ⟨by first | rfl | (simp [errW_none, errW_some] <;> rfl) | (simp [*, errW_none, errW_some] <;> rfl), by repeat (first | (with_reducible first | exact HB.out | apply below_alloc | apply pw_below_drewN | apply below_drew1) | exact HB.out)⟩

end Go.Proofs.Ytemoocoedibbpab.X

namespace Go.Proofs.Ytemoocoedibbpab.X
open Go.RowKit Go.Proofs.YtemoocoedibbpabW.PrintWords Go.Proofs.YtemoocoedibbpabW.PrintLast Go.Proofs.YtemoocoedibbpabW.PrintMore
attribute [local go_sem] max2_int min2_int max_two min_two max_three min_three max_four min_four
set_option linter.unusedVariables false
set_option linter.unusedSimpArgs false

attribute [local go_sem high] eqA47
/-! ### slices_Equal_api_Sign: function 155 -/
def slices_Equal_api_Sign.l0 : Nat → List (S47) → List (S47) → Int → Int → Option (Bool)
 | 0, _, _, _, _ => none
 | k + 1, x0, x1, x12, x13 => if x13 < x12 then (if 0 ≤ x13 then (if x13 < (x0.length : Int) then (if x13 < (x1.length : Int) then (if (!(((rd_T47 x0 x13).f0) == ((rd_T47 x1 x13).f0)) || (!(((rd_T47 x0 x13).f1) == ((rd_T47 x1 x13).f1)))) = true then (some false) else (slices_Equal_api_Sign.l0 k x0 x1 x12 (wrap64 (x13 + 1)))) else (none)) else (none)) else (none)) else (some true)
def slices_Equal_api_Sign.f (k : Nat) (l0 : List (S47)) (l1 : List (S47)) : Option (Bool) := if (l0.length : Int) = (l1.length : Int) then (slices_Equal_api_Sign.l0 k l0 l1 (l0.length : Int) 0) else (some false)
theorem slices_Equal_api_Sign.mono_l : ∀ k, (∀ y0 y1 y2 y3, LeO (slices_Equal_api_Sign.l0 k y0 y1 y2 y3) (slices_Equal_api_Sign.l0 (k + 1) y0 y1 y2 y3))
 | 0 => fun _ _ _ _ r h => by simp [slices_Equal_api_Sign.l0] at h
 | k + 1 => by
  have ih0 := slices_Equal_api_Sign.mono_l k
  ·intro y0 y1 y2 y3
   unfold slices_Equal_api_Sign.l0
   repeat' first
   | (with_reducible exact ih0 _ _ _ _)
   | (with_reducible exact LeO.refl _)
   | (with_reducible exact LeO.none _)
   | (with_reducible refine LeO.ite ?_ ?_)
   | (with_reducible refine LeO.bind ?_ (fun _ => ?_))
   | exact ih0 _ _ _ _
   | exact LeO.none _
   | refine LeO.ite ?_ ?_
   | refine LeO.bind ?_ (fun _ => ?_)
theorem slices_Equal_api_Sign.mono : ∀ a0 a1 k, LeO (slices_Equal_api_Sign.f k a0 a1) (slices_Equal_api_Sign.f (k + 1) a0 a1) := by
 intro a0 a1 k
 have ih0 := slices_Equal_api_Sign.mono_l k
 unfold slices_Equal_api_Sign.f
 repeat' first
   | (with_reducible exact ih0 _ _ _ _)
   | (with_reducible exact LeO.refl _)
   | (with_reducible exact LeO.none _)
   | (with_reducible refine LeO.ite ?_ ?_)
   | (with_reducible refine LeO.bind ?_ (fun _ => ?_))
   | exact ih0 _ _ _ _
   | exact LeO.none _
   | refine LeO.ite ?_ ?_
   | refine LeO.bind ?_ (fun _ => ?_)
set_option maxHeartbeats 8000000 in
set_option maxRecDepth 100000 in
theorem slices_Equal_api_Sign.calls (k : Nat) (A0 : Option Addr) (c0 : Nat) (l0 : List (S47)) (A1 : Option Addr) (c1 : Nat) (l1 : List (S47)) (r : Bool) (w : World) (hr0 : Kd.C k47 w A0 l0.length l0) (hc0 : l0.length ≤ c0) (hr1 : Kd.C k47 w A1 l1.length l1) (hc1 : l1.length ≤ c1) (h : slices_Equal_api_Sign.f k l0 l1 = some r) :
  Calls Try.prog 155 #[.slice A0 l0.length c0, .slice A1 l1.length c1] w fun e w' => e = .returned (.bool r) ∧ Drawn0 w w' := by
 have hu47 := Try.underlying47
 have HR0 := Aside0.mk hr0
 have HC0 := Aside0.mk hc0
 clear hr0 hc0
 have HR1 := Aside0.mk hr1
 have HC1 := Aside0.mk hc1
 clear hr1 hc1
 have H : (if (l0.length : Int) = (l1.length : Int) then (slices_Equal_api_Sign.l0 k l0 l1 (l0.length : Int) 0) else (some false)) = some r := h
 clear h
 by_cases c3 : (l0.length : Int) = (l1.length : Int)
 ·rw [if_pos c3] at H
  have c3b0 : ((l0.length : Int) == (l1.length : Int)) = true := beq_iff_eq.mpr c3
  have c3b1 : ((l0.length : Int) != (l1.length : Int)) = false := bne_eq_false_iff_eq.mpr c3
  have c3b2 : (l0.length == l1.length) = true := by first | simpa using c3 | (simp at c3 ⊢; omega)
  clear c3
  have H' := Aside0.mk H
  clear H
  go_enter Try.func155, Try.ntmps155
  go_wp2
  repeat (go_quiet (fail); try go_wp2)
  go_loopg [13] k (fun kq v13 w' => ∃ (x13_1 : Int), v13 = .int .i64 x13_1 ∧ Aside0 (slices_Equal_api_Sign.l0 kq l0 l1 (l0.length : Int) x13_1 = some r) ∧ Aside0 (kq ≤ k) ∧ Drawn0 w w')
  case atStart => exact ⟨(0), (by first | rfl | (simp; done) | (simp [*]; done)), H', ⟨Nat.le_refl _⟩, by repeat (first | exact Drawn0.refl _ | apply Drawn0.step)⟩
  case round =>
   clear H'
   try clear c1
   try clear p2
   try clear c3
   try clear c3b0
   try clear c3b1
   try clear c3b2
   obtain ⟨x13_1, rfl, HA, HK1, ⟨m1, rfl⟩⟩ := hrel
   cases gk with
   | zero => exact absurd HA.out (by simp [slices_Equal_api_Sign.l0])
   | succ k1 =>
    have H := HA.out
    clear HA
    simp only [slices_Equal_api_Sign.l0] at H
    by_cases c4 : x13_1 < (l0.length : Int)
    ·rw [if_pos c4] at H
     have c4b0 : decide (x13_1 < (l0.length : Int)) = true := decide_eq_true c4
     clear c4
     by_cases c5 : 0 ≤ x13_1
     ·rw [if_pos c5] at H
      have c5b0 : decide (0 ≤ x13_1) = true := decide_eq_true c5
      clear c5
      by_cases c6 : x13_1 < (l0.length : Int)
      ·rw [if_pos c6] at H
       have c6b0 : decide (x13_1 < (l0.length : Int)) = true := decide_eq_true c6
       clear c6
       by_cases c7 : x13_1 < (l1.length : Int)
       ·rw [if_pos c7] at H
        have c7b0 : decide (x13_1 < (l1.length : Int)) = true := decide_eq_true c7
        clear c7
        by_cases c8 : (!(((rd_T47 l0 x13_1).f0) == ((rd_T47 l1 x13_1).f0)) || (!(((rd_T47 l0 x13_1).f1) == ((rd_T47 l1 x13_1).f1)))) = true
        ·rw [if_pos c8] at H
         have c8b0 : (!(((rd_T47 l0 x13_1).f0) == ((rd_T47 l1 x13_1).f0)) || (!(((rd_T47 l0 x13_1).f1) == ((rd_T47 l1 x13_1).f1)))) = true := c8
         clear c8
         obtain rfl := Option.some.inj H
         have p101 : 0 ≤ (x13_1 : Int) := of_decide_eq_true (by first | (with_reducible assumption) | assumption)
         have q101 : x13_1 < (l0.length : Int) := of_decide_eq_true (by first | (with_reducible assumption) | assumption)
         obtain ⟨ad101, e101, hx101_0, hx101_1⟩ := at_T47 HR0.out x13_1 p101 q101
         cases e101
         replace p101 := eq_true p101
         replace q101 := eq_true q101
         have p102 : 0 ≤ (x13_1 : Int) := of_decide_eq_true (by first | (with_reducible assumption) | assumption)
         have q102 : x13_1 < (l1.length : Int) := of_decide_eq_true (by first | (with_reducible assumption) | assumption)
         obtain ⟨ad102, e102, hx102_0, hx102_1⟩ := at_T47 HR1.out x13_1 p102 q102
         cases e102
         replace p102 := eq_true p102
         replace q102 := eq_true q102
         go_wp2
         repeat (go_quiet (fail); try go_wp2)
         go_ret
         exact ⟨by first | rfl | (simp; done) | (simp [*]; done), by repeat (first | exact Drawn0.refl _ | apply Drawn0.step)⟩
        ·rw [if_neg c8] at H
         have c8b0 : (!(((rd_T47 l0 x13_1).f0) == ((rd_T47 l1 x13_1).f0)) || (!(((rd_T47 l0 x13_1).f1) == ((rd_T47 l1 x13_1).f1)))) = false := by simpa using c8
         clear c8
         have H' := Aside0.mk H
         clear H
         have p101 : 0 ≤ (x13_1 : Int) := of_decide_eq_true (by first | (with_reducible assumption) | assumption)
         have q101 : x13_1 < (l0.length : Int) := of_decide_eq_true (by first | (with_reducible assumption) | assumption)
         obtain ⟨ad101, e101, hx101_0, hx101_1⟩ := at_T47 HR0.out x13_1 p101 q101
         cases e101
         replace p101 := eq_true p101
         replace q101 := eq_true q101
         have p102 : 0 ≤ (x13_1 : Int) := of_decide_eq_true (by first | (with_reducible assumption) | assumption)
         have q102 : x13_1 < (l1.length : Int) := of_decide_eq_true (by first | (with_reducible assumption) | assumption)
         obtain ⟨ad102, e102, hx102_0, hx102_1⟩ := at_T47 HR1.out x13_1 p102 q102
         cases e102
         replace p102 := eq_true p102
         replace q102 := eq_true q102
         go_wp2
         repeat (go_quiet (fail); try go_wp2)
         go_roundg k1
         case measure => have := HK1.out; omega
         case rel => exact ⟨(wrap64 (x13_1 + 1)), (by first | rfl | (simp; done) | (simp [*]; done)), H', ⟨by have := HK1.out; omega⟩, by repeat (first | exact Drawn0.refl _ | apply Drawn0.step)⟩
       ·rw [if_neg c7] at H
        exact absurd H (by simp)
      ·rw [if_neg c6] at H
       exact absurd H (by simp)
     ·rw [if_neg c5] at H
      exact absurd H (by simp)
    ·rw [if_neg c4] at H
     have c4b0 : decide (x13_1 < (l0.length : Int)) = false := decide_eq_false c4
     clear c4
     obtain rfl := Option.some.inj H
     go_wp2
     repeat (go_quiet (fail); try go_wp2)
     go_ret
     exact ⟨by first | rfl | (simp; done) | (simp [*]; done), by repeat (first | exact Drawn0.refl _ | apply Drawn0.step)⟩
 ·rw [if_neg c3] at H
  have c3b0 : ((l0.length : Int) == (l1.length : Int)) = false := beq_eq_false_iff_ne.mpr c3
  have c3b1 : ((l0.length : Int) != (l1.length : Int)) = true := bne_iff_ne.mpr c3
  have c3b2 : (l0.length == l1.length) = false := by first | simpa using c3 | (simp at c3 ⊢; omega)
  obtain rfl := Option.some.inj H
  go_enter Try.func155, Try.ntmps155
  go_wp2
  repeat (go_quiet (fail); try go_wp2)
  go_ret
  exact ⟨by first | rfl | (simp; done) | (simp [*]; done), by repeat (first | exact Drawn0.refl _ | apply Drawn0.step)⟩

end Go.Proofs.Ytemoocoedibbpab.X

namespace Go.Proofs.Ytemoocoedibbpab.X
open Go.RowKit Go.Proofs.YtemoocoedibbpabW.PrintWords Go.Proofs.YtemoocoedibbpabW.PrintLast Go.Proofs.YtemoocoedibbpabW.PrintMore
attribute [local go_sem] max2_int min2_int max_two min_two max_three min_three max_four min_four
set_option linter.unusedVariables false
set_option linter.unusedSimpArgs false

/-! ### sign_Same: function 113 -/
def sign_Same.f (k : Nat) (l0 : List (S47)) (l1 : List (S47)) : Option (Bool) := (slices_Equal_api_Sign.f k l0 l1).bind fun t101 => (some t101)
theorem sign_Same.mono : ∀ a0 a1 k, LeO (sign_Same.f k a0 a1) (sign_Same.f (k + 1) a0 a1) := by
  intro a0 a1 k
  unfold sign_Same.f
  repeat' first
      | (with_reducible exact slices_Equal_api_Sign.mono _ _ _)
      | (with_reducible exact LeO.refl _)
      | (with_reducible exact LeO.none _)
      | (with_reducible refine LeO.ite ?_ ?_)
      | (with_reducible refine LeO.bind ?_ (fun _ => ?_))
      | exact slices_Equal_api_Sign.mono _ _ _
      | exact LeO.none _
      | refine LeO.ite ?_ ?_
      | refine LeO.bind ?_ (fun _ => ?_)
set_option maxHeartbeats 8000000 in
set_option maxRecDepth 100000 in
theorem sign_Same.calls (k : Nat) (A0 : Option Addr) (c0 : Nat) (l0 : List (S47)) (A1 : Option Addr) (c1 : Nat) (l1 : List (S47)) (r : Bool) (w : World) (hr0 : Kd.C k47 w A0 l0.length l0) (hc0 : l0.length ≤ c0) (hr1 : Kd.C k47 w A1 l1.length l1) (hc1 : l1.length ≤ c1) (h : sign_Same.f k l0 l1 = some r) :
    Calls Try.prog 113 #[.slice A0 l0.length c0, .slice A1 l1.length c1] w fun e w' => e = .returned (.bool r) ∧ Drawn0 w w' := by
  have HR0 := Aside0.mk hr0
  have HC0 := Aside0.mk hc0
  clear hr0 hc0
  have HR1 := Aside0.mk hr1
  have HC1 := Aside0.mk hc1
  clear hr1 hc1
  have H : ((slices_Equal_api_Sign.f k l0 l1).bind fun t101 => (some t101)) = some r := h
  clear h
  replace H := Option.bind_eq_some_iff.mp H
  obtain ⟨t101, A30, H⟩ := H
  replace H : (some t101) = some r := H
  have A3 := Aside0.mk A30
  clear A30
  obtain rfl := Option.some.inj H
  go_enter Try.func113, Try.ntmps113
  go_wp2_with (first | ((with_reducible refine gate_callee (f := 155) rfl ?_); refine goesL_ (some 7) rfl rfl Try.func155 (by kernel_rfl) rfl #[.slice A0 l0.length c0, .slice A1 l1.length c1] rfl (by (try simp only [List.map_toArray, List.map_cons, List.map_nil]); first | done | rfl | (simp only [List.length_drop, List.length_take]; rfl)) ?_; (with_reducible refine (slices_Equal_api_Sign.calls k _ _ l0 _ _ l1 t101 _ ?side1 ?side2 ?side3 ?side4 A3.out).mono ?_); (case side1 => repeat (first | exact HR0.out | (with_reducible refine Kd.C_alloc ?_ _) | (with_reducible refine Kd.C_drewN ?_ _) | (with_reducible refine Kd.C_drew ?_))); (case side2 => exact HC0.out); (case side3 => repeat (first | exact HR1.out | (with_reducible refine Kd.C_alloc ?_ _) | (with_reducible refine Kd.C_drewN ?_ _) | (with_reducible refine Kd.C_drew ?_))); (case side4 => exact HC1.out); rintro e w' ⟨rfl, ⟨nd, rfl⟩⟩; refine ⟨_, rfl, ?_⟩))
  go_ret
  exact ⟨by first | rfl | (simp; done) | (simp [*]; done), by repeat (first | exact Drawn0.refl _ | apply Drawn0.step)⟩

end Go.Proofs.Ytemoocoedibbpab.X

namespace Go.Proofs.Ytemoocoedibbpab.X
open Go.RowKit Go.Proofs.YtemoocoedibbpabW.PrintWords Go.Proofs.YtemoocoedibbpabW.PrintLast Go.Proofs.YtemoocoedibbpabW.PrintMore
attribute [local go_sem] max2_int min2_int max_two min_two max_three min_three max_four min_four
set_option linter.unusedVariables false
set_option linter.unusedSimpArgs false

/-! ### line_Same: function 68 -/
def line_Same.f (k : Nat) (l0_0 : List (S47)) (a0_1 : Int) (l1_0 : List (S47)) (a1_1 : Int) : Option (Bool) := if a0_1 = a1_1 then ((sign_Same.f k l0_0 l1_0).bind fun t103 => (some t103)) else (some false)
theorem line_Same.mono : ∀ a0 a1 a2 a3 k, LeO (line_Same.f k a0 a1 a2 a3) (line_Same.f (k + 1) a0 a1 a2 a3) := by
 intro a0 a1 a2 a3 k
 unfold line_Same.f
 repeat' first
   | (with_reducible exact sign_Same.mono _ _ _)
   | (with_reducible exact LeO.refl _)
   | (with_reducible exact LeO.none _)
   | (with_reducible refine LeO.ite ?_ ?_)
   | (with_reducible refine LeO.bind ?_ (fun _ => ?_))
   | exact sign_Same.mono _ _ _
   | exact LeO.none _
   | refine LeO.ite ?_ ?_
   | refine LeO.bind ?_ (fun _ => ?_)
set_option maxHeartbeats 8000000 in
set_option maxRecDepth 100000 in
theorem line_Same.calls (k : Nat) (A0_0 : Option Addr) (c0_0 : Nat) (l0_0 : List (S47)) (a0_1 : Int) (A1_0 : Option Addr) (c1_0 : Nat) (l1_0 : List (S47)) (a1_1 : Int) (r : Bool) (w : World) (hr0_0 : Kd.C k47 w A0_0 l0_0.length l0_0) (hc0_0 : l0_0.length ≤ c0_0) (hr1_0 : Kd.C k47 w A1_0 l1_0.length l1_0) (hc1_0 : l1_0.length ≤ c1_0) (h : line_Same.f k l0_0 a0_1 l1_0 a1_1 = some r) :
  Calls Try.prog 68 #[.agg #[.slice A0_0 l0_0.length c0_0, .int .i64 a0_1], .agg #[.slice A1_0 l1_0.length c1_0, .int .i64 a1_1]] w fun e w' => e = .returned (.bool r) ∧ Below w.heap.size w w' := by
 have hu24 := Try.underlying24
 have HR0_0 := Aside0.mk hr0_0
 have HC0_0 := Aside0.mk hc0_0
 clear hr0_0 hc0_0
 have HR1_0 := Aside0.mk hr1_0
 have HC1_0 := Aside0.mk hc1_0
 clear hr1_0 hc1_0
 have HB := Aside0.mk (Below.refl w.heap.size w)
 have H : (if a0_1 = a1_1 then ((sign_Same.f k l0_0 l1_0).bind fun t103 => (some t103)) else (some false)) = some r := h
 clear h
 by_cases c3 : a0_1 = a1_1
 ·rw [if_pos c3] at H
  have c3b0 : (a0_1 == a1_1) = true := beq_iff_eq.mpr c3
  have c3b1 : (a0_1 != a1_1) = false := bne_eq_false_iff_eq.mpr c3
  clear c3
  replace H := Option.bind_eq_some_iff.mp H
  obtain ⟨t103, A40, H⟩ := H
  try dsimp only at H
  have A4 := Aside0.mk A40
  clear A40
  obtain rfl := Option.some.inj H
  go_enter Try.func68, Try.ntmps68
  go_wp2_with (first | ((with_reducible refine gate_dst (N := 2) rfl ?_); refine box_event ?hg (N := 2) ?hd (cs := #[.slice A0_0 l0_0.length c0_0, .int .i64 a0_1]) (t := 24) ?hr ?_; (case hd => rfl); (case hg => rfl); (case hr => first | (go_simp; done) | (go_simp; rfl)); intro gb101 hg w5 hbox hb; have BK101 := a0 (hbox); have GW101 := a0 ((by rw [hg]; exact (below_size HB.out) : w.heap.size ≤ gb101)); have GE101 := a0 ((by rw [hg]; exact (below_size HB.out) : w.heap.size ≤ gb101)); replace HB := a0 (below_step HB.out hb); clear hb hbox hg) | ((with_reducible refine gate_dst (N := 3) rfl ?_); refine box_event ?hg (N := 3) ?hd (cs := #[.slice A1_0 l1_0.length c1_0, .int .i64 a1_1]) (t := 24) ?hr ?_; (case hd => rfl); (case hg => rfl); (case hr => first | (go_simp; done) | (go_simp; rfl)); intro gb102 hg w6 hbox hb; have BK102 := a0 (hbox); have GW102 := a0 ((by rw [hg]; exact (below_size HB.out) : w.heap.size ≤ gb102)); have GE102 := a0 ((by rw [hg]; exact (below_size HB.out) : w.heap.size ≤ gb102)); replace HB := a0 (below_step HB.out hb); have NB101_102 := a0 ((by rw [hg]; exact Nat.ne_of_lt (blk_lt BK101.out) : gb101 ≠ gb102)); have NB102_101 := a0 ((by rw [hg]; exact Nat.ne_of_gt (blk_lt BK101.out) : gb102 ≠ gb101)); replace BK101 := a0 (bB hb BK101.out); clear hb hbox hg; have hnb7 := NB101_102.out; have hnc7 := NB102_101.out; obtain ⟨hcz8_0, hcz8_1, hfz8_0, hfz8_1⟩ := c2 BK101.out; obtain ⟨hcz9_0, hcz9_1, hfz9_0, hfz9_1⟩ := c2 BK102.out) | (go_at_call 113; (with_reducible refine (sign_Same.calls k _ _ l0_0 _ _ l1_0 t103 _ ?side1 ?side2 ?side3 ?side4 A4.out).mono ?_); (case side1 => repeat (first | exact (Kd.C_below HR0_0.out HB.out) | (with_reducible refine Kd.C_alloc ?_ _) | (with_reducible refine Kd.C_drewN ?_ _) | (with_reducible refine Kd.C_drew ?_))); (case side2 => exact HC0_0.out); (case side3 => repeat (first | exact (Kd.C_below HR1_0.out HB.out) | (with_reducible refine Kd.C_alloc ?_ _) | (with_reducible refine Kd.C_drewN ?_ _) | (with_reducible refine Kd.C_drew ?_))); (case side4 => exact HC1_0.out); rintro e w' ⟨rfl, ⟨nd, rfl⟩⟩))
  go_ret
  exact ⟨by first | rfl | (simp [errW_none, errW_some] <;> rfl) | (simp [*, errW_none, errW_some] <;> rfl), by repeat (first | (with_reducible first | exact HB.out | apply below_alloc | apply pw_below_drewN | apply below_drew1 | refine below_set ?_ GE101.out | refine below_set ?_ GE102.out) | exact HB.out)⟩
 ·rw [if_neg c3] at H
  have c3b0 : (a0_1 == a1_1) = false := beq_eq_false_iff_ne.mpr c3
  have c3b1 : (a0_1 != a1_1) = true := bne_iff_ne.mpr c3
  obtain rfl := Option.some.inj H
  go_enter Try.func68, Try.ntmps68
  go_wp2_with (first | ((with_reducible refine gate_dst (N := 2) rfl ?_); refine box_event ?hg (N := 2) ?hd (cs := #[.slice A0_0 l0_0.length c0_0, .int .i64 a0_1]) (t := 24) ?hr ?_; (case hd => rfl); (case hg => rfl); (case hr => first | (go_simp; done) | (go_simp; rfl)); intro gb101 hg w10 hbox hb; have BK101 := a0 (hbox); have GW101 := a0 ((by rw [hg]; exact (below_size HB.out) : w.heap.size ≤ gb101)); have GE101 := a0 ((by rw [hg]; exact (below_size HB.out) : w.heap.size ≤ gb101)); replace HB := a0 (below_step HB.out hb); clear hb hbox hg) | ((with_reducible refine gate_dst (N := 3) rfl ?_); refine box_event ?hg (N := 3) ?hd (cs := #[.slice A1_0 l1_0.length c1_0, .int .i64 a1_1]) (t := 24) ?hr ?_; (case hd => rfl); (case hg => rfl); (case hr => first | (go_simp; done) | (go_simp; rfl)); intro gb102 hg w11 hbox hb; have BK102 := a0 (hbox); have GW102 := a0 ((by rw [hg]; exact (below_size HB.out) : w.heap.size ≤ gb102)); have GE102 := a0 ((by rw [hg]; exact (below_size HB.out) : w.heap.size ≤ gb102)); replace HB := a0 (below_step HB.out hb); have NB101_102 := a0 ((by rw [hg]; exact Nat.ne_of_lt (blk_lt BK101.out) : gb101 ≠ gb102)); have NB102_101 := a0 ((by rw [hg]; exact Nat.ne_of_gt (blk_lt BK101.out) : gb102 ≠ gb101)); replace BK101 := a0 (bB hb BK101.out); clear hb hbox hg; have hnb12 := NB101_102.out; have hnc12 := NB102_101.out; obtain ⟨hcz13_0, hcz13_1, hfz13_0, hfz13_1⟩ := c2 BK101.out; obtain ⟨hcz14_0, hcz14_1, hfz14_0, hfz14_1⟩ := c2 BK102.out))
  go_ret
  exact ⟨by first | rfl | (simp [errW_none, errW_some] <;> rfl) | (simp [*, errW_none, errW_some] <;> rfl), by repeat (first | (with_reducible first | exact HB.out | apply below_alloc | apply pw_below_drewN | apply below_drew1 | refine below_set ?_ GE101.out | refine below_set ?_ GE102.out) | exact HB.out)⟩

end Go.Proofs.Ytemoocoedibbpab.X
