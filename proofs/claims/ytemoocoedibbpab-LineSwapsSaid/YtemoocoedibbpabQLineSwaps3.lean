/- Written by a program of this session (wip/tools/hp.py, pack.py) and by this session: what the law LineSwaps reaches, function by function: a Lean function with the same answers, and the proof that the machine's call gives them. No condition but the ones the theorems state. -/
import Derived.Test.YtemoocoedibbpabQLineSwaps2
namespace Go.Proofs.Ytemoocoedibbpab.X
open Go.RowKit Go.Proofs.YtemoocoedibbpabW.PrintWords Go.Proofs.YtemoocoedibbpabW.PrintLast Go.Proofs.YtemoocoedibbpabW.PrintMore
attribute [local go_sem] max2_int min2_int max_two min_two max_three min_three max_four min_four
set_option linter.unusedVariables false
set_option linter.unusedSimpArgs false

/-! ### line_Replace: function 69 -/
def line_Replace.f (l0_0 : List (S47)) (a0_1 : Int) (a1 : Int) (a2 : Int) (l3 : List (S47)) : Option ((List (S47)) × Int) := (line_places.f l0_0 a0_1 a1 a2).bind fun bt103 => (if 0 ≤ bt103.1 then (if bt103.1 ≤ (l0_0.length : Int) then (if 0 ≤ bt103.2 then (if bt103.2 ≤ (l0_0.length : Int) then ((Concat_Sign.f (([(l0_0.take (bt103.1 : Int).toNat), l3, (l0_0.drop (bt103.2 : Int).toNat)] : List (List (S47))))).bind fun t118 => (some (t118, wrap64 (bt103.1 + (l3.length : Int))))) else (none)) else (none)) else (none)) else (none))
def line_Replace.T2 : Bool × List (List Nat × List Nat) := (true, [([], []), ([0], [0]), ([], []), ([1, 2], [1, 2]), ([], []), ([], []), ([5], [5]), ([], []), ([6, 7], [6, 7]), ([3, 4, 8], [3, 4, 8]), ([9], [9]), ([], []), ([], []), ([12], [12]), ([11, 13], [11, 13]), ([10, 14], [10, 14]), ([15, 10, 0, 1, 2, 3, 4, 5, 6, 7, 8, 9, 10, 11, 12, 13, 14, 15], [15])])
def line_Replace.B2 : List Nat := [0, 1, 0, 7, 0, 0, 32, 0, 224, 511, 1023, 0, 0, 4096, 14336, 32767, 65535]
theorem line_Replace.tab2 : rtab .any (opsOf Try.f69 2) = line_Replace.T2 := by kernel_rfl
theorem line_Replace.bits2 : waitsOk line_Replace.T2.2 line_Replace.B2 = true := by kernel_rfl
set_option maxHeartbeats 8000000 in
set_option maxRecDepth 100000 in
theorem line_Replace.calls (P0_0_ : Nat → Prop) (A0_0 : Option Addr) (c0_0 : Nat) (l0_0 : List (S47)) (a0_1 : Int) (a1 : Int) (a2 : Int) (P3_ : Nat → Prop) (A3 : Option Addr) (c3 : Nat) (l3 : List (S47)) (r1 : List (S47)) (r2 : Int) (w : World) (hs0_0 : Kd.V k47 47 w w.heap.size (fun k_ => P0_0_ k_) (.slice A0_0 l0_0.length c0_0) l0_0) (hs3 : Kd.V k47 47 w w.heap.size (fun k_ => P3_ k_) (.slice A3 l3.length c3) l3) (h : line_Replace.f l0_0 a0_1 a1 a2 l3 = some (r1, r2)) :
  Calls Try.prog 69 #[.agg #[.slice A0_0 l0_0.length c0_0, .int .i64 a0_1], .int .i64 a1, .int .i64 a2, .slice A3 l3.length c3] w fun e w' => ∃ v0_ : Value, e = .returned (.agg #[v0_, .int .i64 r2]) ∧ Kd.R k47 47 w' w.heap.size (fun k_ => (w.heap.size ≤ k_)) v0_ r1 ∧ Below w.heap.size w w' := by
 have hu24 := Try.underlying24
 have HO0_0 := Aside0.mk (show Kd.V k47 47 w w.heap.size (fun k_ => ((P0_0_ k_ ∨ P3_ k_) ∨ w.heap.size ≤ k_)) (.slice A0_0 l0_0.length c0_0) l0_0 from Kd.V_mono hs0_0 (fun k_ hk => .inl (.inl hk)))
 have HO3 := Aside0.mk (show Kd.V k47 47 w w.heap.size (fun k_ => ((P0_0_ k_ ∨ P3_ k_) ∨ w.heap.size ≤ k_)) (.slice A3 l3.length c3) l3 from Kd.V_mono hs3 (fun k_ hk => .inl (.inr hk)))
 have HB := Aside0.mk (Below.refl w.heap.size w)
 have H : ((line_places.f l0_0 a0_1 a1 a2).bind fun bt103 => (if 0 ≤ bt103.1 then (if bt103.1 ≤ (l0_0.length : Int) then (if 0 ≤ bt103.2 then (if bt103.2 ≤ (l0_0.length : Int) then ((Concat_Sign.f (([(l0_0.take (bt103.1 : Int).toNat), l3, (l0_0.drop (bt103.2 : Int).toNat)] : List (List (S47))))).bind fun t118 => (some (t118, wrap64 (bt103.1 + (l3.length : Int))))) else (none)) else (none)) else (none)) else (none))) = some (r1, r2) := h
 clear h
 replace H := Option.bind_eq_some_iff.mp H
 obtain ⟨⟨t103, t104⟩, A50, H⟩ := H
 try dsimp only at H
 have A5 := Aside0.mk A50
 clear A50
 by_cases c6 : 0 ≤ t103
 ·rw [if_pos c6] at H
  have c6b0 := eq_true c6
  have c6b1 : decide (0 ≤ t103) = true := decide_eq_true c6
  clear c6
  by_cases c7 : t103 ≤ (l0_0.length : Int)
  ·rw [if_pos c7] at H
   have c7b0 := eq_true c7
   have c7b1 : decide (t103 ≤ (l0_0.length : Int)) = true := decide_eq_true c7
   clear c7
   obtain ⟨y105, hy105⟩ : ∃ y_ : List (S47), y_ = (l0_0.take (t103 : Int).toNat) := ⟨_, rfl⟩
   replace H : (if 0 ≤ t104 then (if t104 ≤ (l0_0.length : Int) then ((Concat_Sign.f (([y105, l3, (l0_0.drop (t104 : Int).toNat)] : List (List (S47))))).bind fun t118 => (some (t118, wrap64 (t103 + (l3.length : Int))))) else (none)) else (none)) = some (r1, r2) := by first | (rw [hy105]; with_reducible exact H) | (have H2_ := (Option.bind_some _ _).symm.trans H; rw [hy105]; with_reducible exact H2_) | (have H2_ := (Option.bind_some _ _).symm.trans H; with_reducible exact H2_) | with_reducible exact H | (rw [hy105]; exact H) | exact H
   have Ny105 := Aside0.mk hy105
   clear hy105
   by_cases c8 : 0 ≤ t104
   ·rw [if_pos c8] at H
    have c8b0 := eq_true c8
    have c8b1 : decide (0 ≤ t104) = true := decide_eq_true c8
    clear c8
    by_cases c9 : t104 ≤ (l0_0.length : Int)
    ·rw [if_pos c9] at H
     have c9b0 := eq_true c9
     have c9b1 : decide (t104 ≤ (l0_0.length : Int)) = true := decide_eq_true c9
     clear c9
     obtain ⟨y110, hy110⟩ : ∃ y_ : List (S47), y_ = (l0_0.drop (t104 : Int).toNat) := ⟨_, rfl⟩
     replace H : ((Concat_Sign.f (([y105, l3, y110] : List (List (S47))))).bind fun t118 => (some (t118, wrap64 (t103 + (l3.length : Int))))) = some (r1, r2) := by first | (rw [hy110]; with_reducible exact H) | (have H2_ := (Option.bind_some _ _).symm.trans H; rw [hy110]; with_reducible exact H2_) | (have H2_ := (Option.bind_some _ _).symm.trans H; with_reducible exact H2_) | with_reducible exact H | (rw [hy110]; exact H) | exact H
     have Ny110 := Aside0.mk hy110
     clear hy110
     obtain ⟨y115, hy115⟩ : ∃ y_ : List (List (S47)), y_ = (([y105, l3, y110] : List (List (S47)))) := ⟨_, rfl⟩
     replace H : ((Concat_Sign.f y115).bind fun t118 => (some (t118, wrap64 (t103 + (l3.length : Int))))) = some (r1, r2) := by first | (rw [hy115]; with_reducible exact H) | (have H2_ := (Option.bind_some _ _).symm.trans H; rw [hy115]; with_reducible exact H2_) | (have H2_ := (Option.bind_some _ _).symm.trans H; with_reducible exact H2_) | with_reducible exact H | (rw [hy115]; exact H) | exact H
     have Ny115 := Aside0.mk hy115
     clear hy115
     replace H := Option.bind_eq_some_iff.mp H
     obtain ⟨t118, A100, H⟩ := H
     try dsimp only at H
     have A10 := Aside0.mk A100
     clear A100
     simp only [Option.some.injEq, Prod.mk.injEq] at H
     obtain ⟨rfl, rfl⟩ := H
     go_enter Try.func69, Try.ntmps69
     try go_wp2_with (first | ((with_reducible refine gate_dst (N := 4) rfl ?_); refine box_event ?hg (N := 4) ?hd (cs := #[.slice A0_0 l0_0.length c0_0, .int .i64 a0_1]) (t := 24) ?hr ?_; (case hd => rfl); (case hg => rfl); (case hr => first | (go_simp; done) | (go_simp; rfl)); intro gb101 hg w11 hbox hb; replace HO0_0 := a0 (Kd.V_below (Kd.V_elderB HO0_0.out gb101 (Nat.le_of_eq hg.symm)) hb); replace HO3 := a0 (Kd.V_below (Kd.V_elderB HO3.out gb101 (Nat.le_of_eq hg.symm)) hb); have BK101 := a0 (hbox); have GW101 := a0 ((by rw [hg]; exact (below_size HB.out) : w.heap.size ≤ gb101)); have GE101 := a0 ((by rw [hg]; exact (below_size HB.out) : w.heap.size ≤ gb101)); replace HB := a0 (below_step HB.out hb); clear hb hbox hg) | ((with_reducible refine gate_dst (N := 8) rfl ?_); refine box_event ?hg (N := 8) ?hd (cs := #[.slice none 0 0, .int .i64 0]) (t := 24) ?hr ?_; (case hd => rfl); (case hg => rfl); (case hr => first | (go_simp; done) | (go_simp; rfl)); intro gb102 hg w12 hbox hb; replace HO0_0 := a0 (Kd.V_below (Kd.V_elderB HO0_0.out gb102 (Nat.le_of_eq hg.symm)) hb); replace HO3 := a0 (Kd.V_below (Kd.V_elderB HO3.out gb102 (Nat.le_of_eq hg.symm)) hb); have BK102 := a0 (hbox); have GW102 := a0 ((by rw [hg]; exact (below_size HB.out) : w.heap.size ≤ gb102)); have GE102 := a0 ((by rw [hg]; exact (below_size HB.out) : w.heap.size ≤ gb102)); replace HB := a0 (below_step HB.out hb); have NB101_102 := a0 ((by rw [hg]; exact Nat.ne_of_lt (blk_lt BK101.out) : gb101 ≠ gb102)); have NB102_101 := a0 ((by rw [hg]; exact Nat.ne_of_gt (blk_lt BK101.out) : gb102 ≠ gb101)); replace BK101 := a0 (bB hb BK101.out); clear hb hbox hg; have hnb13 := NB101_102.out; have hnc13 := NB102_101.out; obtain ⟨hcz14_0, hcz14_1, hfz14_0, hfz14_1⟩ := c2 BK101.out) | ((with_reducible refine gate_callee (f := 77) rfl ?_); refine gL (some 15) Try.func77 (by kernel_rfl) #[.agg #[.slice A0_0 l0_0.length c0_0, .int .i64 a0_1], .int .i64 a1, .int .i64 a2] rfl rfl rfl rfl rfl ?_; (with_reducible refine (line_places.calls _ _ l0_0 a0_1 a1 a2 t103 t104 _ ?side1 ?side2 A5.out).mono ?_); (case side1 => repeat (first | exact (Kd.V_reads' HO0_0.out).2.2 | (with_reducible refine Kd.C_alloc ?_ _) | (with_reducible refine Kd.C_drewN ?_ _) | (with_reducible refine Kd.C_drew ?_))); (case side2 => exact (Kd.V_reads' HO0_0.out).2.1); rintro e w15 ⟨rfl, hb⟩; refine ⟨_, rfl, ?_⟩; replace HO0_0 := a0 (Kd.V_below HO0_0.out hb); replace HO3 := a0 (Kd.V_below HO3.out hb); replace BK101 := a0 (bB hb BK101.out); replace BK102 := a0 (bB hb BK102.out); replace HB := a0 (below_step HB.out hb); (try clear hb); (try clear hb2); (try clear hk); (try clear hi)))
     replace HO0_0 := a0 (Kd.V_drew HO0_0.out)
     replace HO3 := a0 (Kd.V_drew HO3.out)
     replace BK101 := a0 (blk_drew BK101.out)
     replace BK102 := a0 (blk_drew BK102.out)
     replace HB := a0 (below_drew1 HB.out)
     have q17 : (t103 : Int) ≤ ((l0_0.length : Int) : Int) := of_decide_eq_true (by first | (with_reducible assumption) | assumption)
     obtain ⟨i017, hi017, _, hsz17, _⟩ := info_parts info47
     have hroom17 : l0_0.length ≤ c0_0 := (Kd.V_reads' HO0_0.out).2.1
     have hC17 : Kd.F k47 _ _ A0_0 l0_0.length l0_0 := (Kd.V_at (base := w.heap.size) HO0_0.out).2.2
     have hcut17 := cut_to (P := Try.prog) 22 47 .i64 Try.underlying22 hi017 A0_0 l0_0.length c0_0 t103 (of_decide_eq_true (by first | (with_reducible assumption) | assumption)) q17 hroom17
     have hr17 := Kd.F_take (m := (t103 : Int).toNat) hC17 (by omega)
     have hy17 : y105.length = (t103 : Int).toNat := (by rw [Ny105.out, List.length_take]; omega)
     rw [← Ny105.out] at hr17
     rw [← hy17] at hcut17
     have HO109 := Aside0.mk (show Kd.V k47 47 _ w.heap.size _ (.slice A0_0 y105.length c0_0) y105 from Kd.V_mk (by omega) hr17)
     have HC109 := Aside0.mk (show y105.length ≤ c0_0 from by omega)
     clear hr17 hC17 hroom17 hi017 hsz17
     have KY17 := Aside0.mk hy17
     clear hy17
     replace q17 := eq_true q17
     have q18 : (t104 : Int) ≤ ((l0_0.length : Int) : Int) := of_decide_eq_true (by first | (with_reducible assumption) | assumption)
     obtain ⟨i018, hi018, _, hsz18, _⟩ := info_parts info47
     have hroom18 : l0_0.length ≤ c0_0 := (Kd.V_reads' HO0_0.out).2.1
     have hC18 : Kd.F k47 _ _ A0_0 l0_0.length l0_0 := (Kd.V_at (base := w.heap.size) HO0_0.out).2.2
     have q018 : (0 : Int) ≤ (t104 : Int) := of_decide_eq_true (by first | (with_reducible assumption) | assumption)
     have hcut18 := cut_from (P := Try.prog) 22 47 .i64 Try.underlying22 hi018 2 hsz18 A0_0 l0_0.length c0_0 t104 q018 q18
     have hr18 := Kd.F_cut (m := (t104 : Int).toNat) (c := c0_0) hC18 (by omega) hroom18
     obtain ⟨A18, hA18⟩ : ∃ A1, A1 = (if c0_0 = (t104 : Int).toNat then A0_0 else (A0_0 : Option Addr).map (·.add ((t104 : Int).toNat * 2))) := ⟨_, rfl⟩
     obtain ⟨c18, hc18⟩ : ∃ c1, c1 = c0_0 - (t104 : Int).toNat := ⟨_, rfl⟩
     have hy18 : y110.length = l0_0.length - (t104 : Int).toNat := (by rw [Ny110.out, List.length_drop] <;> omega)
     rw [show (l0_0).drop (t104 : Int).toNat = y110 from Ny110.out.symm] at hr18
     replace hr18 : Kd.F k47 _ _ A18 y110.length y110 := (by rw [hA18]; exact hr18)
     rw [← hy18, ← hA18, ← hc18] at hcut18
     have HO114 := Aside0.mk (show Kd.V k47 47 _ w.heap.size _ (.slice A18 y110.length c18) y110 from Kd.V_mk (by rw [hy18, hc18]; exact Nat.sub_le_sub_right hroom18 _) hr18)
     have HC114 := Aside0.mk (show y110.length ≤ c18 from by rw [hy18, hc18]; exact Nat.sub_le_sub_right hroom18 _)
     clear hr18 hC18 hroom18 hi018 hsz18 hc18
     have KY18 := Aside0.mk hy18
     have KA18 := Aside0.mk hA18
     clear hy18 hA18
     replace q18 := eq_true q18
     refine start_ (n := 17) (S := fun w' => w'.cell? ⟨gb101, 0, none⟩ = some (.slice A0_0 l0_0.length c0_0) ∧ w'.cell? ⟨gb101, 1, none⟩ = some (.int .i64 a0_1)) (ds := []) (ba 17 0) (by kernel_rfl) rfl rfl ⟨(blk_cell BK101.out 0).trans rfl, (blk_cell BK101.out 1).trans rfl⟩ (fun hHeld => ?_); refine with_tabW line_Replace.tab2 line_Replace.bits2 (fun HT_ HW_ => ?_)
     generalize w15.drew = w16 at HO0_0 HO3 BK101 BK102 HB HO109 HO114 hHeld ⊢
     refine pS 0 18 (v := ?_) (a' := ?_) (ba 17 1) HT_ (by kernel_rfl) rfl rfl (fun _ _ _ h => h) (by rfl) ?_ ?_ ?_; rotate_left 2; (intro w'; go_simp; with_reducible rfl); (simp only [Act.put, List.setIfInBounds_toArray, List.set_cons_zero, List.set_cons_succ, i64_w, i32_w]; rfl)
     refine pS 2 20 (v := ?_) (a' := ?_) (ba 17 5) HT_ (by kernel_rfl) rfl rfl (fun _ _ _ h => h) (by rfl) ?_ ?_ ?_; rotate_left 2; (intro w'; go_simp; with_reducible rfl); (simp only [Act.put, List.setIfInBounds_toArray, List.set_cons_zero, List.set_cons_succ, i64_w, i32_w]; rfl)
     refine pS 4 22 (v := ?_) (a' := ?_) (ba 17 21) HT_ (by kernel_rfl) rfl rfl (fun _ _ _ h => h) (by rfl) ?_ ?_ ?_; rotate_left 2; (intro w'; go_simp; with_reducible rfl); (simp only [Act.put, List.setIfInBounds_toArray, List.set_cons_zero, List.set_cons_succ, i64_w, i32_w]; rfl)
     refine pS 5 23 (v := ?_) (a' := ?_) (ba 17 53) HT_ (by kernel_rfl) rfl rfl (fun _ _ _ h => h) (by rfl) ?_ ?_ ?_; rotate_left 2; (intro w'; go_simp; with_reducible rfl); (simp only [Act.put, List.setIfInBounds_toArray, List.set_cons_zero, List.set_cons_succ, i64_w, i32_w]; rfl)
     refine pS 7 25 (v := ?_) (a' := ?_) (ba 17 181) HT_ (by kernel_rfl) rfl rfl (fun _ _ _ h => h) (by rfl) ?_ ?_ ?_; rotate_left 2; (intro w'; go_simp; with_reducible rfl); (simp only [Act.put, List.setIfInBounds_toArray, List.set_cons_zero, List.set_cons_succ, i64_w, i32_w]; rfl)
     refine pS 11 29 (v := ?_) (a' := ?_) (ba 17 2229) HT_ (by kernel_rfl) rfl rfl (fun _ _ _ h => h) (by rfl) ?_ ?_ ?_; rotate_left 2; (intro w'; go_simp; with_reducible rfl); (simp only [Act.put, List.setIfInBounds_toArray, List.set_cons_zero, List.set_cons_succ, i64_w, i32_w]; rfl)
     refine pS 12 30 (v := ?_) (a' := ?_) (ba 17 6325) HT_ (by kernel_rfl) rfl rfl (fun _ _ _ h => h) (by rfl) ?_ ?_ ?_; rotate_left 2; (intro w'; go_simp; with_reducible rfl); (simp only [Act.put, List.setIfInBounds_toArray, List.set_cons_zero, List.set_cons_succ, i64_w, i32_w]; rfl)
     refine pS 13 31 (v := ?_) (a' := ?_) (ba 17 14517) HT_ (by kernel_rfl) rfl rfl (fun _ _ _ h => h) (by rfl) ?_ ?_ ?_; rotate_left 2; (intro w'; go_simp; with_reducible rfl); (simp only [Act.put, List.setIfInBounds_toArray, List.set_cons_zero, List.set_cons_succ, i64_w, i32_w]; rfl)
     refine pS 14 32 (v := ?_) (a' := ?_) (ba 17 30901) HT_ (by kernel_rfl) rfl rfl (fun _ _ _ h => h) (by rfl) ?_ ?_ ?_; rotate_left 2; (intro w'; go_simp; with_reducible rfl); (simp only [Act.put, List.setIfInBounds_toArray, List.set_cons_zero, List.set_cons_succ, i64_w, i32_w]; rfl)
     refine take_ (i := 1) (N := some 19) (v := ?_) (a' := ?_) (ba 17 30903) rfl rfl (take_ofW HT_.out HW_.out (by kernel_rfl)) (fun _ _ _ h => h) (Or.inl ⟨by rfl, ?_⟩) hHeld ?_ ?_; rotate_left; (rintro w' ⟨s0, s1⟩; go_simp; with_reducible rfl); rotate_left; (simp only [Act.put, List.setIfInBounds_toArray, List.set_cons_zero, List.set_cons_succ, i64_w, i32_w]; rfl)
     refine pS 3 21 (v := ?_) (a' := ?_) (ba 17 30911) HT_ (by kernel_rfl) rfl rfl (fun _ _ _ h => h) (by rfl) ?_ ?_ ?_; rotate_left 2; (intro w'; go_simp; with_reducible rfl); (simp only [Act.put, List.setIfInBounds_toArray, List.set_cons_zero, List.set_cons_succ, i64_w, i32_w]; rfl)
     refine take_ (i := 6) (N := some 24) (v := ?_) (a' := ?_) (ba 17 30975) rfl rfl (take_ofW HT_.out HW_.out (by kernel_rfl)) (fun _ _ _ h => h) (Or.inl ⟨by rfl, ?_⟩) hHeld ?_ ?_; rotate_left; (rintro w' ⟨s0, s1⟩; go_simp; with_reducible rfl); rotate_left; (simp only [Act.put, List.setIfInBounds_toArray, List.set_cons_zero, List.set_cons_succ, i64_w, i32_w]; rfl)
     refine pS 8 26 (v := ?_) (a' := ?_) (ba 17 31231) HT_ (by kernel_rfl) rfl rfl (fun _ _ _ h => h) (by rfl) ?_ ?_ ?_; rotate_left 2; (intro w'; go_simp; with_reducible rfl); (simp only [Act.put, List.setIfInBounds_toArray, List.set_cons_zero, List.set_cons_succ, i64_w, i32_w]; rfl)
     refine one_ (i := 9) (N := some 27) (ba 17 31743) rfl rfl (one_of HT_.out (by kernel_rfl)) (by decide) (fun K hK => ?_)
     refine Kd.N_lit_step (Kd.slice 47 k47) _ 22 ?hg (N' := 27) ?hd (xs := ([y105, l3, y110] : List (List (S47)))) (inner := [.slice A0_0 y105.length c0_0, .slice A3 l3.length c3, .slice A18 y110.length c18]) (ok := (fun k_ => ((P0_0_ k_ ∨ P3_ k_) ∨ w.heap.size ≤ k_) ∧ k_ ≠ gb101 ∧ k_ ≠ gb102)) (okp := (fun k_ => ((P0_0_ k_ ∨ P3_ k_) ∨ w.heap.size ≤ k_) ∧ k_ ≠ gb101 ∧ k_ ≠ gb102)) ?hr ?hp (fun _ hk => hk) ((show ∀ k_, w16.heap.size ≤ k_ → (fun k_ => ((P0_0_ k_ ∨ P3_ k_) ∨ w.heap.size ≤ k_) ∧ k_ ≠ gb101 ∧ k_ ≠ gb102) k_ from fun k_ hk => ⟨(.inr (Nat.le_trans (below_size HB.out) hk)), Kd.freshB (g := gb101) (o := .cells #[.slice A0_0 l0_0.length c0_0, .int .i64 a0_1] 24 (0, 0)) BK101.out k_ hk, Kd.freshB (g := gb102) (o := .cells #[.slice none 0 0, .int .i64 0] 24 (0, 0)) BK102.out k_ hk⟩) _ (Nat.le_refl _)) (Below.refl _ _) (Nat.le_refl _) (by simp) ?_; (case hd => rfl); (case hg => rfl); (case hr => first | (go_simp; done) | (go_simp; rfl)); (case hp => exact (Reps.one (show Kd.FK (Kd.slice 47 k47) _ _ y105 [.slice A0_0 y105.length c0_0] from (Kd.FK_slice_mk (Kd.V_reads' (Kd.V_mono (ok' := (fun k_ => ((P0_0_ k_ ∨ P3_ k_) ∨ w.heap.size ≤ k_) ∧ k_ ≠ gb101 ∧ k_ ≠ gb102)) (HO109.out) (fun k_ hk => ⟨hk.1.1, ⟨hk.1.2, hk.2⟩⟩))).2.1 (Kd.V_F (Kd.V_mono (ok' := (fun k_ => ((P0_0_ k_ ∨ P3_ k_) ∨ w.heap.size ≤ k_) ∧ k_ ≠ gb101 ∧ k_ ≠ gb102)) (HO109.out) (fun k_ hk => ⟨hk.1.1, ⟨hk.1.2, hk.2⟩⟩))))) (Reps.one (show Kd.FK (Kd.slice 47 k47) _ _ l3 [.slice A3 l3.length c3] from (Kd.FK_slice_mk (Kd.V_reads' (Kd.V_mono (ok' := (fun k_ => ((P0_0_ k_ ∨ P3_ k_) ∨ w.heap.size ≤ k_) ∧ k_ ≠ gb101 ∧ k_ ≠ gb102)) (HO3.out) (fun k_ hk => ⟨hk.1.1, ⟨hk.1.2, hk.2⟩⟩))).2.1 (Kd.V_F (Kd.V_mono (ok' := (fun k_ => ((P0_0_ k_ ∨ P3_ k_) ∨ w.heap.size ≤ k_) ∧ k_ ≠ gb101 ∧ k_ ≠ gb102)) (HO3.out) (fun k_ hk => ⟨hk.1.1, ⟨hk.1.2, hk.2⟩⟩))))) (Reps.one (show Kd.FK (Kd.slice 47 k47) _ _ y110 [.slice A18 y110.length c18] from (Kd.FK_slice_mk (Kd.V_reads' (Kd.V_mono (ok' := (fun k_ => ((P0_0_ k_ ∨ P3_ k_) ∨ w.heap.size ≤ k_) ∧ k_ ≠ gb101 ∧ k_ ≠ gb102)) (HO114.out) (fun k_ hk => ⟨hk.1.1, ⟨hk.1.2, hk.2⟩⟩))).2.1 (Kd.V_F (Kd.V_mono (ok' := (fun k_ => ((P0_0_ k_ ∨ P3_ k_) ∨ w.heap.size ≤ k_) ∧ k_ ≠ gb101 ∧ k_ ≠ gb102)) (HO114.out) (fun k_ hk => ⟨hk.1.1, ⟨hk.1.2, hk.2⟩⟩))))) (Reps.none _ _)))))
     intro v116 w19 ho20 hb hg_ hnew_
     clear hg_ hnew_
     (first | rw [← Ny115.out] at ho20 | (simp only [Int.reduceToNat] at ho20; rw [← Ny115.out] at ho20))
     replace HO0_0 := a0 (Kd.V_elder' HO0_0.out (Kd.N_base ho20) hb)
     replace HO3 := a0 (Kd.V_elder' HO3.out (Kd.N_base ho20) hb)
     replace HO109 := a0 (Kd.V_elder' HO109.out (Kd.N_base ho20) hb)
     replace HO114 := a0 (Kd.V_elder' HO114.out (Kd.N_base ho20) hb)
     have HO117 := a0 (Kd.N_lower ho20 (below_size HB.out))
     replace BK101 := a0 (bB hb BK101.out)
     replace BK102 := a0 (bB hb BK102.out)
     replace HB := a0 (below_step HB.out hb)
     clear hb ho20
     obtain ⟨Ao21, co21, eo21⟩ := Kd.N_slice HO117.out
     (first | subst eo21 | (injection eo21 with f1_ f2_ f3_; have f4_ := f1_.symm; have f5_ := f3_.symm; clear f1_ f2_ f3_; subst f4_; subst f5_))
     refine hK.out _ _ ⟨(blk_cell BK101.out 0).trans rfl, (blk_cell BK101.out 1).trans rfl⟩ (fun hHeld => ?_)
     clear hK K
     refine norm_ (a' := ?_) ?_ ?_; rotate_left; (show Act.put _ (some 27) _ = _; simp only [Act.put, List.setIfInBounds_toArray, List.set_cons_zero, List.set_cons_succ, i64_w, i32_w]; rfl)
     refine one_ (i := 10) (N := some 28) (ba 17 32767) rfl rfl (one_of HT_.out (by kernel_rfl)) (by decide) (fun K hK => ?_)
     refine gR Try.func73 (by kernel_rfl) #[.slice Ao21 y115.length co21] (by rfl) rfl rfl rfl rfl ?_
     with_reducible refine (Concat_Sign.calls _ _ y115 t118 _ ?side1 ?side2 A10.out).mono ?_
     (case side1 => repeat (first | exact (Kd.N_reads' HO117.out).2.2 | (with_reducible refine Kd.C_alloc ?_ _) | (with_reducible refine Kd.C_drewN ?_ _) | (with_reducible refine Kd.C_drew ?_)))
     (case side2 => exact (Kd.N_reads' HO117.out).2.1)
     rintro e w22 ⟨v119, rfl, ho0, hb⟩
     refine ⟨_, rfl, ?_⟩
     replace HO0_0 := a0 (Kd.V_elder' HO0_0.out (Kd.R_base ho0) hb)
     replace HO3 := a0 (Kd.V_elder' HO3.out (Kd.R_base ho0) hb)
     replace HO109 := a0 (Kd.V_elder' HO109.out (Kd.R_base ho0) hb)
     replace HO114 := a0 (Kd.V_elder' HO114.out (Kd.R_base ho0) hb)
     replace HO117 := a0 (Kd.N_elder' HO117.out (Kd.R_base ho0) hb)
     have HO120 := a0 (Kd.R_lower (Kd.R_newM (M := fun k_ => (w.heap.size ≤ k_)) ho0 (below_size HB.out) (fun k_ h_ => h_)) (below_size HB.out))
     replace BK101 := a0 (bB hb BK101.out)
     replace BK102 := a0 (bB hb BK102.out)
     replace HB := a0 (below_step HB.out hb)
     (try clear hb)
     (try clear hb2)
     (try clear hk)
     (try clear hi)
     (try clear ho0)
     obtain ⟨Ao23, co23, eo23⟩ := Kd.R_slice HO120.out
     (first | subst eo23 | (injection eo23 with f1_ f2_ f3_; have f4_ := f1_.symm; have f5_ := f3_.symm; clear f1_ f2_ f3_; subst f4_; subst f5_))
     refine hK.out _ _ ⟨(blk_cell BK101.out 0).trans rfl, (blk_cell BK101.out 1).trans rfl⟩ (fun hHeld => ?_)
     clear hK K
     refine norm_ (a' := ?_) ?_ ?_; rotate_left; (show Act.put _ (some 28) _ = _; simp only [Act.put, List.setIfInBounds_toArray, List.set_cons_zero, List.set_cons_succ, i64_w, i32_w]; rfl)
     refine pS 15 33 (v := ?_) (a' := ?_) (ba 17 65535) HT_ (by kernel_rfl) rfl rfl (fun _ _ _ h => h) (by rfl) ?_ ?_ ?_; rotate_left 2; (intro w'; go_simp; with_reducible rfl); (simp only [Act.put, List.setIfInBounds_toArray, List.set_cons_zero, List.set_cons_succ, i64_w, i32_w]; rfl)
     refine one_ (i := 16) (N := none) (ba 17 131071) rfl rfl (one_of HT_.out (by kernel_rfl)) (by decide) (fun K hK => ?_)
     have hs24 : w22.cell? ⟨gb102, 0, none⟩ = some (.slice none 0 0) := (blk_cell BK102.out 0).trans rfl
     have hfs24 := blk_frozen BK102.out 0
     have hns24_0 := NB101_102.out
     have hms24_0 := NB102_101.out
     have hs25 : w22.cell? ⟨gb102, 1, none⟩ = some (.int .i64 0) := (blk_cell BK102.out 1).trans rfl
     have hfs25 := blk_frozen BK102.out 1
     have hns25_0 := NB101_102.out
     have hms25_0 := NB102_101.out
     refine skip_ (w1 := ?_) (by rfl) rfl ?_ ?_
     rotate_left
     ·go_simp
      rfl
     refine hK.out _ _ ⟨((cell_far (p := ⟨gb102, _, none⟩) NB101_102.out _).trans (((cell_far (p := ⟨gb102, _, none⟩) NB101_102.out _).trans (hHeld.1)))), ((cell_far (p := ⟨gb102, _, none⟩) NB101_102.out _).trans (((cell_far (p := ⟨gb102, _, none⟩) NB101_102.out _).trans (hHeld.2))))⟩ (fun hHeld => ?_)
     clear hK K
     refine done_ (done_of HT_.out (by kernel_rfl)) ?_
     try go_wp2
     refine bodyPost_ret (results_cell_row rfl _ _ gb102 24 #[.slice Ao23 t118.length co23, .int .i64 (wrap64 (t103 + (l3.length : Int)))] (0, 0) _ rfl (by refine blk_put (cs := #[.slice Ao23 t118.length co23, .int .i64 0]) ?_ 1 _ rfl; refine blk_put (cs := #[.slice none 0 0, .int .i64 0]) ?_ 0 _ rfl; exact BK102.out) Try.underlying24 rfl (by kernel_rfl)) rfl ?_
     exact ⟨_, by first | rfl | (simp [errW_none, errW_some] <;> rfl) | (simp [*, errW_none, errW_some] <;> rfl), by exact Kd.R_mono (Kd.R_far (p := ⟨gb102, 1, none⟩) (Kd.R_far (p := ⟨gb102, 0, none⟩) (Kd.R_types HO120.out BK102.out (by decide)) (fun _ hk => hk.2) (.slice Ao23 t118.length co23)) (fun _ hk => hk.2) (.int .i64 (wrap64 (t103 + (l3.length : Int))))) (fun _ hk => hk.1.1), by repeat (first | (with_reducible first | exact HB.out | apply below_alloc | apply pw_below_drewN | apply below_drew1 | refine below_set ?_ GE101.out | refine below_set ?_ GE102.out) | exact HB.out)⟩
    ·rw [if_neg c9] at H
     exact absurd H (by simp)
   ·rw [if_neg c8] at H
    exact absurd H (by simp)
  ·rw [if_neg c7] at H
   exact absurd H (by simp)
 ·rw [if_neg c6] at H
  exact absurd H (by simp)

end Go.Proofs.Ytemoocoedibbpab.X

namespace Go.Proofs.Ytemoocoedibbpab.X
open Go.RowKit Go.Proofs.YtemoocoedibbpabW.PrintWords Go.Proofs.YtemoocoedibbpabW.PrintLast Go.Proofs.YtemoocoedibbpabW.PrintMore
attribute [local go_sem] max2_int min2_int max_two min_two max_three min_three max_four min_four
set_option linter.unusedVariables false
set_option linter.unusedSimpArgs false

/-! ### dactyllaw17_awake0: function 29 -/
def dactyllaw17_awake0.f (k : Nat)  : Option (Bool) := (sign_Of.f k 0 (⟨#[97, 98, 32, 99, 100]⟩ : ByteArray)).bind fun t101 => ((line_SwapWords.f k t101 2).bind fun bt105 => ((sign_Of.f k 0 (⟨#[97, 98]⟩ : ByteArray)).bind fun t111 => ((line_Swap.f t111 0).bind fun bt114 => ((line_Cut.f k t101 2 1 3).bind fun bt120 => ((line_Case.f t101 2 5 2).bind fun bt128 => (if bt105.2.2 = true then ((sign_Text.f k bt105.1).bind fun t133 => (if t133.toList = ([99, 100, 32, 97, 98] : List UInt8) then (if bt105.2.1 = 5 then (if bt114.2.2 = true then (some false) else (if (bt114.1.length : Int) = 2 then ((sign_Text.f k bt120.1).bind fun t134 => (if t134.toList = ([97, 99, 100] : List UInt8) then (if bt120.2.1 = 1 then ((sign_Text.f k bt120.2.2).bind fun t135 => (if t135.toList = ([98, 32] : List UInt8) then ((sign_Text.f k bt128.1).bind fun t136 => (if t136.toList = ([97, 98, 32, 67, 100] : List UInt8) then (if bt128.2 = 5 then ((line_Right.f t101 2).bind fun t137 => (if t137 = true then ((line_Same.f k t101 2 t101 2).bind fun t138 => (if t138 = true then ((line_Insert.f t101 2 bt120.2.2).bind fun bt139 => ((sign_Text.f k bt139.1).bind fun t143 => (if t143.toList = ([97, 98, 98, 32, 32, 99, 100] : List UInt8) then ((line_Replace.f t101 2 0 2 bt120.2.2).bind fun bt144 => ((sign_Text.f k bt144.1).bind fun t148 => (some (t148.toList == ([98, 32, 32, 99, 100] : List UInt8))))) else (some false)))) else (some false))) else (some false))) else (some false)) else (some false))) else (some false))) else (some false)) else (some false))) else (some false))) else (some false)) else (some false))) else (some false)))))))
theorem dactyllaw17_awake0.mono : ∀ k, LeO (dactyllaw17_awake0.f k ) (dactyllaw17_awake0.f (k + 1) ) := by
 intro  k
 unfold dactyllaw17_awake0.f
 repeat' first
   | (with_reducible exact line_Cut.mono _ _ _ _ _)
   | (with_reducible exact line_Same.mono _ _ _ _ _)
   | (with_reducible exact line_SwapWords.mono _ _ _)
   | (with_reducible exact sign_Of.mono _ _ _)
   | (with_reducible exact sign_Text.mono _ _)
   | (with_reducible exact LeO.refl _)
   | (with_reducible exact LeO.none _)
   | (with_reducible refine LeO.ite ?_ ?_)
   | (with_reducible refine LeO.bind ?_ (fun _ => ?_))
   | exact line_Cut.mono _ _ _ _ _
   | exact line_Same.mono _ _ _ _ _
   | exact line_SwapWords.mono _ _ _
   | exact sign_Of.mono _ _ _
   | exact sign_Text.mono _ _
   | exact LeO.none _
   | refine LeO.ite ?_ ?_
   | refine LeO.bind ?_ (fun _ => ?_)
set_option maxHeartbeats 8000000 in
set_option maxRecDepth 100000 in
theorem dactyllaw17_awake0.calls (k : Nat)  (r : Bool) (w : World) (hr_ : r = true) (h : dactyllaw17_awake0.f k  = some r) :
  Calls Try.prog 29 #[] w fun e w' => e = .returned (.bool r) ∧ Below w.heap.size w w' := by
 have HR_ := Aside0.mk hr_
 clear hr_
 have hfd24_0 : ∀ (A0 : Option Addr) (n0 c0 : Nat) (x1 : Int) (w : World), (Instr.field 24 (.agg #[.slice A0 n0 c0, .int .i64 x1]) 0).run Try.prog w = .ok (.slice A0 n0 c0) w := by intros; kernel_rfl
 have hu24 := Try.underlying24
 have HB := Aside0.mk (Below.refl w.heap.size w)
 have H : ((sign_Of.f k 0 (⟨#[97, 98, 32, 99, 100]⟩ : ByteArray)).bind fun t101 => ((line_SwapWords.f k t101 2).bind fun bt105 => ((sign_Of.f k 0 (⟨#[97, 98]⟩ : ByteArray)).bind fun t111 => ((line_Swap.f t111 0).bind fun bt114 => ((line_Cut.f k t101 2 1 3).bind fun bt120 => ((line_Case.f t101 2 5 2).bind fun bt128 => (if bt105.2.2 = true then ((sign_Text.f k bt105.1).bind fun t133 => (if t133.toList = ([99, 100, 32, 97, 98] : List UInt8) then (if bt105.2.1 = 5 then (if bt114.2.2 = true then (some false) else (if (bt114.1.length : Int) = 2 then ((sign_Text.f k bt120.1).bind fun t134 => (if t134.toList = ([97, 99, 100] : List UInt8) then (if bt120.2.1 = 1 then ((sign_Text.f k bt120.2.2).bind fun t135 => (if t135.toList = ([98, 32] : List UInt8) then ((sign_Text.f k bt128.1).bind fun t136 => (if t136.toList = ([97, 98, 32, 67, 100] : List UInt8) then (if bt128.2 = 5 then ((line_Right.f t101 2).bind fun t137 => (if t137 = true then ((line_Same.f k t101 2 t101 2).bind fun t138 => (if t138 = true then ((line_Insert.f t101 2 bt120.2.2).bind fun bt139 => ((sign_Text.f k bt139.1).bind fun t143 => (if t143.toList = ([97, 98, 98, 32, 32, 99, 100] : List UInt8) then ((line_Replace.f t101 2 0 2 bt120.2.2).bind fun bt144 => ((sign_Text.f k bt144.1).bind fun t148 => (some (t148.toList == ([98, 32, 32, 99, 100] : List UInt8))))) else (some false)))) else (some false))) else (some false))) else (some false)) else (some false))) else (some false))) else (some false)) else (some false))) else (some false))) else (some false)) else (some false))) else (some false)))))))) = some r := h
 clear h
 replace H := Option.bind_eq_some_iff.mp H
 obtain ⟨t101, A10, H⟩ := H
 try dsimp only at H
 have A1 := Aside0.mk A10
 clear A10
 replace H := Option.bind_eq_some_iff.mp H
 obtain ⟨⟨t105, t108, t109⟩, A20, H⟩ := H
 try dsimp only at H
 have A2 := Aside0.mk A20
 clear A20
 replace H := Option.bind_eq_some_iff.mp H
 obtain ⟨t111, A30, H⟩ := H
 try dsimp only at H
 have A3 := Aside0.mk A30
 clear A30
 replace H := Option.bind_eq_some_iff.mp H
 obtain ⟨⟨t114, t117, t118⟩, A40, H⟩ := H
 try dsimp only at H
 have A4 := Aside0.mk A40
 clear A40
 replace H := Option.bind_eq_some_iff.mp H
 obtain ⟨⟨t120, t123, t124⟩, A50, H⟩ := H
 try dsimp only at H
 have A5 := Aside0.mk A50
 clear A50
 replace H := Option.bind_eq_some_iff.mp H
 obtain ⟨⟨t128, t131⟩, A60, H⟩ := H
 try dsimp only at H
 have A6 := Aside0.mk A60
 clear A60
 by_cases c7 : t109 = true
 ·subst c7
  have H1 : ((sign_Text.f k t105).bind fun t133 => (if t133.toList = ([99, 100, 32, 97, 98] : List UInt8) then (if t108 = 5 then (if t118 = true then (some false) else (if (t114.length : Int) = 2 then ((sign_Text.f k t120).bind fun t134 => (if t134.toList = ([97, 99, 100] : List UInt8) then (if t123 = 1 then ((sign_Text.f k t124).bind fun t135 => (if t135.toList = ([98, 32] : List UInt8) then ((sign_Text.f k t128).bind fun t136 => (if t136.toList = ([97, 98, 32, 67, 100] : List UInt8) then (if t131 = 5 then ((line_Right.f t101 2).bind fun t137 => (if t137 = true then ((line_Same.f k t101 2 t101 2).bind fun t138 => (if t138 = true then ((line_Insert.f t101 2 t124).bind fun bt139 => ((sign_Text.f k bt139.1).bind fun t143 => (if t143.toList = ([97, 98, 98, 32, 32, 99, 100] : List UInt8) then ((line_Replace.f t101 2 0 2 t124).bind fun bt144 => ((sign_Text.f k bt144.1).bind fun t148 => (some (t148.toList == ([98, 32, 32, 99, 100] : List UInt8))))) else (some false)))) else (some false))) else (some false))) else (some false)) else (some false))) else (some false))) else (some false)) else (some false))) else (some false))) else (some false)) else (some false))) = some r := by rw [if_pos rfl] at H; exact H
  clear H
  have H := H1
  clear H1
  replace H := Option.bind_eq_some_iff.mp H
  obtain ⟨t133, A80, H⟩ := H
  try dsimp only at H
  have A8 := Aside0.mk A80
  clear A80
  by_cases c9 : t133.toList = ([99, 100, 32, 97, 98] : List UInt8)
  ·rw [if_pos c9] at H
   have c9b0 : (t133.toList == ([99, 100, 32, 97, 98] : List UInt8)) = true := beq_iff_eq.mpr c9
   have c9b1 : (t133.toList != ([99, 100, 32, 97, 98] : List UInt8)) = false := bne_eq_false_iff_eq.mpr c9
   clear c9
   by_cases c10 : t108 = 5
   ·rw [if_pos c10] at H
    have c10b0 : (t108 == 5) = true := beq_iff_eq.mpr c10
    have c10b1 : (t108 != 5) = false := bne_eq_false_iff_eq.mpr c10
    clear c10
    by_cases c11 : t118 = true
    ·subst c11
     have H1 : (some false) = some r := by rw [if_pos rfl] at H; exact H
     clear H
     have H := H1
     clear H1
     obtain rfl := Option.some.inj H
     exact absurd HR_.out (by decide)
    ·replace c11 := Bool.eq_false_iff.mpr c11
     subst c11
     have H1 : (if (t114.length : Int) = 2 then ((sign_Text.f k t120).bind fun t134 => (if t134.toList = ([97, 99, 100] : List UInt8) then (if t123 = 1 then ((sign_Text.f k t124).bind fun t135 => (if t135.toList = ([98, 32] : List UInt8) then ((sign_Text.f k t128).bind fun t136 => (if t136.toList = ([97, 98, 32, 67, 100] : List UInt8) then (if t131 = 5 then ((line_Right.f t101 2).bind fun t137 => (if t137 = true then ((line_Same.f k t101 2 t101 2).bind fun t138 => (if t138 = true then ((line_Insert.f t101 2 t124).bind fun bt139 => ((sign_Text.f k bt139.1).bind fun t143 => (if t143.toList = ([97, 98, 98, 32, 32, 99, 100] : List UInt8) then ((line_Replace.f t101 2 0 2 t124).bind fun bt144 => ((sign_Text.f k bt144.1).bind fun t148 => (some (t148.toList == ([98, 32, 32, 99, 100] : List UInt8))))) else (some false)))) else (some false))) else (some false))) else (some false)) else (some false))) else (some false))) else (some false)) else (some false))) else (some false)) = some r := by rw [if_neg (show ¬ (false = true) by decide)] at H; exact H
     clear H
     have H := H1
     clear H1
     by_cases c12 : (t114.length : Int) = 2
     ·rw [if_pos c12] at H
      have c12b0 : ((t114.length : Int) == 2) = true := beq_iff_eq.mpr c12
      have c12b1 : ((t114.length : Int) != 2) = false := bne_eq_false_iff_eq.mpr c12
      clear c12
      replace H := Option.bind_eq_some_iff.mp H
      obtain ⟨t134, A130, H⟩ := H
      try dsimp only at H
      have A13 := Aside0.mk A130
      clear A130
      by_cases c14 : t134.toList = ([97, 99, 100] : List UInt8)
      ·rw [if_pos c14] at H
       have c14b0 : (t134.toList == ([97, 99, 100] : List UInt8)) = true := beq_iff_eq.mpr c14
       have c14b1 : (t134.toList != ([97, 99, 100] : List UInt8)) = false := bne_eq_false_iff_eq.mpr c14
       clear c14
       by_cases c15 : t123 = 1
       ·rw [if_pos c15] at H
        have c15b0 : (t123 == 1) = true := beq_iff_eq.mpr c15
        have c15b1 : (t123 != 1) = false := bne_eq_false_iff_eq.mpr c15
        clear c15
        replace H := Option.bind_eq_some_iff.mp H
        obtain ⟨t135, A160, H⟩ := H
        try dsimp only at H
        have A16 := Aside0.mk A160
        clear A160
        by_cases c17 : t135.toList = ([98, 32] : List UInt8)
        ·rw [if_pos c17] at H
         have c17b0 : (t135.toList == ([98, 32] : List UInt8)) = true := beq_iff_eq.mpr c17
         have c17b1 : (t135.toList != ([98, 32] : List UInt8)) = false := bne_eq_false_iff_eq.mpr c17
         clear c17
         replace H := Option.bind_eq_some_iff.mp H
         obtain ⟨t136, A180, H⟩ := H
         try dsimp only at H
         have A18 := Aside0.mk A180
         clear A180
         by_cases c19 : t136.toList = ([97, 98, 32, 67, 100] : List UInt8)
         ·rw [if_pos c19] at H
          have c19b0 : (t136.toList == ([97, 98, 32, 67, 100] : List UInt8)) = true := beq_iff_eq.mpr c19
          have c19b1 : (t136.toList != ([97, 98, 32, 67, 100] : List UInt8)) = false := bne_eq_false_iff_eq.mpr c19
          clear c19
          by_cases c20 : t131 = 5
          ·rw [if_pos c20] at H
           have c20b0 : (t131 == 5) = true := beq_iff_eq.mpr c20
           have c20b1 : (t131 != 5) = false := bne_eq_false_iff_eq.mpr c20
           clear c20
           replace H := Option.bind_eq_some_iff.mp H
           obtain ⟨t137, A210, H⟩ := H
           try dsimp only at H
           have A21 := Aside0.mk A210
           clear A210
           by_cases c22 : t137 = true
           ·subst c22
            have H1 : ((line_Same.f k t101 2 t101 2).bind fun t138 => (if t138 = true then ((line_Insert.f t101 2 t124).bind fun bt139 => ((sign_Text.f k bt139.1).bind fun t143 => (if t143.toList = ([97, 98, 98, 32, 32, 99, 100] : List UInt8) then ((line_Replace.f t101 2 0 2 t124).bind fun bt144 => ((sign_Text.f k bt144.1).bind fun t148 => (some (t148.toList == ([98, 32, 32, 99, 100] : List UInt8))))) else (some false)))) else (some false))) = some r := by rw [if_pos rfl] at H; exact H
            clear H
            have H := H1
            clear H1
            replace H := Option.bind_eq_some_iff.mp H
            obtain ⟨t138, A230, H⟩ := H
            try dsimp only at H
            have A23 := Aside0.mk A230
            clear A230
            by_cases c24 : t138 = true
            ·subst c24
             have H1 : ((line_Insert.f t101 2 t124).bind fun bt139 => ((sign_Text.f k bt139.1).bind fun t143 => (if t143.toList = ([97, 98, 98, 32, 32, 99, 100] : List UInt8) then ((line_Replace.f t101 2 0 2 t124).bind fun bt144 => ((sign_Text.f k bt144.1).bind fun t148 => (some (t148.toList == ([98, 32, 32, 99, 100] : List UInt8))))) else (some false)))) = some r := by rw [if_pos rfl] at H; exact H
             clear H
             have H := H1
             clear H1
             replace H := Option.bind_eq_some_iff.mp H
             obtain ⟨⟨t139, t142⟩, A250, H⟩ := H
             try dsimp only at H
             have A25 := Aside0.mk A250
             clear A250
             replace H := Option.bind_eq_some_iff.mp H
             obtain ⟨t143, A260, H⟩ := H
             try dsimp only at H
             have A26 := Aside0.mk A260
             clear A260
             by_cases c27 : t143.toList = ([97, 98, 98, 32, 32, 99, 100] : List UInt8)
             ·rw [if_pos c27] at H
              have c27b0 : (t143.toList == ([97, 98, 98, 32, 32, 99, 100] : List UInt8)) = true := beq_iff_eq.mpr c27
              have c27b1 : (t143.toList != ([97, 98, 98, 32, 32, 99, 100] : List UInt8)) = false := bne_eq_false_iff_eq.mpr c27
              clear c27
              replace H := Option.bind_eq_some_iff.mp H
              obtain ⟨⟨t144, t147⟩, A280, H⟩ := H
              try dsimp only at H
              have A28 := Aside0.mk A280
              clear A280
              replace H := Option.bind_eq_some_iff.mp H
              obtain ⟨t148, A290, H⟩ := H
              try dsimp only at H
              have A29 := Aside0.mk A290
              clear A290
              obtain rfl := Option.some.inj H
              go_enter Try.func29, Try.ntmps29
              go_wp2_with (first | ((with_reducible refine gate_callee (f := 55) rfl ?_); refine gL (some 9) Try.func55 (by kernel_rfl) #[.int .i64 0, .string (⟨#[97, 98, 32, 99, 100]⟩ : ByteArray)] rfl rfl rfl rfl rfl ?_; (with_reducible refine (sign_Of.calls k 0 (⟨#[97, 98, 32, 99, 100]⟩ : ByteArray) t101 _ A1.out).mono ?_); rintro e w30 ⟨v102, rfl, ho0, hb⟩; refine ⟨_, rfl, ?_⟩; have HO103 := a0 (Kd.R_lower ho0 (below_size (by repeat (first | exact HB.out | apply below_alloc | apply pw_below_drewN | apply below_drew1)))); replace HB := a0 (below_step (by repeat (first | exact HB.out | apply below_alloc | apply pw_below_drewN | apply below_drew1)) hb); clear hb ho0; obtain ⟨Ao31, co31, eo31⟩ := Kd.R_slice HO103.out; subst eo31) | ((with_reducible refine gate_dst (N := 1) rfl ?_); (try (refine gate_guard (by rfl) ?_; dsimp only)); refine box_event ?hg (N := 1) ?hd (cs := #[.slice none 0 0, .int .i64 0]) (t := 24) ?hr ?_; (case hd => rfl); (case hg => rfl); (case hr => first | (go_simp; done) | (go_simp; rfl)); intro gb104 hg w32 hbox hb; replace HO103 := a0 (Kd.R_below HO103.out hb); have BK104 := a0 (hbox); have GW104 := a0 ((by rw [hg]; exact (below_size (by repeat (first | exact HB.out | apply below_alloc | apply pw_below_drewN | apply below_drew1))) : w.heap.size ≤ gb104)); have GE104 := a0 ((by rw [hg]; exact (below_size (by repeat (first | exact HB.out | apply below_alloc | apply pw_below_drewN | apply below_drew1))) : w.heap.size ≤ gb104)); replace HB := a0 (below_step (by repeat (first | exact HB.out | apply below_alloc | apply pw_below_drewN | apply below_drew1)) hb); clear hb hbox hg; obtain ⟨hcz33_0, hcz33_1, hfz33_0, hfz33_1⟩ := c2 BK104.out) | ((with_reducible refine gate_store (t := 24) (p := 1) rfl ?_); refine store_event (t := 24) (p := 1) (v := ?vo_w34) (w1 := ((w32.setCell ⟨gb104, 0, none⟩ (.slice Ao31 t101.length co31)).setCell ⟨gb104, 1, none⟩ (.int .i64 2))) ?hg ?ho ?hn ?hr ?_; (case ho => rfl); (case hg => rfl); (case hn => rfl); (case hr => first | (go_simp; done) | (go_simp; rfl)); intro w34 hw; have n0_ : Aside0 (Kd.R k47 47 w34 w.heap.size (fun _ => True) (.slice Ao31 t101.length co31) t101) := ⟨(by rw [hw]; exact (Kd.R_mono (Kd.R_far (p := ⟨gb104, 1, none⟩) (Kd.R_far (p := ⟨gb104, 0, none⟩) (Kd.R_types HO103.out BK104.out (by decide)) (fun _ hk => hk.2) (.slice Ao31 t101.length co31)) (fun _ hk => hk.2) (.int .i64 2)) (fun _ hk => trivial)))⟩; have n1_ : Aside0 (w34.heap[gb104]? = some (.cells #[.slice Ao31 t101.length co31, .int .i64 2] 24 (0, 0))) := ⟨(by rw [hw]; exact (by refine blk_put (cs := #[.slice Ao31 t101.length co31, .int .i64 0]) ?_ 1 _ rfl; refine blk_put (cs := #[.slice none 0 0, .int .i64 0]) ?_ 0 _ rfl; exact BK104.out))⟩; have n2_ : Aside0 (Below w.heap.size w w34) := ⟨(by rw [hw]; exact (by repeat (first | exact HB.out | apply below_alloc | apply pw_below_drewN | apply below_drew1 | refine below_set ?_ GE104.out)))⟩; clear hw; clear HO103; clear BK104; clear HB; have HO103 := n0_; have BK104 := n1_; have HB := n2_; clear n0_ n1_ n2_; obtain ⟨hcz35_0, hcz35_1, hfz35_0, hfz35_1⟩ := c2 BK104.out) | ((with_reducible refine gate_callee (f := 32) rfl ?_); refine gL (some 13) Try.func32 (by kernel_rfl) #[.agg #[.slice Ao31 t101.length co31, .int .i64 2]] rfl rfl rfl rfl rfl ?_; (with_reducible refine (line_SwapWords.calls k (fun k_ => some k_ = (.slice Ao31 t101.length co31 : Value).ownBlock) _ _ t101 2 t105 t108 true _ ?side1 A2.out).mono ?_); (case side1 => exact Kd.R_V (Kd.R_tight rfl (Kd.R_types (HO103.out) BK104.out (by decide)))); rintro e w36 ⟨v106, rfl, ho0, hb⟩; refine ⟨_, rfl, ?_⟩; have HO107 := a0 (Kd.R_lower (Kd.R_new' (Kd.R_mono (ok' := fun k_ => True) ho0 (fun _ hk_ => trivial)) (Kd.R_lt HO103.out)) (below_size (by repeat (first | exact HB.out | apply below_alloc | apply pw_below_drewN | apply below_drew1 | refine below_set ?_ GE104.out)))); replace HO103 := a0 (Kd.R_elder' HO103.out (Kd.R_base ho0) hb); replace BK104 := a0 (bB hb BK104.out); replace HB := a0 (below_step (by repeat (first | exact HB.out | apply below_alloc | apply pw_below_drewN | apply below_drew1 | refine below_set ?_ GE104.out)) hb); clear hb ho0) | ((with_reducible refine gate_dst (N := 2) rfl ?_); (try (refine gate_guard (by rfl) ?_; dsimp only)); refine box_event ?hg (N := 2) ?hd (cs := #[.slice none 0 0, .int .i64 0]) (t := 24) ?hr ?_; (case hd => rfl); (case hg => rfl); (case hr => first | (go_simp; done) | (go_simp; rfl)); intro gb110 hg w37 hbox hb; replace HO103 := a0 (Kd.R_below HO103.out hb); replace HO107 := a0 (Kd.R_below HO107.out hb); have BK110 := a0 (hbox); have GW110 := a0 ((by rw [hg]; exact (below_size (by repeat (first | exact HB.out | apply below_alloc | apply pw_below_drewN | apply below_drew1 | refine below_set ?_ GE104.out))) : w.heap.size ≤ gb110)); have GE110 := a0 ((by rw [hg]; exact (below_size (by repeat (first | exact HB.out | apply below_alloc | apply pw_below_drewN | apply below_drew1 | refine below_set ?_ GE104.out))) : w.heap.size ≤ gb110)); replace HB := a0 (below_step (by repeat (first | exact HB.out | apply below_alloc | apply pw_below_drewN | apply below_drew1 | refine below_set ?_ GE104.out)) hb); have NB104_110 := a0 ((by rw [hg]; exact Nat.ne_of_lt (blk_lt BK104.out) : gb104 ≠ gb110)); have NB110_104 := a0 ((by rw [hg]; exact Nat.ne_of_gt (blk_lt BK104.out) : gb110 ≠ gb104)); replace BK104 := a0 (bB hb BK104.out); clear hb hbox hg; obtain ⟨Ao38, co38, eo38⟩ := Kd.R_slice HO107.out; subst eo38; have hnb39 := NB110_104.out; have hnc39 := NB104_110.out; obtain ⟨hcz40_0, hcz40_1, hfz40_0, hfz40_1⟩ := c2 BK110.out) | ((with_reducible refine gate_callee (f := 55) rfl ?_); refine gL (some 17) Try.func55 (by kernel_rfl) #[.int .i64 0, .string (⟨#[97, 98]⟩ : ByteArray)] rfl rfl rfl rfl rfl ?_; (with_reducible refine (sign_Of.calls k 0 (⟨#[97, 98]⟩ : ByteArray) t111 _ A3.out).mono ?_); rintro e w41 ⟨v112, rfl, ho0, hb⟩; refine ⟨_, rfl, ?_⟩; have HO113 := a0 (Kd.R_lower (Kd.R_new' (Kd.R_new' ho0 (Kd.R_lt ((Kd.R_mono (Kd.R_far (p := ⟨gb110, 1, none⟩) (Kd.R_far (p := ⟨gb110, 0, none⟩) (Kd.R_types HO103.out BK110.out (by decide)) (fun _ hk => hk.2) (.slice Ao38 t105.length co38)) (fun _ hk => hk.2) (.int .i64 t108)) (fun _ h_ => h_.1))))) (Kd.R_lt ((Kd.R_mono (Kd.R_far (p := ⟨gb110, 1, none⟩) (Kd.R_far (p := ⟨gb110, 0, none⟩) (Kd.R_types HO107.out BK110.out (by decide)) (fun _ hk => hk.2) (.slice Ao38 t105.length co38)) (fun _ hk => hk.2) (.int .i64 t108)) (fun _ h_ => h_.1))))) (below_size (by repeat (first | exact HB.out | apply below_alloc | apply pw_below_drewN | apply below_drew1 | refine below_set ?_ GE104.out | refine below_set ?_ GE110.out)))); replace HO103 := a0 (Kd.R_elder' ((Kd.R_mono (Kd.R_far (p := ⟨gb110, 1, none⟩) (Kd.R_far (p := ⟨gb110, 0, none⟩) (Kd.R_types HO103.out BK110.out (by decide)) (fun _ hk => hk.2) (.slice Ao38 t105.length co38)) (fun _ hk => hk.2) (.int .i64 t108)) (fun _ h_ => h_.1))) (Kd.R_base ho0) hb); replace HO107 := a0 (Kd.R_elder' ((Kd.R_mono (Kd.R_far (p := ⟨gb110, 1, none⟩) (Kd.R_far (p := ⟨gb110, 0, none⟩) (Kd.R_types HO107.out BK110.out (by decide)) (fun _ hk => hk.2) (.slice Ao38 t105.length co38)) (fun _ hk => hk.2) (.int .i64 t108)) (fun _ h_ => h_.1))) (Kd.R_base ho0) hb); replace BK104 := a0 (blk_below (g := gb104) (o := .cells #[.slice Ao31 t101.length co31, .int .i64 2] 24 (0, 0)) (by refine blk_far ?_ NB104_110.out _; refine blk_far ?_ NB104_110.out _; exact BK104.out) hb); replace BK110 := a0 (blk_below (g := gb110) (o := .cells #[.slice Ao38 t105.length co38, .int .i64 t108] 24 (0, 0)) (by refine blk_put (cs := #[.slice Ao38 t105.length co38, .int .i64 0]) ?_ 1 _ rfl; refine blk_put (cs := #[.slice none 0 0, .int .i64 0]) ?_ 0 _ rfl; exact BK110.out) hb); replace HB := a0 (below_step (by repeat (first | exact HB.out | apply below_alloc | apply pw_below_drewN | apply below_drew1 | refine below_set ?_ GE104.out | refine below_set ?_ GE110.out)) hb); clear hb ho0; obtain ⟨Ao42, co42, eo42⟩ := Kd.R_slice HO113.out; subst eo42) | ((with_reducible refine gate_callee (f := 30) rfl ?_); refine gL (some 19) Try.func30 (by kernel_rfl) #[.agg #[.slice Ao42 t111.length co42, .int .i64 0]] rfl rfl rfl rfl rfl ?_; (with_reducible refine (line_Swap.calls _ _ t111 0 t114 t117 false _ ?side1 ?side2 A4.out).mono ?_); (case side1 => repeat (first | exact (Kd.R_reads' HO113.out).2.2 | (with_reducible refine Kd.C_alloc ?_ _) | (with_reducible refine Kd.C_drewN ?_ _) | (with_reducible refine Kd.C_drew ?_))); (case side2 => exact (Kd.R_reads' HO113.out).2.1); rintro e w43 ⟨v115, rfl, ho0, hb⟩; refine ⟨_, rfl, ?_⟩; have HO116 := a0 (Kd.R_lower (Kd.R_new' (Kd.R_new' (Kd.R_new' ho0 (Kd.R_lt HO103.out)) (Kd.R_lt HO107.out)) (Kd.R_lt HO113.out)) (below_size (by repeat (first | exact HB.out | apply below_alloc | apply pw_below_drewN | apply below_drew1 | refine below_set ?_ GE104.out | refine below_set ?_ GE110.out)))); replace HO103 := a0 (Kd.R_elder' HO103.out (Kd.R_base ho0) hb); replace HO107 := a0 (Kd.R_elder' HO107.out (Kd.R_base ho0) hb); replace HO113 := a0 (Kd.R_elder' HO113.out (Kd.R_base ho0) hb); replace BK104 := a0 (bB hb BK104.out); replace BK110 := a0 (bB hb BK110.out); replace HB := a0 (below_step (by repeat (first | exact HB.out | apply below_alloc | apply pw_below_drewN | apply below_drew1 | refine below_set ?_ GE104.out | refine below_set ?_ GE110.out)) hb); clear hb ho0) | ((with_reducible refine gate_dst (N := 4) rfl ?_); (try (refine gate_guard (by rfl) ?_; dsimp only)); refine box_event ?hg (N := 4) ?hd (cs := #[.slice none 0 0, .int .i64 0]) (t := 24) ?hr ?_; (case hd => rfl); (case hg => rfl); (case hr => first | (go_simp; done) | (go_simp; rfl)); intro gb119 hg w44 hbox hb; replace HO103 := a0 (Kd.R_below HO103.out hb); replace HO107 := a0 (Kd.R_below HO107.out hb); replace HO113 := a0 (Kd.R_below HO113.out hb); replace HO116 := a0 (Kd.R_below HO116.out hb); have BK119 := a0 (hbox); have GW119 := a0 ((by rw [hg]; exact (below_size (by repeat (first | exact HB.out | apply below_alloc | apply pw_below_drewN | apply below_drew1 | refine below_set ?_ GE104.out | refine below_set ?_ GE110.out))) : w.heap.size ≤ gb119)); have GE119 := a0 ((by rw [hg]; exact (below_size (by repeat (first | exact HB.out | apply below_alloc | apply pw_below_drewN | apply below_drew1 | refine below_set ?_ GE104.out | refine below_set ?_ GE110.out))) : w.heap.size ≤ gb119)); replace HB := a0 (below_step (by repeat (first | exact HB.out | apply below_alloc | apply pw_below_drewN | apply below_drew1 | refine below_set ?_ GE104.out | refine below_set ?_ GE110.out)) hb); have NB104_119 := a0 ((by rw [hg]; exact Nat.ne_of_lt (blk_lt BK104.out) : gb104 ≠ gb119)); have NB119_104 := a0 ((by rw [hg]; exact Nat.ne_of_gt (blk_lt BK104.out) : gb119 ≠ gb104)); replace BK104 := a0 (bB hb BK104.out); have NB110_119 := a0 ((by rw [hg]; exact Nat.ne_of_lt (blk_lt BK110.out) : gb110 ≠ gb119)); have NB119_110 := a0 ((by rw [hg]; exact Nat.ne_of_gt (blk_lt BK110.out) : gb119 ≠ gb110)); replace BK110 := a0 (bB hb BK110.out); clear hb hbox hg; obtain ⟨Ao45, co45, eo45⟩ := Kd.R_slice HO116.out; subst eo45; have hnb46 := NB119_104.out; have hnc46 := NB104_119.out; have hnb47 := NB119_110.out; have hnc47 := NB110_119.out; obtain ⟨hcz48_0, hcz48_1, hfz48_0, hfz48_1⟩ := c2 BK119.out) | ((with_reducible refine gate_store (t := 24) (p := 4) rfl ?_); refine store_event (t := 24) (p := 4) (v := ?vo_w49) (w1 := ((w44.setCell ⟨gb119, 0, none⟩ (.slice Ao45 t114.length co45)).setCell ⟨gb119, 1, none⟩ (.int .i64 t117))) ?hg ?ho ?hn ?hr ?_; (case ho => rfl); (case hg => rfl); (case hn => rfl); (case hr => first | (go_simp; done) | (go_simp; rfl)); intro w49 hw; have n0_ : Aside0 (Kd.R k47 47 w49 w.heap.size (fun k_ => some k_ ≠ (.slice Ao38 t105.length co38 : Value).ownBlock ∧ some k_ ≠ (.slice Ao42 t111.length co42 : Value).ownBlock ∧ some k_ ≠ (.slice Ao45 t114.length co45 : Value).ownBlock) (.slice Ao31 t101.length co31) t101) := ⟨(by rw [hw]; exact (Kd.R_mono (Kd.R_far (p := ⟨gb119, 1, none⟩) (Kd.R_far (p := ⟨gb119, 0, none⟩) (Kd.R_types HO103.out BK119.out (by decide)) (fun _ hk => hk.2) (.slice Ao45 t114.length co45)) (fun _ hk => hk.2) (.int .i64 t117)) (fun _ hk => ⟨hk.1.1.1.2, ⟨hk.1.1.2, hk.1.2⟩⟩)))⟩; have n1_ : Aside0 (Kd.R k47 47 w49 w.heap.size (fun k_ => some k_ ≠ (.slice Ao31 t101.length co31 : Value).ownBlock ∧ some k_ ≠ (.slice Ao42 t111.length co42 : Value).ownBlock ∧ some k_ ≠ (.slice Ao45 t114.length co45 : Value).ownBlock) (.slice Ao38 t105.length co38) t105) := ⟨(by rw [hw]; exact (Kd.R_mono (Kd.R_far (p := ⟨gb119, 1, none⟩) (Kd.R_far (p := ⟨gb119, 0, none⟩) (Kd.R_types HO107.out BK119.out (by decide)) (fun _ hk => hk.2) (.slice Ao45 t114.length co45)) (fun _ hk => hk.2) (.int .i64 t117)) (fun _ hk => ⟨hk.1.1.1.2, ⟨hk.1.1.2, hk.1.2⟩⟩)))⟩; have n2_ : Aside0 (Kd.R k47 47 w49 w.heap.size (fun k_ => some k_ ≠ (.slice Ao31 t101.length co31 : Value).ownBlock ∧ some k_ ≠ (.slice Ao38 t105.length co38 : Value).ownBlock ∧ some k_ ≠ (.slice Ao45 t114.length co45 : Value).ownBlock) (.slice Ao42 t111.length co42) t111) := ⟨(by rw [hw]; exact (Kd.R_mono (Kd.R_far (p := ⟨gb119, 1, none⟩) (Kd.R_far (p := ⟨gb119, 0, none⟩) (Kd.R_types HO113.out BK119.out (by decide)) (fun _ hk => hk.2) (.slice Ao45 t114.length co45)) (fun _ hk => hk.2) (.int .i64 t117)) (fun _ hk => ⟨hk.1.1.1.2, ⟨hk.1.1.2, hk.1.2⟩⟩)))⟩; have n3_ : Aside0 (Kd.R k47 47 w49 w.heap.size (fun k_ => some k_ ≠ (.slice Ao31 t101.length co31 : Value).ownBlock ∧ some k_ ≠ (.slice Ao38 t105.length co38 : Value).ownBlock ∧ some k_ ≠ (.slice Ao42 t111.length co42 : Value).ownBlock) (.slice Ao45 t114.length co45) t114) := ⟨(by rw [hw]; exact (Kd.R_mono (Kd.R_far (p := ⟨gb119, 1, none⟩) (Kd.R_far (p := ⟨gb119, 0, none⟩) (Kd.R_types HO116.out BK119.out (by decide)) (fun _ hk => hk.2) (.slice Ao45 t114.length co45)) (fun _ hk => hk.2) (.int .i64 t117)) (fun _ hk => ⟨hk.1.1.1.2, ⟨hk.1.1.2, hk.1.2⟩⟩)))⟩; have n4_ : Aside0 (w49.heap[gb104]? = some (.cells #[.slice Ao31 t101.length co31, .int .i64 2] 24 (0, 0))) := ⟨(by rw [hw]; exact (by refine blk_far ?_ NB104_119.out _; refine blk_far ?_ NB104_119.out _; exact BK104.out))⟩; have n5_ : Aside0 (w49.heap[gb110]? = some (.cells #[.slice Ao38 t105.length co38, .int .i64 t108] 24 (0, 0))) := ⟨(by rw [hw]; exact (by refine blk_far ?_ NB110_119.out _; refine blk_far ?_ NB110_119.out _; exact BK110.out))⟩; have n6_ : Aside0 (w49.heap[gb119]? = some (.cells #[.slice Ao45 t114.length co45, .int .i64 t117] 24 (0, 0))) := ⟨(by rw [hw]; exact (by refine blk_put (cs := #[.slice Ao45 t114.length co45, .int .i64 0]) ?_ 1 _ rfl; refine blk_put (cs := #[.slice none 0 0, .int .i64 0]) ?_ 0 _ rfl; exact BK119.out))⟩; have n7_ : Aside0 (Below w.heap.size w w49) := ⟨(by rw [hw]; exact (by repeat (first | exact HB.out | apply below_alloc | apply pw_below_drewN | apply below_drew1 | refine below_set ?_ GE104.out | refine below_set ?_ GE110.out | refine below_set ?_ GE119.out)))⟩; clear hw; clear HO103; clear HO107; clear HO113; clear HO116; clear BK104; clear BK110; clear BK119; clear HB; have HO103 := n0_; have HO107 := n1_; have HO113 := n2_; have HO116 := n3_; have BK104 := n4_; have BK110 := n5_; have BK119 := n6_; have HB := n7_; clear n0_ n1_ n2_ n3_ n4_ n5_ n6_ n7_; obtain ⟨hcz50_0, hcz50_1, hfz50_0, hfz50_1⟩ := c2 BK104.out) | ((with_reducible refine gate_callee (f := 35) rfl ?_); refine gL (some 24) Try.func35 (by kernel_rfl) #[.agg #[.slice Ao31 t101.length co31, .int .i64 2], .int .i64 1, .int .i64 3] rfl rfl rfl rfl rfl ?_; (with_reducible refine (line_Cut.calls k (fun k_ => some k_ = (.slice Ao31 t101.length co31 : Value).ownBlock) _ _ t101 2 1 3 t120 t123 t124 _ ?side1 A5.out).mono ?_); (case side1 => exact Kd.R_V (Kd.R_tight rfl (Kd.R_types (Kd.R_types (Kd.R_types (HO103.out) BK104.out (by decide)) BK110.out (by decide)) BK119.out (by decide)))); rintro e w51 ⟨v121, v125, rfl, ho0, ho1, hb⟩; refine ⟨_, rfl, ?_⟩; have HO122 := a0 (Kd.R_lower (Kd.R_new' (Kd.R_new' (Kd.R_new' (Kd.R_new' (Kd.R_mono (ok' := fun k_ => some k_ ≠ (v125 : Value).ownBlock) ho0 (fun _ hk_ => hk_.2)) (Kd.R_lt HO103.out)) (Kd.R_lt HO107.out)) (Kd.R_lt HO113.out)) (Kd.R_lt HO116.out)) (below_size (by repeat (first | exact HB.out | apply below_alloc | apply pw_below_drewN | apply below_drew1 | refine below_set ?_ GE104.out | refine below_set ?_ GE110.out | refine below_set ?_ GE119.out)))); have HO126 := a0 (Kd.R_lower (Kd.R_new' (Kd.R_new' (Kd.R_new' (Kd.R_new' (Kd.R_mono (ok' := fun k_ => some k_ ≠ (v121 : Value).ownBlock) ho1 (fun _ hk_ => hk_.2)) (Kd.R_lt HO103.out)) (Kd.R_lt HO107.out)) (Kd.R_lt HO113.out)) (Kd.R_lt HO116.out)) (below_size (by repeat (first | exact HB.out | apply below_alloc | apply pw_below_drewN | apply below_drew1 | refine below_set ?_ GE104.out | refine below_set ?_ GE110.out | refine below_set ?_ GE119.out)))); replace HO103 := a0 (Kd.R_mono (Kd.R_told (Kd.R_told (Kd.R_old HO103.out hb) (Kd.R_base ho0)) (Kd.R_base ho1)) (fun _ h_ => h_.1)); replace HO107 := a0 (Kd.R_mono (Kd.R_told (Kd.R_told (Kd.R_old HO107.out hb) (Kd.R_base ho0)) (Kd.R_base ho1)) (fun _ h_ => h_.1)); replace HO113 := a0 (Kd.R_mono (Kd.R_told (Kd.R_told (Kd.R_old HO113.out hb) (Kd.R_base ho0)) (Kd.R_base ho1)) (fun _ h_ => h_.1)); replace HO116 := a0 (Kd.R_mono (Kd.R_told (Kd.R_told (Kd.R_old HO116.out hb) (Kd.R_base ho0)) (Kd.R_base ho1)) (fun _ h_ => h_.1)); replace BK104 := a0 (bB hb BK104.out); replace BK110 := a0 (bB hb BK110.out); replace BK119 := a0 (bB hb BK119.out); replace HB := a0 (below_step (by repeat (first | exact HB.out | apply below_alloc | apply pw_below_drewN | apply below_drew1 | refine below_set ?_ GE104.out | refine below_set ?_ GE110.out | refine below_set ?_ GE119.out)) hb); clear hb ho0 ho1) | ((with_reducible refine gate_dst (N := 6) rfl ?_); (try (refine gate_guard (by rfl) ?_; dsimp only)); refine box_event ?hg (N := 6) ?hd (cs := #[.slice none 0 0, .int .i64 0]) (t := 24) ?hr ?_; (case hd => rfl); (case hg => rfl); (case hr => first | (go_simp; done) | (go_simp; rfl)); intro gb127 hg w52 hbox hb; replace HO103 := a0 (Kd.R_below HO103.out hb); replace HO107 := a0 (Kd.R_below HO107.out hb); replace HO113 := a0 (Kd.R_below HO113.out hb); replace HO116 := a0 (Kd.R_below HO116.out hb); replace HO122 := a0 (Kd.R_below HO122.out hb); replace HO126 := a0 (Kd.R_below HO126.out hb); have BK127 := a0 (hbox); have GW127 := a0 ((by rw [hg]; exact (below_size (by repeat (first | exact HB.out | apply below_alloc | apply pw_below_drewN | apply below_drew1 | refine below_set ?_ GE104.out | refine below_set ?_ GE110.out | refine below_set ?_ GE119.out))) : w.heap.size ≤ gb127)); have GE127 := a0 ((by rw [hg]; exact (below_size (by repeat (first | exact HB.out | apply below_alloc | apply pw_below_drewN | apply below_drew1 | refine below_set ?_ GE104.out | refine below_set ?_ GE110.out | refine below_set ?_ GE119.out))) : w.heap.size ≤ gb127)); replace HB := a0 (below_step (by repeat (first | exact HB.out | apply below_alloc | apply pw_below_drewN | apply below_drew1 | refine below_set ?_ GE104.out | refine below_set ?_ GE110.out | refine below_set ?_ GE119.out)) hb); have NB104_127 := a0 ((by rw [hg]; exact Nat.ne_of_lt (blk_lt BK104.out) : gb104 ≠ gb127)); have NB127_104 := a0 ((by rw [hg]; exact Nat.ne_of_gt (blk_lt BK104.out) : gb127 ≠ gb104)); replace BK104 := a0 (bB hb BK104.out); have NB110_127 := a0 ((by rw [hg]; exact Nat.ne_of_lt (blk_lt BK110.out) : gb110 ≠ gb127)); have NB127_110 := a0 ((by rw [hg]; exact Nat.ne_of_gt (blk_lt BK110.out) : gb127 ≠ gb110)); replace BK110 := a0 (bB hb BK110.out); have NB119_127 := a0 ((by rw [hg]; exact Nat.ne_of_lt (blk_lt BK119.out) : gb119 ≠ gb127)); have NB127_119 := a0 ((by rw [hg]; exact Nat.ne_of_gt (blk_lt BK119.out) : gb127 ≠ gb119)); replace BK119 := a0 (bB hb BK119.out); clear hb hbox hg; obtain ⟨Ao53, co53, eo53⟩ := Kd.R_slice HO122.out; subst eo53; have hnb54 := NB127_104.out; have hnc54 := NB104_127.out; have hnb55 := NB127_110.out; have hnc55 := NB110_127.out; have hnb56 := NB127_119.out; have hnc56 := NB119_127.out; obtain ⟨hcz57_0, hcz57_1, hfz57_0, hfz57_1⟩ := c2 BK127.out; obtain ⟨hcz58_0, hcz58_1, hfz58_0, hfz58_1⟩ := c2 BK104.out) | ((with_reducible refine gate_callee (f := 39) rfl ?_); refine gL (some 28) Try.func39 (by kernel_rfl) #[.agg #[.slice Ao31 t101.length co31, .int .i64 2], .int .i64 5, .int .i64 2] rfl rfl rfl rfl rfl ?_; (with_reducible refine (line_Case.calls _ _ t101 2 5 2 t128 t131 _ ?side1 ?side2 A6.out).mono ?_); (case side1 => refine (Kd.R_reads' (e := 47) (base := w.heap.size) (ok := fun k_ => (((some k_ ≠ (.slice Ao38 t105.length co38 : Value).ownBlock ∧ (some k_ ≠ (.slice Ao42 t111.length co42 : Value).ownBlock ∧ some k_ ≠ (.slice Ao45 t114.length co45 : Value).ownBlock)) ∧ some k_ ≠ (.slice Ao53 t120.length co53 : Value).ownBlock) ∧ some k_ ≠ (v125 : Value).ownBlock)) (n := t101.length) (c := co31) ?_).2.2; exact ((Kd.R_mono (Kd.R_far (p := ⟨gb127, 1, none⟩) (Kd.R_far (p := ⟨gb127, 0, none⟩) (Kd.R_types HO103.out BK127.out (by decide)) (fun _ hk => hk.2) (.slice Ao53 t120.length co53)) (fun _ hk => hk.2) (.int .i64 t123)) (fun _ h_ => h_.1)))); (case side2 => exact (Kd.R_reads' HO103.out).2.1); rintro e w59 ⟨v129, rfl, ho0, hb⟩; refine ⟨_, rfl, ?_⟩; have HO130 := a0 (Kd.R_lower (Kd.R_new' (Kd.R_new' (Kd.R_new' (Kd.R_new' (Kd.R_new' (Kd.R_new' ho0 (Kd.R_lt ((Kd.R_mono (Kd.R_far (p := ⟨gb127, 1, none⟩) (Kd.R_far (p := ⟨gb127, 0, none⟩) (Kd.R_types HO103.out BK127.out (by decide)) (fun _ hk => hk.2) (.slice Ao53 t120.length co53)) (fun _ hk => hk.2) (.int .i64 t123)) (fun _ h_ => h_.1))))) (Kd.R_lt ((Kd.R_mono (Kd.R_far (p := ⟨gb127, 1, none⟩) (Kd.R_far (p := ⟨gb127, 0, none⟩) (Kd.R_types HO107.out BK127.out (by decide)) (fun _ hk => hk.2) (.slice Ao53 t120.length co53)) (fun _ hk => hk.2) (.int .i64 t123)) (fun _ h_ => h_.1))))) (Kd.R_lt ((Kd.R_mono (Kd.R_far (p := ⟨gb127, 1, none⟩) (Kd.R_far (p := ⟨gb127, 0, none⟩) (Kd.R_types HO113.out BK127.out (by decide)) (fun _ hk => hk.2) (.slice Ao53 t120.length co53)) (fun _ hk => hk.2) (.int .i64 t123)) (fun _ h_ => h_.1))))) (Kd.R_lt ((Kd.R_mono (Kd.R_far (p := ⟨gb127, 1, none⟩) (Kd.R_far (p := ⟨gb127, 0, none⟩) (Kd.R_types HO116.out BK127.out (by decide)) (fun _ hk => hk.2) (.slice Ao53 t120.length co53)) (fun _ hk => hk.2) (.int .i64 t123)) (fun _ h_ => h_.1))))) (Kd.R_lt ((Kd.R_mono (Kd.R_far (p := ⟨gb127, 1, none⟩) (Kd.R_far (p := ⟨gb127, 0, none⟩) (Kd.R_types HO122.out BK127.out (by decide)) (fun _ hk => hk.2) (.slice Ao53 t120.length co53)) (fun _ hk => hk.2) (.int .i64 t123)) (fun _ h_ => h_.1))))) (Kd.R_lt ((Kd.R_mono (Kd.R_far (p := ⟨gb127, 1, none⟩) (Kd.R_far (p := ⟨gb127, 0, none⟩) (Kd.R_types HO126.out BK127.out (by decide)) (fun _ hk => hk.2) (.slice Ao53 t120.length co53)) (fun _ hk => hk.2) (.int .i64 t123)) (fun _ h_ => h_.1))))) (below_size (by repeat (first | exact HB.out | apply below_alloc | apply pw_below_drewN | apply below_drew1 | refine below_set ?_ GE104.out | refine below_set ?_ GE110.out | refine below_set ?_ GE119.out | refine below_set ?_ GE127.out)))); replace HO103 := a0 (Kd.R_elder' ((Kd.R_mono (Kd.R_far (p := ⟨gb127, 1, none⟩) (Kd.R_far (p := ⟨gb127, 0, none⟩) (Kd.R_types HO103.out BK127.out (by decide)) (fun _ hk => hk.2) (.slice Ao53 t120.length co53)) (fun _ hk => hk.2) (.int .i64 t123)) (fun _ h_ => h_.1))) (Kd.R_base ho0) hb); replace HO107 := a0 (Kd.R_elder' ((Kd.R_mono (Kd.R_far (p := ⟨gb127, 1, none⟩) (Kd.R_far (p := ⟨gb127, 0, none⟩) (Kd.R_types HO107.out BK127.out (by decide)) (fun _ hk => hk.2) (.slice Ao53 t120.length co53)) (fun _ hk => hk.2) (.int .i64 t123)) (fun _ h_ => h_.1))) (Kd.R_base ho0) hb); replace HO113 := a0 (Kd.R_elder' ((Kd.R_mono (Kd.R_far (p := ⟨gb127, 1, none⟩) (Kd.R_far (p := ⟨gb127, 0, none⟩) (Kd.R_types HO113.out BK127.out (by decide)) (fun _ hk => hk.2) (.slice Ao53 t120.length co53)) (fun _ hk => hk.2) (.int .i64 t123)) (fun _ h_ => h_.1))) (Kd.R_base ho0) hb); replace HO116 := a0 (Kd.R_elder' ((Kd.R_mono (Kd.R_far (p := ⟨gb127, 1, none⟩) (Kd.R_far (p := ⟨gb127, 0, none⟩) (Kd.R_types HO116.out BK127.out (by decide)) (fun _ hk => hk.2) (.slice Ao53 t120.length co53)) (fun _ hk => hk.2) (.int .i64 t123)) (fun _ h_ => h_.1))) (Kd.R_base ho0) hb); replace HO122 := a0 (Kd.R_elder' ((Kd.R_mono (Kd.R_far (p := ⟨gb127, 1, none⟩) (Kd.R_far (p := ⟨gb127, 0, none⟩) (Kd.R_types HO122.out BK127.out (by decide)) (fun _ hk => hk.2) (.slice Ao53 t120.length co53)) (fun _ hk => hk.2) (.int .i64 t123)) (fun _ h_ => h_.1))) (Kd.R_base ho0) hb); replace HO126 := a0 (Kd.R_elder' ((Kd.R_mono (Kd.R_far (p := ⟨gb127, 1, none⟩) (Kd.R_far (p := ⟨gb127, 0, none⟩) (Kd.R_types HO126.out BK127.out (by decide)) (fun _ hk => hk.2) (.slice Ao53 t120.length co53)) (fun _ hk => hk.2) (.int .i64 t123)) (fun _ h_ => h_.1))) (Kd.R_base ho0) hb); replace BK104 := a0 (blk_below (g := gb104) (o := .cells #[.slice Ao31 t101.length co31, .int .i64 2] 24 (0, 0)) (by refine blk_far ?_ NB104_127.out _; refine blk_far ?_ NB104_127.out _; exact BK104.out) hb); replace BK110 := a0 (blk_below (g := gb110) (o := .cells #[.slice Ao38 t105.length co38, .int .i64 t108] 24 (0, 0)) (by refine blk_far ?_ NB110_127.out _; refine blk_far ?_ NB110_127.out _; exact BK110.out) hb); replace BK119 := a0 (blk_below (g := gb119) (o := .cells #[.slice Ao45 t114.length co45, .int .i64 t117] 24 (0, 0)) (by refine blk_far ?_ NB119_127.out _; refine blk_far ?_ NB119_127.out _; exact BK119.out) hb); replace BK127 := a0 (blk_below (g := gb127) (o := .cells #[.slice Ao53 t120.length co53, .int .i64 t123] 24 (0, 0)) (by refine blk_put (cs := #[.slice Ao53 t120.length co53, .int .i64 0]) ?_ 1 _ rfl; refine blk_put (cs := #[.slice none 0 0, .int .i64 0]) ?_ 0 _ rfl; exact BK127.out) hb); replace HB := a0 (below_step (by repeat (first | exact HB.out | apply below_alloc | apply pw_below_drewN | apply below_drew1 | refine below_set ?_ GE104.out | refine below_set ?_ GE110.out | refine below_set ?_ GE119.out | refine below_set ?_ GE127.out)) hb); clear hb ho0) | ((with_reducible refine gate_dst (N := 8) rfl ?_); (try (refine gate_guard (by rfl) ?_; dsimp only)); refine box_event ?hg (N := 8) ?hd (cs := #[.slice none 0 0, .int .i64 0]) (t := 24) ?hr ?_; (case hd => rfl); (case hg => rfl); (case hr => first | (go_simp; done) | (go_simp; rfl)); intro gb132 hg w60 hbox hb; replace HO103 := a0 (Kd.R_below HO103.out hb); replace HO107 := a0 (Kd.R_below HO107.out hb); replace HO113 := a0 (Kd.R_below HO113.out hb); replace HO116 := a0 (Kd.R_below HO116.out hb); replace HO122 := a0 (Kd.R_below HO122.out hb); replace HO126 := a0 (Kd.R_below HO126.out hb); replace HO130 := a0 (Kd.R_below HO130.out hb); have BK132 := a0 (hbox); have GW132 := a0 ((by rw [hg]; exact (below_size (by repeat (first | exact HB.out | apply below_alloc | apply pw_below_drewN | apply below_drew1 | refine below_set ?_ GE104.out | refine below_set ?_ GE110.out | refine below_set ?_ GE119.out | refine below_set ?_ GE127.out))) : w.heap.size ≤ gb132)); have GE132 := a0 ((by rw [hg]; exact (below_size (by repeat (first | exact HB.out | apply below_alloc | apply pw_below_drewN | apply below_drew1 | refine below_set ?_ GE104.out | refine below_set ?_ GE110.out | refine below_set ?_ GE119.out | refine below_set ?_ GE127.out))) : w.heap.size ≤ gb132)); replace HB := a0 (below_step (by repeat (first | exact HB.out | apply below_alloc | apply pw_below_drewN | apply below_drew1 | refine below_set ?_ GE104.out | refine below_set ?_ GE110.out | refine below_set ?_ GE119.out | refine below_set ?_ GE127.out)) hb); have NB104_132 := a0 ((by rw [hg]; exact Nat.ne_of_lt (blk_lt BK104.out) : gb104 ≠ gb132)); have NB132_104 := a0 ((by rw [hg]; exact Nat.ne_of_gt (blk_lt BK104.out) : gb132 ≠ gb104)); replace BK104 := a0 (bB hb BK104.out); have NB110_132 := a0 ((by rw [hg]; exact Nat.ne_of_lt (blk_lt BK110.out) : gb110 ≠ gb132)); have NB132_110 := a0 ((by rw [hg]; exact Nat.ne_of_gt (blk_lt BK110.out) : gb132 ≠ gb110)); replace BK110 := a0 (bB hb BK110.out); have NB119_132 := a0 ((by rw [hg]; exact Nat.ne_of_lt (blk_lt BK119.out) : gb119 ≠ gb132)); have NB132_119 := a0 ((by rw [hg]; exact Nat.ne_of_gt (blk_lt BK119.out) : gb132 ≠ gb119)); replace BK119 := a0 (bB hb BK119.out); have NB127_132 := a0 ((by rw [hg]; exact Nat.ne_of_lt (blk_lt BK127.out) : gb127 ≠ gb132)); have NB132_127 := a0 ((by rw [hg]; exact Nat.ne_of_gt (blk_lt BK127.out) : gb132 ≠ gb127)); replace BK127 := a0 (bB hb BK127.out); clear hb hbox hg; obtain ⟨Ao61, co61, eo61⟩ := Kd.R_slice HO130.out; subst eo61; have hnb62 := NB132_104.out; have hnc62 := NB104_132.out; have hnb63 := NB132_110.out; have hnc63 := NB110_132.out; have hnb64 := NB132_119.out; have hnc64 := NB119_132.out; have hnb65 := NB132_127.out; have hnc65 := NB127_132.out; obtain ⟨hcz66_0, hcz66_1, hfz66_0, hfz66_1⟩ := c2 BK132.out; obtain ⟨hcz67_0, hcz67_1, hfz67_0, hfz67_1⟩ := c2 BK110.out) | (go_at_call 56; (with_reducible refine (sign_Text.calls k _ _ t105 t133 _ ?side1 ?side2 A8.out).mono ?_); (case side1 => refine (Kd.R_reads' (e := 47) (base := w.heap.size) (ok := fun k_ => ((((some k_ ≠ (.slice Ao31 t101.length co31 : Value).ownBlock ∧ (some k_ ≠ (.slice Ao42 t111.length co42 : Value).ownBlock ∧ some k_ ≠ (.slice Ao45 t114.length co45 : Value).ownBlock)) ∧ some k_ ≠ (.slice Ao53 t120.length co53 : Value).ownBlock) ∧ some k_ ≠ (v125 : Value).ownBlock) ∧ some k_ ≠ (.slice Ao61 t128.length co61 : Value).ownBlock)) (n := t105.length) (c := co38) ?_).2.2; exact ((Kd.R_mono (Kd.R_far (p := ⟨gb132, 1, none⟩) (Kd.R_far (p := ⟨gb132, 0, none⟩) (Kd.R_types HO107.out BK132.out (by decide)) (fun _ hk => hk.2) (.slice Ao61 t128.length co61)) (fun _ hk => hk.2) (.int .i64 t131)) (fun _ h_ => h_.1)))); (case side2 => exact (Kd.R_reads' HO107.out).2.1); rintro e w68 ⟨rfl, hb⟩; replace HO103 := a0 (Kd.R_below ((Kd.R_mono (Kd.R_far (p := ⟨gb132, 1, none⟩) (Kd.R_far (p := ⟨gb132, 0, none⟩) (Kd.R_types HO103.out BK132.out (by decide)) (fun _ hk => hk.2) (.slice Ao61 t128.length co61)) (fun _ hk => hk.2) (.int .i64 t131)) (fun _ h_ => h_.1))) hb); replace HO107 := a0 (Kd.R_below ((Kd.R_mono (Kd.R_far (p := ⟨gb132, 1, none⟩) (Kd.R_far (p := ⟨gb132, 0, none⟩) (Kd.R_types HO107.out BK132.out (by decide)) (fun _ hk => hk.2) (.slice Ao61 t128.length co61)) (fun _ hk => hk.2) (.int .i64 t131)) (fun _ h_ => h_.1))) hb); replace HO113 := a0 (Kd.R_below ((Kd.R_mono (Kd.R_far (p := ⟨gb132, 1, none⟩) (Kd.R_far (p := ⟨gb132, 0, none⟩) (Kd.R_types HO113.out BK132.out (by decide)) (fun _ hk => hk.2) (.slice Ao61 t128.length co61)) (fun _ hk => hk.2) (.int .i64 t131)) (fun _ h_ => h_.1))) hb); replace HO116 := a0 (Kd.R_below ((Kd.R_mono (Kd.R_far (p := ⟨gb132, 1, none⟩) (Kd.R_far (p := ⟨gb132, 0, none⟩) (Kd.R_types HO116.out BK132.out (by decide)) (fun _ hk => hk.2) (.slice Ao61 t128.length co61)) (fun _ hk => hk.2) (.int .i64 t131)) (fun _ h_ => h_.1))) hb); replace HO122 := a0 (Kd.R_below ((Kd.R_mono (Kd.R_far (p := ⟨gb132, 1, none⟩) (Kd.R_far (p := ⟨gb132, 0, none⟩) (Kd.R_types HO122.out BK132.out (by decide)) (fun _ hk => hk.2) (.slice Ao61 t128.length co61)) (fun _ hk => hk.2) (.int .i64 t131)) (fun _ h_ => h_.1))) hb); replace HO126 := a0 (Kd.R_below ((Kd.R_mono (Kd.R_far (p := ⟨gb132, 1, none⟩) (Kd.R_far (p := ⟨gb132, 0, none⟩) (Kd.R_types HO126.out BK132.out (by decide)) (fun _ hk => hk.2) (.slice Ao61 t128.length co61)) (fun _ hk => hk.2) (.int .i64 t131)) (fun _ h_ => h_.1))) hb); replace HO130 := a0 (Kd.R_below ((Kd.R_mono (Kd.R_far (p := ⟨gb132, 1, none⟩) (Kd.R_far (p := ⟨gb132, 0, none⟩) (Kd.R_types HO130.out BK132.out (by decide)) (fun _ hk => hk.2) (.slice Ao61 t128.length co61)) (fun _ hk => hk.2) (.int .i64 t131)) (fun _ h_ => h_.1))) hb); replace BK104 := a0 (blk_below (g := gb104) (o := .cells #[.slice Ao31 t101.length co31, .int .i64 2] 24 (0, 0)) (by refine blk_far ?_ NB104_132.out _; refine blk_far ?_ NB104_132.out _; exact BK104.out) hb); replace BK110 := a0 (blk_below (g := gb110) (o := .cells #[.slice Ao38 t105.length co38, .int .i64 t108] 24 (0, 0)) (by refine blk_far ?_ NB110_132.out _; refine blk_far ?_ NB110_132.out _; exact BK110.out) hb); replace BK119 := a0 (blk_below (g := gb119) (o := .cells #[.slice Ao45 t114.length co45, .int .i64 t117] 24 (0, 0)) (by refine blk_far ?_ NB119_132.out _; refine blk_far ?_ NB119_132.out _; exact BK119.out) hb); replace BK127 := a0 (blk_below (g := gb127) (o := .cells #[.slice Ao53 t120.length co53, .int .i64 t123] 24 (0, 0)) (by refine blk_far ?_ NB127_132.out _; refine blk_far ?_ NB127_132.out _; exact BK127.out) hb); replace BK132 := a0 (blk_below (g := gb132) (o := .cells #[.slice Ao61 t128.length co61, .int .i64 t131] 24 (0, 0)) (by refine blk_put (cs := #[.slice Ao61 t128.length co61, .int .i64 0]) ?_ 1 _ rfl; refine blk_put (cs := #[.slice none 0 0, .int .i64 0]) ?_ 0 _ rfl; exact BK132.out) hb); replace HB := a0 (below_step (by repeat (first | exact HB.out | apply below_alloc | apply pw_below_drewN | apply below_drew1 | refine below_set ?_ GE104.out | refine below_set ?_ GE110.out | refine below_set ?_ GE119.out | refine below_set ?_ GE127.out | refine below_set ?_ GE132.out)) hb); (try clear hb); (try clear hb2); (try clear hk); (try clear hi); obtain ⟨hcz69_0, hcz69_1, hfz69_0, hfz69_1⟩ := c2 BK110.out; obtain ⟨hcz70_0, hcz70_1, hfz70_0, hfz70_1⟩ := c2 BK119.out; obtain ⟨hcz71_0, hcz71_1, hfz71_0, hfz71_1⟩ := c2 BK127.out) | (go_at_call 56; (with_reducible refine (sign_Text.calls k _ _ t120 t134 _ ?side1 ?side2 A13.out).mono ?_); (case side1 => repeat (first | exact (Kd.R_reads' HO122.out).2.2 | (with_reducible refine Kd.C_alloc ?_ _) | (with_reducible refine Kd.C_drewN ?_ _) | (with_reducible refine Kd.C_drew ?_))); (case side2 => exact (Kd.R_reads' HO122.out).2.1); rintro e w72 ⟨rfl, hb⟩; replace HO103 := a0 (Kd.R_below HO103.out hb); replace HO107 := a0 (Kd.R_below HO107.out hb); replace HO113 := a0 (Kd.R_below HO113.out hb); replace HO116 := a0 (Kd.R_below HO116.out hb); replace HO122 := a0 (Kd.R_below HO122.out hb); replace HO126 := a0 (Kd.R_below HO126.out hb); replace HO130 := a0 (Kd.R_below HO130.out hb); replace BK104 := a0 (bB hb BK104.out); replace BK110 := a0 (bB hb BK110.out); replace BK119 := a0 (bB hb BK119.out); replace BK127 := a0 (bB hb BK127.out); replace BK132 := a0 (bB hb BK132.out); replace HB := a0 (below_step (by repeat (first | exact HB.out | apply below_alloc | apply pw_below_drewN | apply below_drew1 | refine below_set ?_ GE104.out | refine below_set ?_ GE110.out | refine below_set ?_ GE119.out | refine below_set ?_ GE127.out | refine below_set ?_ GE132.out)) hb); (try clear hb); (try clear hb2); (try clear hk); (try clear hi); obtain ⟨hcz73_0, hcz73_1, hfz73_0, hfz73_1⟩ := c2 BK127.out; obtain ⟨Ao74, co74, eo74⟩ := Kd.R_slice HO126.out; subst eo74) | (go_at_call 56; (with_reducible refine (sign_Text.calls k _ _ t124 t135 _ ?side1 ?side2 A16.out).mono ?_); (case side1 => repeat (first | exact (Kd.R_reads' HO126.out).2.2 | (with_reducible refine Kd.C_alloc ?_ _) | (with_reducible refine Kd.C_drewN ?_ _) | (with_reducible refine Kd.C_drew ?_))); (case side2 => exact (Kd.R_reads' HO126.out).2.1); rintro e w75 ⟨rfl, hb⟩; replace HO103 := a0 (Kd.R_below HO103.out hb); replace HO107 := a0 (Kd.R_below HO107.out hb); replace HO113 := a0 (Kd.R_below HO113.out hb); replace HO116 := a0 (Kd.R_below HO116.out hb); replace HO122 := a0 (Kd.R_below HO122.out hb); replace HO126 := a0 (Kd.R_below HO126.out hb); replace HO130 := a0 (Kd.R_below HO130.out hb); replace BK104 := a0 (bB hb BK104.out); replace BK110 := a0 (bB hb BK110.out); replace BK119 := a0 (bB hb BK119.out); replace BK127 := a0 (bB hb BK127.out); replace BK132 := a0 (bB hb BK132.out); replace HB := a0 (below_step (by repeat (first | exact HB.out | apply below_alloc | apply pw_below_drewN | apply below_drew1 | refine below_set ?_ GE104.out | refine below_set ?_ GE110.out | refine below_set ?_ GE119.out | refine below_set ?_ GE127.out | refine below_set ?_ GE132.out)) hb); (try clear hb); (try clear hb2); (try clear hk); (try clear hi); obtain ⟨hcz76_0, hcz76_1, hfz76_0, hfz76_1⟩ := c2 BK132.out) | (go_at_call 56; (with_reducible refine (sign_Text.calls k _ _ t128 t136 _ ?side1 ?side2 A18.out).mono ?_); (case side1 => repeat (first | exact (Kd.R_reads' HO130.out).2.2 | (with_reducible refine Kd.C_alloc ?_ _) | (with_reducible refine Kd.C_drewN ?_ _) | (with_reducible refine Kd.C_drew ?_))); (case side2 => exact (Kd.R_reads' HO130.out).2.1); rintro e w77 ⟨rfl, hb⟩; replace HO103 := a0 (Kd.R_below HO103.out hb); replace HO107 := a0 (Kd.R_below HO107.out hb); replace HO113 := a0 (Kd.R_below HO113.out hb); replace HO116 := a0 (Kd.R_below HO116.out hb); replace HO122 := a0 (Kd.R_below HO122.out hb); replace HO126 := a0 (Kd.R_below HO126.out hb); replace HO130 := a0 (Kd.R_below HO130.out hb); replace BK104 := a0 (bB hb BK104.out); replace BK110 := a0 (bB hb BK110.out); replace BK119 := a0 (bB hb BK119.out); replace BK127 := a0 (bB hb BK127.out); replace BK132 := a0 (bB hb BK132.out); replace HB := a0 (below_step (by repeat (first | exact HB.out | apply below_alloc | apply pw_below_drewN | apply below_drew1 | refine below_set ?_ GE104.out | refine below_set ?_ GE110.out | refine below_set ?_ GE119.out | refine below_set ?_ GE127.out | refine below_set ?_ GE132.out)) hb); (try clear hb); (try clear hb2); (try clear hk); (try clear hi); obtain ⟨hcz78_0, hcz78_1, hfz78_0, hfz78_1⟩ := c2 BK132.out; obtain ⟨hcz79_0, hcz79_1, hfz79_0, hfz79_1⟩ := c2 BK104.out) | (go_at_call 57; (with_reducible refine (line_Right.calls _ _ t101 2 true _ ?side1 ?side2 A21.out).mono ?_); (case side1 => repeat (first | exact (Kd.R_reads' HO103.out).2.2 | (with_reducible refine Kd.C_alloc ?_ _) | (with_reducible refine Kd.C_drewN ?_ _) | (with_reducible refine Kd.C_drew ?_))); (case side2 => exact (Kd.R_reads' HO103.out).2.1); rintro e w80 ⟨rfl, hb⟩; replace HO103 := a0 (Kd.R_below HO103.out hb); replace HO107 := a0 (Kd.R_below HO107.out hb); replace HO113 := a0 (Kd.R_below HO113.out hb); replace HO116 := a0 (Kd.R_below HO116.out hb); replace HO122 := a0 (Kd.R_below HO122.out hb); replace HO126 := a0 (Kd.R_below HO126.out hb); replace HO130 := a0 (Kd.R_below HO130.out hb); replace BK104 := a0 (bB hb BK104.out); replace BK110 := a0 (bB hb BK110.out); replace BK119 := a0 (bB hb BK119.out); replace BK127 := a0 (bB hb BK127.out); replace BK132 := a0 (bB hb BK132.out); replace HB := a0 (below_step (by repeat (first | exact HB.out | apply below_alloc | apply pw_below_drewN | apply below_drew1 | refine below_set ?_ GE104.out | refine below_set ?_ GE110.out | refine below_set ?_ GE119.out | refine below_set ?_ GE127.out | refine below_set ?_ GE132.out)) hb); (try clear hb); (try clear hb2); (try clear hk); (try clear hi); obtain ⟨hcz81_0, hcz81_1, hfz81_0, hfz81_1⟩ := c2 BK104.out) | (go_at_call 68; (with_reducible refine (line_Same.calls k _ _ t101 2 _ _ t101 2 true _ ?side1 ?side2 ?side3 ?side4 A23.out).mono ?_); (case side1 => repeat (first | exact (Kd.R_reads' HO103.out).2.2 | (with_reducible refine Kd.C_alloc ?_ _) | (with_reducible refine Kd.C_drewN ?_ _) | (with_reducible refine Kd.C_drew ?_))); (case side2 => exact (Kd.R_reads' HO103.out).2.1); (case side3 => repeat (first | exact (Kd.R_reads' HO103.out).2.2 | (with_reducible refine Kd.C_alloc ?_ _) | (with_reducible refine Kd.C_drewN ?_ _) | (with_reducible refine Kd.C_drew ?_))); (case side4 => exact (Kd.R_reads' HO103.out).2.1); rintro e w82 ⟨rfl, hb⟩; replace HO103 := a0 (Kd.R_below HO103.out hb); replace HO107 := a0 (Kd.R_below HO107.out hb); replace HO113 := a0 (Kd.R_below HO113.out hb); replace HO116 := a0 (Kd.R_below HO116.out hb); replace HO122 := a0 (Kd.R_below HO122.out hb); replace HO126 := a0 (Kd.R_below HO126.out hb); replace HO130 := a0 (Kd.R_below HO130.out hb); replace BK104 := a0 (bB hb BK104.out); replace BK110 := a0 (bB hb BK110.out); replace BK119 := a0 (bB hb BK119.out); replace BK127 := a0 (bB hb BK127.out); replace BK132 := a0 (bB hb BK132.out); replace HB := a0 (below_step (by repeat (first | exact HB.out | apply below_alloc | apply pw_below_drewN | apply below_drew1 | refine below_set ?_ GE104.out | refine below_set ?_ GE110.out | refine below_set ?_ GE119.out | refine below_set ?_ GE127.out | refine below_set ?_ GE132.out)) hb); (try clear hb); (try clear hb2); (try clear hk); (try clear hi); obtain ⟨hcz83_0, hcz83_1, hfz83_0, hfz83_1⟩ := c2 BK104.out) | (go_at_call 38; (with_reducible refine (line_Insert.calls (fun k_ => some k_ = (.slice Ao31 t101.length co31 : Value).ownBlock) _ _ t101 2 (fun k_ => some k_ = (.slice Ao74 t124.length co74 : Value).ownBlock) _ _ t124 t139 t142 _ ?side1 ?side2 A25.out).mono ?_); (case side1 => exact Kd.R_V (Kd.R_tight rfl (Kd.R_types (Kd.R_types (Kd.R_types (Kd.R_types (Kd.R_types (HO103.out) BK104.out (by decide)) BK110.out (by decide)) BK119.out (by decide)) BK127.out (by decide)) BK132.out (by decide)))); (case side2 => exact Kd.R_V (Kd.R_tight rfl (Kd.R_types (Kd.R_types (Kd.R_types (Kd.R_types (Kd.R_types (HO126.out) BK104.out (by decide)) BK110.out (by decide)) BK119.out (by decide)) BK127.out (by decide)) BK132.out (by decide)))); rintro e w84 ⟨v140, rfl, ho0, hb⟩; have HO141 := a0 (Kd.R_lower (Kd.R_new' (Kd.R_new' (Kd.R_new' (Kd.R_new' (Kd.R_new' (Kd.R_new' (Kd.R_new' (Kd.R_mono (ok' := fun k_ => True) ho0 (fun _ hk_ => trivial)) (Kd.R_lt HO103.out)) (Kd.R_lt HO107.out)) (Kd.R_lt HO113.out)) (Kd.R_lt HO116.out)) (Kd.R_lt HO122.out)) (Kd.R_lt HO126.out)) (Kd.R_lt HO130.out)) (below_size (by repeat (first | exact HB.out | apply below_alloc | apply pw_below_drewN | apply below_drew1 | refine below_set ?_ GE104.out | refine below_set ?_ GE110.out | refine below_set ?_ GE119.out | refine below_set ?_ GE127.out | refine below_set ?_ GE132.out)))); replace HO103 := a0 (Kd.R_elder' HO103.out (Kd.R_base ho0) hb); replace HO107 := a0 (Kd.R_elder' HO107.out (Kd.R_base ho0) hb); replace HO113 := a0 (Kd.R_elder' HO113.out (Kd.R_base ho0) hb); replace HO116 := a0 (Kd.R_elder' HO116.out (Kd.R_base ho0) hb); replace HO122 := a0 (Kd.R_elder' HO122.out (Kd.R_base ho0) hb); replace HO126 := a0 (Kd.R_elder' HO126.out (Kd.R_base ho0) hb); replace HO130 := a0 (Kd.R_elder' HO130.out (Kd.R_base ho0) hb); replace BK104 := a0 (bB hb BK104.out); replace BK110 := a0 (bB hb BK110.out); replace BK119 := a0 (bB hb BK119.out); replace BK127 := a0 (bB hb BK127.out); replace BK132 := a0 (bB hb BK132.out); replace HB := a0 (below_step (by repeat (first | exact HB.out | apply below_alloc | apply pw_below_drewN | apply below_drew1 | refine below_set ?_ GE104.out | refine below_set ?_ GE110.out | refine below_set ?_ GE119.out | refine below_set ?_ GE127.out | refine below_set ?_ GE132.out)) hb); (try clear hb); (try clear hb2); (try clear hk); (try clear hi); (try clear ho0); obtain ⟨Ao85, co85, eo85⟩ := Kd.R_slice HO141.out; subst eo85) | (go_at_call 56; (with_reducible refine (sign_Text.calls k _ _ t139 t143 _ ?side1 ?side2 A26.out).mono ?_); (case side1 => repeat (first | exact (Kd.R_reads' HO141.out).2.2 | (with_reducible refine Kd.C_alloc ?_ _) | (with_reducible refine Kd.C_drewN ?_ _) | (with_reducible refine Kd.C_drew ?_))); (case side2 => exact (Kd.R_reads' HO141.out).2.1); rintro e w86 ⟨rfl, hb⟩; replace HO103 := a0 (Kd.R_below HO103.out hb); replace HO107 := a0 (Kd.R_below HO107.out hb); replace HO113 := a0 (Kd.R_below HO113.out hb); replace HO116 := a0 (Kd.R_below HO116.out hb); replace HO122 := a0 (Kd.R_below HO122.out hb); replace HO126 := a0 (Kd.R_below HO126.out hb); replace HO130 := a0 (Kd.R_below HO130.out hb); replace HO141 := a0 (Kd.R_below HO141.out hb); replace BK104 := a0 (bB hb BK104.out); replace BK110 := a0 (bB hb BK110.out); replace BK119 := a0 (bB hb BK119.out); replace BK127 := a0 (bB hb BK127.out); replace BK132 := a0 (bB hb BK132.out); replace HB := a0 (below_step (by repeat (first | exact HB.out | apply below_alloc | apply pw_below_drewN | apply below_drew1 | refine below_set ?_ GE104.out | refine below_set ?_ GE110.out | refine below_set ?_ GE119.out | refine below_set ?_ GE127.out | refine below_set ?_ GE132.out)) hb); (try clear hb); (try clear hb2); (try clear hk); (try clear hi); obtain ⟨hcz87_0, hcz87_1, hfz87_0, hfz87_1⟩ := c2 BK104.out) | (go_at_call 69; (with_reducible refine (line_Replace.calls (fun k_ => some k_ = (.slice Ao31 t101.length co31 : Value).ownBlock) _ _ t101 2 0 2 (fun k_ => some k_ = (.slice Ao74 t124.length co74 : Value).ownBlock) _ _ t124 t144 t147 _ ?side1 ?side2 A28.out).mono ?_); (case side1 => exact Kd.R_V (Kd.R_tight rfl (Kd.R_types (Kd.R_types (Kd.R_types (Kd.R_types (Kd.R_types (HO103.out) BK104.out (by decide)) BK110.out (by decide)) BK119.out (by decide)) BK127.out (by decide)) BK132.out (by decide)))); (case side2 => exact Kd.R_V (Kd.R_tight rfl (Kd.R_types (Kd.R_types (Kd.R_types (Kd.R_types (Kd.R_types (HO126.out) BK104.out (by decide)) BK110.out (by decide)) BK119.out (by decide)) BK127.out (by decide)) BK132.out (by decide)))); rintro e w88 ⟨v145, rfl, ho0, hb⟩; have HO146 := a0 (Kd.R_lower (Kd.R_new' (Kd.R_new' (Kd.R_new' (Kd.R_new' (Kd.R_new' (Kd.R_new' (Kd.R_new' (Kd.R_new' (Kd.R_mono (ok' := fun k_ => True) ho0 (fun _ hk_ => trivial)) (Kd.R_lt HO103.out)) (Kd.R_lt HO107.out)) (Kd.R_lt HO113.out)) (Kd.R_lt HO116.out)) (Kd.R_lt HO122.out)) (Kd.R_lt HO126.out)) (Kd.R_lt HO130.out)) (Kd.R_lt HO141.out)) (below_size (by repeat (first | exact HB.out | apply below_alloc | apply pw_below_drewN | apply below_drew1 | refine below_set ?_ GE104.out | refine below_set ?_ GE110.out | refine below_set ?_ GE119.out | refine below_set ?_ GE127.out | refine below_set ?_ GE132.out)))); replace HO103 := a0 (Kd.R_elder' HO103.out (Kd.R_base ho0) hb); replace HO107 := a0 (Kd.R_elder' HO107.out (Kd.R_base ho0) hb); replace HO113 := a0 (Kd.R_elder' HO113.out (Kd.R_base ho0) hb); replace HO116 := a0 (Kd.R_elder' HO116.out (Kd.R_base ho0) hb); replace HO122 := a0 (Kd.R_elder' HO122.out (Kd.R_base ho0) hb); replace HO126 := a0 (Kd.R_elder' HO126.out (Kd.R_base ho0) hb); replace HO130 := a0 (Kd.R_elder' HO130.out (Kd.R_base ho0) hb); replace HO141 := a0 (Kd.R_elder' HO141.out (Kd.R_base ho0) hb); replace BK104 := a0 (bB hb BK104.out); replace BK110 := a0 (bB hb BK110.out); replace BK119 := a0 (bB hb BK119.out); replace BK127 := a0 (bB hb BK127.out); replace BK132 := a0 (bB hb BK132.out); replace HB := a0 (below_step (by repeat (first | exact HB.out | apply below_alloc | apply pw_below_drewN | apply below_drew1 | refine below_set ?_ GE104.out | refine below_set ?_ GE110.out | refine below_set ?_ GE119.out | refine below_set ?_ GE127.out | refine below_set ?_ GE132.out)) hb); (try clear hb); (try clear hb2); (try clear hk); (try clear hi); (try clear ho0); obtain ⟨Ao89, co89, eo89⟩ := Kd.R_slice HO146.out; subst eo89) | (go_at_call 56; (with_reducible refine (sign_Text.calls k _ _ t144 t148 _ ?side1 ?side2 A29.out).mono ?_); (case side1 => repeat (first | exact (Kd.R_reads' HO146.out).2.2 | (with_reducible refine Kd.C_alloc ?_ _) | (with_reducible refine Kd.C_drewN ?_ _) | (with_reducible refine Kd.C_drew ?_))); (case side2 => exact (Kd.R_reads' HO146.out).2.1); rintro e w90 ⟨rfl, hb⟩; replace HO103 := a0 (Kd.R_below HO103.out hb); replace HO107 := a0 (Kd.R_below HO107.out hb); replace HO113 := a0 (Kd.R_below HO113.out hb); replace HO116 := a0 (Kd.R_below HO116.out hb); replace HO122 := a0 (Kd.R_below HO122.out hb); replace HO126 := a0 (Kd.R_below HO126.out hb); replace HO130 := a0 (Kd.R_below HO130.out hb); replace HO141 := a0 (Kd.R_below HO141.out hb); replace HO146 := a0 (Kd.R_below HO146.out hb); replace BK104 := a0 (bB hb BK104.out); replace BK110 := a0 (bB hb BK110.out); replace BK119 := a0 (bB hb BK119.out); replace BK127 := a0 (bB hb BK127.out); replace BK132 := a0 (bB hb BK132.out); replace HB := a0 (below_step (by repeat (first | exact HB.out | apply below_alloc | apply pw_below_drewN | apply below_drew1 | refine below_set ?_ GE104.out | refine below_set ?_ GE110.out | refine below_set ?_ GE119.out | refine below_set ?_ GE127.out | refine below_set ?_ GE132.out)) hb); (try clear hb); (try clear hb2); (try clear hk); (try clear hi)))
              go_ret
              exact ⟨by first | rfl | (simp [errW_none, errW_some] <;> rfl) | (simp [*, errW_none, errW_some] <;> rfl), by repeat (first | exact HB.out | apply below_alloc | apply pw_below_drewN | apply below_drew1 | refine below_set ?_ GE104.out | refine below_set ?_ GE110.out | refine below_set ?_ GE119.out | refine below_set ?_ GE127.out | refine below_set ?_ GE132.out)⟩
             ·rw [if_neg c27] at H
              have c27b0 : (t143.toList == ([97, 98, 98, 32, 32, 99, 100] : List UInt8)) = false := beq_eq_false_iff_ne.mpr c27
              have c27b1 : (t143.toList != ([97, 98, 98, 32, 32, 99, 100] : List UInt8)) = true := bne_iff_ne.mpr c27
              obtain rfl := Option.some.inj H
              exact absurd HR_.out (by decide)
            ·replace c24 := Bool.eq_false_iff.mpr c24
             subst c24
             have H1 : (some false) = some r := by rw [if_neg (show ¬ (false = true) by decide)] at H; exact H
             clear H
             have H := H1
             clear H1
             obtain rfl := Option.some.inj H
             exact absurd HR_.out (by decide)
           ·replace c22 := Bool.eq_false_iff.mpr c22
            subst c22
            have H1 : (some false) = some r := by rw [if_neg (show ¬ (false = true) by decide)] at H; exact H
            clear H
            have H := H1
            clear H1
            obtain rfl := Option.some.inj H
            exact absurd HR_.out (by decide)
          ·rw [if_neg c20] at H
           have c20b0 : (t131 == 5) = false := beq_eq_false_iff_ne.mpr c20
           have c20b1 : (t131 != 5) = true := bne_iff_ne.mpr c20
           obtain rfl := Option.some.inj H
           exact absurd HR_.out (by decide)
         ·rw [if_neg c19] at H
          have c19b0 : (t136.toList == ([97, 98, 32, 67, 100] : List UInt8)) = false := beq_eq_false_iff_ne.mpr c19
          have c19b1 : (t136.toList != ([97, 98, 32, 67, 100] : List UInt8)) = true := bne_iff_ne.mpr c19
          obtain rfl := Option.some.inj H
          exact absurd HR_.out (by decide)
        ·rw [if_neg c17] at H
         have c17b0 : (t135.toList == ([98, 32] : List UInt8)) = false := beq_eq_false_iff_ne.mpr c17
         have c17b1 : (t135.toList != ([98, 32] : List UInt8)) = true := bne_iff_ne.mpr c17
         obtain rfl := Option.some.inj H
         exact absurd HR_.out (by decide)
       ·rw [if_neg c15] at H
        have c15b0 : (t123 == 1) = false := beq_eq_false_iff_ne.mpr c15
        have c15b1 : (t123 != 1) = true := bne_iff_ne.mpr c15
        obtain rfl := Option.some.inj H
        exact absurd HR_.out (by decide)
      ·rw [if_neg c14] at H
       have c14b0 : (t134.toList == ([97, 99, 100] : List UInt8)) = false := beq_eq_false_iff_ne.mpr c14
       have c14b1 : (t134.toList != ([97, 99, 100] : List UInt8)) = true := bne_iff_ne.mpr c14
       obtain rfl := Option.some.inj H
       exact absurd HR_.out (by decide)
     ·rw [if_neg c12] at H
      have c12b0 : ((t114.length : Int) == 2) = false := beq_eq_false_iff_ne.mpr c12
      have c12b1 : ((t114.length : Int) != 2) = true := bne_iff_ne.mpr c12
      obtain rfl := Option.some.inj H
      exact absurd HR_.out (by decide)
   ·rw [if_neg c10] at H
    have c10b0 : (t108 == 5) = false := beq_eq_false_iff_ne.mpr c10
    have c10b1 : (t108 != 5) = true := bne_iff_ne.mpr c10
    obtain rfl := Option.some.inj H
    exact absurd HR_.out (by decide)
  ·rw [if_neg c9] at H
   have c9b0 : (t133.toList == ([99, 100, 32, 97, 98] : List UInt8)) = false := beq_eq_false_iff_ne.mpr c9
   have c9b1 : (t133.toList != ([99, 100, 32, 97, 98] : List UInt8)) = true := bne_iff_ne.mpr c9
   obtain rfl := Option.some.inj H
   exact absurd HR_.out (by decide)
 ·replace c7 := Bool.eq_false_iff.mpr c7
  subst c7
  have H1 : (some false) = some r := by rw [if_neg (show ¬ (false = true) by decide)] at H; exact H
  clear H
  have H := H1
  clear H1
  obtain rfl := Option.some.inj H
  exact absurd HR_.out (by decide)

theorem dactyllaw17_awake0.true_ : dactyllaw17_awake0.f 90 = some true := by decide +kernel
def dactyllaw17_awake.f : Option Bool := some true
theorem dactyllaw17_awake.calls (r : Bool) (w : World) (h : dactyllaw17_awake.f = some r) : Calls Try.prog 29 #[] w fun e w' => e = .returned (.bool r) ∧ Below w.heap.size w w' := by
 obtain rfl := Option.some.inj h
 exact dactyllaw17_awake0.calls 90 true w rfl dactyllaw17_awake0.true_

end Go.Proofs.Ytemoocoedibbpab.X

namespace Go.Proofs.Ytemoocoedibbpab.X
open Go.RowKit Go.Proofs.YtemoocoedibbpabW.PrintWords Go.Proofs.YtemoocoedibbpabW.PrintLast Go.Proofs.YtemoocoedibbpabW.PrintMore
attribute [local go_sem] max2_int min2_int max_two min_two max_three min_three max_four min_four
set_option linter.unusedVariables false
set_option linter.unusedSimpArgs false

/-! ### dactylref04_Join: function 34 -/
def dactylref04_Join.f (l0 : List (S47)) (l1 : List (S47)) : Option ((List (S47))) := (some (([] : List (S47)) : List (S47))).bind fun y101 => (if y101.length + l0.length < 8796093022208 then ((some (y101 ++ l0 : List (S47))).bind fun y104 => (if y104.length + l1.length < 8796093022208 then (some (y104 ++ l1)) else (none))) else (none))
set_option maxHeartbeats 8000000 in
set_option maxRecDepth 100000 in
theorem dactylref04_Join.calls (A0 : Option Addr) (c0 : Nat) (l0 : List (S47)) (A1 : Option Addr) (c1 : Nat) (l1 : List (S47)) (r : List (S47)) (w : World) (hr0 : Kd.C k47 w A0 l0.length l0) (hc0 : l0.length ≤ c0) (hr1 : Kd.C k47 w A1 l1.length l1) (hc1 : l1.length ≤ c1) (h : dactylref04_Join.f l0 l1 = some r) :
  Calls Try.prog 34 #[.slice A0 l0.length c0, .slice A1 l1.length c1] w fun e w' => ∃ v0_ : Value, e = .returned (v0_) ∧ Kd.R k47 47 w' w.heap.size (fun _ => True) v0_ r ∧ Below w.heap.size w w' := by
 have HR0 := Aside0.mk hr0
 have HC0 := Aside0.mk hc0
 clear hr0 hc0
 have HR1 := Aside0.mk hr1
 have HC1 := Aside0.mk hc1
 clear hr1 hc1
 have HB := Aside0.mk (Below.refl w.heap.size w)
 have H : ((some (([] : List (S47)) : List (S47))).bind fun y101 => (if y101.length + l0.length < 8796093022208 then ((some (y101 ++ l0 : List (S47))).bind fun y104 => (if y104.length + l1.length < 8796093022208 then (some (y104 ++ l1)) else (none))) else (none))) = some r := h
 clear h
 obtain ⟨y101, hy101⟩ : ∃ y_ : List (S47), y_ = (([] : List (S47))) := ⟨_, rfl⟩
 replace H : (if y101.length + l0.length < 8796093022208 then ((some (y101 ++ l0 : List (S47))).bind fun y104 => (if y104.length + l1.length < 8796093022208 then (some (y104 ++ l1)) else (none))) else (none)) = some r := by first | (rw [hy101]; with_reducible exact H) | (have H2_ := (Option.bind_some _ _).symm.trans H; rw [hy101]; with_reducible exact H2_) | (have H2_ := (Option.bind_some _ _).symm.trans H; with_reducible exact H2_) | with_reducible exact H | (rw [hy101]; exact H) | exact H
 have Ny101 := Aside0.mk hy101
 clear hy101
 by_cases c3 : y101.length + l0.length < 8796093022208
 ·rw [if_pos c3] at H
  have LMc3 := Aside0.mk c3
  clear c3
  obtain ⟨y104, hy104⟩ : ∃ y_ : List (S47), y_ = (y101 ++ l0) := ⟨_, rfl⟩
  replace H : (if y104.length + l1.length < 8796093022208 then (some (y104 ++ l1)) else (none)) = some r := by first | (rw [hy104]; with_reducible exact H) | (have H2_ := (Option.bind_some _ _).symm.trans H; rw [hy104]; with_reducible exact H2_) | (have H2_ := (Option.bind_some _ _).symm.trans H; with_reducible exact H2_) | with_reducible exact H | (rw [hy104]; exact H) | exact H
  have Ny104 := Aside0.mk hy104
  clear hy104
  by_cases c4 : y104.length + l1.length < 8796093022208
  ·rw [if_pos c4] at H
   have LMc4 := Aside0.mk c4
   clear c4
   obtain ⟨y107, hy107⟩ : ∃ y_ : List (S47), y_ = (y104 ++ l1) := ⟨_, rfl⟩
   replace H : (some y107) = some r := by first | (rw [hy107]; with_reducible exact H) | (have H2_ := (Option.bind_some _ _).symm.trans H; rw [hy107]; with_reducible exact H2_) | (have H2_ := (Option.bind_some _ _).symm.trans H; with_reducible exact H2_) | with_reducible exact H | (rw [hy107]; exact H) | exact H
   have Ny107 := Aside0.mk hy107
   clear hy107
   obtain rfl := Option.some.inj H
   go_enter Try.func34, Try.ntmps34
   go_wp2_with (first | ((with_reducible refine gate_dst (N := 5) rfl ?_); refine Kd.R_lit k47 _ 47 ?hg (N := 5) ?hd (xs := ([] : List (S47))) (inner := []) (ok := fun _ => True) (okp := fun _ => True) ?hr ?hp (fun _ hk => hk) trivial (Below.refl _ _) (Nat.le_refl _) (by simp) ?_; (case hd => rfl); (case hg => rfl); (case hr => first | (go_simp; done) | (go_simp; rfl)); (case hp => exact (Reps.none _ _)); intro v102 w5 ho6 hb hg_ hnew_; clear hg_ hnew_; (first | rw [← Ny101.out] at ho6 | (simp only [Int.reduceToNat] at ho6; rw [← Ny101.out] at ho6)); have HO103 := a0 (Kd.R_lower ho6 (below_size HB.out)); replace HB := a0 (below_step HB.out hb); clear hb ho6) | ((with_reducible refine gate_builtin (b := .append) (xs := #[.tmp 5, .tmp 6]) rfl ?_); at_builtin; refine Kd.R_append_rows k47 (w0 := w) w.heap.size rfl (.tmp 5) (.tmp 6) 22 47 (.agg #[(.int .i64 0), (.int .i64 0)]) 16 rfl Try.underlying22 info47 rfl (by decide) (by omega) v102 y101 l0 _ _ _ (fun _ => True) (fun _ => False) rfl rfl ?aO ?aR (fun _ _ h => h) (fun _ h => h.elim) ?aF ?aB ?aS ?aL ?_; (case aR => repeat (first | exact (Kd.C_below HR0.out HB.out) | (with_reducible refine Kd.C_alloc ?_ _) | (with_reducible refine Kd.C_drewN ?_ _) | (with_reducible refine Kd.C_drew ?_))); (case aB => exact HB.out); (case aF => exact (fun _ _ => trivial)); (case aO => exact HO103.out); (case aS => exact (below_size HB.out)); (case aL => have := LMc3.out; omega); intro v105 w7 ho hb hg hat; rw [← Ny104.out] at ho; have n0_ := Aside0.mk (hb); have n1_ := Aside0.mk (ho); clear HB; clear HO103; have HB := n0_; have HO106 := n1_; clear n0_ n1_; clear ho hb hg hat) | ((with_reducible refine gate_builtin (b := .append) (xs := #[.tmp 7, .tmp 8]) rfl ?_); at_builtin; refine Kd.R_append_rows k47 (w0 := w) w.heap.size rfl (.tmp 7) (.tmp 8) 22 47 (.agg #[(.int .i64 0), (.int .i64 0)]) 16 rfl Try.underlying22 info47 rfl (by decide) (by omega) v105 y104 l1 _ _ _ (fun _ => True) (fun _ => False) rfl rfl ?aO ?aR (fun _ _ h => h) (fun _ h => h.elim) ?aF ?aB ?aS ?aL ?_; (case aR => repeat (first | exact (Kd.C_below HR1.out HB.out) | (with_reducible refine Kd.C_alloc ?_ _) | (with_reducible refine Kd.C_drewN ?_ _) | (with_reducible refine Kd.C_drew ?_))); (case aB => exact HB.out); (case aF => exact (fun _ _ => trivial)); (case aO => exact HO106.out); (case aS => exact (below_size HB.out)); (case aL => have := LMc4.out; omega); intro v108 w8 ho hb hg hat; rw [← Ny107.out] at ho; have n0_ := Aside0.mk (hb); have n1_ := Aside0.mk (ho); clear HB; clear HO106; have HB := n0_; have HO109 := n1_; clear n0_ n1_; clear ho hb hg hat))
   go_ret
   exact ⟨_, by first | rfl | (simp [errW_none, errW_some] <;> rfl) | (simp [*, errW_none, errW_some] <;> rfl), by exact HO109.out, by repeat (first | (with_reducible first | exact HB.out | apply below_alloc | apply pw_below_drewN | apply below_drew1) | exact HB.out)⟩
  ·rw [if_neg c4] at H
   exact absurd H (by simp)
 ·rw [if_neg c3] at H
  exact absurd H (by simp)

end Go.Proofs.Ytemoocoedibbpab.X

namespace Go.Proofs.Ytemoocoedibbpab.X
open Go.RowKit Go.Proofs.YtemoocoedibbpabW.PrintWords Go.Proofs.YtemoocoedibbpabW.PrintLast Go.Proofs.YtemoocoedibbpabW.PrintMore
attribute [local go_sem] max2_int min2_int max_two min_two max_three min_three max_four min_four
set_option linter.unusedVariables false
set_option linter.unusedSimpArgs false

/-! ### dactylref01_Low: function 36 -/
def dactylref01_Low.f (a0 : Int) (a1 : Int) : Option (Int) := if a0 < a1 then (some a0) else (some a1)
set_option maxHeartbeats 8000000 in
set_option maxRecDepth 100000 in
theorem dactylref01_Low.calls (a0 : Int) (a1 : Int) (r : Int) (w : World) (h : dactylref01_Low.f a0 a1 = some r) :
    Calls Try.prog 36 #[.int .i64 a0, .int .i64 a1] w fun e w' => e = .returned (.int .i64 r) ∧ Drawn0 w w' := by
  have H : (if a0 < a1 then (some a0) else (some a1)) = some r := h
  clear h
  by_cases c3 : a0 < a1
  · rw [if_pos c3] at H
    have c3b0 : decide (a0 < a1) = true := decide_eq_true c3
    clear c3
    obtain rfl := Option.some.inj H
    go_enter Try.func36, Try.ntmps36
    go_wp2
    go_ret
    exact ⟨by first | rfl | (simp; done) | (simp [*]; done), by repeat (first | exact Drawn0.refl _ | apply Drawn0.step)⟩
  · rw [if_neg c3] at H
    have c3b0 : decide (a0 < a1) = false := decide_eq_false c3
    clear c3
    obtain rfl := Option.some.inj H
    go_enter Try.func36, Try.ntmps36
    go_wp2
    go_ret
    exact ⟨by first | rfl | (simp; done) | (simp [*]; done), by repeat (first | exact Drawn0.refl _ | apply Drawn0.step)⟩

end Go.Proofs.Ytemoocoedibbpab.X

namespace Go.Proofs.Ytemoocoedibbpab.X
open Go.RowKit Go.Proofs.YtemoocoedibbpabW.PrintWords Go.Proofs.YtemoocoedibbpabW.PrintLast Go.Proofs.YtemoocoedibbpabW.PrintMore
attribute [local go_sem] max2_int min2_int max_two min_two max_three min_three max_four min_four
set_option linter.unusedVariables false
set_option linter.unusedSimpArgs false

/-! ### dactylref17_Swap: function 31 -/
def dactylref17_Swap.j0 : Nat → Bool → List (S47) → Int → Option ((List (S47)) × Int × Bool)
 | 0, _, _, _ => none
 | k + 1, x14, x102000, x102001 => if x14 = true then (some (x102000, x102001, false)) else ((dactylref01_Low.f x102001 (wrap64 ((x102000.length : Int) - 1))).bind fun t103 => (if 0 ≤ (wrap64 (t103 - 1)) then (if (wrap64 (t103 - 1)) ≤ (x102000.length : Int) then (if 0 ≤ t103 then (if t103 < (x102000.length : Int) then (if (wrap64 (t103 - 1)) < (x102000.length : Int) then ((dactylref04_Join.f (x102000.take ((wrap64 (t103 - 1)) : Int).toNat) (([(⟨(rd_T47 x102000 t103).f0, (rd_T47 x102000 t103).f1⟩ : S47), (⟨(rd_T47 x102000 (wrap64 (t103 - 1))).f0, (rd_T47 x102000 (wrap64 (t103 - 1))).f1⟩ : S47)] : List (S47)))).bind fun t114 => (if 0 ≤ (wrap64 (t103 + 1)) then (if (wrap64 (t103 + 1)) ≤ (x102000.length : Int) then ((some (x102000.drop ((wrap64 (t103 + 1)) : Int).toNat : List (S47))).bind fun y117 => (if t114.length + y117.length < 8796093022208 then (some ((t114 ++ y117), wrap64 (t103 + 1), true)) else (none))) else (none)) else (none))) else (none)) else (none)) else (none)) else (none)) else (none)))
def dactylref17_Swap.f (k : Nat) (l0_0 : List (S47)) (a0_1 : Int) : Option ((List (S47)) × Int × Bool) := if a0_1 = 0 then (dactylref17_Swap.j0 k true l0_0 a0_1) else (dactylref17_Swap.j0 k (decide ((l0_0.length : Int) < 2)) l0_0 a0_1)
theorem dactylref17_Swap.mono_l : ∀ k, (∀ y0 y1 y2, LeO (dactylref17_Swap.j0 k y0 y1 y2) (dactylref17_Swap.j0 (k + 1) y0 y1 y2))
 | 0 => fun _ _ _ r h => by simp [dactylref17_Swap.j0] at h
 | k + 1 => by
  have ih0 := dactylref17_Swap.mono_l k
  ·intro y0 y1 y2
   unfold dactylref17_Swap.j0
   repeat' first
   | (with_reducible exact ih0 _ _ _)
   | (with_reducible exact LeO.refl _)
   | (with_reducible exact LeO.none _)
   | (with_reducible refine LeO.ite ?_ ?_)
   | (with_reducible refine LeO.bind ?_ (fun _ => ?_))
   | exact ih0 _ _ _
   | exact LeO.none _
   | refine LeO.ite ?_ ?_
   | refine LeO.bind ?_ (fun _ => ?_)
theorem dactylref17_Swap.mono : ∀ a0 a1 k, LeO (dactylref17_Swap.f k a0 a1) (dactylref17_Swap.f (k + 1) a0 a1) := by
 intro a0 a1 k
 have ih0 := dactylref17_Swap.mono_l k
 unfold dactylref17_Swap.f
 repeat' first
   | (with_reducible exact ih0 _ _ _)
   | (with_reducible exact LeO.refl _)
   | (with_reducible exact LeO.none _)
   | (with_reducible refine LeO.ite ?_ ?_)
   | (with_reducible refine LeO.bind ?_ (fun _ => ?_))
   | exact ih0 _ _ _
   | exact LeO.none _
   | refine LeO.ite ?_ ?_
   | refine LeO.bind ?_ (fun _ => ?_)
def dactylref17_Swap.T4 : Bool × List (List Nat × List Nat) := (true, [([], []), ([0], [0]), ([], []), ([2], [2]), ([1, 3], [1, 3]), ([], []), ([5], [5]), ([], []), ([6, 7], [6, 7]), ([8], [8]), ([], []), ([10], [10]), ([], []), ([12], [12]), ([11, 13], [11, 13]), ([14], [14]), ([9, 15], [9, 15]), ([4, 16], [4, 16]), ([17, 17, 0, 1, 2, 3, 4, 5, 6, 7, 8, 9, 10, 11, 12, 13, 14, 15, 16, 17], [17])])
def dactylref17_Swap.B4 : List Nat := [0, 1, 0, 4, 15, 0, 32, 0, 224, 480, 0, 1024, 0, 4096, 15360, 31744, 65504, 131071, 262143]
theorem dactylref17_Swap.tab4 : rtab .any (opsOf Try.f31 4) = dactylref17_Swap.T4 := by kernel_rfl
theorem dactylref17_Swap.bits4 : waitsOk dactylref17_Swap.T4.2 dactylref17_Swap.B4 = true := by kernel_rfl
set_option maxHeartbeats 8000000 in
set_option maxRecDepth 100000 in
theorem dactylref17_Swap.calls (k : Nat) (P0_0_ : Nat → Prop) (A0_0 : Option Addr) (c0_0 : Nat) (l0_0 : List (S47)) (a0_1 : Int) (r1 : List (S47)) (r2 : Int) (r3 : Bool) (w : World) (hs0_0 : Kd.V k47 47 w w.heap.size (fun k_ => P0_0_ k_) (.slice A0_0 l0_0.length c0_0) l0_0) (h : dactylref17_Swap.f k l0_0 a0_1 = some (r1, r2, r3)) :
  Calls Try.prog 31 #[.agg #[.slice A0_0 l0_0.length c0_0, .int .i64 a0_1]] w fun e w' => ∃ v0_ : Value, e = .returned (.tuple #[.agg #[v0_, .int .i64 r2], .bool r3]) ∧ Kd.V k47 47 w' w.heap.size (fun k_ => (P0_0_ k_ ∨ w.heap.size ≤ k_)) v0_ r1 ∧ Below w.heap.size w w' := by
 have hu24 := Try.underlying24
 have hu47 := Try.underlying47
 have HO0_0 := Aside0.mk (show Kd.V k47 47 w w.heap.size (fun k_ => (P0_0_ k_ ∨ w.heap.size ≤ k_)) (.slice A0_0 l0_0.length c0_0) l0_0 from Kd.V_mono hs0_0 (fun k_ hk => .inl hk))
 have HB := Aside0.mk (Below.refl w.heap.size w)
 have H : (if a0_1 = 0 then (dactylref17_Swap.j0 k true l0_0 a0_1) else (dactylref17_Swap.j0 k (decide ((l0_0.length : Int) < 2)) l0_0 a0_1)) = some (r1, r2, r3) := h
 clear h
 have HC2 := Aside0.mk H
 clear H
 go_enter Try.func31, Try.ntmps31
 go_upto_region 1 with (first | ((with_reducible refine gate_dst (N := 1) rfl ?_); (try (refine gate_guard (by rfl) ?_; dsimp only)); refine box_event ?hg (N := 1) ?hd (cs := #[.slice A0_0 l0_0.length c0_0, .int .i64 a0_1]) (t := 24) ?hr ?_; (case hd => rfl); (case hg => rfl); (case hr => first | (go_simp; done) | (go_simp; rfl)); intro gb101 hg w3 hbox hb; replace HO0_0 := a0 (Kd.V_below (Kd.V_elderB HO0_0.out gb101 (Nat.le_of_eq hg.symm)) hb); have BK101 := a0 (hbox); have GW101 := a0 ((by rw [hg]; exact (below_size (by repeat (first | exact HB.out | apply below_alloc | apply pw_below_drewN | apply below_drew1))) : w.heap.size ≤ gb101)); have GE101 := a0 ((by rw [hg]; exact (below_size (by repeat (first | exact HB.out | apply below_alloc | apply pw_below_drewN | apply below_drew1))) : w.heap.size ≤ gb101)); replace HB := a0 (below_step (by repeat (first | exact HB.out | apply below_alloc | apply pw_below_drewN | apply below_drew1)) hb); clear hb hbox hg) | ((with_reducible refine gate_dst (N := 2) rfl ?_); (try (refine gate_guard (by rfl) ?_; dsimp only)); refine box_event ?hg (N := 2) ?hd (cs := #[.slice none 0 0, .int .i64 0]) (t := 24) ?hr ?_; (case hd => rfl); (case hg => rfl); (case hr => first | (go_simp; done) | (go_simp; rfl)); intro gb102 hg w4 hbox hb; replace HO0_0 := a0 (Kd.V_below (Kd.V_elderB HO0_0.out gb102 (Nat.le_of_eq hg.symm)) hb); have BK102 := a0 (hbox); have GW102 := a0 ((by rw [hg]; exact (below_size (by repeat (first | exact HB.out | apply below_alloc | apply pw_below_drewN | apply below_drew1 | refine below_set ?_ GE101.out))) : w.heap.size ≤ gb102)); have GE102 := a0 ((by rw [hg]; exact (below_size (by repeat (first | exact HB.out | apply below_alloc | apply pw_below_drewN | apply below_drew1 | refine below_set ?_ GE101.out))) : w.heap.size ≤ gb102)); replace HB := a0 (below_step (by repeat (first | exact HB.out | apply below_alloc | apply pw_below_drewN | apply below_drew1 | refine below_set ?_ GE101.out)) hb); have NB101_102 := a0 ((by rw [hg]; exact Nat.ne_of_lt (blk_lt BK101.out) : gb101 ≠ gb102)); have NB102_101 := a0 ((by rw [hg]; exact Nat.ne_of_gt (blk_lt BK101.out) : gb102 ≠ gb101)); replace BK101 := a0 (bB hb BK101.out); clear hb hbox hg))
 (try simp only [Act.put, List.setIfInBounds_toArray, List.set_cons_zero, List.set_cons_succ])
 go_cut [14] (fun v14 wc => ∃ (kq : Nat) (x14_1 : Bool), v14 = .bool x14_1 ∧ Aside0 (dactylref17_Swap.j0 kq x14_1 l0_0 a0_1 = some (r1, r2, r3)) ∧ Aside0 (kq ≤ k) ∧ Aside0 (Kd.V k47 47 wc w.heap.size (fun k_ => (P0_0_ k_ ∨ w.heap.size ≤ k_) ∧ k_ ≠ gb101 ∧ k_ ≠ gb102) (.slice A0_0 l0_0.length c0_0) l0_0) ∧ Aside0 (wc.heap[gb101]? = some (.cells #[(.slice A0_0 l0_0.length c0_0), .int .i64 a0_1] 24 (0, 0))) ∧ Aside0 (wc.heap[gb102]? = some (.cells #[(.slice none 0 0), .int .i64 0] 24 (0, 0))) ∧ Aside0 (Below w.heap.size w wc))
 case first =>
  have H := HC2.out
  clear HC2
  by_cases c5 : a0_1 = 0
  ·rw [if_pos c5] at H
   have c5b0 : (a0_1 == 0) = true := beq_iff_eq.mpr c5
   have c5b1 : (a0_1 != 0) = false := bne_eq_false_iff_eq.mpr c5
   clear c5
   (first | rw [c5b0] | (simp only [i64_w, i32_w]; rw [c5b0]) | skip)
   have H' := Aside0.mk H
   clear H
   have hnb6 := NB101_102.out
   have hnc6 := NB102_101.out
   obtain ⟨hcz7_0, hcz7_1, hfz7_0, hfz7_1⟩ := c2 BK101.out
   go_wp2
   go_meet
   case rel => exact ⟨_, (true), (by first | rfl | (simp; done) | (simp [*]; done)), H', ⟨by first | omega | exact Nat.le_refl _⟩, ⟨by exact Kd.V_mono HO0_0.out (fun _ hk => ⟨hk.1.1, ⟨hk.1.2, hk.2⟩⟩)⟩, ⟨by exact BK101.out⟩, ⟨by exact BK102.out⟩, ⟨by repeat (first | exact HB.out | apply below_alloc | apply pw_below_drewN | apply below_drew1 | refine below_set ?_ GE101.out | refine below_set ?_ GE102.out)⟩⟩
  ·rw [if_neg c5] at H
   have c5b0 : (a0_1 == 0) = false := beq_eq_false_iff_ne.mpr c5
   have c5b1 : (a0_1 != 0) = true := bne_iff_ne.mpr c5
   (first | rw [c5b0] | (simp only [i64_w, i32_w]; rw [c5b0]) | skip)
   have H' := Aside0.mk H
   clear H
   have hnb8 := NB101_102.out
   have hnc8 := NB102_101.out
   obtain ⟨hcz9_0, hcz9_1, hfz9_0, hfz9_1⟩ := c2 BK101.out
   go_wp2
   go_meet
   case rel => exact ⟨_, (decide ((l0_0.length : Int) < 2)), (by first | rfl | (simp; done) | (simp [*]; done)), H', ⟨by first | omega | exact Nat.le_refl _⟩, ⟨by exact Kd.V_mono HO0_0.out (fun _ hk => ⟨hk.1.1, ⟨hk.1.2, hk.2⟩⟩)⟩, ⟨by exact BK101.out⟩, ⟨by exact BK102.out⟩, ⟨by repeat (first | exact HB.out | apply below_alloc | apply pw_below_drewN | apply below_drew1 | refine below_set ?_ GE101.out | refine below_set ?_ GE102.out)⟩⟩
 case rest =>
  clear HC2
  try clear p2
  try clear c3
  try clear c5
  try clear c5b0
  try clear c5b1
  try clear c6
  try clear c8
  try clear hcz7_0
  try clear hcz7_1
  try clear hcz9_0
  try clear hcz9_1
  try clear hfz7_0
  try clear hfz7_1
  try clear hfz9_0
  try clear hfz9_1
  obtain ⟨kq, x14_1, rfl, HA, HJ1, HO_102000, BK101, BK102, HB⟩ := hcut
  cases kq with
  | zero => exact absurd HA.out (by simp [dactylref17_Swap.j0])
  | succ kj1 =>
   have H := HA.out
   clear HA
   simp only [dactylref17_Swap.j0] at H
   by_cases c10 : x14_1 = true
   ·subst c10
    have H1 : (some (l0_0, a0_1, false)) = some (r1, r2, r3) := by rw [if_pos rfl] at H; exact H
    clear H
    have H := H1
    clear H1
    simp only [Option.some.injEq, Prod.mk.injEq] at H
    obtain ⟨rfl, rfl, rfl⟩ := H
    have hnb11 := NB101_102.out
    have hnc11 := NB102_101.out
    have hcz12_0 : wc.cell? ⟨gb101, 0, none⟩ = some (.slice A0_0 l0_0.length c0_0) := (blk_cell BK101.out 0).trans rfl
    have hcz12_1 : wc.cell? ⟨gb101, 1, none⟩ = some (.int .i64 a0_1) := (blk_cell BK101.out 1).trans rfl
    have hfz12_0 := blk_frozen BK101.out 0
    have hfz12_1 := blk_frozen BK101.out 1
    obtain ⟨hcz13_0, hcz13_1, hfz13_0, hfz13_1⟩ := c2 BK102.out
    go_wp2
    refine bodyPost_ret (results_ct rfl _ _ gb102 24 #[.slice A0_0 l0_0.length c0_0, .int .i64 a0_1] (0, 0) _ rfl (by refine blk_put (cs := #[.slice A0_0 l0_0.length c0_0, .int .i64 0]) ?_ 1 _ rfl; refine blk_put (cs := #[.slice none 0 0, .int .i64 0]) ?_ 0 _ rfl; exact BK102.out) Try.underlying24 rfl (by kernel_rfl)) rfl ?_
    exact ⟨_, by first | rfl | (simp [errW_none, errW_some] <;> rfl) | (simp [*, errW_none, errW_some] <;> rfl), by exact Kd.V_mono (Kd.V_far (p := ⟨gb102, 1, none⟩) (Kd.V_far (p := ⟨gb102, 0, none⟩) (Kd.V_mono HO_102000.out (fun k_ hk => (⟨hk, hk.2.2⟩ : _ ∧ k_ ≠ gb102))) (fun _ hk => hk.2) (.slice A0_0 l0_0.length c0_0)) (fun _ hk => hk.2) (.int .i64 a0_1)) (fun _ hk => hk.1.1), by repeat (first | exact HB.out | apply below_alloc | apply pw_below_drewN | apply below_drew1 | refine below_set ?_ GE101.out | refine below_set ?_ GE102.out)⟩
   ·replace c10 := Bool.eq_false_iff.mpr c10
    subst c10
    have H1 : ((dactylref01_Low.f a0_1 (wrap64 ((l0_0.length : Int) - 1))).bind fun t103 => (if 0 ≤ (wrap64 (t103 - 1)) then (if (wrap64 (t103 - 1)) ≤ (l0_0.length : Int) then (if 0 ≤ t103 then (if t103 < (l0_0.length : Int) then (if (wrap64 (t103 - 1)) < (l0_0.length : Int) then ((dactylref04_Join.f (l0_0.take ((wrap64 (t103 - 1)) : Int).toNat) (([(⟨(rd_T47 l0_0 t103).f0, (rd_T47 l0_0 t103).f1⟩ : S47), (⟨(rd_T47 l0_0 (wrap64 (t103 - 1))).f0, (rd_T47 l0_0 (wrap64 (t103 - 1))).f1⟩ : S47)] : List (S47)))).bind fun t114 => (if 0 ≤ (wrap64 (t103 + 1)) then (if (wrap64 (t103 + 1)) ≤ (l0_0.length : Int) then ((some (l0_0.drop ((wrap64 (t103 + 1)) : Int).toNat : List (S47))).bind fun y117 => (if t114.length + y117.length < 8796093022208 then (some ((t114 ++ y117), wrap64 (t103 + 1), true)) else (none))) else (none)) else (none))) else (none)) else (none)) else (none)) else (none)) else (none))) = some (r1, r2, r3) := by rw [if_neg (show ¬ (false = true) by decide)] at H; exact H
    clear H
    have H := H1
    clear H1
    replace H := Option.bind_eq_some_iff.mp H
    obtain ⟨t103, A140, H⟩ := H
    try dsimp only at H
    have A14 := Aside0.mk A140
    clear A140
    obtain ⟨ji15, hji15⟩ : ∃ j_ : Int, (wrap64 (t103 - 1)) = j_ := ⟨_, rfl⟩
    replace H : (if 0 ≤ (ji15) then (if (ji15) ≤ (l0_0.length : Int) then (if 0 ≤ t103 then (if t103 < (l0_0.length : Int) then (if (ji15) < (l0_0.length : Int) then ((dactylref04_Join.f (l0_0.take ((ji15) : Int).toNat) (([(⟨(rd_T47 l0_0 t103).f0, (rd_T47 l0_0 t103).f1⟩ : S47), (⟨(rd_T47 l0_0 (ji15)).f0, (rd_T47 l0_0 (ji15)).f1⟩ : S47)] : List (S47)))).bind fun t114 => (if 0 ≤ (wrap64 (t103 + 1)) then (if (wrap64 (t103 + 1)) ≤ (l0_0.length : Int) then ((some (l0_0.drop ((wrap64 (t103 + 1)) : Int).toNat : List (S47))).bind fun y117 => (if t114.length + y117.length < 8796093022208 then (some ((t114 ++ y117), wrap64 (t103 + 1), true)) else (none))) else (none)) else (none))) else (none)) else (none)) else (none)) else (none)) else (none)) = some (r1, r2, r3) := by first | (rw [hji15] at H; exact H) | (simp only [hji15] at H ⊢; exact H)
    (try rw [hji15] at A14)
    have hji15w : (IntKind.i64.wrap (t103 - 1)) = ji15 := (i64_w _).trans hji15
    by_cases c16 : 0 ≤ (ji15)
    ·rw [if_pos c16] at H
     have c16b0 := eq_true c16
     have c16b1 : decide (0 ≤ (ji15)) = true := decide_eq_true c16
     clear c16
     by_cases c17 : (ji15) ≤ (l0_0.length : Int)
     ·rw [if_pos c17] at H
      have c17b0 := eq_true c17
      have c17b1 : decide ((ji15) ≤ (l0_0.length : Int)) = true := decide_eq_true c17
      clear c17
      obtain ⟨y104, hy104⟩ : ∃ y_ : List (S47), y_ = (l0_0.take ((ji15) : Int).toNat) := ⟨_, rfl⟩
      replace H : (if 0 ≤ t103 then (if t103 < (l0_0.length : Int) then (if (ji15) < (l0_0.length : Int) then ((dactylref04_Join.f y104 (([(⟨(rd_T47 l0_0 t103).f0, (rd_T47 l0_0 t103).f1⟩ : S47), (⟨(rd_T47 l0_0 (ji15)).f0, (rd_T47 l0_0 (ji15)).f1⟩ : S47)] : List (S47)))).bind fun t114 => (if 0 ≤ (wrap64 (t103 + 1)) then (if (wrap64 (t103 + 1)) ≤ (l0_0.length : Int) then ((some (l0_0.drop ((wrap64 (t103 + 1)) : Int).toNat : List (S47))).bind fun y117 => (if t114.length + y117.length < 8796093022208 then (some ((t114 ++ y117), wrap64 (t103 + 1), true)) else (none))) else (none)) else (none))) else (none)) else (none)) else (none)) = some (r1, r2, r3) := by first | (rw [hy104]; with_reducible exact H) | (have H2_ := (Option.bind_some _ _).symm.trans H; rw [hy104]; with_reducible exact H2_) | (have H2_ := (Option.bind_some _ _).symm.trans H; with_reducible exact H2_) | with_reducible exact H | (rw [hy104]; exact H) | exact H
      have Ny104 := Aside0.mk hy104
      clear hy104
      by_cases c18 : 0 ≤ t103
      ·rw [if_pos c18] at H
       have c18b0 : decide (0 ≤ t103) = true := decide_eq_true c18
       clear c18
       by_cases c19 : t103 < (l0_0.length : Int)
       ·rw [if_pos c19] at H
        have c19b0 : decide (t103 < (l0_0.length : Int)) = true := decide_eq_true c19
        clear c19
        by_cases c20 : (ji15) < (l0_0.length : Int)
        ·rw [if_pos c20] at H
         have c20b0 : decide ((ji15) < (l0_0.length : Int)) = true := decide_eq_true c20
         clear c20
         obtain ⟨y111, hy111⟩ : ∃ y_ : List (S47), y_ = (([(⟨(rd_T47 l0_0 t103).f0, (rd_T47 l0_0 t103).f1⟩ : S47), (⟨(rd_T47 l0_0 (ji15)).f0, (rd_T47 l0_0 (ji15)).f1⟩ : S47)] : List (S47))) := ⟨_, rfl⟩
         replace H : ((dactylref04_Join.f y104 y111).bind fun t114 => (if 0 ≤ (wrap64 (t103 + 1)) then (if (wrap64 (t103 + 1)) ≤ (l0_0.length : Int) then ((some (l0_0.drop ((wrap64 (t103 + 1)) : Int).toNat : List (S47))).bind fun y117 => (if t114.length + y117.length < 8796093022208 then (some ((t114 ++ y117), wrap64 (t103 + 1), true)) else (none))) else (none)) else (none))) = some (r1, r2, r3) := by first | (rw [hy111]; with_reducible exact H) | (have H2_ := (Option.bind_some _ _).symm.trans H; rw [hy111]; with_reducible exact H2_) | (have H2_ := (Option.bind_some _ _).symm.trans H; with_reducible exact H2_) | with_reducible exact H | (rw [hy111]; exact H) | exact H
         have Ny111 := Aside0.mk hy111
         clear hy111
         replace H := Option.bind_eq_some_iff.mp H
         obtain ⟨t114, A210, H⟩ := H
         try dsimp only at H
         have A21 := Aside0.mk A210
         clear A210
         obtain ⟨ji22, hji22⟩ : ∃ j_ : Int, (wrap64 (t103 + 1)) = j_ := ⟨_, rfl⟩
         replace H : (if 0 ≤ (ji22) then (if (ji22) ≤ (l0_0.length : Int) then ((some (l0_0.drop ((ji22) : Int).toNat : List (S47))).bind fun y117 => (if t114.length + y117.length < 8796093022208 then (some ((t114 ++ y117), ji22, true)) else (none))) else (none)) else (none)) = some (r1, r2, r3) := by first | (rw [hji22] at H; exact H) | (simp only [hji22] at H ⊢; exact H)
         (try rw [hji22] at A14)
         (try rw [hji22] at A21)
         have hji22w : (IntKind.i64.wrap (t103 + 1)) = ji22 := (i64_w _).trans hji22
         by_cases c23 : 0 ≤ (ji22)
         ·rw [if_pos c23] at H
          have c23b0 := eq_true c23
          have c23b1 : decide (0 ≤ (ji22)) = true := decide_eq_true c23
          clear c23
          by_cases c24 : (ji22) ≤ (l0_0.length : Int)
          ·rw [if_pos c24] at H
           have c24b0 := eq_true c24
           have c24b1 : decide ((ji22) ≤ (l0_0.length : Int)) = true := decide_eq_true c24
           clear c24
           obtain ⟨y117, hy117⟩ : ∃ y_ : List (S47), y_ = (l0_0.drop ((ji22) : Int).toNat) := ⟨_, rfl⟩
           replace H : (if t114.length + y117.length < 8796093022208 then (some ((t114 ++ y117), ji22, true)) else (none)) = some (r1, r2, r3) := by first | (rw [hy117]; with_reducible exact H) | (have H2_ := (Option.bind_some _ _).symm.trans H; rw [hy117]; with_reducible exact H2_) | (have H2_ := (Option.bind_some _ _).symm.trans H; with_reducible exact H2_) | with_reducible exact H | (rw [hy117]; exact H) | exact H
           have Ny117 := Aside0.mk hy117
           clear hy117
           by_cases c25 : t114.length + y117.length < 8796093022208
           ·rw [if_pos c25] at H
            have LMc25 := Aside0.mk c25
            clear c25
            obtain ⟨y122, hy122⟩ : ∃ y_ : List (S47), y_ = (t114 ++ y117) := ⟨_, rfl⟩
            replace H : (some (y122, ji22, true)) = some (r1, r2, r3) := by first | (rw [hy122]; with_reducible exact H) | (have H2_ := (Option.bind_some _ _).symm.trans H; rw [hy122]; with_reducible exact H2_) | (have H2_ := (Option.bind_some _ _).symm.trans H; with_reducible exact H2_) | with_reducible exact H | (rw [hy122]; exact H) | exact H
            have Ny122 := Aside0.mk hy122
            clear hy122
            simp only [Option.some.injEq, Prod.mk.injEq] at H
            obtain ⟨rfl, rfl, rfl⟩ := H
            have hnb26 := NB101_102.out
            have hnc26 := NB102_101.out
            obtain ⟨hcz27_0, hcz27_1, hfz27_0, hfz27_1⟩ := c2 BK101.out
            try go_wp2_with (first | ((with_reducible refine gate_callee (f := 36) rfl ?_); refine gL (some 22) Try.func36 (by kernel_rfl) #[.int .i64 a0_1, .int .i64 (wrap64 ((l0_0.length : Int) - 1))] rfl rfl rfl rfl rfl ?_; (with_reducible refine (dactylref01_Low.calls a0_1 (wrap64 ((l0_0.length : Int) - 1)) t103 _ A14.out).mono ?_); rintro e w' ⟨rfl, ⟨nd, rfl⟩⟩; refine ⟨_, rfl, ?_⟩; (try (rw [drewN_self wc]; generalize hq_ : World.drewN wc _ = wc; have n0_ : Aside0 (Kd.V k47 47 wc w.heap.size (fun k_ => (P0_0_ k_ ∨ w.heap.size ≤ k_) ∧ k_ ≠ gb101 ∧ k_ ≠ gb102) (.slice A0_0 l0_0.length c0_0) l0_0) := ⟨by rw [← hq_]; exact HO_102000.out⟩; have n1_ : Aside0 (wc.heap[gb101]? = some (.cells #[.slice A0_0 l0_0.length c0_0, .int .i64 a0_1] 24 (0, 0))) := ⟨by rw [← hq_]; exact BK101.out⟩; have n2_ : Aside0 (wc.heap[gb102]? = some (.cells #[.slice none 0 0, .int .i64 0] 24 (0, 0))) := ⟨by rw [← hq_]; exact BK102.out⟩; have n3_ : Aside0 (Below w.heap.size w wc) := ⟨by rw [← hq_]; exact (by repeat (first | exact HB.out | apply below_alloc | apply pw_below_drewN | apply below_drew1 | refine below_set ?_ GE101.out | refine below_set ?_ GE102.out))⟩; clear HO_102000 BK101 BK102 HB hq_; have HO_102000 := n0_; have BK101 := n1_; have BK102 := n2_; have HB := n3_; clear n0_ n1_ n2_ n3_))))
            replace HO_102000 := a0 (Kd.V_drew HO_102000.out)
            replace BK101 := a0 (blk_drew BK101.out)
            replace BK102 := a0 (blk_drew BK102.out)
            replace HB := a0 (below_drew1 HB.out)
            have q29 : ((ji15) : Int) ≤ ((l0_0.length : Int) : Int) := of_decide_eq_true (by first | (with_reducible assumption) | assumption)
            obtain ⟨i029, hi029, _, hsz29, _⟩ := info_parts info47
            have hroom29 : l0_0.length ≤ c0_0 := (Kd.V_reads' HO_102000.out).2.1
            have hC29 : Kd.F k47 _ _ A0_0 l0_0.length l0_0 := (Kd.V_at (base := w.heap.size) HO_102000.out).2.2
            have hcut29 := cut_to (P := Try.prog) 22 47 .i64 Try.underlying22 hi029 A0_0 l0_0.length c0_0 (ji15) (of_decide_eq_true (by first | (with_reducible assumption) | assumption)) q29 hroom29
            have hr29 := Kd.F_take (m := ((ji15) : Int).toNat) hC29 (by omega)
            have hy29 : y104.length = ((ji15) : Int).toNat := (by rw [Ny104.out, List.length_take]; omega)
            rw [← Ny104.out] at hr29
            rw [← hy29] at hcut29
            have HO108 := Aside0.mk (show Kd.V k47 47 _ w.heap.size _ (.slice A0_0 y104.length c0_0) y104 from Kd.V_mk (by omega) hr29)
            have HC108 := Aside0.mk (show y104.length ≤ c0_0 from by omega)
            clear hr29 hC29 hroom29 hi029 hsz29
            have KY29 := Aside0.mk hy29
            clear hy29
            replace q29 := eq_true q29
            have p109 : 0 ≤ (t103 : Int) := of_decide_eq_true (by first | (with_reducible assumption) | assumption)
            have q109 : t103 < (l0_0.length : Int) := of_decide_eq_true (by first | (with_reducible assumption) | assumption)
            obtain ⟨ad109, e109, hx109_0, hx109_1⟩ := at_T47 (Kd.V_reads' HO_102000.out).2.2 t103 p109 q109
            cases e109
            replace p109 := eq_true p109
            replace q109 := eq_true q109
            have p110 : 0 ≤ ((ji15) : Int) := of_decide_eq_true (by first | (with_reducible assumption) | assumption)
            have q110 : (ji15) < (l0_0.length : Int) := of_decide_eq_true (by first | (with_reducible assumption) | assumption)
            obtain ⟨ad110, e110, hx110_0, hx110_1⟩ := at_T47 (Kd.V_reads' HO_102000.out).2.2 (ji15) p110 q110
            obtain rfl : ad109 = ad110 := (by injection e110)
            replace p110 := eq_true p110
            replace q110 := eq_true q110
            refine start_ (n := 19) (S := fun w' => w'.cell? ⟨gb101, 0, none⟩ = some (.slice (some ad109) l0_0.length c0_0) ∧ w'.cell? ⟨gb101, 1, none⟩ = some (.int .i64 a0_1) ∧ w'.cell? (ad109.add ((t103).toNat * 2)) = some (.int .i64 ((rd_T47 l0_0 t103).f0)) ∧ w'.cell? ⟨(ad109.add ((t103).toNat * 2)).block, (ad109.add ((t103).toNat * 2)).off + 1, none⟩ = some (.int .i64 ((rd_T47 l0_0 t103).f1)) ∧ w'.cell? (ad109.add (((ji15)).toNat * 2)) = some (.int .i64 ((rd_T47 l0_0 (ji15)).f0)) ∧ w'.cell? ⟨(ad109.add (((ji15)).toNat * 2)).block, (ad109.add (((ji15)).toNat * 2)).off + 1, none⟩ = some (.int .i64 ((rd_T47 l0_0 (ji15)).f1))) (ds := []) (ba 19 0) (by kernel_rfl) rfl rfl ⟨(blk_cell BK101.out 0).trans rfl, (blk_cell BK101.out 1).trans rfl, hx109_0, hx109_1, hx110_0, hx110_1⟩ (fun hHeld => ?_); refine with_tabW dactylref17_Swap.tab4 dactylref17_Swap.bits4 (fun HT_ HW_ => ?_)
            generalize wc.drew = w28 at HO_102000 BK101 BK102 HB HO108 hx109_0 hx109_1 hx110_0 hx110_1 hHeld ⊢
            refine pS 0 23 (v := ?_) (a' := ?_) (ba 19 1) HT_ (by kernel_rfl) rfl rfl (fun _ _ _ h => h) (by rfl) ?_ ?_ ?_; rotate_left 2; (intro w'; go_simp; with_reducible rfl); (simp only [Act.put, List.setIfInBounds_toArray, List.set_cons_zero, List.set_cons_succ, i64_w, i32_w]; rfl)
            refine pS 2 25 (v := ?_) (a' := ?_) (ba 19 5) HT_ (by kernel_rfl) rfl rfl (fun _ _ _ h => h) (by rfl) ?_ ?_ ?_; rotate_left 2; (intro w'; go_simp; with_reducible rfl); (simp only [Act.put, List.setIfInBounds_toArray, List.set_cons_zero, List.set_cons_succ, i64_w, i32_w]; rfl)
            refine pS 3 26 (v := ?_) (a' := ?_) (ba 19 13) HT_ (by kernel_rfl) rfl rfl (fun _ _ _ h => h) (by rfl) ?_ ?_ ?_; rotate_left 2; (intro w'; go_simp; with_reducible rfl); (simp only [Act.put, List.setIfInBounds_toArray, List.set_cons_zero, List.set_cons_succ, i64_w, i32_w]; rfl)
            refine pS 5 28 (v := ?_) (a' := ?_) (ba 19 45) HT_ (by kernel_rfl) rfl rfl (fun _ _ _ h => h) (by rfl) ?_ ?_ ?_; rotate_left 2; (intro w'; go_simp; with_reducible rfl); (simp only [Act.put, List.setIfInBounds_toArray, List.set_cons_zero, List.set_cons_succ, i64_w, i32_w]; rfl)
            refine pS 7 30 (v := ?_) (a' := ?_) (ba 19 173) HT_ (by kernel_rfl) rfl rfl (fun _ _ _ h => h) (by rfl) ?_ ?_ ?_; rotate_left 2; (intro w'; go_simp; with_reducible rfl); (simp only [Act.put, List.setIfInBounds_toArray, List.set_cons_zero, List.set_cons_succ, i64_w, i32_w]; rfl)
            refine pS 10 33 (v := ?_) (a' := ?_) (ba 19 1197) HT_ (by kernel_rfl) rfl rfl (fun _ _ _ h => h) (by rfl) ?_ ?_ ?_; rotate_left 2; (intro w'; go_simp; with_reducible rfl); (simp only [Act.put, List.setIfInBounds_toArray, List.set_cons_zero, List.set_cons_succ, i64_w, i32_w]; rfl)
            refine pS 12 35 (v := ?_) (a' := ?_) (ba 19 5293) HT_ (by kernel_rfl) rfl rfl (fun _ _ _ h => h) (by rfl) ?_ ?_ ?_; rotate_left 2; (intro w'; go_simp; with_reducible rfl); (simp only [Act.put, List.setIfInBounds_toArray, List.set_cons_zero, List.set_cons_succ, i64_w, i32_w]; rfl)
            refine pS 13 36 (v := ?_) (a' := ?_) (ba 19 13485) HT_ (by kernel_rfl) rfl rfl (fun _ _ _ h => h) (by rfl) ?_ ?_ ?_; rotate_left 2; (intro w'; go_simp; with_reducible rfl); (simp only [Act.put, List.setIfInBounds_toArray, List.set_cons_zero, List.set_cons_succ, i64_w, i32_w]; rfl)
            refine take_ (i := 1) (N := some 24) (v := ?_) (a' := ?_) (ba 19 13487) rfl rfl (take_ofW HT_.out HW_.out (by kernel_rfl)) (fun _ _ _ h => h) (Or.inl ⟨by rfl, ?_⟩) hHeld ?_ ?_; rotate_left; (rintro w' ⟨s0, s1, s2, s3, s4, s5⟩; go_simp; with_reducible rfl); rotate_left; (simp only [Act.put, List.setIfInBounds_toArray, List.set_cons_zero, List.set_cons_succ, i64_w, i32_w]; rfl)
            refine pS 4 27 (v := ?_) (a' := ?_) (ba 19 13503) HT_ (by kernel_rfl) rfl rfl (fun _ _ _ h => h) (by rfl) ?_ ?_ ?_; rotate_left 2; (intro w'; go_simp; with_reducible rfl); (simp only [Act.put, List.setIfInBounds_toArray, List.set_cons_zero, List.set_cons_succ, i64_w, i32_w]; rfl)
            refine take_ (i := 6) (N := some 29) (v := ?_) (a' := ?_) (ba 19 13567) rfl rfl (take_ofW HT_.out HW_.out (by kernel_rfl)) (fun _ _ _ h => h) (Or.inl ⟨by rfl, ?_⟩) hHeld ?_ ?_; rotate_left; (rintro w' ⟨s0, s1, s2, s3, s4, s5⟩; go_simp; with_reducible rfl); rotate_left; (simp only [Act.put, List.setIfInBounds_toArray, List.set_cons_zero, List.set_cons_succ, i64_w, i32_w]; rfl)
            refine pS 8 31 (v := ?_) (a' := ?_) (ba 19 13823) HT_ (by kernel_rfl) rfl rfl (fun _ _ _ h => h) (by rfl) ?_ ?_ ?_; rotate_left 2; (intro w'; go_simp; with_reducible rfl); (simp only [Act.put, List.setIfInBounds_toArray, List.set_cons_zero, List.set_cons_succ, i64_w, i32_w]; rfl)
            refine take_ (i := 9) (N := some 32) (v := ?_) (a' := ?_) (ba 19 14335) rfl rfl (take_ofW HT_.out HW_.out (by kernel_rfl)) (fun _ _ _ h => h) (Or.inl ⟨by rfl, ?_⟩) hHeld ?_ ?_; rotate_left; (rintro w' ⟨s0, s1, s2, s3, s4, s5⟩; go_simp; with_reducible rfl); rotate_left; (simp only [Act.put, List.setIfInBounds_toArray, List.set_cons_zero, List.set_cons_succ, i64_w, i32_w]; rfl)
            refine take_ (i := 11) (N := some 34) (v := ?_) (a' := ?_) (ba 19 16383) rfl rfl (take_ofW HT_.out HW_.out (by kernel_rfl)) (fun _ _ _ h => h) (Or.inl ⟨by rfl, ?_⟩) hHeld ?_ ?_; rotate_left; (rintro w' ⟨s0, s1, s2, s3, s4, s5⟩; go_simp; with_reducible rfl); rotate_left; (simp only [Act.put, List.setIfInBounds_toArray, List.set_cons_zero, List.set_cons_succ, i64_w, i32_w]; rfl)
            refine pS 14 37 (v := ?_) (a' := ?_) (ba 19 32767) HT_ (by kernel_rfl) rfl rfl (fun _ _ _ h => h) (by rfl) ?_ ?_ ?_; rotate_left 2; (intro w'; go_simp; with_reducible rfl); (simp only [Act.put, List.setIfInBounds_toArray, List.set_cons_zero, List.set_cons_succ, i64_w, i32_w]; rfl)
            refine take_ (i := 15) (N := some 38) (v := ?_) (a' := ?_) (ba 19 65535) rfl rfl (take_ofW HT_.out HW_.out (by kernel_rfl)) (fun _ _ _ h => h) (Or.inl ⟨by rfl, ?_⟩) hHeld ?_ ?_; rotate_left; (rintro w' ⟨s0, s1, s2, s3, s4, s5⟩; go_simp; with_reducible rfl); rotate_left; (simp only [Act.put, List.setIfInBounds_toArray, List.set_cons_zero, List.set_cons_succ, i64_w, i32_w]; rfl)
            refine one_ (i := 16) (N := some 39) (ba 19 131071) rfl rfl (one_of HT_.out (by kernel_rfl)) (by decide) (fun K hK => ?_)
            refine Kd.R_lit_step k47 _ 47 ?hg (N := 39) ?hd (xs := ([(⟨(rd_T47 l0_0 t103).f0, (rd_T47 l0_0 t103).f1⟩ : S47), (⟨(rd_T47 l0_0 (ji15)).f0, (rd_T47 l0_0 (ji15)).f1⟩ : S47)] : List (S47))) (inner := [.int .i64 ((rd_T47 l0_0 t103).f0), .int .i64 ((rd_T47 l0_0 t103).f1), .int .i64 ((rd_T47 l0_0 (ji15)).f0), .int .i64 ((rd_T47 l0_0 (ji15)).f1)]) (ok := fun _ => True) (okp := fun _ => True) ?hr ?hp (fun _ hk => hk) trivial (Below.refl _ _) (Nat.le_refl _) (by simp) ?_; (case hd => rfl); (case hg => rfl); (case hr => first | (go_simp; done) | (go_simp; rfl)); (case hp => exact (Reps.c2 (show Kd.M k47 _ _ _ (⟨(rd_T47 l0_0 t103).f0, (rd_T47 l0_0 t103).f1⟩ : S47) [.int .i64 ((rd_T47 l0_0 t103).f0), .int .i64 ((rd_T47 l0_0 t103).f1)] from (k47_mkM _ _ _ (⟨(rd_T47 l0_0 t103).f0, (rd_T47 l0_0 t103).f1⟩ : S47) )) (Reps.c2 (show Kd.M k47 _ _ _ (⟨(rd_T47 l0_0 (ji15)).f0, (rd_T47 l0_0 (ji15)).f1⟩ : S47) [.int .i64 ((rd_T47 l0_0 (ji15)).f0), .int .i64 ((rd_T47 l0_0 (ji15)).f1)] from (k47_mkM _ _ _ (⟨(rd_T47 l0_0 (ji15)).f0, (rd_T47 l0_0 (ji15)).f1⟩ : S47) )) (Reps.none _ _))))
            intro v112 w30 ho31 hb hg_ hnew_
            have HS2_ := (hb.cell (World.block_lt_of_cell? _ _ (hHeld.2.2.1))).trans (hHeld.2.2.1)
            have HS3_ := (hb.cell (World.block_lt_of_cell? _ _ (hHeld.2.2.2.1))).trans (hHeld.2.2.2.1)
            have HS4_ := (hb.cell (World.block_lt_of_cell? _ _ (hHeld.2.2.2.2.1))).trans (hHeld.2.2.2.2.1)
            have HS5_ := (hb.cell (World.block_lt_of_cell? _ _ (hHeld.2.2.2.2.2))).trans (hHeld.2.2.2.2.2)
            clear hg_ hnew_
            (first | rw [← Ny111.out] at ho31 | (simp only [Int.reduceToNat] at ho31; rw [← Ny111.out] at ho31))
            replace HO_102000 := a0 (Kd.V_elder' HO_102000.out (Kd.R_base ho31) hb)
            replace HO108 := a0 (Kd.V_elder' HO108.out (Kd.R_base ho31) hb)
            have HO113 := a0 (Kd.R_lower (Kd.R_newM (M := fun k_ => (w.heap.size ≤ k_)) ho31 (below_size (by repeat (first | exact HB.out | apply below_alloc | apply pw_below_drewN | apply below_drew1 | refine below_set ?_ GE101.out | refine below_set ?_ GE102.out))) (fun k_ h_ => h_)) (below_size (by repeat (first | exact HB.out | apply below_alloc | apply pw_below_drewN | apply below_drew1 | refine below_set ?_ GE101.out | refine below_set ?_ GE102.out))))
            replace BK101 := a0 (bB hb BK101.out)
            replace BK102 := a0 (bB hb BK102.out)
            replace HB := a0 (below_step (by repeat (first | exact HB.out | apply below_alloc | apply pw_below_drewN | apply below_drew1 | refine below_set ?_ GE101.out | refine below_set ?_ GE102.out)) hb)
            clear hb ho31
            obtain ⟨Ao32, co32, eo32⟩ := Kd.R_slice HO113.out
            (first | subst eo32 | (injection eo32 with f1_ f2_ f3_; have f4_ := f1_.symm; have f5_ := f3_.symm; clear f1_ f2_ f3_; subst f4_; subst f5_))
            refine hK.out _ _ ⟨(blk_cell BK101.out 0).trans rfl, (blk_cell BK101.out 1).trans rfl, HS2_, HS3_, HS4_, HS5_⟩ (fun hHeld => ?_)
            clear hK K
            refine norm_ (a' := ?_) ?_ ?_; rotate_left; (show Act.put _ (some 39) _ = _; simp only [Act.put, List.setIfInBounds_toArray, List.set_cons_zero, List.set_cons_succ, i64_w, i32_w]; rfl)
            refine one_ (i := 17) (N := some 40) (ba 19 262143) rfl rfl (one_of HT_.out (by kernel_rfl)) (by decide) (fun K hK => ?_)
            refine gR Try.func34 (by kernel_rfl) #[.slice (some ad109) y104.length c0_0, .slice Ao32 y111.length co32] (by rfl) rfl rfl rfl rfl ?_
            with_reducible refine (dactylref04_Join.calls _ _ y104 _ _ y111 t114 _ ?side1 ?side2 ?side3 ?side4 A21.out).mono ?_
            (case side1 => repeat (first | exact (Kd.V_reads' HO108.out).2.2 | (with_reducible refine Kd.C_alloc ?_ _) | (with_reducible refine Kd.C_drewN ?_ _) | (with_reducible refine Kd.C_drew ?_)))
            (case side2 => exact (Kd.V_reads' HO108.out).2.1)
            (case side3 => repeat (first | exact (Kd.R_reads' HO113.out).2.2 | (with_reducible refine Kd.C_alloc ?_ _) | (with_reducible refine Kd.C_drewN ?_ _) | (with_reducible refine Kd.C_drew ?_)))
            (case side4 => exact (Kd.R_reads' HO113.out).2.1)
            rintro e w33 ⟨v115, rfl, ho0, hb⟩
            have HS2_ := (hb.cell (World.block_lt_of_cell? _ _ (hHeld.2.2.1))).trans (hHeld.2.2.1)
            have HS3_ := (hb.cell (World.block_lt_of_cell? _ _ (hHeld.2.2.2.1))).trans (hHeld.2.2.2.1)
            have HS4_ := (hb.cell (World.block_lt_of_cell? _ _ (hHeld.2.2.2.2.1))).trans (hHeld.2.2.2.2.1)
            have HS5_ := (hb.cell (World.block_lt_of_cell? _ _ (hHeld.2.2.2.2.2))).trans (hHeld.2.2.2.2.2)
            refine ⟨_, rfl, ?_⟩
            replace HO_102000 := a0 (Kd.V_elder' HO_102000.out (Kd.R_base ho0) hb)
            replace HO108 := a0 (Kd.V_elder' HO108.out (Kd.R_base ho0) hb)
            have HO116 := a0 (Kd.R_lower (Kd.R_new' (Kd.R_newM (M := fun k_ => (w.heap.size ≤ k_)) ho0 (below_size (by repeat (first | exact HB.out | apply below_alloc | apply pw_below_drewN | apply below_drew1 | refine below_set ?_ GE101.out | refine below_set ?_ GE102.out))) (fun k_ h_ => h_)) (Kd.R_lt HO113.out)) (below_size (by repeat (first | exact HB.out | apply below_alloc | apply pw_below_drewN | apply below_drew1 | refine below_set ?_ GE101.out | refine below_set ?_ GE102.out))))
            replace HO113 := a0 (Kd.R_elder' HO113.out (Kd.R_base ho0) hb)
            replace BK101 := a0 (bB hb BK101.out)
            replace BK102 := a0 (bB hb BK102.out)
            replace HB := a0 (below_step (by repeat (first | exact HB.out | apply below_alloc | apply pw_below_drewN | apply below_drew1 | refine below_set ?_ GE101.out | refine below_set ?_ GE102.out)) hb)
            (try clear hb)
            (try clear hb2)
            (try clear hk)
            (try clear hi)
            (try clear ho0)
            refine hK.out _ _ ⟨(blk_cell BK101.out 0).trans rfl, (blk_cell BK101.out 1).trans rfl, HS2_, HS3_, HS4_, HS5_⟩ (fun hHeld => ?_)
            clear hK K
            refine norm_ (a' := ?_) ?_ ?_; rotate_left; (show Act.put _ (some 40) _ = _; simp only [Act.put, List.setIfInBounds_toArray, List.set_cons_zero, List.set_cons_succ, i64_w, i32_w]; rfl)
            refine pS 18 5 (v := ?_) (a' := ?_) (ba 19 524287) HT_ (by kernel_rfl) rfl rfl (fun _ _ _ h => h) (by rfl) ?_ ?_ ?_; rotate_left 2; (intro w'; go_simp; with_reducible rfl); (simp only [Act.put, List.setIfInBounds_toArray, List.set_cons_zero, List.set_cons_succ, i64_w, i32_w]; rfl)
            refine done_ (done_of HT_.out (by kernel_rfl)) ?_
            obtain ⟨hcz34_0, hcz34_1, hfz34_0, hfz34_1⟩ := c2 BK101.out
            have q35 : ((ji22) : Int) ≤ ((l0_0.length : Int) : Int) := of_decide_eq_true (by first | (with_reducible assumption) | assumption)
            obtain ⟨i035, hi035, _, hsz35, _⟩ := info_parts info47
            have hroom35 : l0_0.length ≤ c0_0 := (Kd.V_reads' HO_102000.out).2.1
            have hC35 : Kd.F k47 _ _ (some ad109) l0_0.length l0_0 := (Kd.V_at (base := w.heap.size) HO_102000.out).2.2
            have q035 : (0 : Int) ≤ ((ji22) : Int) := of_decide_eq_true (by first | (with_reducible assumption) | assumption)
            have hcut35 := cut_from (P := Try.prog) 22 47 .i64 Try.underlying22 hi035 2 hsz35 (some ad109) l0_0.length c0_0 (ji22) q035 q35
            have hr35 := Kd.F_cut (m := ((ji22) : Int).toNat) (c := c0_0) hC35 (by omega) hroom35
            obtain ⟨A35, hA35⟩ : ∃ A1, A1 = (if c0_0 = ((ji22) : Int).toNat then (some ad109) else ((some ad109) : Option Addr).map (·.add (((ji22) : Int).toNat * 2))) := ⟨_, rfl⟩
            obtain ⟨c35, hc35⟩ : ∃ c1, c1 = c0_0 - ((ji22) : Int).toNat := ⟨_, rfl⟩
            have hy35 : y117.length = l0_0.length - ((ji22) : Int).toNat := (by rw [Ny117.out, List.length_drop] <;> omega)
            rw [show (l0_0).drop ((ji22) : Int).toNat = y117 from Ny117.out.symm] at hr35
            replace hr35 : Kd.F k47 _ _ A35 y117.length y117 := (by rw [hA35]; exact hr35)
            rw [← hy35, ← hA35, ← hc35] at hcut35
            have HO121 := Aside0.mk (show Kd.V k47 47 _ w.heap.size _ (.slice A35 y117.length c35) y117 from Kd.V_mk (by rw [hy35, hc35]; exact Nat.sub_le_sub_right hroom35 _) hr35)
            have HC121 := Aside0.mk (show y117.length ≤ c35 from by rw [hy35, hc35]; exact Nat.sub_le_sub_right hroom35 _)
            clear hr35 hC35 hroom35 hi035 hsz35 hc35
            have KY35 := Aside0.mk hy35
            have KA35 := Aside0.mk hA35
            clear hy35 hA35
            replace q35 := eq_true q35
            try go_wp2_with (first | ((with_reducible refine gate_builtin (b := .append) (xs := #[.tmp 41, .tmp 46]) rfl ?_); (try (refine gate_guard (by rfl) ?_; dsimp only)); at_builtin; refine Kd.R_append_rows k47 (w0 := w) w.heap.size rfl (.tmp 41) (.tmp 46) 22 47 (.agg #[(.int .i64 0), (.int .i64 0)]) 16 rfl Try.underlying22 info47 rfl (by decide) (by omega) v115 t114 y117 _ _ _ (fun k_ => (w.heap.size ≤ k_) ∧ some k_ ≠ (.slice Ao32 y111.length co32 : Value).ownBlock) (fun _ => False) rfl rfl ?aO ?aR (fun _ _ h => h) (fun _ h => h.elim) ?aF ?aB ?aS ?aL ?_; (case aR => repeat (first | exact (Kd.V_reads' HO121.out).2.2 | (with_reducible refine Kd.C_alloc ?_ _) | (with_reducible refine Kd.C_drewN ?_ _) | (with_reducible refine Kd.C_drew ?_))); (case aB => exact (by repeat (first | exact HB.out | apply below_alloc | apply pw_below_drewN | apply below_drew1 | refine below_set ?_ GE101.out | refine below_set ?_ GE102.out))); (case aF => exact (fun k_ hk => ⟨(Nat.le_trans (below_size (by repeat (first | exact HB.out | apply below_alloc | apply pw_below_drewN | apply below_drew1 | refine below_set ?_ GE101.out | refine below_set ?_ GE102.out))) hk), Kd.fresh' (Kd.R_lt HO113.out) k_ hk⟩)); (case aO => exact (Kd.R_mono HO116.out (fun _ hk => ⟨hk.1.1, hk.2⟩))); (case aS => exact (below_size (by repeat (first | exact HB.out | apply below_alloc | apply pw_below_drewN | apply below_drew1 | refine below_set ?_ GE101.out | refine below_set ?_ GE102.out)))); (case aL => have := LMc25.out; omega); intro v123 w36 ho hb hg hat; rw [← Ny122.out] at ho; have n0_ := Aside0.mk (Kd.V_afterv (ok := (fun k_ => (P0_0_ k_ ∨ w.heap.size ≤ k_) ∧ some k_ ≠ (.slice Ao32 y111.length co32 : Value).ownBlock ∧ k_ ≠ gb101 ∧ k_ ≠ gb102)) (Kd.V_mono HO_102000.out (fun _ hk => ⟨⟨hk.1.1.1, ⟨hk.1.2, ⟨hk.1.1.2.1, hk.1.1.2.2⟩⟩⟩, hk.2⟩)) hg hat); have n1_ := Aside0.mk (blk_grown (g := gb101) (o := .cells #[.slice (some ad109) l0_0.length c0_0, .int .i64 a0_1] 24 (0, 0)) BK101.out hg (Kd.R_ne HO116.out BK101.out (by decide))); have n2_ := Aside0.mk (blk_grown (g := gb102) (o := .cells #[.slice none 0 0, .int .i64 0] 24 (0, 0)) BK102.out hg (Kd.R_ne HO116.out BK102.out (by decide))); have n3_ := Aside0.mk (Kd.V_afterv (ok := (fun k_ => (P0_0_ k_ ∨ w.heap.size ≤ k_) ∧ some k_ ≠ (.slice Ao32 y111.length co32 : Value).ownBlock ∧ k_ ≠ gb101 ∧ k_ ≠ gb102)) (Kd.V_mono HO108.out (fun _ hk => ⟨⟨hk.1.1.1, ⟨hk.1.2, ⟨hk.1.1.2.1, hk.1.1.2.2⟩⟩⟩, hk.2⟩)) hg hat); have n4_ := Aside0.mk (Kd.R_after (ok := (fun k_ => (w.heap.size ≤ k_))) (Kd.R_mono HO113.out (fun _ hk => ⟨hk.1.1, hk.2⟩)) hg hat); have n5_ := Aside0.mk (Kd.V_afterv (ok := (fun k_ => (P0_0_ k_ ∨ w.heap.size ≤ k_) ∧ some k_ ≠ (.slice Ao32 y111.length co32 : Value).ownBlock ∧ k_ ≠ gb101 ∧ k_ ≠ gb102)) (Kd.V_mono HO121.out (fun _ hk => ⟨⟨hk.1.1.1, ⟨hk.1.2, ⟨hk.1.1.2.1, hk.1.1.2.2⟩⟩⟩, hk.2⟩)) hg hat); have n6_ := Aside0.mk (hb); have n7_ := Aside0.mk (ho); clear HO_102000; clear BK101; clear BK102; clear HO108; clear HO113; clear HO121; clear HB; clear HO116; have HO_102000 := n0_; have BK101 := n1_; have BK102 := n2_; have HO108 := n3_; have HO113 := n4_; have HO121 := n5_; have HB := n6_; have HO124 := n7_; clear n0_ n1_ n2_ n3_ n4_ n5_ n6_ n7_; clear ho hb hg hat; obtain ⟨Ao37, co37, eo37⟩ := Kd.R_slice HO124.out; subst eo37; obtain ⟨hcz38_0, hcz38_1, hfz38_0, hfz38_1⟩ := c2 BK102.out))
            refine bodyPost_ret (results_ct rfl _ _ gb102 24 #[.slice Ao37 y122.length co37, .int .i64 ji22] (0, 0) _ rfl (by refine blk_put (cs := #[.slice Ao37 y122.length co37, .int .i64 0]) ?_ 1 _ rfl; refine blk_put (cs := #[.slice none 0 0, .int .i64 0]) ?_ 0 _ rfl; exact BK102.out) Try.underlying24 rfl (by kernel_rfl)) rfl ?_
            exact ⟨_, by first | rfl | (simp [errW_none, errW_some] <;> rfl) | (simp only [← hji15, ← hji22]; first | rfl | (simp [errW_none, errW_some] <;> rfl)) | (simp [*, errW_none, errW_some] <;> rfl), Kd.V_mono (Kd.R_V (Kd.R_mono (Kd.R_far (p := ⟨gb102, 1, none⟩) (Kd.R_far (p := ⟨gb102, 0, none⟩) (Kd.R_types HO124.out BK102.out (by decide)) (fun _ hk => hk.2) (.slice Ao37 y122.length co37)) (fun _ hk => hk.2) (.int .i64 ji22)) (fun _ hk => hk.1.1))) (fun k_ hk => by first | exact ⟨(.inr (hk.1)), hk.2⟩ | exact (.inr (hk))), by repeat (first | exact HB.out | apply below_alloc | apply pw_below_drewN | apply below_drew1 | refine below_set ?_ GE101.out | refine below_set ?_ GE102.out)⟩
           ·rw [if_neg c25] at H
            exact absurd H (by simp)
          ·rw [if_neg c24] at H
           exact absurd H (by simp)
         ·rw [if_neg c23] at H
          exact absurd H (by simp)
        ·rw [if_neg c20] at H
         exact absurd H (by simp)
       ·rw [if_neg c19] at H
        exact absurd H (by simp)
      ·rw [if_neg c18] at H
       exact absurd H (by simp)
     ·rw [if_neg c17] at H
      exact absurd H (by simp)
    ·rw [if_neg c16] at H
     exact absurd H (by simp)

end Go.Proofs.Ytemoocoedibbpab.X

namespace Go.Proofs.Ytemoocoedibbpab.X
open Go.RowKit Go.Proofs.YtemoocoedibbpabW.PrintWords Go.Proofs.YtemoocoedibbpabW.PrintLast Go.Proofs.YtemoocoedibbpabW.PrintMore
attribute [local go_sem] max2_int min2_int max_two min_two max_three min_three max_four min_four
set_option linter.unusedVariables false
set_option linter.unusedSimpArgs false

/-! ### dactylref01_High: function 78 -/
def dactylref01_High.f (a0 : Int) (a1 : Int) : Option (Int) := if a0 > a1 then (some a0) else (some a1)
set_option maxHeartbeats 8000000 in
set_option maxRecDepth 100000 in
theorem dactylref01_High.calls (a0 : Int) (a1 : Int) (r : Int) (w : World) (h : dactylref01_High.f a0 a1 = some r) :
    Calls Try.prog 78 #[.int .i64 a0, .int .i64 a1] w fun e w' => e = .returned (.int .i64 r) ∧ Drawn0 w w' := by
  have H : (if a0 > a1 then (some a0) else (some a1)) = some r := h
  clear h
  by_cases c3 : a0 > a1
  · rw [if_pos c3] at H
    have c3b0 : decide (a1 < a0) = true := decide_eq_true c3
    clear c3
    obtain rfl := Option.some.inj H
    go_enter Try.func78, Try.ntmps78
    go_wp2
    go_ret
    exact ⟨by first | rfl | (simp; done) | (simp [*]; done), by repeat (first | exact Drawn0.refl _ | apply Drawn0.step)⟩
  · rw [if_neg c3] at H
    have c3b0 : decide (a1 < a0) = false := decide_eq_false c3
    clear c3
    obtain rfl := Option.some.inj H
    go_enter Try.func78, Try.ntmps78
    go_wp2
    go_ret
    exact ⟨by first | rfl | (simp; done) | (simp [*]; done), by repeat (first | exact Drawn0.refl _ | apply Drawn0.step)⟩

end Go.Proofs.Ytemoocoedibbpab.X

namespace Go.Proofs.Ytemoocoedibbpab.X
open Go.RowKit Go.Proofs.YtemoocoedibbpabW.PrintWords Go.Proofs.YtemoocoedibbpabW.PrintLast Go.Proofs.YtemoocoedibbpabW.PrintMore
attribute [local go_sem] max2_int min2_int max_two min_two max_three min_three max_four min_four
set_option linter.unusedVariables false
set_option linter.unusedSimpArgs false

/-! ### dactylref05_Place: function 120 -/
def dactylref05_Place.f (l0 : List (S47)) (a1 : Int) : Option (Int) := (dactylref01_High.f a1 0).bind fun t101 => ((dactylref01_Low.f t101 (l0.length : Int)).bind fun t102 => (some t102))
set_option maxHeartbeats 8000000 in
set_option maxRecDepth 100000 in
theorem dactylref05_Place.calls (A0 : Option Addr) (c0 : Nat) (l0 : List (S47)) (a1 : Int) (r : Int) (w : World) (hr0 : Kd.C k47 w A0 l0.length l0) (hc0 : l0.length ≤ c0) (h : dactylref05_Place.f l0 a1 = some r) :
    Calls Try.prog 120 #[.slice A0 l0.length c0, .int .i64 a1] w fun e w' => e = .returned (.int .i64 r) ∧ Drawn0 w w' := by
  have HR0 := Aside0.mk hr0
  have HC0 := Aside0.mk hc0
  clear hr0 hc0
  have H : ((dactylref01_High.f a1 0).bind fun t101 => ((dactylref01_Low.f t101 (l0.length : Int)).bind fun t102 => (some t102))) = some r := h
  clear h
  replace H := Option.bind_eq_some_iff.mp H
  obtain ⟨t101, A30, H⟩ := H
  replace H : ((dactylref01_Low.f t101 (l0.length : Int)).bind fun t102 => (some t102)) = some r := H
  have A3 := Aside0.mk A30
  clear A30
  replace H := Option.bind_eq_some_iff.mp H
  obtain ⟨t102, A40, H⟩ := H
  replace H : (some t102) = some r := H
  have A4 := Aside0.mk A40
  clear A40
  obtain rfl := Option.some.inj H
  go_enter Try.func120, Try.ntmps120
  go_wp2_with (first | ((with_reducible refine gate_callee (f := 78) rfl ?_); refine goesL_ (some 6) rfl rfl Try.func78 (by kernel_rfl) rfl #[.int .i64 a1, .int .i64 0] rfl (by (try simp only [List.map_toArray, List.map_cons, List.map_nil]); first | done | rfl | (simp only [List.length_drop, List.length_take]; rfl)) ?_; (with_reducible refine (dactylref01_High.calls a1 0 t101 _ A3.out).mono ?_); rintro e w' ⟨rfl, ⟨nd, rfl⟩⟩; refine ⟨_, rfl, ?_⟩) | ((with_reducible refine gate_callee (f := 36) rfl ?_); refine goesL_ (some 9) rfl rfl Try.func36 (by kernel_rfl) rfl #[.int .i64 t101, .int .i64 (l0.length : Int)] rfl (by (try simp only [List.map_toArray, List.map_cons, List.map_nil]); first | done | rfl | (simp only [List.length_drop, List.length_take]; rfl)) ?_; (with_reducible refine (dactylref01_Low.calls t101 (l0.length : Int) t102 _ A4.out).mono ?_); rintro e w' ⟨rfl, ⟨nd, rfl⟩⟩; refine ⟨_, rfl, ?_⟩))
  go_ret
  exact ⟨by first | rfl | (simp; done) | (simp [*]; done), by repeat (first | exact Drawn0.refl _ | apply Drawn0.step)⟩

end Go.Proofs.Ytemoocoedibbpab.X

namespace Go.Proofs.Ytemoocoedibbpab.X
open Go.RowKit Go.Proofs.YtemoocoedibbpabW.PrintWords Go.Proofs.YtemoocoedibbpabW.PrintLast Go.Proofs.YtemoocoedibbpabW.PrintMore
attribute [local go_sem] max2_int min2_int max_two min_two max_three min_three max_four min_four
set_option linter.unusedVariables false
set_option linter.unusedSimpArgs false

/-! ### dactylref03_within: function 154 -/
def dactylref03_within.l0 : Nat → Int → List Int → Int → Option (Bool)
 | 0, _, _, _ => none
 | k + 1, x0, x1, x5 => if (wrap64 (x5 + 1)) < (x1.length : Int) then (if 0 ≤ x5 then (if x5 < (x1.length : Int) then (if x0 ≥ (rd x1 x5) then (if 0 ≤ (wrap64 (x5 + 1)) then (if x0 ≤ (rd x1 (wrap64 (x5 + 1))) then (some true) else (dactylref03_within.l0 k x0 x1 (wrap64 (x5 + 2)))) else (none)) else (dactylref03_within.l0 k x0 x1 (wrap64 (x5 + 2)))) else (none)) else (none)) else (some false)
def dactylref03_within.f (k : Nat) (a0 : Int) (l1 : List Int) : Option (Bool) := dactylref03_within.l0 k a0 l1 0
theorem dactylref03_within.mono_l : ∀ k, (∀ y0 y1 y2, LeO (dactylref03_within.l0 k y0 y1 y2) (dactylref03_within.l0 (k + 1) y0 y1 y2))
 | 0 => fun _ _ _ r h => by simp [dactylref03_within.l0] at h
 | k + 1 => by
  have ih0 := dactylref03_within.mono_l k
  ·intro y0 y1 y2
   unfold dactylref03_within.l0
   repeat' first
   | (with_reducible exact ih0 _ _ _)
   | (with_reducible exact LeO.refl _)
   | (with_reducible exact LeO.none _)
   | (with_reducible refine LeO.ite ?_ ?_)
   | (with_reducible refine LeO.bind ?_ (fun _ => ?_))
   | exact ih0 _ _ _
   | exact LeO.none _
   | refine LeO.ite ?_ ?_
   | refine LeO.bind ?_ (fun _ => ?_)
theorem dactylref03_within.mono : ∀ a0 a1 k, LeO (dactylref03_within.f k a0 a1) (dactylref03_within.f (k + 1) a0 a1) := by
 intro a0 a1 k
 have ih0 := dactylref03_within.mono_l k
 unfold dactylref03_within.f
 repeat' first
   | (with_reducible exact ih0 _ _ _)
   | (with_reducible exact LeO.refl _)
   | (with_reducible exact LeO.none _)
   | (with_reducible refine LeO.ite ?_ ?_)
   | (with_reducible refine LeO.bind ?_ (fun _ => ?_))
   | exact ih0 _ _ _
   | exact LeO.none _
   | refine LeO.ite ?_ ?_
   | refine LeO.bind ?_ (fun _ => ?_)
set_option maxHeartbeats 8000000 in
set_option maxRecDepth 100000 in
theorem dactylref03_within.calls (k : Nat) (a0 : Int) (A1 : Option Addr) (c1 : Nat) (l1 : List Int) (r : Bool) (w : World) (hr1 : Kd.C (Kd.int .i64) w A1 l1.length l1) (hc1 : l1.length ≤ c1) (h : dactylref03_within.f k a0 l1 = some r) :
  Calls Try.prog 154 #[.int .i64 a0, .slice A1 l1.length c1] w fun e w' => e = .returned (.bool r) ∧ Drawn0 w w' := by
 have HR1 := Aside0.mk hr1
 have HC1 := Aside0.mk hc1
 clear hr1 hc1
 have H : (dactylref03_within.l0 k a0 l1 0) = some r := h
 clear h
 have H' := Aside0.mk H
 clear H
 go_enter Try.func154, Try.ntmps154
 go_wp2
 go_loopg [5] k (fun kq v5 w' => ∃ (x5_1 : Int), v5 = .int .i64 x5_1 ∧ Aside0 (dactylref03_within.l0 kq a0 l1 x5_1 = some r) ∧ Aside0 (kq ≤ k) ∧ Drawn0 w w')
 case atStart => exact ⟨(0), (by first | rfl | (simp; done) | (simp [*]; done)), H', ⟨Nat.le_refl _⟩, by repeat (first | exact Drawn0.refl _ | apply Drawn0.step)⟩
 case round =>
  clear H'
  try clear c1
  try clear p2
  obtain ⟨x5_1, rfl, HA, HK1, ⟨m1, rfl⟩⟩ := hrel
  cases gk with
  | zero => exact absurd HA.out (by simp [dactylref03_within.l0])
  | succ k1 =>
   have H := HA.out
   clear HA
   simp only [dactylref03_within.l0] at H
   by_cases c3 : (wrap64 (x5_1 + 1)) < (l1.length : Int)
   ·rw [if_pos c3] at H
    have c3b0 : decide ((wrap64 (x5_1 + 1)) < (l1.length : Int)) = true := decide_eq_true c3
    clear c3
    by_cases c4 : 0 ≤ x5_1
    ·rw [if_pos c4] at H
     have c4b0 : decide (0 ≤ x5_1) = true := decide_eq_true c4
     clear c4
     by_cases c5 : x5_1 < (l1.length : Int)
     ·rw [if_pos c5] at H
      have c5b0 : decide (x5_1 < (l1.length : Int)) = true := decide_eq_true c5
      clear c5
      by_cases c6 : a0 ≥ (rd l1 x5_1)
      ·rw [if_pos c6] at H
       have c6b0 : decide ((rd l1 x5_1) ≤ a0) = true := decide_eq_true c6
       clear c6
       obtain ⟨ji7, hji7⟩ : ∃ j_ : Int, (wrap64 (x5_1 + 1)) = j_ := ⟨_, rfl⟩
       replace H : (if 0 ≤ (ji7) then (if a0 ≤ (rd l1 (ji7)) then (some true) else (dactylref03_within.l0 k1 a0 l1 (wrap64 (x5_1 + 2)))) else (none)) = some r := by first | (rw [hji7] at H; exact H) | (simp only [hji7] at H ⊢; exact H)
       (try rw [hji7] at c3b0)
       have hji7w : (IntKind.i64.wrap (x5_1 + 1)) = ji7 := (i64_w _).trans hji7
       by_cases c8 : 0 ≤ (ji7)
       ·rw [if_pos c8] at H
        have c8b0 : decide (0 ≤ (ji7)) = true := decide_eq_true c8
        clear c8
        by_cases c9 : a0 ≤ (rd l1 (ji7))
        ·rw [if_pos c9] at H
         have c9b0 : decide (a0 ≤ (rd l1 (ji7))) = true := decide_eq_true c9
         clear c9
         obtain rfl := Option.some.inj H
         have p101 : 0 ≤ (x5_1 : Int) := of_decide_eq_true (by first | (with_reducible assumption) | assumption)
         have q101 : x5_1 < (l1.length : Int) := of_decide_eq_true (by first | (with_reducible assumption) | assumption)
         obtain ⟨ad101, e101, hx101_0⟩ := Kd.at_int HR1.out x5_1 p101 q101
         cases e101
         replace p101 := eq_true p101
         replace q101 := eq_true q101
         have p102 : 0 ≤ ((ji7) : Int) := of_decide_eq_true (by first | (with_reducible assumption) | assumption)
         have q102 : (ji7) < (l1.length : Int) := of_decide_eq_true (by first | (with_reducible assumption) | assumption)
         obtain ⟨ad102, e102, hx102_0⟩ := Kd.at_int HR1.out (ji7) p102 q102
         obtain rfl : ad101 = ad102 := (by injection e102)
         replace p102 := eq_true p102
         replace q102 := eq_true q102
         go_wp2
         go_ret
         exact ⟨by first | rfl | (simp; done) | (simp only [← hji7] <;> (first | rfl | simp)) | (simp [*]; done), by repeat (first | exact Drawn0.refl _ | apply Drawn0.step)⟩
        ·rw [if_neg c9] at H
         have c9b0 : decide (a0 ≤ (rd l1 (ji7))) = false := decide_eq_false c9
         clear c9
         have H' := Aside0.mk H
         clear H
         have p101 : 0 ≤ (x5_1 : Int) := of_decide_eq_true (by first | (with_reducible assumption) | assumption)
         have q101 : x5_1 < (l1.length : Int) := of_decide_eq_true (by first | (with_reducible assumption) | assumption)
         obtain ⟨ad101, e101, hx101_0⟩ := Kd.at_int HR1.out x5_1 p101 q101
         cases e101
         replace p101 := eq_true p101
         replace q101 := eq_true q101
         have p102 : 0 ≤ ((ji7) : Int) := of_decide_eq_true (by first | (with_reducible assumption) | assumption)
         have q102 : (ji7) < (l1.length : Int) := of_decide_eq_true (by first | (with_reducible assumption) | assumption)
         obtain ⟨ad102, e102, hx102_0⟩ := Kd.at_int HR1.out (ji7) p102 q102
         obtain rfl : ad101 = ad102 := (by injection e102)
         replace p102 := eq_true p102
         replace q102 := eq_true q102
         go_wp2
         go_roundg k1
         case measure => have := HK1.out; omega
         case rel => exact ⟨(wrap64 (x5_1 + 2)), (by first | rfl | (simp; done) | (simp [*]; done)), H', ⟨by have := HK1.out; omega⟩, by repeat (first | exact Drawn0.refl _ | apply Drawn0.step)⟩
       ·rw [if_neg c8] at H
        exact absurd H (by simp)
      ·rw [if_neg c6] at H
       have c6b0 : decide ((rd l1 x5_1) ≤ a0) = false := decide_eq_false c6
       clear c6
       have H' := Aside0.mk H
       clear H
       have p101 : 0 ≤ (x5_1 : Int) := of_decide_eq_true (by first | (with_reducible assumption) | assumption)
       have q101 : x5_1 < (l1.length : Int) := of_decide_eq_true (by first | (with_reducible assumption) | assumption)
       obtain ⟨ad101, e101, hx101_0⟩ := Kd.at_int HR1.out x5_1 p101 q101
       cases e101
       replace p101 := eq_true p101
       replace q101 := eq_true q101
       go_wp2
       go_roundg k1
       case measure => have := HK1.out; omega
       case rel => exact ⟨(wrap64 (x5_1 + 2)), (by first | rfl | (simp; done) | (simp [*]; done)), H', ⟨by have := HK1.out; omega⟩, by repeat (first | exact Drawn0.refl _ | apply Drawn0.step)⟩
     ·rw [if_neg c5] at H
      exact absurd H (by simp)
    ·rw [if_neg c4] at H
     exact absurd H (by simp)
   ·rw [if_neg c3] at H
    have c3b0 : decide ((wrap64 (x5_1 + 1)) < (l1.length : Int)) = false := decide_eq_false c3
    clear c3
    obtain rfl := Option.some.inj H
    go_wp2
    go_ret
    exact ⟨by first | rfl | (simp; done) | (simp [*]; done), by repeat (first | exact Drawn0.refl _ | apply Drawn0.step)⟩

end Go.Proofs.Ytemoocoedibbpab.X

namespace Go.Proofs.Ytemoocoedibbpab.X
open Go.RowKit Go.Proofs.YtemoocoedibbpabW.PrintWords Go.Proofs.YtemoocoedibbpabW.PrintLast Go.Proofs.YtemoocoedibbpabW.PrintMore
attribute [local go_sem] max2_int min2_int max_two min_two max_three min_three max_four min_four
set_option linter.unusedVariables false
set_option linter.unusedSimpArgs false

/-! ### dactylref03_odd: function 152 -/
def dactylref03_odd.j0 : Nat → Int → Bool → Option (Int)
 | 0, _, _ => none
 | k + 1, x0, x12 => if x12 = true then some 6 else ((dactylref03_within.f k x0 ([160, 160, 5760, 5760, 8192, 8202, 8232, 8233, 8239, 8239, 8287, 8287, 12288, 12288] : List Int)).bind fun t => if t = true then some 10 else ((dactylref03_within.f k x0 ([173, 173, 6155, 6158, 8203, 8205, 8288, 8292, 65279, 65279, 65529, 65531] : List Int)).bind fun t => if t = true then some 8 else ((dactylref03_within.f k x0 ([1564, 1564, 8206, 8207, 8234, 8238, 8294, 8297] : List Int)).bind fun t => if t = true then some 7 else ((dactylref03_within.f k x0 ([768, 879, 1155, 1161, 1425, 1469, 1552, 1562, 1611, 1631, 1750, 1756, 6832, 6862, 7616, 7679, 8400, 8432, 12330, 12335, 12441, 12442, 65024, 65039, 65056, 65071] : List Int)).bind fun t => if t = true then some 9 else ((dactylref03_within.f k x0 ([57344, 63743, 64976, 65007, 65520, 65528, 65534, 65535, 131070, 131071, 262142, 1114111] : List Int)).bind fun t => if t = true then some 11 else (some 0))))))
def dactylref03_odd.f (k : Nat) (a0 : Int) : Option (Int) := if a0 ≤ 31 then (some 4) else (if a0 = 127 then (some 5) else (if a0 ≥ 128 then (dactylref03_odd.j0 k a0 (decide (a0 ≤ 159))) else (dactylref03_odd.j0 k a0 false)))
theorem dactylref03_odd.mono_l (k : Nat) (x : Int) (b : Bool) : LeO (dactylref03_odd.j0 k x b) (dactylref03_odd.j0 (k + 1) x b) := by
 cases k with
 | zero => intro r h; simp [dactylref03_odd.j0] at h
 | succ k =>
  simp only [dactylref03_odd.j0]
  repeat' (first | exact LeO.refl _ | exact dactylref03_within.mono _ _ _ | refine LeO.ite ?_ ?_ | refine LeO.bind ?_ (fun _ => ?_))
theorem dactylref03_odd.mono : ∀ a0 k, LeO (dactylref03_odd.f k a0) (dactylref03_odd.f (k + 1) a0) := by
 intro a k
 unfold dactylref03_odd.f
 repeat' (first | exact LeO.refl _ | exact dactylref03_odd.mono_l _ _ _ | refine LeO.ite ?_ ?_)
theorem repsI (k : IntKind) {w : World} {base : Nat} {ok : Nat → Prop} : ∀ xs : List Int, Reps (Kd.M (Kd.int k) w base ok) 1 xs (xs.map (Value.int k)) := fun xs =>
 ⟨by simp, fun j p h => by
  obtain ⟨hj, rfl⟩ := List.getElem?_eq_some_iff.1 h
  show _ = _
  rw [Nat.mul_one, List.drop_eq_getElem_cons (by simpa using hj)]
  simp⟩
set_option maxHeartbeats 8000000 in
set_option maxRecDepth 100000 in
theorem dactylref03_odd.calls (k : Nat) (a0 : Int) (r : Int) (w : World) (h : dactylref03_odd.f k a0 = some r) :
  Calls Try.prog 152 #[.int .i64 a0] w fun e w' => e = .returned (.int .i64 r) ∧ Below w.heap.size w w' := by
 unfold dactylref03_odd.f at h
 have HB := Aside0.mk (Below.refl w.heap.size w)
 by_cases c1 : a0 ≤ 31
 ·rw [if_pos c1] at h
  obtain rfl := Option.some.inj h
  have e1 : decide (a0 ≤ 31) = true := decide_eq_true c1
  go_enter Try.func152, Try.ntmps152
  go_wp2
  go_ret
  exact ⟨rfl, Below.refl _ _⟩
 rw [if_neg c1] at h
 have e1 : decide (a0 ≤ 31) = false := decide_eq_false c1
 by_cases c2 : a0 = 127
 ·rw [if_pos c2] at h
  obtain rfl := Option.some.inj h
  have e2 : (a0 == 127) = true := beq_iff_eq.mpr c2
  clear c2
  go_enter Try.func152, Try.ntmps152
  go_wp2
  go_ret
  exact ⟨rfl, Below.refl _ _⟩
 rw [if_neg c2] at h
 have e2 : (a0 == 127) = false := beq_eq_false_iff_ne.mpr c2
 by_cases c3 : 128 ≤ a0 ∧ a0 ≤ 159
 ·rw [if_pos c3.1, decide_eq_true c3.2] at h
  cases k with
  | zero => simp [dactylref03_odd.j0] at h
  | succ k =>
   simp only [dactylref03_odd.j0, if_true] at h
   obtain rfl := Option.some.inj h
   have e3 : decide (128 ≤ a0) = true := decide_eq_true c3.1
   have e4 : decide (a0 ≤ 159) = true := decide_eq_true c3.2
   clear c1 c2 c3
   go_enter Try.func152, Try.ntmps152
   go_wp2
   go_ret
   exact ⟨rfl, Below.refl _ _⟩
 have h2 : dactylref03_odd.j0 k a0 false = some r := by
  by_cases c4 : a0 ≥ 128
  ·rwa [if_pos c4, decide_eq_false (by omega)] at h
  ·rwa [if_neg c4] at h
 cases k with
 | zero => simp [dactylref03_odd.j0] at h2
 | succ k =>
 simp only [dactylref03_odd.j0, Bool.false_eq_true, if_false] at h2
 have H := Aside0.mk h2
 have E : (decide (128 ≤ a0) = true ∧ decide (a0 ≤ 159) = false) ∨ decide (128 ≤ a0) = false := by
  by_cases c4 : a0 ≥ 128
  ·exact .inl ⟨decide_eq_true c4, decide_eq_false (by omega)⟩
  ·exact .inr (decide_eq_false c4)
 clear h h2 c1 c2 c3
 rcases E with ⟨e3, e4⟩ | e3
 all_goals
  go_enter Try.func152, Try.ntmps152
  go_wp2_with (first | ((with_reducible refine gate_dst (N := 14) rfl ?_); refine Kd.R_lit (Kd.int .i64) _ 3 ?hg (N := 14) ?hd (xs := ([160, 160, 5760, 5760, 8192, 8202, 8232, 8233, 8239, 8239, 8287, 8287, 12288, 12288] : List Int)) (inner := [.int .i64 160, .int .i64 160, .int .i64 5760, .int .i64 5760, .int .i64 8192, .int .i64 8202, .int .i64 8232, .int .i64 8233, .int .i64 8239, .int .i64 8239, .int .i64 8287, .int .i64 8287, .int .i64 12288, .int .i64 12288]) (ok := fun _ => True) (okp := fun _ => True) ?hr ?hp (fun _ hk => hk) trivial (Below.refl _ _) (Nat.le_refl _) (by simp) ?_; (case hd => rfl); (case hg => rfl); (case hr => first | (go_simp; done) | (go_simp; rfl)); (case hp => exact (repsI .i64 [160, 160, 5760, 5760, 8192, 8202, 8232, 8233, 8239, 8239, 8287, 8287, 12288, 12288])); intro v1 w1 ho hb hg_ hnew_; clear hg_ hnew_; obtain ⟨A1, d1, e_, hl_, hc_⟩ := Kd.R_reads ho; subst e_; have HC := Aside0.mk hc_; have HL := Aside0.mk hl_; replace HB := Aside0.mk (below_step HB.out hb); clear ho hb hc_ hl_))
  obtain ⟨b, h1, h2⟩ := Option.bind_eq_some_iff.mp H.out
  clear H
  have H1 := Aside0.mk h1
  clear h1
  refine (dactylref03_within.calls k a0 _ _ ([160, 160, 5760, 5760, 8192, 8202, 8232, 8233, 8239, 8239, 8287, 8287, 12288, 12288] : List Int) b _ HC.out HL.out H1.out).mono ?_
  rintro _ _ ⟨rfl, hd⟩
  replace HB := Aside0.mk (below_step HB.out hd.below)
  clear HC HL H1 hd
  cases b
  rotate_left
  ·rw [if_pos rfl] at h2
   obtain rfl := Option.some.inj h2
   go_wp2
   go_ret
   exact ⟨rfl, HB.out⟩
  rw [if_neg (by decide)] at h2
  have H := Aside0.mk h2
  clear h2
  go_wp2_with (first | ((with_reducible refine gate_dst (N := 17) rfl ?_); refine Kd.R_lit (Kd.int .i64) _ 3 ?hg (N := 17) ?hd (xs := ([173, 173, 6155, 6158, 8203, 8205, 8288, 8292, 65279, 65279, 65529, 65531] : List Int)) (inner := [.int .i64 173, .int .i64 173, .int .i64 6155, .int .i64 6158, .int .i64 8203, .int .i64 8205, .int .i64 8288, .int .i64 8292, .int .i64 65279, .int .i64 65279, .int .i64 65529, .int .i64 65531]) (ok := fun _ => True) (okp := fun _ => True) ?hr ?hp (fun _ hk => hk) trivial (Below.refl _ _) (Nat.le_refl _) (by simp) ?_; (case hd => rfl); (case hg => rfl); (case hr => first | (go_simp; done) | (go_simp; rfl)); (case hp => exact (repsI .i64 [173, 173, 6155, 6158, 8203, 8205, 8288, 8292, 65279, 65279, 65529, 65531])); intro v1 w1 ho hb hg_ hnew_; clear hg_ hnew_; obtain ⟨A1, d1, e_, hl_, hc_⟩ := Kd.R_reads ho; subst e_; have HC := Aside0.mk hc_; have HL := Aside0.mk hl_; replace HB := Aside0.mk (below_step HB.out hb); clear ho hb hc_ hl_))
  obtain ⟨b, h1, h2⟩ := Option.bind_eq_some_iff.mp H.out
  clear H
  have H1 := Aside0.mk h1
  clear h1
  refine (dactylref03_within.calls k a0 _ _ ([173, 173, 6155, 6158, 8203, 8205, 8288, 8292, 65279, 65279, 65529, 65531] : List Int) b _ HC.out HL.out H1.out).mono ?_
  rintro _ _ ⟨rfl, hd⟩
  replace HB := Aside0.mk (below_step HB.out hd.below)
  clear HC HL H1 hd
  cases b
  rotate_left
  ·rw [if_pos rfl] at h2
   obtain rfl := Option.some.inj h2
   go_wp2
   go_ret
   exact ⟨rfl, HB.out⟩
  rw [if_neg (by decide)] at h2
  have H := Aside0.mk h2
  clear h2
  go_wp2_with (first | ((with_reducible refine gate_dst (N := 20) rfl ?_); refine Kd.R_lit (Kd.int .i64) _ 3 ?hg (N := 20) ?hd (xs := ([1564, 1564, 8206, 8207, 8234, 8238, 8294, 8297] : List Int)) (inner := [.int .i64 1564, .int .i64 1564, .int .i64 8206, .int .i64 8207, .int .i64 8234, .int .i64 8238, .int .i64 8294, .int .i64 8297]) (ok := fun _ => True) (okp := fun _ => True) ?hr ?hp (fun _ hk => hk) trivial (Below.refl _ _) (Nat.le_refl _) (by simp) ?_; (case hd => rfl); (case hg => rfl); (case hr => first | (go_simp; done) | (go_simp; rfl)); (case hp => exact (repsI .i64 [1564, 1564, 8206, 8207, 8234, 8238, 8294, 8297])); intro v1 w1 ho hb hg_ hnew_; clear hg_ hnew_; obtain ⟨A1, d1, e_, hl_, hc_⟩ := Kd.R_reads ho; subst e_; have HC := Aside0.mk hc_; have HL := Aside0.mk hl_; replace HB := Aside0.mk (below_step HB.out hb); clear ho hb hc_ hl_))
  obtain ⟨b, h1, h2⟩ := Option.bind_eq_some_iff.mp H.out
  clear H
  have H1 := Aside0.mk h1
  clear h1
  refine (dactylref03_within.calls k a0 _ _ ([1564, 1564, 8206, 8207, 8234, 8238, 8294, 8297] : List Int) b _ HC.out HL.out H1.out).mono ?_
  rintro _ _ ⟨rfl, hd⟩
  replace HB := Aside0.mk (below_step HB.out hd.below)
  clear HC HL H1 hd
  cases b
  rotate_left
  ·rw [if_pos rfl] at h2
   obtain rfl := Option.some.inj h2
   go_wp2
   go_ret
   exact ⟨rfl, HB.out⟩
  rw [if_neg (by decide)] at h2
  have H := Aside0.mk h2
  clear h2
  go_wp2_with (first | ((with_reducible refine gate_dst (N := 23) rfl ?_); refine Kd.R_lit (Kd.int .i64) _ 3 ?hg (N := 23) ?hd (xs := ([768, 879, 1155, 1161, 1425, 1469, 1552, 1562, 1611, 1631, 1750, 1756, 6832, 6862, 7616, 7679, 8400, 8432, 12330, 12335, 12441, 12442, 65024, 65039, 65056, 65071] : List Int)) (inner := [.int .i64 768, .int .i64 879, .int .i64 1155, .int .i64 1161, .int .i64 1425, .int .i64 1469, .int .i64 1552, .int .i64 1562, .int .i64 1611, .int .i64 1631, .int .i64 1750, .int .i64 1756, .int .i64 6832, .int .i64 6862, .int .i64 7616, .int .i64 7679, .int .i64 8400, .int .i64 8432, .int .i64 12330, .int .i64 12335, .int .i64 12441, .int .i64 12442, .int .i64 65024, .int .i64 65039, .int .i64 65056, .int .i64 65071]) (ok := fun _ => True) (okp := fun _ => True) ?hr ?hp (fun _ hk => hk) trivial (Below.refl _ _) (Nat.le_refl _) (by simp) ?_; (case hd => rfl); (case hg => rfl); (case hr => first | (go_simp; done) | (go_simp; rfl)); (case hp => exact (repsI .i64 [768, 879, 1155, 1161, 1425, 1469, 1552, 1562, 1611, 1631, 1750, 1756, 6832, 6862, 7616, 7679, 8400, 8432, 12330, 12335, 12441, 12442, 65024, 65039, 65056, 65071])); intro v1 w1 ho hb hg_ hnew_; clear hg_ hnew_; obtain ⟨A1, d1, e_, hl_, hc_⟩ := Kd.R_reads ho; subst e_; have HC := Aside0.mk hc_; have HL := Aside0.mk hl_; replace HB := Aside0.mk (below_step HB.out hb); clear ho hb hc_ hl_))
  obtain ⟨b, h1, h2⟩ := Option.bind_eq_some_iff.mp H.out
  clear H
  have H1 := Aside0.mk h1
  clear h1
  refine (dactylref03_within.calls k a0 _ _ ([768, 879, 1155, 1161, 1425, 1469, 1552, 1562, 1611, 1631, 1750, 1756, 6832, 6862, 7616, 7679, 8400, 8432, 12330, 12335, 12441, 12442, 65024, 65039, 65056, 65071] : List Int) b _ HC.out HL.out H1.out).mono ?_
  rintro _ _ ⟨rfl, hd⟩
  replace HB := Aside0.mk (below_step HB.out hd.below)
  clear HC HL H1 hd
  cases b
  rotate_left
  ·rw [if_pos rfl] at h2
   obtain rfl := Option.some.inj h2
   go_wp2
   go_ret
   exact ⟨rfl, HB.out⟩
  rw [if_neg (by decide)] at h2
  have H := Aside0.mk h2
  clear h2
  go_wp2_with (first | ((with_reducible refine gate_dst (N := 26) rfl ?_); refine Kd.R_lit (Kd.int .i64) _ 3 ?hg (N := 26) ?hd (xs := ([57344, 63743, 64976, 65007, 65520, 65528, 65534, 65535, 131070, 131071, 262142, 1114111] : List Int)) (inner := [.int .i64 57344, .int .i64 63743, .int .i64 64976, .int .i64 65007, .int .i64 65520, .int .i64 65528, .int .i64 65534, .int .i64 65535, .int .i64 131070, .int .i64 131071, .int .i64 262142, .int .i64 1114111]) (ok := fun _ => True) (okp := fun _ => True) ?hr ?hp (fun _ hk => hk) trivial (Below.refl _ _) (Nat.le_refl _) (by simp) ?_; (case hd => rfl); (case hg => rfl); (case hr => first | (go_simp; done) | (go_simp; rfl)); (case hp => exact (repsI .i64 [57344, 63743, 64976, 65007, 65520, 65528, 65534, 65535, 131070, 131071, 262142, 1114111])); intro v1 w1 ho hb hg_ hnew_; clear hg_ hnew_; obtain ⟨A1, d1, e_, hl_, hc_⟩ := Kd.R_reads ho; subst e_; have HC := Aside0.mk hc_; have HL := Aside0.mk hl_; replace HB := Aside0.mk (below_step HB.out hb); clear ho hb hc_ hl_))
  obtain ⟨b, h1, h2⟩ := Option.bind_eq_some_iff.mp H.out
  clear H
  have H1 := Aside0.mk h1
  clear h1
  refine (dactylref03_within.calls k a0 _ _ ([57344, 63743, 64976, 65007, 65520, 65528, 65534, 65535, 131070, 131071, 262142, 1114111] : List Int) b _ HC.out HL.out H1.out).mono ?_
  rintro _ _ ⟨rfl, hd⟩
  replace HB := Aside0.mk (below_step HB.out hd.below)
  clear HC HL H1 hd
  cases b
  rotate_left
  ·rw [if_pos rfl] at h2
   obtain rfl := Option.some.inj h2
   go_wp2
   go_ret
   exact ⟨rfl, HB.out⟩
  rw [if_neg (by decide)] at h2
  have H := Aside0.mk h2
  clear h2
  obtain rfl := Option.some.inj H.out
  go_wp2
  go_ret
  exact ⟨rfl, HB.out⟩

end Go.Proofs.Ytemoocoedibbpab.X

namespace Go.Proofs.Ytemoocoedibbpab.X
open Go.RowKit Go.Proofs.YtemoocoedibbpabW.PrintWords Go.Proofs.YtemoocoedibbpabW.PrintLast Go.Proofs.YtemoocoedibbpabW.PrintMore
attribute [local go_sem] max2_int min2_int max_two min_two max_three min_three max_four min_four
set_option linter.unusedVariables false
set_option linter.unusedSimpArgs false

/-! ### dactylref03_Skeleton: function 153 -/
def dactylref03_Skeleton.l0 : Nat → Int → List Int → ByteArray → Int → Option (Int)
 | 0, _, _, _, _ => none
 | k + 1, x0, x3, x4, x5 => if x5 < (x3.length : Int) then (if 0 ≤ x5 then (if (rd x3 x5) = x0 then (if x5 < (x4.size : Int) then (some (wrap64 (bt x4 x5))) else (none)) else (dactylref03_Skeleton.l0 k x0 x3 x4 (wrap64 (x5 + 1)))) else (none)) else (some x0)
def dactylref03_Skeleton.f (k : Nat) (a0 : Int) : Option (Int) := dactylref03_Skeleton.l0 k a0 (([913, 914, 917, 918, 919, 921, 922, 924, 925, 927, 929, 932, 933, 935, 957, 959, 961, 1029, 1030, 1032, 1040, 1042, 1045, 1050, 1052, 1053, 1054, 1056, 1057, 1058, 1061, 1072, 1077, 1086, 1088, 1089, 1091, 1093, 1109, 1110, 1112, 1281, 1307, 1309, 894, 8208, 8722, 8260, 8725, 8228, 8218] : List Int)) (⟨#[65, 66, 69, 90, 72, 73, 75, 77, 78, 79, 80, 84, 89, 88, 118, 111, 112, 83, 73, 74, 65, 66, 69, 75, 77, 72, 79, 80, 67, 84, 88, 97, 101, 111, 112, 99, 121, 120, 115, 105, 106, 100, 113, 119, 59, 45, 45, 47, 47, 46, 44]⟩ : ByteArray) 0
theorem dactylref03_Skeleton.mono_l : ∀ k, (∀ y0 y1 y2 y3, LeO (dactylref03_Skeleton.l0 k y0 y1 y2 y3) (dactylref03_Skeleton.l0 (k + 1) y0 y1 y2 y3))
 | 0 => fun _ _ _ _ r h => by simp [dactylref03_Skeleton.l0] at h
 | k + 1 => by
  have ih0 := dactylref03_Skeleton.mono_l k
  ·intro y0 y1 y2 y3
   unfold dactylref03_Skeleton.l0
   repeat' first
   | (with_reducible exact ih0 _ _ _ _)
   | (with_reducible exact LeO.refl _)
   | (with_reducible exact LeO.none _)
   | (with_reducible refine LeO.ite ?_ ?_)
   | (with_reducible refine LeO.bind ?_ (fun _ => ?_))
   | exact ih0 _ _ _ _
   | exact LeO.none _
   | refine LeO.ite ?_ ?_
   | refine LeO.bind ?_ (fun _ => ?_)
theorem dactylref03_Skeleton.mono : ∀ a0 k, LeO (dactylref03_Skeleton.f k a0) (dactylref03_Skeleton.f (k + 1) a0) := by
 intro a0 k
 have ih0 := dactylref03_Skeleton.mono_l k
 unfold dactylref03_Skeleton.f
 repeat' first
   | (with_reducible exact ih0 _ _ _ _)
   | (with_reducible exact LeO.refl _)
   | (with_reducible exact LeO.none _)
   | (with_reducible refine LeO.ite ?_ ?_)
   | (with_reducible refine LeO.bind ?_ (fun _ => ?_))
   | exact ih0 _ _ _ _
   | exact LeO.none _
   | refine LeO.ite ?_ ?_
   | refine LeO.bind ?_ (fun _ => ?_)
set_option maxHeartbeats 8000000 in
set_option maxRecDepth 100000 in
theorem dactylref03_Skeleton.calls (k : Nat) (a0 : Int) (r : Int) (w : World) (h : dactylref03_Skeleton.f k a0 = some r) :
  Calls Try.prog 153 #[.int .i64 a0] w fun e w' => e = .returned (.int .i64 r) ∧ Below w.heap.size w w' := by
 have HB := Aside0.mk (Below.refl w.heap.size w)
 have H : (dactylref03_Skeleton.l0 k a0 (([913, 914, 917, 918, 919, 921, 922, 924, 925, 927, 929, 932, 933, 935, 957, 959, 961, 1029, 1030, 1032, 1040, 1042, 1045, 1050, 1052, 1053, 1054, 1056, 1057, 1058, 1061, 1072, 1077, 1086, 1088, 1089, 1091, 1093, 1109, 1110, 1112, 1281, 1307, 1309, 894, 8208, 8722, 8260, 8725, 8228, 8218] : List Int)) (⟨#[65, 66, 69, 90, 72, 73, 75, 77, 78, 79, 80, 84, 89, 88, 118, 111, 112, 83, 73, 74, 65, 66, 69, 75, 77, 72, 79, 80, 67, 84, 88, 97, 101, 111, 112, 99, 121, 120, 115, 105, 106, 100, 113, 119, 59, 45, 45, 47, 47, 46, 44]⟩ : ByteArray) 0) = some r := h
 clear h
 obtain ⟨y101, hy101⟩ : ∃ y_ : List Int, y_ = (([913, 914, 917, 918, 919, 921, 922, 924, 925, 927, 929, 932, 933, 935, 957, 959, 961, 1029, 1030, 1032, 1040, 1042, 1045, 1050, 1052, 1053, 1054, 1056, 1057, 1058, 1061, 1072, 1077, 1086, 1088, 1089, 1091, 1093, 1109, 1110, 1112, 1281, 1307, 1309, 894, 8208, 8722, 8260, 8725, 8228, 8218] : List Int)) := ⟨_, rfl⟩
 replace H : (dactylref03_Skeleton.l0 k a0 y101 (⟨#[65, 66, 69, 90, 72, 73, 75, 77, 78, 79, 80, 84, 89, 88, 118, 111, 112, 83, 73, 74, 65, 66, 69, 75, 77, 72, 79, 80, 67, 84, 88, 97, 101, 111, 112, 99, 121, 120, 115, 105, 106, 100, 113, 119, 59, 45, 45, 47, 47, 46, 44]⟩ : ByteArray) 0) = some r := by first | (rw [hy101]; with_reducible exact H) | (have H2_ := (Option.bind_some _ _).symm.trans H; rw [hy101]; with_reducible exact H2_) | (have H2_ := (Option.bind_some _ _).symm.trans H; with_reducible exact H2_) | with_reducible exact H | (rw [hy101]; exact H) | exact H
 have Ny101 := Aside0.mk hy101
 clear hy101
 have H' := Aside0.mk H
 clear H
 go_enter Try.func153, Try.ntmps153
 go_wp2_with (first | ((with_reducible refine gate_dst (N := 6) rfl ?_); refine Kd.R_lit (Kd.int .i64) _ 3 ?hg (N := 6) ?hd (xs := ([913, 914, 917, 918, 919, 921, 922, 924, 925, 927, 929, 932, 933, 935, 957, 959, 961, 1029, 1030, 1032, 1040, 1042, 1045, 1050, 1052, 1053, 1054, 1056, 1057, 1058, 1061, 1072, 1077, 1086, 1088, 1089, 1091, 1093, 1109, 1110, 1112, 1281, 1307, 1309, 894, 8208, 8722, 8260, 8725, 8228, 8218] : List Int)) (inner := [.int .i64 913, .int .i64 914, .int .i64 917, .int .i64 918, .int .i64 919, .int .i64 921, .int .i64 922, .int .i64 924, .int .i64 925, .int .i64 927, .int .i64 929, .int .i64 932, .int .i64 933, .int .i64 935, .int .i64 957, .int .i64 959, .int .i64 961, .int .i64 1029, .int .i64 1030, .int .i64 1032, .int .i64 1040, .int .i64 1042, .int .i64 1045, .int .i64 1050, .int .i64 1052, .int .i64 1053, .int .i64 1054, .int .i64 1056, .int .i64 1057, .int .i64 1058, .int .i64 1061, .int .i64 1072, .int .i64 1077, .int .i64 1086, .int .i64 1088, .int .i64 1089, .int .i64 1091, .int .i64 1093, .int .i64 1109, .int .i64 1110, .int .i64 1112, .int .i64 1281, .int .i64 1307, .int .i64 1309, .int .i64 894, .int .i64 8208, .int .i64 8722, .int .i64 8260, .int .i64 8725, .int .i64 8228, .int .i64 8218]) (ok := fun _ => True) (okp := fun _ => True) ?hr ?hp (fun _ hk => hk) trivial (Below.refl _ _) (Nat.le_refl _) (by simp) ?_; (case hd => rfl); (case hg => rfl); (case hr => first | (go_simp; done) | (go_simp; rfl)); (case hp => exact (repsJ .i64 [913, 914, 917, 918, 919, 921, 922, 924, 925, 927, 929, 932, 933, 935, 957, 959, 961, 1029, 1030, 1032, 1040, 1042, 1045, 1050, 1052, 1053, 1054, 1056, 1057, 1058, 1061, 1072, 1077, 1086, 1088, 1089, 1091, 1093, 1109, 1110, 1112, 1281, 1307, 1309, 894, 8208, 8722, 8260, 8725, 8228, 8218])); intro v102 w2 ho3 hb hg_ hnew_; clear hg_ hnew_; (first | rw [← Ny101.out] at ho3 | (simp only [Int.reduceToNat] at ho3; rw [← Ny101.out] at ho3)); have n0_ := Aside0.mk (Kd.R_lower ho3 (below_size (by repeat (first | exact HB.out | apply below_alloc | apply pw_below_drewN | apply below_drew1)))); have n1_ := Aside0.mk (below_step (by repeat (first | exact HB.out | apply below_alloc | apply pw_below_drewN | apply below_drew1)) hb); clear HB; have HO103 := n0_; have HB := n1_; clear n0_ n1_; clear hb ho3))
 go_loopg [5] k (fun kq v5 w' => ∃ (x5_1 : Int), v5 = .int .i64 x5_1 ∧ Aside0 (dactylref03_Skeleton.l0 kq a0 y101 (⟨#[65, 66, 69, 90, 72, 73, 75, 77, 78, 79, 80, 84, 89, 88, 118, 111, 112, 83, 73, 74, 65, 66, 69, 75, 77, 72, 79, 80, 67, 84, 88, 97, 101, 111, 112, 99, 121, 120, 115, 105, 106, 100, 113, 119, 59, 45, 45, 47, 47, 46, 44]⟩ : ByteArray) x5_1 = some r) ∧ Aside0 (kq ≤ k) ∧ Aside0 (Kd.R (Kd.int .i64) 3 w' w.heap.size (fun _ => True) v102 y101) ∧ Aside0 (Below w.heap.size w w'))
 case atStart => exact ⟨(0), (by first | rfl | (simp; done) | (simp [*]; done)), H', ⟨Nat.le_refl _⟩, ⟨by exact HO103.out⟩, ⟨by repeat (first | exact HB.out | apply below_alloc | apply pw_below_drewN | apply below_drew1)⟩⟩
 case round =>
  clear H'
  try clear c1
  try clear p2
  obtain ⟨x5_1, rfl, HA, HK1, HO_3, HB⟩ := hrel
  cases gk with
  | zero => exact absurd HA.out (by simp [dactylref03_Skeleton.l0])
  | succ k1 =>
   have H := HA.out
   clear HA
   simp only [dactylref03_Skeleton.l0] at H
   by_cases c4 : x5_1 < (y101.length : Int)
   ·rw [if_pos c4] at H
    have c4b0 : decide (x5_1 < (y101.length : Int)) = true := decide_eq_true c4
    clear c4
    by_cases c5 : 0 ≤ x5_1
    ·rw [if_pos c5] at H
     have c5b0 : decide (0 ≤ x5_1) = true := decide_eq_true c5
     clear c5
     by_cases c6 : (rd y101 x5_1) = a0
     ·rw [if_pos c6] at H
      have c6b0 : ((rd y101 x5_1) == a0) = true := beq_iff_eq.mpr c6
      have c6b1 : ((rd y101 x5_1) != a0) = false := bne_eq_false_iff_eq.mpr c6
      clear c6
      by_cases c7 : x5_1 < ((⟨#[65, 66, 69, 90, 72, 73, 75, 77, 78, 79, 80, 84, 89, 88, 118, 111, 112, 83, 73, 74, 65, 66, 69, 75, 77, 72, 79, 80, 67, 84, 88, 97, 101, 111, 112, 99, 121, 120, 115, 105, 106, 100, 113, 119, 59, 45, 45, 47, 47, 46, 44]⟩ : ByteArray).size : Int)
      ·rw [if_pos c7] at H
       have c7b0 : decide (x5_1 < ((⟨#[65, 66, 69, 90, 72, 73, 75, 77, 78, 79, 80, 84, 89, 88, 118, 111, 112, 83, 73, 74, 65, 66, 69, 75, 77, 72, 79, 80, 67, 84, 88, 97, 101, 111, 112, 99, 121, 120, 115, 105, 106, 100, 113, 119, 59, 45, 45, 47, 47, 46, 44]⟩ : ByteArray).size : Int)) = true := decide_eq_true c7
       clear c7
       obtain rfl := Option.some.inj H
       obtain ⟨Ao9, co9, eo9⟩ := Kd.R_slice HO_3.out
       subst eo9
       have p104 : 0 ≤ (x5_1 : Int) := of_decide_eq_true (by first | (with_reducible assumption) | assumption)
       have q104 : x5_1 < (y101.length : Int) := of_decide_eq_true (by first | (with_reducible assumption) | assumption)
       obtain ⟨ad104, e104, hx104_0⟩ := Kd.at_int (Kd.R_reads' HO_3.out).2.2 x5_1 p104 q104
       cases e104
       replace p104 := eq_true p104
       replace q104 := eq_true q104
       have p8 : 0 ≤ (x5_1 : Int) := of_decide_eq_true (by first | (with_reducible assumption) | assumption)
       have q8 : x5_1 < (51 : Int) := of_decide_eq_true (by first | (with_reducible assumption) | assumption)
       have hx8 := bt_at (⟨#[65, 66, 69, 90, 72, 73, 75, 77, 78, 79, 80, 84, 89, 88, 118, 111, 112, 83, 73, 74, 65, 66, 69, 75, 77, 72, 79, 80, 67, 84, 88, 97, 101, 111, 112, 99, 121, 120, 115, 105, 106, 100, 113, 119, 59, 45, 45, 47, 47, 46, 44]⟩ : ByteArray) x5_1
       replace p8 := eq_true p8
       replace q8 := eq_true q8
       go_wp2
       go_ret
       exact ⟨by first | rfl | (simp [errW_none, errW_some] <;> rfl) | (simp [*, errW_none, errW_some] <;> rfl), by repeat (first | exact HB.out | apply below_alloc | apply pw_below_drewN | apply below_drew1)⟩
      ·rw [if_neg c7] at H
       exact absurd H (by simp)
     ·rw [if_neg c6] at H
      have c6b0 : ((rd y101 x5_1) == a0) = false := beq_eq_false_iff_ne.mpr c6
      have c6b1 : ((rd y101 x5_1) != a0) = true := bne_iff_ne.mpr c6
      have H' := Aside0.mk H
      clear H
      obtain ⟨Ao10, co10, eo10⟩ := Kd.R_slice HO_3.out
      subst eo10
      have p104 : 0 ≤ (x5_1 : Int) := of_decide_eq_true (by first | (with_reducible assumption) | assumption)
      have q104 : x5_1 < (y101.length : Int) := of_decide_eq_true (by first | (with_reducible assumption) | assumption)
      obtain ⟨ad104, e104, hx104_0⟩ := Kd.at_int (Kd.R_reads' HO_3.out).2.2 x5_1 p104 q104
      cases e104
      replace p104 := eq_true p104
      replace q104 := eq_true q104
      go_wp2
      go_roundg k1
      case measure => have := HK1.out; omega
      case rel => exact ⟨(wrap64 (x5_1 + 1)), (by first | rfl | (simp; done) | (simp [*]; done)), H', ⟨by have := HK1.out; omega⟩, ⟨by exact HO_3.out⟩, ⟨by repeat (first | exact HB.out | apply below_alloc | apply pw_below_drewN | apply below_drew1)⟩⟩
    ·rw [if_neg c5] at H
     exact absurd H (by simp)
   ·rw [if_neg c4] at H
    have c4b0 : decide (x5_1 < (y101.length : Int)) = false := decide_eq_false c4
    clear c4
    obtain rfl := Option.some.inj H
    obtain ⟨Ao11, co11, eo11⟩ := Kd.R_slice HO_3.out
    subst eo11
    go_wp2
    go_ret
    exact ⟨by first | rfl | (simp [errW_none, errW_some] <;> rfl) | (simp [*, errW_none, errW_some] <;> rfl), by repeat (first | exact HB.out | apply below_alloc | apply pw_below_drewN | apply below_drew1)⟩

end Go.Proofs.Ytemoocoedibbpab.X

namespace Go.Proofs.Ytemoocoedibbpab.X
open Go.RowKit Go.Proofs.YtemoocoedibbpabW.PrintWords Go.Proofs.YtemoocoedibbpabW.PrintLast Go.Proofs.YtemoocoedibbpabW.PrintMore
attribute [local go_sem] max2_int min2_int max_two min_two max_three min_three max_four min_four
set_option linter.unusedVariables false
set_option linter.unusedSimpArgs false

/-! ### dactylref03_Of: function 112 -/
def dactylref03_Of.f (k : Nat) (a0 : Int) : Option (Int) := (dactylref02_Right.f a0).bind fun t101 => (if t101 = true then (if a0 > 1114111 then (some 12) else ((dactylref03_odd.f k a0).bind fun t102 => (if t102 > 0 then (some t102) else ((dactylref03_Skeleton.f k a0).bind fun t103 => (if t103 = a0 then ((dactylref03_within.f k a0 (([4352, 4447, 8986, 8987, 11904, 12287, 12289, 12350, 12353, 13311, 13312, 19903, 19968, 42191, 43360, 43391, 44032, 55203, 63744, 64255, 65072, 65135, 65280, 65376, 65504, 65510, 127744, 128591, 128640, 128767, 129280, 129535, 131072, 262141] : List Int))).bind fun t107 => (if t107 = true then (some 2) else (some 1))) else (some 3)))))) else (some 0))
theorem dactylref03_Of.mono : ∀ a0 k, LeO (dactylref03_Of.f k a0) (dactylref03_Of.f (k + 1) a0) := by
 intro a0 k
 unfold dactylref03_Of.f
 repeat' first
   | (with_reducible exact dactylref03_Skeleton.mono _ _)
   | (with_reducible exact dactylref03_odd.mono _ _)
   | (with_reducible exact dactylref03_within.mono _ _ _)
   | (with_reducible exact LeO.refl _)
   | (with_reducible exact LeO.none _)
   | (with_reducible refine LeO.ite ?_ ?_)
   | (with_reducible refine LeO.bind ?_ (fun _ => ?_))
   | exact dactylref03_Skeleton.mono _ _
   | exact dactylref03_odd.mono _ _
   | exact dactylref03_within.mono _ _ _
   | exact LeO.none _
   | refine LeO.ite ?_ ?_
   | refine LeO.bind ?_ (fun _ => ?_)
set_option maxHeartbeats 8000000 in
set_option maxRecDepth 100000 in
theorem dactylref03_Of.calls (k : Nat) (a0 : Int) (r : Int) (w : World) (h : dactylref03_Of.f k a0 = some r) :
  Calls Try.prog 112 #[.int .i64 a0] w fun e w' => e = .returned (.int .i64 r) ∧ Below w.heap.size w w' := by
 have HB := Aside0.mk (Below.refl w.heap.size w)
 have H : ((dactylref02_Right.f a0).bind fun t101 => (if t101 = true then (if a0 > 1114111 then (some 12) else ((dactylref03_odd.f k a0).bind fun t102 => (if t102 > 0 then (some t102) else ((dactylref03_Skeleton.f k a0).bind fun t103 => (if t103 = a0 then ((dactylref03_within.f k a0 (([4352, 4447, 8986, 8987, 11904, 12287, 12289, 12350, 12353, 13311, 13312, 19903, 19968, 42191, 43360, 43391, 44032, 55203, 63744, 64255, 65072, 65135, 65280, 65376, 65504, 65510, 127744, 128591, 128640, 128767, 129280, 129535, 131072, 262141] : List Int))).bind fun t107 => (if t107 = true then (some 2) else (some 1))) else (some 3)))))) else (some 0))) = some r := h
 clear h
 replace H := Option.bind_eq_some_iff.mp H
 obtain ⟨t101, A20, H⟩ := H
 replace H : (if t101 = true then (if a0 > 1114111 then (some 12) else ((dactylref03_odd.f k a0).bind fun t102 => (if t102 > 0 then (some t102) else ((dactylref03_Skeleton.f k a0).bind fun t103 => (if t103 = a0 then ((dactylref03_within.f k a0 (([4352, 4447, 8986, 8987, 11904, 12287, 12289, 12350, 12353, 13311, 13312, 19903, 19968, 42191, 43360, 43391, 44032, 55203, 63744, 64255, 65072, 65135, 65280, 65376, 65504, 65510, 127744, 128591, 128640, 128767, 129280, 129535, 131072, 262141] : List Int))).bind fun t107 => (if t107 = true then (some 2) else (some 1))) else (some 3)))))) else (some 0)) = some r := H
 have A2 := Aside0.mk A20
 clear A20
 by_cases c3 : t101 = true
 ·subst c3
  have H1 : (if a0 > 1114111 then (some 12) else ((dactylref03_odd.f k a0).bind fun t102 => (if t102 > 0 then (some t102) else ((dactylref03_Skeleton.f k a0).bind fun t103 => (if t103 = a0 then ((dactylref03_within.f k a0 (([4352, 4447, 8986, 8987, 11904, 12287, 12289, 12350, 12353, 13311, 13312, 19903, 19968, 42191, 43360, 43391, 44032, 55203, 63744, 64255, 65072, 65135, 65280, 65376, 65504, 65510, 127744, 128591, 128640, 128767, 129280, 129535, 131072, 262141] : List Int))).bind fun t107 => (if t107 = true then (some 2) else (some 1))) else (some 3)))))) = some r := by rw [if_pos rfl] at H; exact H
  clear H
  have H := H1
  clear H1
  by_cases c4 : a0 > 1114111
  ·rw [if_pos c4] at H
   have c4b0 : decide (1114111 < a0) = true := decide_eq_true c4
   clear c4
   obtain rfl := Option.some.inj H
   go_enter Try.func112, Try.ntmps112
   go_wp2_with (first | ((with_reducible refine gate_callee (f := 132) rfl ?_); refine gL (some 5) Try.func132 (by kernel_rfl) #[.int .i64 a0] rfl rfl rfl rfl rfl ?_; (with_reducible refine (dactylref02_Right.calls a0 true _ A2.out).mono ?_); rintro e w' ⟨rfl, ⟨nd, rfl⟩⟩; refine ⟨_, rfl, ?_⟩))
   go_ret
   exact ⟨by first | rfl | (simp [errW_none, errW_some] <;> rfl) | (simp [*, errW_none, errW_some] <;> rfl), by repeat (first | exact HB.out | apply below_alloc | apply pw_below_drewN | apply below_drew1)⟩
  ·rw [if_neg c4] at H
   have c4b0 : decide (1114111 < a0) = false := decide_eq_false c4
   clear c4
   replace H := Option.bind_eq_some_iff.mp H
   obtain ⟨t102, A50, H⟩ := H
   replace H : (if t102 > 0 then (some t102) else ((dactylref03_Skeleton.f k a0).bind fun t103 => (if t103 = a0 then ((dactylref03_within.f k a0 (([4352, 4447, 8986, 8987, 11904, 12287, 12289, 12350, 12353, 13311, 13312, 19903, 19968, 42191, 43360, 43391, 44032, 55203, 63744, 64255, 65072, 65135, 65280, 65376, 65504, 65510, 127744, 128591, 128640, 128767, 129280, 129535, 131072, 262141] : List Int))).bind fun t107 => (if t107 = true then (some 2) else (some 1))) else (some 3)))) = some r := H
   have A5 := Aside0.mk A50
   clear A50
   by_cases c6 : t102 > 0
   ·rw [if_pos c6] at H
    have c6b0 : decide (0 < t102) = true := decide_eq_true c6
    clear c6
    obtain rfl := Option.some.inj H
    go_enter Try.func112, Try.ntmps112
    go_wp2_with (first | ((with_reducible refine gate_callee (f := 132) rfl ?_); refine gL (some 5) Try.func132 (by kernel_rfl) #[.int .i64 a0] rfl rfl rfl rfl rfl ?_; (with_reducible refine (dactylref02_Right.calls a0 true _ A2.out).mono ?_); rintro e w' ⟨rfl, ⟨nd, rfl⟩⟩; refine ⟨_, rfl, ?_⟩) | ((with_reducible refine gate_callee (f := 152) rfl ?_); refine gL (some 10) Try.func152 (by kernel_rfl) #[.int .i64 a0] rfl rfl rfl rfl rfl ?_; (with_reducible refine (dactylref03_odd.calls k a0 t102 _ A5.out).mono ?_); rintro e w7 ⟨rfl, hb⟩; refine ⟨_, rfl, ?_⟩; have n0_ := Aside0.mk (below_step (by repeat (first | exact HB.out | apply below_alloc | apply pw_below_drewN | apply below_drew1)) hb); clear HB; have HB := n0_; clear n0_; (try clear hb); (try clear hb2); (try clear hk); (try clear hi)))
    go_ret
    exact ⟨by first | rfl | (simp [errW_none, errW_some] <;> rfl) | (simp [*, errW_none, errW_some] <;> rfl), by repeat (first | exact HB.out | apply below_alloc | apply pw_below_drewN | apply below_drew1)⟩
   ·rw [if_neg c6] at H
    have c6b0 : decide (0 < t102) = false := decide_eq_false c6
    clear c6
    replace H := Option.bind_eq_some_iff.mp H
    obtain ⟨t103, A80, H⟩ := H
    replace H : (if t103 = a0 then ((dactylref03_within.f k a0 (([4352, 4447, 8986, 8987, 11904, 12287, 12289, 12350, 12353, 13311, 13312, 19903, 19968, 42191, 43360, 43391, 44032, 55203, 63744, 64255, 65072, 65135, 65280, 65376, 65504, 65510, 127744, 128591, 128640, 128767, 129280, 129535, 131072, 262141] : List Int))).bind fun t107 => (if t107 = true then (some 2) else (some 1))) else (some 3)) = some r := H
    have A8 := Aside0.mk A80
    clear A80
    by_cases c9 : t103 = a0
    ·rw [if_pos c9] at H
     have c9b0 : (t103 == a0) = true := beq_iff_eq.mpr c9
     have c9b1 : (t103 != a0) = false := bne_eq_false_iff_eq.mpr c9
     clear c9
     obtain ⟨y104, hy104⟩ : ∃ y_ : List Int, y_ = (([4352, 4447, 8986, 8987, 11904, 12287, 12289, 12350, 12353, 13311, 13312, 19903, 19968, 42191, 43360, 43391, 44032, 55203, 63744, 64255, 65072, 65135, 65280, 65376, 65504, 65510, 127744, 128591, 128640, 128767, 129280, 129535, 131072, 262141] : List Int)) := ⟨_, rfl⟩
     replace H : ((dactylref03_within.f k a0 y104).bind fun t107 => (if t107 = true then (some 2) else (some 1))) = some r := by first | (rw [hy104]; with_reducible exact H) | (have H2_ := (Option.bind_some _ _).symm.trans H; rw [hy104]; with_reducible exact H2_) | (have H2_ := (Option.bind_some _ _).symm.trans H; with_reducible exact H2_) | with_reducible exact H | (rw [hy104]; exact H) | exact H
     have Ny104 := Aside0.mk hy104
     clear hy104
     replace H := Option.bind_eq_some_iff.mp H
     obtain ⟨t107, A100, H⟩ := H
     replace H : (if t107 = true then (some 2) else (some 1)) = some r := H
     have A10 := Aside0.mk A100
     clear A100
     by_cases c11 : t107 = true
     ·subst c11
      have H1 : (some 2) = some r := by rw [if_pos rfl] at H; exact H
      clear H
      have H := H1
      clear H1
      obtain rfl := Option.some.inj H
      go_enter Try.func112, Try.ntmps112
      go_wp2_with (first | ((with_reducible refine gate_callee (f := 132) rfl ?_); refine gL (some 5) Try.func132 (by kernel_rfl) #[.int .i64 a0] rfl rfl rfl rfl rfl ?_; (with_reducible refine (dactylref02_Right.calls a0 true _ A2.out).mono ?_); rintro e w' ⟨rfl, ⟨nd, rfl⟩⟩; refine ⟨_, rfl, ?_⟩) | ((with_reducible refine gate_callee (f := 152) rfl ?_); refine gL (some 10) Try.func152 (by kernel_rfl) #[.int .i64 a0] rfl rfl rfl rfl rfl ?_; (with_reducible refine (dactylref03_odd.calls k a0 t102 _ A5.out).mono ?_); rintro e w12 ⟨rfl, hb⟩; refine ⟨_, rfl, ?_⟩; have n0_ := Aside0.mk (below_step (by repeat (first | exact HB.out | apply below_alloc | apply pw_below_drewN | apply below_drew1)) hb); clear HB; have HB := n0_; clear n0_; (try clear hb); (try clear hb2); (try clear hk); (try clear hi)) | ((with_reducible refine gate_callee (f := 153) rfl ?_); refine gL (some 15) Try.func153 (by kernel_rfl) #[.int .i64 a0] rfl rfl rfl rfl rfl ?_; (with_reducible refine (dactylref03_Skeleton.calls k a0 t103 _ A8.out).mono ?_); rintro e w13 ⟨rfl, hb⟩; refine ⟨_, rfl, ?_⟩; have n0_ := Aside0.mk (below_step (by repeat (first | exact HB.out | apply below_alloc | apply pw_below_drewN | apply below_drew1)) hb); clear HB; have HB := n0_; clear n0_; (try clear hb); (try clear hb2); (try clear hk); (try clear hi)) | ((with_reducible refine gate_dst (N := 19) rfl ?_); refine Kd.R_lit (Kd.int .i64) _ 3 ?hg (N := 19) ?hd (xs := ([4352, 4447, 8986, 8987, 11904, 12287, 12289, 12350, 12353, 13311, 13312, 19903, 19968, 42191, 43360, 43391, 44032, 55203, 63744, 64255, 65072, 65135, 65280, 65376, 65504, 65510, 127744, 128591, 128640, 128767, 129280, 129535, 131072, 262141] : List Int)) (inner := [.int .i64 4352, .int .i64 4447, .int .i64 8986, .int .i64 8987, .int .i64 11904, .int .i64 12287, .int .i64 12289, .int .i64 12350, .int .i64 12353, .int .i64 13311, .int .i64 13312, .int .i64 19903, .int .i64 19968, .int .i64 42191, .int .i64 43360, .int .i64 43391, .int .i64 44032, .int .i64 55203, .int .i64 63744, .int .i64 64255, .int .i64 65072, .int .i64 65135, .int .i64 65280, .int .i64 65376, .int .i64 65504, .int .i64 65510, .int .i64 127744, .int .i64 128591, .int .i64 128640, .int .i64 128767, .int .i64 129280, .int .i64 129535, .int .i64 131072, .int .i64 262141]) (ok := fun _ => True) (okp := fun _ => True) ?hr ?hp (fun _ hk => hk) trivial (Below.refl _ _) (Nat.le_refl _) (by simp) ?_; (case hd => rfl); (case hg => rfl); (case hr => first | (go_simp; done) | (go_simp; rfl)); (case hp => exact (repsJ .i64 [4352, 4447, 8986, 8987, 11904, 12287, 12289, 12350, 12353, 13311, 13312, 19903, 19968, 42191, 43360, 43391, 44032, 55203, 63744, 64255, 65072, 65135, 65280, 65376, 65504, 65510, 127744, 128591, 128640, 128767, 129280, 129535, 131072, 262141])); intro v105 w14 ho15 hb hg_ hnew_; clear hg_ hnew_; (first | rw [← Ny104.out] at ho15 | (simp only [Int.reduceToNat] at ho15; rw [← Ny104.out] at ho15)); have n0_ := Aside0.mk (Kd.R_lower ho15 (below_size (by repeat (first | exact HB.out | apply below_alloc | apply pw_below_drewN | apply below_drew1)))); have n1_ := Aside0.mk (below_step (by repeat (first | exact HB.out | apply below_alloc | apply pw_below_drewN | apply below_drew1)) hb); clear HB; have HO106 := n0_; have HB := n1_; clear n0_ n1_; clear hb ho15; obtain ⟨Ao16, co16, eo16⟩ := Kd.R_slice HO106.out; subst eo16) | ((with_reducible refine gate_callee (f := 154) rfl ?_); refine gL (some 20) Try.func154 (by kernel_rfl) #[.int .i64 a0, .slice Ao16 y104.length co16] rfl rfl rfl rfl rfl ?_; (with_reducible refine (dactylref03_within.calls k a0 _ _ y104 true _ ?side1 ?side2 A10.out).mono ?_); (case side1 => repeat (first | exact (Kd.R_reads' HO106.out).2.2 | (with_reducible refine Kd.C_alloc ?_ _) | (with_reducible refine Kd.C_drewN ?_ _) | (with_reducible refine Kd.C_drew ?_))); (case side2 => exact (Kd.R_reads' HO106.out).2.1); rintro e w' ⟨rfl, ⟨nd, rfl⟩⟩; refine ⟨_, rfl, ?_⟩))
      go_ret
      exact ⟨by first | rfl | (simp [errW_none, errW_some] <;> rfl) | (simp [*, errW_none, errW_some] <;> rfl), by repeat (first | exact HB.out | apply below_alloc | apply pw_below_drewN | apply below_drew1)⟩
     ·replace c11 := Bool.eq_false_iff.mpr c11
      subst c11
      have H1 : (some 1) = some r := by rw [if_neg (show ¬ (false = true) by decide)] at H; exact H
      clear H
      have H := H1
      clear H1
      obtain rfl := Option.some.inj H
      go_enter Try.func112, Try.ntmps112
      go_wp2_with (first | ((with_reducible refine gate_callee (f := 132) rfl ?_); refine gL (some 5) Try.func132 (by kernel_rfl) #[.int .i64 a0] rfl rfl rfl rfl rfl ?_; (with_reducible refine (dactylref02_Right.calls a0 true _ A2.out).mono ?_); rintro e w' ⟨rfl, ⟨nd, rfl⟩⟩; refine ⟨_, rfl, ?_⟩) | ((with_reducible refine gate_callee (f := 152) rfl ?_); refine gL (some 10) Try.func152 (by kernel_rfl) #[.int .i64 a0] rfl rfl rfl rfl rfl ?_; (with_reducible refine (dactylref03_odd.calls k a0 t102 _ A5.out).mono ?_); rintro e w17 ⟨rfl, hb⟩; refine ⟨_, rfl, ?_⟩; have n0_ := Aside0.mk (below_step (by repeat (first | exact HB.out | apply below_alloc | apply pw_below_drewN | apply below_drew1)) hb); clear HB; have HB := n0_; clear n0_; (try clear hb); (try clear hb2); (try clear hk); (try clear hi)) | ((with_reducible refine gate_callee (f := 153) rfl ?_); refine gL (some 15) Try.func153 (by kernel_rfl) #[.int .i64 a0] rfl rfl rfl rfl rfl ?_; (with_reducible refine (dactylref03_Skeleton.calls k a0 t103 _ A8.out).mono ?_); rintro e w18 ⟨rfl, hb⟩; refine ⟨_, rfl, ?_⟩; have n0_ := Aside0.mk (below_step (by repeat (first | exact HB.out | apply below_alloc | apply pw_below_drewN | apply below_drew1)) hb); clear HB; have HB := n0_; clear n0_; (try clear hb); (try clear hb2); (try clear hk); (try clear hi)) | ((with_reducible refine gate_dst (N := 19) rfl ?_); refine Kd.R_lit (Kd.int .i64) _ 3 ?hg (N := 19) ?hd (xs := ([4352, 4447, 8986, 8987, 11904, 12287, 12289, 12350, 12353, 13311, 13312, 19903, 19968, 42191, 43360, 43391, 44032, 55203, 63744, 64255, 65072, 65135, 65280, 65376, 65504, 65510, 127744, 128591, 128640, 128767, 129280, 129535, 131072, 262141] : List Int)) (inner := [.int .i64 4352, .int .i64 4447, .int .i64 8986, .int .i64 8987, .int .i64 11904, .int .i64 12287, .int .i64 12289, .int .i64 12350, .int .i64 12353, .int .i64 13311, .int .i64 13312, .int .i64 19903, .int .i64 19968, .int .i64 42191, .int .i64 43360, .int .i64 43391, .int .i64 44032, .int .i64 55203, .int .i64 63744, .int .i64 64255, .int .i64 65072, .int .i64 65135, .int .i64 65280, .int .i64 65376, .int .i64 65504, .int .i64 65510, .int .i64 127744, .int .i64 128591, .int .i64 128640, .int .i64 128767, .int .i64 129280, .int .i64 129535, .int .i64 131072, .int .i64 262141]) (ok := fun _ => True) (okp := fun _ => True) ?hr ?hp (fun _ hk => hk) trivial (Below.refl _ _) (Nat.le_refl _) (by simp) ?_; (case hd => rfl); (case hg => rfl); (case hr => first | (go_simp; done) | (go_simp; rfl)); (case hp => exact (repsJ .i64 [4352, 4447, 8986, 8987, 11904, 12287, 12289, 12350, 12353, 13311, 13312, 19903, 19968, 42191, 43360, 43391, 44032, 55203, 63744, 64255, 65072, 65135, 65280, 65376, 65504, 65510, 127744, 128591, 128640, 128767, 129280, 129535, 131072, 262141])); intro v105 w19 ho20 hb hg_ hnew_; clear hg_ hnew_; (first | rw [← Ny104.out] at ho20 | (simp only [Int.reduceToNat] at ho20; rw [← Ny104.out] at ho20)); have n0_ := Aside0.mk (Kd.R_lower ho20 (below_size (by repeat (first | exact HB.out | apply below_alloc | apply pw_below_drewN | apply below_drew1)))); have n1_ := Aside0.mk (below_step (by repeat (first | exact HB.out | apply below_alloc | apply pw_below_drewN | apply below_drew1)) hb); clear HB; have HO106 := n0_; have HB := n1_; clear n0_ n1_; clear hb ho20; obtain ⟨Ao21, co21, eo21⟩ := Kd.R_slice HO106.out; subst eo21) | ((with_reducible refine gate_callee (f := 154) rfl ?_); refine gL (some 20) Try.func154 (by kernel_rfl) #[.int .i64 a0, .slice Ao21 y104.length co21] rfl rfl rfl rfl rfl ?_; (with_reducible refine (dactylref03_within.calls k a0 _ _ y104 false _ ?side1 ?side2 A10.out).mono ?_); (case side1 => repeat (first | exact (Kd.R_reads' HO106.out).2.2 | (with_reducible refine Kd.C_alloc ?_ _) | (with_reducible refine Kd.C_drewN ?_ _) | (with_reducible refine Kd.C_drew ?_))); (case side2 => exact (Kd.R_reads' HO106.out).2.1); rintro e w' ⟨rfl, ⟨nd, rfl⟩⟩; refine ⟨_, rfl, ?_⟩))
      go_ret
      exact ⟨by first | rfl | (simp [errW_none, errW_some] <;> rfl) | (simp [*, errW_none, errW_some] <;> rfl), by repeat (first | exact HB.out | apply below_alloc | apply pw_below_drewN | apply below_drew1)⟩
    ·rw [if_neg c9] at H
     have c9b0 : (t103 == a0) = false := beq_eq_false_iff_ne.mpr c9
     have c9b1 : (t103 != a0) = true := bne_iff_ne.mpr c9
     obtain rfl := Option.some.inj H
     go_enter Try.func112, Try.ntmps112
     go_wp2_with (first | ((with_reducible refine gate_callee (f := 132) rfl ?_); refine gL (some 5) Try.func132 (by kernel_rfl) #[.int .i64 a0] rfl rfl rfl rfl rfl ?_; (with_reducible refine (dactylref02_Right.calls a0 true _ A2.out).mono ?_); rintro e w' ⟨rfl, ⟨nd, rfl⟩⟩; refine ⟨_, rfl, ?_⟩) | ((with_reducible refine gate_callee (f := 152) rfl ?_); refine gL (some 10) Try.func152 (by kernel_rfl) #[.int .i64 a0] rfl rfl rfl rfl rfl ?_; (with_reducible refine (dactylref03_odd.calls k a0 t102 _ A5.out).mono ?_); rintro e w22 ⟨rfl, hb⟩; refine ⟨_, rfl, ?_⟩; have n0_ := Aside0.mk (below_step (by repeat (first | exact HB.out | apply below_alloc | apply pw_below_drewN | apply below_drew1)) hb); clear HB; have HB := n0_; clear n0_; (try clear hb); (try clear hb2); (try clear hk); (try clear hi)) | ((with_reducible refine gate_callee (f := 153) rfl ?_); refine gL (some 15) Try.func153 (by kernel_rfl) #[.int .i64 a0] rfl rfl rfl rfl rfl ?_; (with_reducible refine (dactylref03_Skeleton.calls k a0 t103 _ A8.out).mono ?_); rintro e w23 ⟨rfl, hb⟩; refine ⟨_, rfl, ?_⟩; have n0_ := Aside0.mk (below_step (by repeat (first | exact HB.out | apply below_alloc | apply pw_below_drewN | apply below_drew1)) hb); clear HB; have HB := n0_; clear n0_; (try clear hb); (try clear hb2); (try clear hk); (try clear hi)))
     go_ret
     exact ⟨by first | rfl | (simp [errW_none, errW_some] <;> rfl) | (simp [*, errW_none, errW_some] <;> rfl), by repeat (first | exact HB.out | apply below_alloc | apply pw_below_drewN | apply below_drew1)⟩
 ·replace c3 := Bool.eq_false_iff.mpr c3
  subst c3
  have H1 : (some 0) = some r := by rw [if_neg (show ¬ (false = true) by decide)] at H; exact H
  clear H
  have H := H1
  clear H1
  obtain rfl := Option.some.inj H
  go_enter Try.func112, Try.ntmps112
  go_wp2_with (first | ((with_reducible refine gate_callee (f := 132) rfl ?_); refine gL (some 5) Try.func132 (by kernel_rfl) #[.int .i64 a0] rfl rfl rfl rfl rfl ?_; (with_reducible refine (dactylref02_Right.calls a0 false _ A2.out).mono ?_); rintro e w' ⟨rfl, ⟨nd, rfl⟩⟩; refine ⟨_, rfl, ?_⟩))
  go_ret
  exact ⟨by first | rfl | (simp [errW_none, errW_some] <;> rfl) | (simp [*, errW_none, errW_some] <;> rfl), by repeat (first | exact HB.out | apply below_alloc | apply pw_below_drewN | apply below_drew1)⟩

end Go.Proofs.Ytemoocoedibbpab.X

namespace Go.Proofs.Ytemoocoedibbpab.X
open Go.RowKit Go.Proofs.YtemoocoedibbpabW.PrintWords Go.Proofs.YtemoocoedibbpabW.PrintLast Go.Proofs.YtemoocoedibbpabW.PrintMore
attribute [local go_sem] max2_int min2_int max_two min_two max_three min_three max_four min_four
set_option linter.unusedVariables false
set_option linter.unusedSimpArgs false

/-! ### dactylref05_Kind: function 63 -/
def kind5 (v c : Int) : Int := if v = 9 ∨ v = 10 ∨ v = 13 ∨ v = 32 ∨ c = 10 then 0 else if v = 95 ∨ (48 ≤ v ∧ v ≤ 57) ∨ (65 ≤ v ∧ v ≤ 90) ∨ (97 ≤ v ∧ v ≤ 122) ∨ (127 < v ∧ (c = 1 ∨ c = 2 ∨ c = 3)) then 1 else 2
def dactylref05_Kind.f (k : Nat) (a0 : Int) : Option Int := (dactylref03_Of.f k a0).bind fun c => some (kind5 a0 c)
theorem dactylref05_Kind.mono : ∀ a0 k, LeO (dactylref05_Kind.f k a0) (dactylref05_Kind.f (k + 1) a0) := fun a k => LeO.bind (dactylref03_Of.mono _ _) (fun _ => LeO.refl _)
set_option maxHeartbeats 8000000 in
set_option maxRecDepth 100000 in
theorem dactylref05_Kind.calls (k : Nat) (a0 : Int) (r : Int) (w : World) (h : dactylref05_Kind.f k a0 = some r) :
  Calls Try.prog 63 #[.int .i64 a0] w fun e w' => e = .returned (.int .i64 r) ∧ Below w.heap.size w w' := by
 unfold dactylref05_Kind.f at h
 obtain ⟨c, h1, h⟩ := Option.bind_eq_some_iff.mp h
 have H1 := Aside0.mk h1
 obtain rfl := Option.some.inj h
 clear h1 h
 by_cases I : a0 = 9
 ·have e9 : (a0 == 9) = true := beq_iff_eq.mpr I
  rw [show kind5 a0 c = 0 from by unfold kind5; (repeat' split) <;> first | rfl | omega]
  clear I
  go_enter Try.func63, Try.ntmps63
  go_wp2_with fail
  refine (dactylref03_Of.calls k a0 c _ H1.out).mono ?_
  rintro _ _ ⟨rfl, hb⟩
  go_wp2
  go_ret
  exact ⟨rfl, hb⟩
 have i_e9 := I
 have e9 : (a0 == 9) = false := beq_eq_false_iff_ne.mpr I
 clear I
 by_cases I : a0 = 10
 ·have e10 : (a0 == 10) = true := beq_iff_eq.mpr I
  rw [show kind5 a0 c = 0 from by unfold kind5; (repeat' split) <;> first | rfl | omega]
  clear I
  go_enter Try.func63, Try.ntmps63
  go_wp2_with fail
  refine (dactylref03_Of.calls k a0 c _ H1.out).mono ?_
  rintro _ _ ⟨rfl, hb⟩
  go_wp2
  go_ret
  exact ⟨rfl, hb⟩
 have i_e10 := I
 have e10 : (a0 == 10) = false := beq_eq_false_iff_ne.mpr I
 clear I
 by_cases I : a0 = 13
 ·have e13 : (a0 == 13) = true := beq_iff_eq.mpr I
  rw [show kind5 a0 c = 0 from by unfold kind5; (repeat' split) <;> first | rfl | omega]
  clear I
  go_enter Try.func63, Try.ntmps63
  go_wp2_with fail
  refine (dactylref03_Of.calls k a0 c _ H1.out).mono ?_
  rintro _ _ ⟨rfl, hb⟩
  go_wp2
  go_ret
  exact ⟨rfl, hb⟩
 have i_e13 := I
 have e13 : (a0 == 13) = false := beq_eq_false_iff_ne.mpr I
 clear I
 by_cases I : a0 = 32
 ·have e32 : (a0 == 32) = true := beq_iff_eq.mpr I
  rw [show kind5 a0 c = 0 from by unfold kind5; (repeat' split) <;> first | rfl | omega]
  clear I
  go_enter Try.func63, Try.ntmps63
  go_wp2_with fail
  refine (dactylref03_Of.calls k a0 c _ H1.out).mono ?_
  rintro _ _ ⟨rfl, hb⟩
  go_wp2
  go_ret
  exact ⟨rfl, hb⟩
 have i_e32 := I
 have e32 : (a0 == 32) = false := beq_eq_false_iff_ne.mpr I
 clear I
 by_cases I : c = 10
 ·have ec : (c == 10) = true := beq_iff_eq.mpr I
  rw [show kind5 a0 c = 0 from by unfold kind5; (repeat' split) <;> first | rfl | omega]
  clear I
  go_enter Try.func63, Try.ntmps63
  go_wp2_with fail
  refine (dactylref03_Of.calls k a0 c _ H1.out).mono ?_
  rintro _ _ ⟨rfl, hb⟩
  go_wp2
  go_ret
  exact ⟨rfl, hb⟩
 have i_ec := I
 have ec : (c == 10) = false := beq_eq_false_iff_ne.mpr I
 clear I
 by_cases I : a0 = 95
 ·have e95 : (a0 == 95) = true := beq_iff_eq.mpr I
  rw [show kind5 a0 c = 1 from by unfold kind5; (repeat' split) <;> first | rfl | omega]
  clear I
  go_enter Try.func63, Try.ntmps63
  go_wp2_with fail
  refine (dactylref03_Of.calls k a0 c _ H1.out).mono ?_
  rintro _ _ ⟨rfl, hb⟩
  go_wp2
  go_ret
  exact ⟨rfl, hb⟩
 have i_e95 := I
 have e95 : (a0 == 95) = false := beq_eq_false_iff_ne.mpr I
 clear I
 have I : a0 < 48 ∨ (48 ≤ a0 ∧ a0 ≤ 57) ∨ (58 ≤ a0 ∧ a0 ≤ 64) ∨ (65 ≤ a0 ∧ a0 ≤ 90) ∨ (91 ≤ a0 ∧ a0 ≤ 96) ∨ (97 ≤ a0 ∧ a0 ≤ 122) ∨ (123 ≤ a0 ∧ a0 ≤ 127) ∨ 128 ≤ a0 := by omega
 rcases I with I | I | I | I | I | I | I | I
 ·have v48 : decide (48 ≤ a0) = false := decide_eq_false (by omega)
  have v57 : decide (a0 ≤ 57) = true := decide_eq_true (by omega)
  have v65 : decide (65 ≤ a0) = false := decide_eq_false (by omega)
  have v90 : decide (a0 ≤ 90) = true := decide_eq_true (by omega)
  have v97 : decide (97 ≤ a0) = false := decide_eq_false (by omega)
  have v122 : decide (a0 ≤ 122) = true := decide_eq_true (by omega)
  have v127 : decide (127 < a0) = false := decide_eq_false (by omega)
  rw [show kind5 a0 c = 2 from by unfold kind5; (repeat' split) <;> first | rfl | omega]
  clear I
  go_enter Try.func63, Try.ntmps63
  go_wp2_with fail
  refine (dactylref03_Of.calls k a0 c _ H1.out).mono ?_
  rintro _ _ ⟨rfl, hb⟩
  go_wp2
  go_ret
  exact ⟨rfl, hb⟩
 ·have v48 : decide (48 ≤ a0) = true := decide_eq_true (by omega)
  have v57 : decide (a0 ≤ 57) = true := decide_eq_true (by omega)
  have v65 : decide (65 ≤ a0) = false := decide_eq_false (by omega)
  have v90 : decide (a0 ≤ 90) = true := decide_eq_true (by omega)
  have v97 : decide (97 ≤ a0) = false := decide_eq_false (by omega)
  have v122 : decide (a0 ≤ 122) = true := decide_eq_true (by omega)
  have v127 : decide (127 < a0) = false := decide_eq_false (by omega)
  rw [show kind5 a0 c = 1 from by unfold kind5; (repeat' split) <;> first | rfl | omega]
  clear I
  go_enter Try.func63, Try.ntmps63
  go_wp2_with fail
  refine (dactylref03_Of.calls k a0 c _ H1.out).mono ?_
  rintro _ _ ⟨rfl, hb⟩
  go_wp2
  go_ret
  exact ⟨rfl, hb⟩
 ·have v48 : decide (48 ≤ a0) = true := decide_eq_true (by omega)
  have v57 : decide (a0 ≤ 57) = false := decide_eq_false (by omega)
  have v65 : decide (65 ≤ a0) = false := decide_eq_false (by omega)
  have v90 : decide (a0 ≤ 90) = true := decide_eq_true (by omega)
  have v97 : decide (97 ≤ a0) = false := decide_eq_false (by omega)
  have v122 : decide (a0 ≤ 122) = true := decide_eq_true (by omega)
  have v127 : decide (127 < a0) = false := decide_eq_false (by omega)
  rw [show kind5 a0 c = 2 from by unfold kind5; (repeat' split) <;> first | rfl | omega]
  clear I
  go_enter Try.func63, Try.ntmps63
  go_wp2_with fail
  refine (dactylref03_Of.calls k a0 c _ H1.out).mono ?_
  rintro _ _ ⟨rfl, hb⟩
  go_wp2
  go_ret
  exact ⟨rfl, hb⟩
 ·have v48 : decide (48 ≤ a0) = true := decide_eq_true (by omega)
  have v57 : decide (a0 ≤ 57) = false := decide_eq_false (by omega)
  have v65 : decide (65 ≤ a0) = true := decide_eq_true (by omega)
  have v90 : decide (a0 ≤ 90) = true := decide_eq_true (by omega)
  have v97 : decide (97 ≤ a0) = false := decide_eq_false (by omega)
  have v122 : decide (a0 ≤ 122) = true := decide_eq_true (by omega)
  have v127 : decide (127 < a0) = false := decide_eq_false (by omega)
  rw [show kind5 a0 c = 1 from by unfold kind5; (repeat' split) <;> first | rfl | omega]
  clear I
  go_enter Try.func63, Try.ntmps63
  go_wp2_with fail
  refine (dactylref03_Of.calls k a0 c _ H1.out).mono ?_
  rintro _ _ ⟨rfl, hb⟩
  go_wp2
  go_ret
  exact ⟨rfl, hb⟩
 ·have v48 : decide (48 ≤ a0) = true := decide_eq_true (by omega)
  have v57 : decide (a0 ≤ 57) = false := decide_eq_false (by omega)
  have v65 : decide (65 ≤ a0) = true := decide_eq_true (by omega)
  have v90 : decide (a0 ≤ 90) = false := decide_eq_false (by omega)
  have v97 : decide (97 ≤ a0) = false := decide_eq_false (by omega)
  have v122 : decide (a0 ≤ 122) = true := decide_eq_true (by omega)
  have v127 : decide (127 < a0) = false := decide_eq_false (by omega)
  rw [show kind5 a0 c = 2 from by unfold kind5; (repeat' split) <;> first | rfl | omega]
  clear I
  go_enter Try.func63, Try.ntmps63
  go_wp2_with fail
  refine (dactylref03_Of.calls k a0 c _ H1.out).mono ?_
  rintro _ _ ⟨rfl, hb⟩
  go_wp2
  go_ret
  exact ⟨rfl, hb⟩
 ·have v48 : decide (48 ≤ a0) = true := decide_eq_true (by omega)
  have v57 : decide (a0 ≤ 57) = false := decide_eq_false (by omega)
  have v65 : decide (65 ≤ a0) = true := decide_eq_true (by omega)
  have v90 : decide (a0 ≤ 90) = false := decide_eq_false (by omega)
  have v97 : decide (97 ≤ a0) = true := decide_eq_true (by omega)
  have v122 : decide (a0 ≤ 122) = true := decide_eq_true (by omega)
  have v127 : decide (127 < a0) = false := decide_eq_false (by omega)
  rw [show kind5 a0 c = 1 from by unfold kind5; (repeat' split) <;> first | rfl | omega]
  clear I
  go_enter Try.func63, Try.ntmps63
  go_wp2_with fail
  refine (dactylref03_Of.calls k a0 c _ H1.out).mono ?_
  rintro _ _ ⟨rfl, hb⟩
  go_wp2
  go_ret
  exact ⟨rfl, hb⟩
 ·have v48 : decide (48 ≤ a0) = true := decide_eq_true (by omega)
  have v57 : decide (a0 ≤ 57) = false := decide_eq_false (by omega)
  have v65 : decide (65 ≤ a0) = true := decide_eq_true (by omega)
  have v90 : decide (a0 ≤ 90) = false := decide_eq_false (by omega)
  have v97 : decide (97 ≤ a0) = true := decide_eq_true (by omega)
  have v122 : decide (a0 ≤ 122) = false := decide_eq_false (by omega)
  have v127 : decide (127 < a0) = false := decide_eq_false (by omega)
  rw [show kind5 a0 c = 2 from by unfold kind5; (repeat' split) <;> first | rfl | omega]
  clear I
  go_enter Try.func63, Try.ntmps63
  go_wp2_with fail
  refine (dactylref03_Of.calls k a0 c _ H1.out).mono ?_
  rintro _ _ ⟨rfl, hb⟩
  go_wp2
  go_ret
  exact ⟨rfl, hb⟩
 ·have v48 : decide (48 ≤ a0) = true := decide_eq_true (by omega)
  have v57 : decide (a0 ≤ 57) = false := decide_eq_false (by omega)
  have v65 : decide (65 ≤ a0) = true := decide_eq_true (by omega)
  have v90 : decide (a0 ≤ 90) = false := decide_eq_false (by omega)
  have v97 : decide (97 ≤ a0) = true := decide_eq_true (by omega)
  have v122 : decide (a0 ≤ 122) = false := decide_eq_false (by omega)
  have v127 : decide (127 < a0) = true := decide_eq_true (by omega)
  by_cases J : c = 1
  ·have ec1 : (c == 1) = true := beq_iff_eq.mpr J
   rw [show kind5 a0 c = 1 from by unfold kind5; (repeat' split) <;> first | rfl | omega]
   clear I J
   go_enter Try.func63, Try.ntmps63
   go_wp2_with fail
   refine (dactylref03_Of.calls k a0 c _ H1.out).mono ?_
   rintro _ _ ⟨rfl, hb⟩
   go_wp2
   go_ret
   exact ⟨rfl, hb⟩
  have j_1 := J
  have ec1 : (c == 1) = false := beq_eq_false_iff_ne.mpr J
  clear J
  by_cases J : c = 2
  ·have ec2 : (c == 2) = true := beq_iff_eq.mpr J
   rw [show kind5 a0 c = 1 from by unfold kind5; (repeat' split) <;> first | rfl | omega]
   clear I J
   go_enter Try.func63, Try.ntmps63
   go_wp2_with fail
   refine (dactylref03_Of.calls k a0 c _ H1.out).mono ?_
   rintro _ _ ⟨rfl, hb⟩
   go_wp2
   go_ret
   exact ⟨rfl, hb⟩
  have j_2 := J
  have ec2 : (c == 2) = false := beq_eq_false_iff_ne.mpr J
  clear J
  by_cases J : c = 3
  ·have ec3 : (c == 3) = true := beq_iff_eq.mpr J
   rw [show kind5 a0 c = 1 from by unfold kind5; (repeat' split) <;> first | rfl | omega]
   clear I J
   go_enter Try.func63, Try.ntmps63
   go_wp2_with fail
   refine (dactylref03_Of.calls k a0 c _ H1.out).mono ?_
   rintro _ _ ⟨rfl, hb⟩
   go_wp2
   go_ret
   exact ⟨rfl, hb⟩
  have j_3 := J
  have ec3 : (c == 3) = false := beq_eq_false_iff_ne.mpr J
  clear J
  rw [show kind5 a0 c = 2 from by unfold kind5; (repeat' split) <;> first | rfl | omega]
  clear I
  go_enter Try.func63, Try.ntmps63
  go_wp2_with fail
  refine (dactylref03_Of.calls k a0 c _ H1.out).mono ?_
  rintro _ _ ⟨rfl, hb⟩
  go_wp2
  go_ret
  exact ⟨rfl, hb⟩

end Go.Proofs.Ytemoocoedibbpab.X

namespace Go.Proofs.Ytemoocoedibbpab.X
open Go.RowKit Go.Proofs.YtemoocoedibbpabW.PrintWords Go.Proofs.YtemoocoedibbpabW.PrintLast Go.Proofs.YtemoocoedibbpabW.PrintMore
attribute [local go_sem] max2_int min2_int max_two min_two max_three min_three max_four min_four
set_option linter.unusedVariables false
set_option linter.unusedSimpArgs false

/-! ### dactylref05_At: function 76 -/
def dactylref05_At.j0 : Nat → List (S47) → Int → Bool → Bool → Option (Int)
 | 0, _, _, _, _ => none
 | k + 1, x0, x1, x2, x15 => if x15 = true then (some 9) else (if 0 ≤ x1 then (if x1 < (x0.length : Int) then ((dactylref05_Kind.f k ((rd_T47 x0 x1).f0)).bind fun t102 => (if x2 = true then (if t102 = 2 then (some 1) else (some t102)) else (some t102))) else (none)) else (none))
def dactylref05_At.f (k : Nat) (l0 : List (S47)) (a1 : Int) (a2 : Bool) : Option (Int) := if a1 < 0 then (dactylref05_At.j0 k l0 a1 a2 true) else (dactylref05_At.j0 k l0 a1 a2 (decide (a1 ≥ (l0.length : Int))))
theorem dactylref05_At.mono_l : ∀ k, (∀ y0 y1 y2 y3, LeO (dactylref05_At.j0 k y0 y1 y2 y3) (dactylref05_At.j0 (k + 1) y0 y1 y2 y3))
 | 0 => fun _ _ _ _ r h => by simp [dactylref05_At.j0] at h
 | k + 1 => by
  have ih0 := dactylref05_At.mono_l k
  ·intro y0 y1 y2 y3
   unfold dactylref05_At.j0
   repeat' first
   | (with_reducible exact ih0 _ _ _ _)
   | (with_reducible exact dactylref05_Kind.mono _ _)
   | (with_reducible exact LeO.refl _)
   | (with_reducible exact LeO.none _)
   | (with_reducible refine LeO.ite ?_ ?_)
   | (with_reducible refine LeO.bind ?_ (fun _ => ?_))
   | exact ih0 _ _ _ _
   | exact dactylref05_Kind.mono _ _
   | exact LeO.none _
   | refine LeO.ite ?_ ?_
   | refine LeO.bind ?_ (fun _ => ?_)
theorem dactylref05_At.mono : ∀ a0 a1 a2 k, LeO (dactylref05_At.f k a0 a1 a2) (dactylref05_At.f (k + 1) a0 a1 a2) := by
 intro a0 a1 a2 k
 have ih0 := dactylref05_At.mono_l k
 unfold dactylref05_At.f
 repeat' first
   | (with_reducible exact ih0 _ _ _ _)
   | (with_reducible exact dactylref05_Kind.mono _ _)
   | (with_reducible exact LeO.refl _)
   | (with_reducible exact LeO.none _)
   | (with_reducible refine LeO.ite ?_ ?_)
   | (with_reducible refine LeO.bind ?_ (fun _ => ?_))
   | exact ih0 _ _ _ _
   | exact dactylref05_Kind.mono _ _
   | exact LeO.none _
   | refine LeO.ite ?_ ?_
   | refine LeO.bind ?_ (fun _ => ?_)
set_option maxHeartbeats 8000000 in
set_option maxRecDepth 100000 in
theorem dactylref05_At.calls (k : Nat) (A0 : Option Addr) (c0 : Nat) (l0 : List (S47)) (a1 : Int) (a2 : Bool) (r : Int) (w : World) (hr0 : Kd.C k47 w A0 l0.length l0) (hc0 : l0.length ≤ c0) (h : dactylref05_At.f k l0 a1 a2 = some r) :
  Calls Try.prog 76 #[.slice A0 l0.length c0, .int .i64 a1, .bool a2] w fun e w' => e = .returned (.int .i64 r) ∧ Below w.heap.size w w' := by
 have HR0 := Aside0.mk hr0
 have HC0 := Aside0.mk hc0
 clear hr0 hc0
 have HB := Aside0.mk (Below.refl w.heap.size w)
 have H : (if a1 < 0 then (dactylref05_At.j0 k l0 a1 a2 true) else (dactylref05_At.j0 k l0 a1 a2 (decide (a1 ≥ (l0.length : Int))))) = some r := h
 clear h
 have HC4 := Aside0.mk H
 clear H
 go_enter Try.func76, Try.ntmps76
 go_upto_region 1 with (fail)
 go_cut [15] (fun v15 wc => ∃ (kq : Nat) (x15_3 : Bool), v15 = .bool x15_3 ∧ Aside0 (dactylref05_At.j0 kq l0 a1 a2 x15_3 = some r) ∧ Aside0 (kq ≤ k) ∧ Aside0 (Below w.heap.size w wc))
 case first =>
  have H := HC4.out
  clear HC4
  by_cases c5 : a1 < 0
  ·rw [if_pos c5] at H
   have c5b0 : decide (a1 < 0) = true := decide_eq_true c5
   clear c5
   (first | rw [c5b0] | (simp only [i64_w, i32_w]; rw [c5b0]) | skip)
   have H' := Aside0.mk H
   clear H
   go_wp2
   go_meet
   case rel => exact ⟨_, (true), (by first | rfl | (simp; done) | (simp [*]; done)), H', ⟨by first | omega | exact Nat.le_refl _⟩, ⟨by repeat (first | (with_reducible first | exact HB.out | apply below_alloc | apply pw_below_drewN | apply below_drew1) | exact HB.out)⟩⟩
  ·rw [if_neg c5] at H
   have c5b0 : decide (a1 < 0) = false := decide_eq_false c5
   clear c5
   (first | rw [c5b0] | (simp only [i64_w, i32_w]; rw [c5b0]) | skip)
   have H' := Aside0.mk H
   clear H
   go_wp2
   go_meet
   case rel => exact ⟨_, (decide (a1 ≥ (l0.length : Int))), (by first | rfl | (simp; done) | (simp [*]; done)), H', ⟨by first | omega | exact Nat.le_refl _⟩, ⟨by repeat (first | (with_reducible first | exact HB.out | apply below_alloc | apply pw_below_drewN | apply below_drew1) | exact HB.out)⟩⟩
 case rest =>
  clear HC4
  try clear p2
  try clear c5
  try clear c5b0
  obtain ⟨kq, x15_3, rfl, HA, HJ3, HB⟩ := hcut
  cases kq with
  | zero => exact absurd HA.out (by simp [dactylref05_At.j0])
  | succ kj3 =>
   have H := HA.out
   clear HA
   simp only [dactylref05_At.j0] at H
   by_cases c6 : x15_3 = true
   ·subst c6
    have H1 : (some 9) = some r := by rw [if_pos rfl] at H; exact H
    clear H
    have H := H1
    clear H1
    obtain rfl := Option.some.inj H
    go_wp2
    go_ret
    exact ⟨by first | rfl | (simp [errW_none, errW_some] <;> rfl) | (simp [*, errW_none, errW_some] <;> rfl), by repeat (first | (with_reducible first | exact HB.out | apply below_alloc | apply pw_below_drewN | apply below_drew1) | exact HB.out)⟩
   ·replace c6 := Bool.eq_false_iff.mpr c6
    subst c6
    have H1 : (if 0 ≤ a1 then (if a1 < (l0.length : Int) then ((dactylref05_Kind.f kj3 ((rd_T47 l0 a1).f0)).bind fun t102 => (if a2 = true then (if t102 = 2 then (some 1) else (some t102)) else (some t102))) else (none)) else (none)) = some r := by rw [if_neg (show ¬ (false = true) by decide)] at H; exact H
    clear H
    have H := H1
    clear H1
    by_cases c7 : 0 ≤ a1
    ·rw [if_pos c7] at H
     have c7b0 : decide (0 ≤ a1) = true := decide_eq_true c7
     clear c7
     by_cases c8 : a1 < (l0.length : Int)
     ·rw [if_pos c8] at H
      have c8b0 : decide (a1 < (l0.length : Int)) = true := decide_eq_true c8
      clear c8
      replace H := Option.bind_eq_some_iff.mp H
      obtain ⟨t102, A90, H⟩ := H
      try dsimp only at H
      have A9 := Aside0.mk A90
      clear A90
      by_cases c10 : a2 = true
      ·subst c10
       have H1 : (if t102 = 2 then (some 1) else (some t102)) = some r := by rw [if_pos rfl] at H; exact H
       clear H
       have H := H1
       clear H1
       by_cases c11 : t102 = 2
       ·rw [if_pos c11] at H
        have c11b0 : (t102 == 2) = true := beq_iff_eq.mpr c11
        have c11b1 : (t102 != 2) = false := bne_eq_false_iff_eq.mpr c11
        clear c11
        obtain rfl := Option.some.inj H
        have p101 : 0 ≤ (a1 : Int) := of_decide_eq_true (by first | (with_reducible assumption) | assumption)
        have q101 : a1 < (l0.length : Int) := of_decide_eq_true (by first | (with_reducible assumption) | assumption)
        obtain ⟨ad101, e101, hx101_0, hx101_1⟩ := at_T47 HR0.out a1 p101 q101
        cases e101
        replace hx101_0 := (HB.out.cell (World.block_lt_of_cell? w _ hx101_0)).trans hx101_0
        replace hx101_1 := (HB.out.cell (World.block_lt_of_cell? w _ hx101_1)).trans hx101_1
        replace p101 := eq_true p101
        replace q101 := eq_true q101
        go_wp2_with (first | ((with_reducible refine gate_callee (f := 63) rfl ?_); refine gL (some 21) Try.func63 (by kernel_rfl) #[.int .i64 ((rd_T47 l0 a1).f0)] rfl rfl rfl rfl rfl ?_; (with_reducible refine (dactylref05_Kind.calls kj3 ((rd_T47 l0 a1).f0) t102 _ A9.out).mono ?_); rintro e w12 ⟨rfl, hb⟩; refine ⟨_, rfl, ?_⟩; replace HB := a0 (below_step HB.out hb); (try clear hb); (try clear hb2); (try clear hk); (try clear hi)))
        go_ret
        exact ⟨by first | rfl | (simp [errW_none, errW_some] <;> rfl) | (simp [*, errW_none, errW_some] <;> rfl), by repeat (first | (with_reducible first | exact HB.out | apply below_alloc | apply pw_below_drewN | apply below_drew1) | exact HB.out)⟩
       ·rw [if_neg c11] at H
        have c11b0 : (t102 == 2) = false := beq_eq_false_iff_ne.mpr c11
        have c11b1 : (t102 != 2) = true := bne_iff_ne.mpr c11
        obtain rfl := Option.some.inj H
        have p101 : 0 ≤ (a1 : Int) := of_decide_eq_true (by first | (with_reducible assumption) | assumption)
        have q101 : a1 < (l0.length : Int) := of_decide_eq_true (by first | (with_reducible assumption) | assumption)
        obtain ⟨ad101, e101, hx101_0, hx101_1⟩ := at_T47 HR0.out a1 p101 q101
        cases e101
        replace hx101_0 := (HB.out.cell (World.block_lt_of_cell? w _ hx101_0)).trans hx101_0
        replace hx101_1 := (HB.out.cell (World.block_lt_of_cell? w _ hx101_1)).trans hx101_1
        replace p101 := eq_true p101
        replace q101 := eq_true q101
        go_wp2_with (first | ((with_reducible refine gate_callee (f := 63) rfl ?_); refine gL (some 21) Try.func63 (by kernel_rfl) #[.int .i64 ((rd_T47 l0 a1).f0)] rfl rfl rfl rfl rfl ?_; (with_reducible refine (dactylref05_Kind.calls kj3 ((rd_T47 l0 a1).f0) t102 _ A9.out).mono ?_); rintro e w13 ⟨rfl, hb⟩; refine ⟨_, rfl, ?_⟩; replace HB := a0 (below_step HB.out hb); (try clear hb); (try clear hb2); (try clear hk); (try clear hi)))
        go_ret
        exact ⟨by first | rfl | (simp [errW_none, errW_some] <;> rfl) | (simp [*, errW_none, errW_some] <;> rfl), by repeat (first | (with_reducible first | exact HB.out | apply below_alloc | apply pw_below_drewN | apply below_drew1) | exact HB.out)⟩
      ·replace c10 := Bool.eq_false_iff.mpr c10
       subst c10
       have H1 : (some t102) = some r := by rw [if_neg (show ¬ (false = true) by decide)] at H; exact H
       clear H
       have H := H1
       clear H1
       obtain rfl := Option.some.inj H
       have p101 : 0 ≤ (a1 : Int) := of_decide_eq_true (by first | (with_reducible assumption) | assumption)
       have q101 : a1 < (l0.length : Int) := of_decide_eq_true (by first | (with_reducible assumption) | assumption)
       obtain ⟨ad101, e101, hx101_0, hx101_1⟩ := at_T47 HR0.out a1 p101 q101
       cases e101
       replace hx101_0 := (HB.out.cell (World.block_lt_of_cell? w _ hx101_0)).trans hx101_0
       replace hx101_1 := (HB.out.cell (World.block_lt_of_cell? w _ hx101_1)).trans hx101_1
       replace p101 := eq_true p101
       replace q101 := eq_true q101
       go_wp2_with (first | ((with_reducible refine gate_callee (f := 63) rfl ?_); refine gL (some 21) Try.func63 (by kernel_rfl) #[.int .i64 ((rd_T47 l0 a1).f0)] rfl rfl rfl rfl rfl ?_; (with_reducible refine (dactylref05_Kind.calls kj3 ((rd_T47 l0 a1).f0) t102 _ A9.out).mono ?_); rintro e w14 ⟨rfl, hb⟩; refine ⟨_, rfl, ?_⟩; replace HB := a0 (below_step HB.out hb); (try clear hb); (try clear hb2); (try clear hk); (try clear hi)))
       go_ret
       exact ⟨by first | rfl | (simp [errW_none, errW_some] <;> rfl) | (simp [*, errW_none, errW_some] <;> rfl), by repeat (first | (with_reducible first | exact HB.out | apply below_alloc | apply pw_below_drewN | apply below_drew1) | exact HB.out)⟩
     ·rw [if_neg c8] at H
      exact absurd H (by simp)
    ·rw [if_neg c7] at H
     exact absurd H (by simp)

end Go.Proofs.Ytemoocoedibbpab.X

namespace Go.Proofs.Ytemoocoedibbpab.X
open Go.RowKit Go.Proofs.YtemoocoedibbpabW.PrintWords Go.Proofs.YtemoocoedibbpabW.PrintLast Go.Proofs.YtemoocoedibbpabW.PrintMore
attribute [local go_sem] max2_int min2_int max_two min_two max_three min_three max_four min_four
set_option linter.unusedVariables false
set_option linter.unusedSimpArgs false

/-! ### dactylref05_Back: function 74 -/
def dactylref05_Back.l0 : Nat → List (S47) → Int → Int → Option (Int)
 | 0, _, _, _ => none
 | k + 1, x0, x1, x5 => if x5 ≥ 0 then ((dactylref05_Place.f x0 x1).bind fun t101 => (if x5 < t101 then ((dactylref05_At.f k x0 x5 false).bind fun t102 => (if t102 = 1 then ((dactylref05_At.f k x0 (wrap64 (x5 - 1)) false).bind fun t103 => (if t103 = 1 then (dactylref05_Back.l0 k x0 x1 (wrap64 (x5 - 1))) else (some x5))) else (dactylref05_Back.l0 k x0 x1 (wrap64 (x5 - 1))))) else (dactylref05_Back.l0 k x0 x1 (wrap64 (x5 - 1))))) else (some 0)
def dactylref05_Back.f (k : Nat) (l0 : List (S47)) (a1 : Int) : Option (Int) := dactylref05_Back.l0 k l0 a1 (l0.length : Int)
theorem dactylref05_Back.mono_l : ∀ k, (∀ y0 y1 y2, LeO (dactylref05_Back.l0 k y0 y1 y2) (dactylref05_Back.l0 (k + 1) y0 y1 y2))
 | 0 => fun _ _ _ r h => by simp [dactylref05_Back.l0] at h
 | k + 1 => by
  have ih0 := dactylref05_Back.mono_l k
  ·intro y0 y1 y2
   unfold dactylref05_Back.l0
   repeat' first
   | (with_reducible exact ih0 _ _ _)
   | (with_reducible exact dactylref05_At.mono _ _ _ _)
   | (with_reducible exact LeO.refl _)
   | (with_reducible exact LeO.none _)
   | (with_reducible refine LeO.ite ?_ ?_)
   | (with_reducible refine LeO.bind ?_ (fun _ => ?_))
   | exact ih0 _ _ _
   | exact dactylref05_At.mono _ _ _ _
   | exact LeO.none _
   | refine LeO.ite ?_ ?_
   | refine LeO.bind ?_ (fun _ => ?_)
theorem dactylref05_Back.mono : ∀ a0 a1 k, LeO (dactylref05_Back.f k a0 a1) (dactylref05_Back.f (k + 1) a0 a1) := by
 intro a0 a1 k
 have ih0 := dactylref05_Back.mono_l k
 unfold dactylref05_Back.f
 repeat' first
   | (with_reducible exact ih0 _ _ _)
   | (with_reducible exact dactylref05_At.mono _ _ _ _)
   | (with_reducible exact LeO.refl _)
   | (with_reducible exact LeO.none _)
   | (with_reducible refine LeO.ite ?_ ?_)
   | (with_reducible refine LeO.bind ?_ (fun _ => ?_))
   | exact ih0 _ _ _
   | exact dactylref05_At.mono _ _ _ _
   | exact LeO.none _
   | refine LeO.ite ?_ ?_
   | refine LeO.bind ?_ (fun _ => ?_)
set_option maxHeartbeats 8000000 in
set_option maxRecDepth 100000 in
theorem dactylref05_Back.calls (k : Nat) (A0 : Option Addr) (c0 : Nat) (l0 : List (S47)) (a1 : Int) (r : Int) (w : World) (hr0 : Kd.C k47 w A0 l0.length l0) (hc0 : l0.length ≤ c0) (h : dactylref05_Back.f k l0 a1 = some r) :
  Calls Try.prog 74 #[.slice A0 l0.length c0, .int .i64 a1] w fun e w' => e = .returned (.int .i64 r) ∧ Below w.heap.size w w' := by
 have HR0 := Aside0.mk hr0
 have HC0 := Aside0.mk hc0
 clear hr0 hc0
 have HB := Aside0.mk (Below.refl w.heap.size w)
 have H : (dactylref05_Back.l0 k l0 a1 (l0.length : Int)) = some r := h
 clear h
 have H' := Aside0.mk H
 clear H
 go_enter Try.func74, Try.ntmps74
 go_wp2
 go_loopg [5] k (fun kq v5 w' => ∃ (x5_1 : Int), v5 = .int .i64 x5_1 ∧ Aside0 (dactylref05_Back.l0 kq l0 a1 x5_1 = some r) ∧ Aside0 (kq ≤ k) ∧ Aside0 (Below w.heap.size w w'))
 case atStart => exact ⟨((l0.length : Int)), (by first | rfl | (simp; done) | (simp [*]; done)), H', ⟨Nat.le_refl _⟩, ⟨by repeat (first | exact HB.out | apply below_alloc | apply pw_below_drewN | apply below_drew1)⟩⟩
 case round =>
  clear H'
  try clear p2
  obtain ⟨x5_1, rfl, HA, HK1, HB⟩ := hrel
  cases gk with
  | zero => exact absurd HA.out (by simp [dactylref05_Back.l0])
  | succ k1 =>
   have H := HA.out
   clear HA
   simp only [dactylref05_Back.l0] at H
   by_cases c3 : x5_1 ≥ 0
   ·rw [if_pos c3] at H
    have c3b0 : decide (0 ≤ x5_1) = true := decide_eq_true c3
    clear c3
    replace H := Option.bind_eq_some_iff.mp H
    obtain ⟨t101, A40, H⟩ := H
    try dsimp only at H
    have A4 := Aside0.mk A40
    clear A40
    by_cases c5 : x5_1 < t101
    ·rw [if_pos c5] at H
     have c5b0 : decide (x5_1 < t101) = true := decide_eq_true c5
     clear c5
     replace H := Option.bind_eq_some_iff.mp H
     obtain ⟨t102, A60, H⟩ := H
     try dsimp only at H
     have A6 := Aside0.mk A60
     clear A60
     by_cases c7 : t102 = 1
     ·rw [if_pos c7] at H
      have c7b0 : (t102 == 1) = true := beq_iff_eq.mpr c7
      have c7b1 : (t102 != 1) = false := bne_eq_false_iff_eq.mpr c7
      clear c7
      replace H := Option.bind_eq_some_iff.mp H
      obtain ⟨t103, A80, H⟩ := H
      try dsimp only at H
      have A8 := Aside0.mk A80
      clear A80
      by_cases c9 : t103 = 1
      ·rw [if_pos c9] at H
       have c9b0 : (t103 == 1) = true := beq_iff_eq.mpr c9
       have c9b1 : (t103 != 1) = false := bne_eq_false_iff_eq.mpr c9
       clear c9
       have H' := Aside0.mk H
       clear H
       go_wp2_with (first | ((with_reducible refine gate_callee (f := 120) rfl ?_); refine gL (some 15) Try.func120 (by kernel_rfl) #[.slice A0 l0.length c0, .int .i64 a1] rfl rfl rfl rfl rfl ?_; (with_reducible refine (dactylref05_Place.calls _ _ l0 a1 t101 _ ?side1 ?side2 A4.out).mono ?_); (case side1 => repeat (first | exact (Kd.C_below HR0.out HB.out) | (with_reducible refine Kd.C_alloc ?_ _) | (with_reducible refine Kd.C_drewN ?_ _) | (with_reducible refine Kd.C_drew ?_))); (case side2 => exact HC0.out); rintro e w' ⟨rfl, ⟨nd, rfl⟩⟩; refine ⟨_, rfl, ?_⟩) | (go_at_call 76; (with_reducible refine (dactylref05_At.calls k1 _ _ l0 x5_1 false t102 _ ?side1 ?side2 A6.out).mono ?_); (case side1 => repeat (first | exact (Kd.C_below HR0.out (by repeat (first | exact HB.out | apply below_alloc | apply pw_below_drewN | apply below_drew1))) | (with_reducible refine Kd.C_alloc ?_ _) | (with_reducible refine Kd.C_drewN ?_ _) | (with_reducible refine Kd.C_drew ?_))); (case side2 => exact HC0.out); rintro e w10 ⟨rfl, hb⟩; replace HB := a0 (below_step (by repeat (first | exact HB.out | apply below_alloc | apply pw_below_drewN | apply below_drew1)) hb); (try clear hb); (try clear hb2); (try clear hk); (try clear hi)) | (go_at_call 76; (with_reducible refine (dactylref05_At.calls k1 _ _ l0 (wrap64 (x5_1 - 1)) false t103 _ ?side1 ?side2 A8.out).mono ?_); (case side1 => repeat (first | exact (Kd.C_below HR0.out HB.out) | (with_reducible refine Kd.C_alloc ?_ _) | (with_reducible refine Kd.C_drewN ?_ _) | (with_reducible refine Kd.C_drew ?_))); (case side2 => exact HC0.out); rintro e w11 ⟨rfl, hb⟩; replace HB := a0 (below_step (by repeat (first | exact HB.out | apply below_alloc | apply pw_below_drewN | apply below_drew1)) hb); (try clear hb); (try clear hb2); (try clear hk); (try clear hi)))
       go_roundg k1
       case measure => have := HK1.out; omega
       case rel => exact ⟨(wrap64 (x5_1 - 1)), (by first | rfl | (simp; done) | (simp [*]; done)), H', ⟨by have := HK1.out; omega⟩, ⟨by repeat (first | exact HB.out | apply below_alloc | apply pw_below_drewN | apply below_drew1)⟩⟩
      ·rw [if_neg c9] at H
       have c9b0 : (t103 == 1) = false := beq_eq_false_iff_ne.mpr c9
       have c9b1 : (t103 != 1) = true := bne_iff_ne.mpr c9
       obtain rfl := Option.some.inj H
       go_wp2_with (first | ((with_reducible refine gate_callee (f := 120) rfl ?_); refine gL (some 15) Try.func120 (by kernel_rfl) #[.slice A0 l0.length c0, .int .i64 a1] rfl rfl rfl rfl rfl ?_; (with_reducible refine (dactylref05_Place.calls _ _ l0 a1 t101 _ ?side1 ?side2 A4.out).mono ?_); (case side1 => repeat (first | exact (Kd.C_below HR0.out HB.out) | (with_reducible refine Kd.C_alloc ?_ _) | (with_reducible refine Kd.C_drewN ?_ _) | (with_reducible refine Kd.C_drew ?_))); (case side2 => exact HC0.out); rintro e w' ⟨rfl, ⟨nd, rfl⟩⟩; refine ⟨_, rfl, ?_⟩) | (go_at_call 76; (with_reducible refine (dactylref05_At.calls k1 _ _ l0 x5_1 false t102 _ ?side1 ?side2 A6.out).mono ?_); (case side1 => repeat (first | exact (Kd.C_below HR0.out (by repeat (first | exact HB.out | apply below_alloc | apply pw_below_drewN | apply below_drew1))) | (with_reducible refine Kd.C_alloc ?_ _) | (with_reducible refine Kd.C_drewN ?_ _) | (with_reducible refine Kd.C_drew ?_))); (case side2 => exact HC0.out); rintro e w12 ⟨rfl, hb⟩; replace HB := a0 (below_step (by repeat (first | exact HB.out | apply below_alloc | apply pw_below_drewN | apply below_drew1)) hb); (try clear hb); (try clear hb2); (try clear hk); (try clear hi)) | (go_at_call 76; (with_reducible refine (dactylref05_At.calls k1 _ _ l0 (wrap64 (x5_1 - 1)) false t103 _ ?side1 ?side2 A8.out).mono ?_); (case side1 => repeat (first | exact (Kd.C_below HR0.out HB.out) | (with_reducible refine Kd.C_alloc ?_ _) | (with_reducible refine Kd.C_drewN ?_ _) | (with_reducible refine Kd.C_drew ?_))); (case side2 => exact HC0.out); rintro e w13 ⟨rfl, hb⟩; replace HB := a0 (below_step (by repeat (first | exact HB.out | apply below_alloc | apply pw_below_drewN | apply below_drew1)) hb); (try clear hb); (try clear hb2); (try clear hk); (try clear hi)))
       go_ret
       exact ⟨by first | rfl | (simp [errW_none, errW_some] <;> rfl) | (simp [*, errW_none, errW_some] <;> rfl), by repeat (first | exact HB.out | apply below_alloc | apply pw_below_drewN | apply below_drew1)⟩
     ·rw [if_neg c7] at H
      have c7b0 : (t102 == 1) = false := beq_eq_false_iff_ne.mpr c7
      have c7b1 : (t102 != 1) = true := bne_iff_ne.mpr c7
      have H' := Aside0.mk H
      clear H
      go_wp2_with (first | ((with_reducible refine gate_callee (f := 120) rfl ?_); refine gL (some 15) Try.func120 (by kernel_rfl) #[.slice A0 l0.length c0, .int .i64 a1] rfl rfl rfl rfl rfl ?_; (with_reducible refine (dactylref05_Place.calls _ _ l0 a1 t101 _ ?side1 ?side2 A4.out).mono ?_); (case side1 => repeat (first | exact (Kd.C_below HR0.out HB.out) | (with_reducible refine Kd.C_alloc ?_ _) | (with_reducible refine Kd.C_drewN ?_ _) | (with_reducible refine Kd.C_drew ?_))); (case side2 => exact HC0.out); rintro e w' ⟨rfl, ⟨nd, rfl⟩⟩; refine ⟨_, rfl, ?_⟩) | (go_at_call 76; (with_reducible refine (dactylref05_At.calls k1 _ _ l0 x5_1 false t102 _ ?side1 ?side2 A6.out).mono ?_); (case side1 => repeat (first | exact (Kd.C_below HR0.out (by repeat (first | exact HB.out | apply below_alloc | apply pw_below_drewN | apply below_drew1))) | (with_reducible refine Kd.C_alloc ?_ _) | (with_reducible refine Kd.C_drewN ?_ _) | (with_reducible refine Kd.C_drew ?_))); (case side2 => exact HC0.out); rintro e w14 ⟨rfl, hb⟩; replace HB := a0 (below_step (by repeat (first | exact HB.out | apply below_alloc | apply pw_below_drewN | apply below_drew1)) hb); (try clear hb); (try clear hb2); (try clear hk); (try clear hi)))
      go_roundg k1
      case measure => have := HK1.out; omega
      case rel => exact ⟨(wrap64 (x5_1 - 1)), (by first | rfl | (simp; done) | (simp [*]; done)), H', ⟨by have := HK1.out; omega⟩, ⟨by repeat (first | exact HB.out | apply below_alloc | apply pw_below_drewN | apply below_drew1)⟩⟩
    ·rw [if_neg c5] at H
     have c5b0 : decide (x5_1 < t101) = false := decide_eq_false c5
     clear c5
     have H' := Aside0.mk H
     clear H
     go_wp2_with (first | ((with_reducible refine gate_callee (f := 120) rfl ?_); refine gL (some 15) Try.func120 (by kernel_rfl) #[.slice A0 l0.length c0, .int .i64 a1] rfl rfl rfl rfl rfl ?_; (with_reducible refine (dactylref05_Place.calls _ _ l0 a1 t101 _ ?side1 ?side2 A4.out).mono ?_); (case side1 => repeat (first | exact (Kd.C_below HR0.out HB.out) | (with_reducible refine Kd.C_alloc ?_ _) | (with_reducible refine Kd.C_drewN ?_ _) | (with_reducible refine Kd.C_drew ?_))); (case side2 => exact HC0.out); rintro e w' ⟨rfl, ⟨nd, rfl⟩⟩; refine ⟨_, rfl, ?_⟩))
     go_roundg k1
     case measure => have := HK1.out; omega
     case rel => exact ⟨(wrap64 (x5_1 - 1)), (by first | rfl | (simp; done) | (simp [*]; done)), H', ⟨by have := HK1.out; omega⟩, ⟨by repeat (first | exact HB.out | apply below_alloc | apply pw_below_drewN | apply below_drew1)⟩⟩
   ·rw [if_neg c3] at H
    have c3b0 : decide (0 ≤ x5_1) = false := decide_eq_false c3
    clear c3
    obtain rfl := Option.some.inj H
    go_wp2
    go_ret
    exact ⟨by first | rfl | (simp [errW_none, errW_some] <;> rfl) | (simp [*, errW_none, errW_some] <;> rfl), by repeat (first | exact HB.out | apply below_alloc | apply pw_below_drewN | apply below_drew1)⟩

end Go.Proofs.Ytemoocoedibbpab.X

namespace Go.Proofs.Ytemoocoedibbpab.X
open Go.RowKit Go.Proofs.YtemoocoedibbpabW.PrintWords Go.Proofs.YtemoocoedibbpabW.PrintLast Go.Proofs.YtemoocoedibbpabW.PrintMore
attribute [local go_sem] max2_int min2_int max_two min_two max_three min_three max_four min_four
set_option linter.unusedVariables false
set_option linter.unusedSimpArgs false

/-! ### dactylref05_Next: function 75 -/
def dactylref05_Next.l0 : Nat → List (S47) → Int → Int → Option (Int)
 | 0, _, _, _ => none
 | k + 1, x0, x1, x5 => if x5 ≤ (x0.length : Int) then ((dactylref05_Place.f x0 x1).bind fun t101 => (if x5 > t101 then ((dactylref05_At.f k x0 (wrap64 (x5 - 1)) false).bind fun t102 => (if t102 = 1 then ((dactylref05_At.f k x0 x5 false).bind fun t103 => (if t103 = 1 then (dactylref05_Next.l0 k x0 x1 (wrap64 (x5 + 1))) else (some x5))) else (dactylref05_Next.l0 k x0 x1 (wrap64 (x5 + 1))))) else (dactylref05_Next.l0 k x0 x1 (wrap64 (x5 + 1))))) else (some (x0.length : Int))
def dactylref05_Next.f (k : Nat) (l0 : List (S47)) (a1 : Int) : Option (Int) := dactylref05_Next.l0 k l0 a1 0
theorem dactylref05_Next.mono_l : ∀ k, (∀ y0 y1 y2, LeO (dactylref05_Next.l0 k y0 y1 y2) (dactylref05_Next.l0 (k + 1) y0 y1 y2))
 | 0 => fun _ _ _ r h => by simp [dactylref05_Next.l0] at h
 | k + 1 => by
  have ih0 := dactylref05_Next.mono_l k
  ·intro y0 y1 y2
   unfold dactylref05_Next.l0
   repeat' first
   | (with_reducible exact ih0 _ _ _)
   | (with_reducible exact dactylref05_At.mono _ _ _ _)
   | (with_reducible exact LeO.refl _)
   | (with_reducible exact LeO.none _)
   | (with_reducible refine LeO.ite ?_ ?_)
   | (with_reducible refine LeO.bind ?_ (fun _ => ?_))
   | exact ih0 _ _ _
   | exact dactylref05_At.mono _ _ _ _
   | exact LeO.none _
   | refine LeO.ite ?_ ?_
   | refine LeO.bind ?_ (fun _ => ?_)
theorem dactylref05_Next.mono : ∀ a0 a1 k, LeO (dactylref05_Next.f k a0 a1) (dactylref05_Next.f (k + 1) a0 a1) := by
 intro a0 a1 k
 have ih0 := dactylref05_Next.mono_l k
 unfold dactylref05_Next.f
 repeat' first
   | (with_reducible exact ih0 _ _ _)
   | (with_reducible exact dactylref05_At.mono _ _ _ _)
   | (with_reducible exact LeO.refl _)
   | (with_reducible exact LeO.none _)
   | (with_reducible refine LeO.ite ?_ ?_)
   | (with_reducible refine LeO.bind ?_ (fun _ => ?_))
   | exact ih0 _ _ _
   | exact dactylref05_At.mono _ _ _ _
   | exact LeO.none _
   | refine LeO.ite ?_ ?_
   | refine LeO.bind ?_ (fun _ => ?_)
set_option maxHeartbeats 8000000 in
set_option maxRecDepth 100000 in
theorem dactylref05_Next.calls (k : Nat) (A0 : Option Addr) (c0 : Nat) (l0 : List (S47)) (a1 : Int) (r : Int) (w : World) (hr0 : Kd.C k47 w A0 l0.length l0) (hc0 : l0.length ≤ c0) (h : dactylref05_Next.f k l0 a1 = some r) :
  Calls Try.prog 75 #[.slice A0 l0.length c0, .int .i64 a1] w fun e w' => e = .returned (.int .i64 r) ∧ Below w.heap.size w w' := by
 have HR0 := Aside0.mk hr0
 have HC0 := Aside0.mk hc0
 clear hr0 hc0
 have HB := Aside0.mk (Below.refl w.heap.size w)
 have H : (dactylref05_Next.l0 k l0 a1 0) = some r := h
 clear h
 have H' := Aside0.mk H
 clear H
 go_enter Try.func75, Try.ntmps75
 go_wp2
 go_loopg [5] k (fun kq v5 w' => ∃ (x5_1 : Int), v5 = .int .i64 x5_1 ∧ Aside0 (dactylref05_Next.l0 kq l0 a1 x5_1 = some r) ∧ Aside0 (kq ≤ k) ∧ Aside0 (Below w.heap.size w w'))
 case atStart => exact ⟨(0), (by first | rfl | (simp; done) | (simp [*]; done)), H', ⟨Nat.le_refl _⟩, ⟨by repeat (first | exact HB.out | apply below_alloc | apply pw_below_drewN | apply below_drew1)⟩⟩
 case round =>
  clear H'
  try clear p2
  obtain ⟨x5_1, rfl, HA, HK1, HB⟩ := hrel
  cases gk with
  | zero => exact absurd HA.out (by simp [dactylref05_Next.l0])
  | succ k1 =>
   have H := HA.out
   clear HA
   simp only [dactylref05_Next.l0] at H
   by_cases c3 : x5_1 ≤ (l0.length : Int)
   ·rw [if_pos c3] at H
    have c3b0 : decide (x5_1 ≤ (l0.length : Int)) = true := decide_eq_true c3
    clear c3
    replace H := Option.bind_eq_some_iff.mp H
    obtain ⟨t101, A40, H⟩ := H
    try dsimp only at H
    have A4 := Aside0.mk A40
    clear A40
    by_cases c5 : x5_1 > t101
    ·rw [if_pos c5] at H
     have c5b0 : decide (t101 < x5_1) = true := decide_eq_true c5
     clear c5
     replace H := Option.bind_eq_some_iff.mp H
     obtain ⟨t102, A60, H⟩ := H
     try dsimp only at H
     have A6 := Aside0.mk A60
     clear A60
     by_cases c7 : t102 = 1
     ·rw [if_pos c7] at H
      have c7b0 : (t102 == 1) = true := beq_iff_eq.mpr c7
      have c7b1 : (t102 != 1) = false := bne_eq_false_iff_eq.mpr c7
      clear c7
      replace H := Option.bind_eq_some_iff.mp H
      obtain ⟨t103, A80, H⟩ := H
      try dsimp only at H
      have A8 := Aside0.mk A80
      clear A80
      by_cases c9 : t103 = 1
      ·rw [if_pos c9] at H
       have c9b0 : (t103 == 1) = true := beq_iff_eq.mpr c9
       have c9b1 : (t103 != 1) = false := bne_eq_false_iff_eq.mpr c9
       clear c9
       have H' := Aside0.mk H
       clear H
       go_wp2_with (first | ((with_reducible refine gate_callee (f := 120) rfl ?_); refine gL (some 15) Try.func120 (by kernel_rfl) #[.slice A0 l0.length c0, .int .i64 a1] rfl rfl rfl rfl rfl ?_; (with_reducible refine (dactylref05_Place.calls _ _ l0 a1 t101 _ ?side1 ?side2 A4.out).mono ?_); (case side1 => repeat (first | exact (Kd.C_below HR0.out HB.out) | (with_reducible refine Kd.C_alloc ?_ _) | (with_reducible refine Kd.C_drewN ?_ _) | (with_reducible refine Kd.C_drew ?_))); (case side2 => exact HC0.out); rintro e w' ⟨rfl, ⟨nd, rfl⟩⟩; refine ⟨_, rfl, ?_⟩) | (go_at_call 76; (with_reducible refine (dactylref05_At.calls k1 _ _ l0 (wrap64 (x5_1 - 1)) false t102 _ ?side1 ?side2 A6.out).mono ?_); (case side1 => repeat (first | exact (Kd.C_below HR0.out (by repeat (first | exact HB.out | apply below_alloc | apply pw_below_drewN | apply below_drew1))) | (with_reducible refine Kd.C_alloc ?_ _) | (with_reducible refine Kd.C_drewN ?_ _) | (with_reducible refine Kd.C_drew ?_))); (case side2 => exact HC0.out); rintro e w10 ⟨rfl, hb⟩; replace HB := a0 (below_step (by repeat (first | exact HB.out | apply below_alloc | apply pw_below_drewN | apply below_drew1)) hb); (try clear hb); (try clear hb2); (try clear hk); (try clear hi)) | (go_at_call 76; (with_reducible refine (dactylref05_At.calls k1 _ _ l0 x5_1 false t103 _ ?side1 ?side2 A8.out).mono ?_); (case side1 => repeat (first | exact (Kd.C_below HR0.out HB.out) | (with_reducible refine Kd.C_alloc ?_ _) | (with_reducible refine Kd.C_drewN ?_ _) | (with_reducible refine Kd.C_drew ?_))); (case side2 => exact HC0.out); rintro e w11 ⟨rfl, hb⟩; replace HB := a0 (below_step (by repeat (first | exact HB.out | apply below_alloc | apply pw_below_drewN | apply below_drew1)) hb); (try clear hb); (try clear hb2); (try clear hk); (try clear hi)))
       go_roundg k1
       case measure => have := HK1.out; omega
       case rel => exact ⟨(wrap64 (x5_1 + 1)), (by first | rfl | (simp; done) | (simp [*]; done)), H', ⟨by have := HK1.out; omega⟩, ⟨by repeat (first | exact HB.out | apply below_alloc | apply pw_below_drewN | apply below_drew1)⟩⟩
      ·rw [if_neg c9] at H
       have c9b0 : (t103 == 1) = false := beq_eq_false_iff_ne.mpr c9
       have c9b1 : (t103 != 1) = true := bne_iff_ne.mpr c9
       obtain rfl := Option.some.inj H
       go_wp2_with (first | ((with_reducible refine gate_callee (f := 120) rfl ?_); refine gL (some 15) Try.func120 (by kernel_rfl) #[.slice A0 l0.length c0, .int .i64 a1] rfl rfl rfl rfl rfl ?_; (with_reducible refine (dactylref05_Place.calls _ _ l0 a1 t101 _ ?side1 ?side2 A4.out).mono ?_); (case side1 => repeat (first | exact (Kd.C_below HR0.out HB.out) | (with_reducible refine Kd.C_alloc ?_ _) | (with_reducible refine Kd.C_drewN ?_ _) | (with_reducible refine Kd.C_drew ?_))); (case side2 => exact HC0.out); rintro e w' ⟨rfl, ⟨nd, rfl⟩⟩; refine ⟨_, rfl, ?_⟩) | (go_at_call 76; (with_reducible refine (dactylref05_At.calls k1 _ _ l0 (wrap64 (x5_1 - 1)) false t102 _ ?side1 ?side2 A6.out).mono ?_); (case side1 => repeat (first | exact (Kd.C_below HR0.out (by repeat (first | exact HB.out | apply below_alloc | apply pw_below_drewN | apply below_drew1))) | (with_reducible refine Kd.C_alloc ?_ _) | (with_reducible refine Kd.C_drewN ?_ _) | (with_reducible refine Kd.C_drew ?_))); (case side2 => exact HC0.out); rintro e w12 ⟨rfl, hb⟩; replace HB := a0 (below_step (by repeat (first | exact HB.out | apply below_alloc | apply pw_below_drewN | apply below_drew1)) hb); (try clear hb); (try clear hb2); (try clear hk); (try clear hi)) | (go_at_call 76; (with_reducible refine (dactylref05_At.calls k1 _ _ l0 x5_1 false t103 _ ?side1 ?side2 A8.out).mono ?_); (case side1 => repeat (first | exact (Kd.C_below HR0.out HB.out) | (with_reducible refine Kd.C_alloc ?_ _) | (with_reducible refine Kd.C_drewN ?_ _) | (with_reducible refine Kd.C_drew ?_))); (case side2 => exact HC0.out); rintro e w13 ⟨rfl, hb⟩; replace HB := a0 (below_step (by repeat (first | exact HB.out | apply below_alloc | apply pw_below_drewN | apply below_drew1)) hb); (try clear hb); (try clear hb2); (try clear hk); (try clear hi)))
       go_ret
       exact ⟨by first | rfl | (simp [errW_none, errW_some] <;> rfl) | (simp [*, errW_none, errW_some] <;> rfl), by repeat (first | exact HB.out | apply below_alloc | apply pw_below_drewN | apply below_drew1)⟩
     ·rw [if_neg c7] at H
      have c7b0 : (t102 == 1) = false := beq_eq_false_iff_ne.mpr c7
      have c7b1 : (t102 != 1) = true := bne_iff_ne.mpr c7
      have H' := Aside0.mk H
      clear H
      go_wp2_with (first | ((with_reducible refine gate_callee (f := 120) rfl ?_); refine gL (some 15) Try.func120 (by kernel_rfl) #[.slice A0 l0.length c0, .int .i64 a1] rfl rfl rfl rfl rfl ?_; (with_reducible refine (dactylref05_Place.calls _ _ l0 a1 t101 _ ?side1 ?side2 A4.out).mono ?_); (case side1 => repeat (first | exact (Kd.C_below HR0.out HB.out) | (with_reducible refine Kd.C_alloc ?_ _) | (with_reducible refine Kd.C_drewN ?_ _) | (with_reducible refine Kd.C_drew ?_))); (case side2 => exact HC0.out); rintro e w' ⟨rfl, ⟨nd, rfl⟩⟩; refine ⟨_, rfl, ?_⟩) | (go_at_call 76; (with_reducible refine (dactylref05_At.calls k1 _ _ l0 (wrap64 (x5_1 - 1)) false t102 _ ?side1 ?side2 A6.out).mono ?_); (case side1 => repeat (first | exact (Kd.C_below HR0.out (by repeat (first | exact HB.out | apply below_alloc | apply pw_below_drewN | apply below_drew1))) | (with_reducible refine Kd.C_alloc ?_ _) | (with_reducible refine Kd.C_drewN ?_ _) | (with_reducible refine Kd.C_drew ?_))); (case side2 => exact HC0.out); rintro e w14 ⟨rfl, hb⟩; replace HB := a0 (below_step (by repeat (first | exact HB.out | apply below_alloc | apply pw_below_drewN | apply below_drew1)) hb); (try clear hb); (try clear hb2); (try clear hk); (try clear hi)))
      go_roundg k1
      case measure => have := HK1.out; omega
      case rel => exact ⟨(wrap64 (x5_1 + 1)), (by first | rfl | (simp; done) | (simp [*]; done)), H', ⟨by have := HK1.out; omega⟩, ⟨by repeat (first | exact HB.out | apply below_alloc | apply pw_below_drewN | apply below_drew1)⟩⟩
    ·rw [if_neg c5] at H
     have c5b0 : decide (t101 < x5_1) = false := decide_eq_false c5
     clear c5
     have H' := Aside0.mk H
     clear H
     go_wp2_with (first | ((with_reducible refine gate_callee (f := 120) rfl ?_); refine gL (some 15) Try.func120 (by kernel_rfl) #[.slice A0 l0.length c0, .int .i64 a1] rfl rfl rfl rfl rfl ?_; (with_reducible refine (dactylref05_Place.calls _ _ l0 a1 t101 _ ?side1 ?side2 A4.out).mono ?_); (case side1 => repeat (first | exact (Kd.C_below HR0.out HB.out) | (with_reducible refine Kd.C_alloc ?_ _) | (with_reducible refine Kd.C_drewN ?_ _) | (with_reducible refine Kd.C_drew ?_))); (case side2 => exact HC0.out); rintro e w' ⟨rfl, ⟨nd, rfl⟩⟩; refine ⟨_, rfl, ?_⟩))
     go_roundg k1
     case measure => have := HK1.out; omega
     case rel => exact ⟨(wrap64 (x5_1 + 1)), (by first | rfl | (simp; done) | (simp [*]; done)), H', ⟨by have := HK1.out; omega⟩, ⟨by repeat (first | exact HB.out | apply below_alloc | apply pw_below_drewN | apply below_drew1)⟩⟩
   ·rw [if_neg c3] at H
    have c3b0 : decide (x5_1 ≤ (l0.length : Int)) = false := decide_eq_false c3
    clear c3
    obtain rfl := Option.some.inj H
    go_wp2
    go_ret
    exact ⟨by first | rfl | (simp [errW_none, errW_some] <;> rfl) | (simp [*, errW_none, errW_some] <;> rfl), by repeat (first | exact HB.out | apply below_alloc | apply pw_below_drewN | apply below_drew1)⟩

end Go.Proofs.Ytemoocoedibbpab.X
