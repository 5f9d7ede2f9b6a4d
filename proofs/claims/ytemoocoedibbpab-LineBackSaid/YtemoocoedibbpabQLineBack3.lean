/- Written by a program of this session (wip/tools/hp.py, pack.py) and by this session: what the law LineBack reaches, function by function: a Lean function with the same answers, and the proof that the machine's call gives them. No condition but the ones the theorems state. -/
import Derived.Test.YtemoocoedibbpabQLineBack2
namespace Go.Proofs.Ytemoocoedibbpab.X
open Go.RowKit Go.Proofs.YtemoocoedibbpabW.PrintWords Go.Proofs.YtemoocoedibbpabW.PrintLast Go.Proofs.YtemoocoedibbpabW.PrintMore
attribute [local go_sem] max2_int min2_int max_two min_two max_three min_three max_four min_four
set_option linter.unusedVariables false
set_option linter.unusedSimpArgs false

/-! ### line_Replace: function 69 -/
def line_Replace.f (l0_0 : List (S47)) (a0_1 : Int) (a1 : Int) (a2 : Int) (l3 : List (S47)) : Option ((List (S47)) × Int) := (line_places.f l0_0 a0_1 a1 a2).bind fun bt103 => (if 0 ≤ bt103.1 then (if bt103.1 ≤ (l0_0.length : Int) then (if 0 ≤ bt103.2 then (if bt103.2 ≤ (l0_0.length : Int) then ((Concat_Sign.f (([(l0_0.take (bt103.1 : Int).toNat), l3, (l0_0.drop (bt103.2 : Int).toNat)] : List (List (S47))))).bind fun t118 => (some (t118, wrap64 (bt103.1 + (l3.length : Int))))) else (none)) else (none)) else (none)) else (none))
def line_Replace.T2 : Bool × List (List Nat × List Nat) := (true, [([], []), ([0], [0]), ([], []), ([1, 2], [1, 2]), ([], []), ([], []), ([5], [5]), ([], []), ([6, 7], [6, 7]), ([3, 4, 8], [3, 4, 8]), ([9], [9]), ([], []), ([], []), ([12], [12]), ([11, 13], [11, 13]), ([10, 14], [10, 14]), ([15, 10, 0, 1, 2, 3, 4, 5, 6, 7, 8, 9, 10, 11, 12, 13, 14, 15], [15])])
def line_Replace.B2 : List Nat := [0, 1, 0, 7, 0, 0, 32, 0, 224, 511, 1023, 0, 0, 4096, 14336, 32767, 65535]
theorem line_Replace.tab2 : rtab .any (opsOf Try.f69 2) = line_Replace.T2 := by kernel_rfl
theorem line_Replace.bits2 : waitsOk line_Replace.T2.2 line_Replace.B2 = true := by kernel_rfl
set_option maxHeartbeats 8000000 in
set_option maxRecDepth 100000 in
theorem line_Replace.calls (P0_0_ : Nat → Prop) (A0_0 : Option Addr) (c0_0 : Nat) (l0_0 : List (S47)) (a0_1 : Int) (a1 : Int) (a2 : Int) (P3_ : Nat → Prop) (A3 : Option Addr) (c3 : Nat) (l3 : List (S47)) (r1 : List (S47)) (r2 : Int) (w : World) (hs0_0 : Kd.V k47 47 w w.heap.size (fun k_ => P0_0_ k_) (.slice A0_0 l0_0.length c0_0) l0_0) (hs3 : Kd.V k47 47 w w.heap.size (fun k_ => P3_ k_) (.slice A3 l3.length c3) l3) (h : line_Replace.f l0_0 a0_1 a1 a2 l3 = some (r1, r2)) :
  Calls Try.prog 69 #[.agg #[.slice A0_0 l0_0.length c0_0, .int .i64 a0_1], .int .i64 a1, .int .i64 a2, .slice A3 l3.length c3] w fun e w' => ∃ v0_ : Value, e = .returned (.agg #[v0_, .int .i64 r2]) ∧ Kd.R k47 47 w' w.heap.size (fun k_ => (w.heap.size ≤ k_)) v0_ r1 ∧ Below w.heap.size w w' := by
 have hu24 := Try.underlying24
 have HO0_0 := Aside0.mk (show Kd.V k47 47 w w.heap.size (fun k_ => ((P0_0_ k_ ∨ P3_ k_) ∨ w.heap.size ≤ k_)) (.slice A0_0 l0_0.length c0_0) l0_0 from Kd.V_mono hs0_0 (fun k_ hk => .inl (.inl hk)))
 have HO3 := Aside0.mk (show Kd.V k47 47 w w.heap.size (fun k_ => ((P0_0_ k_ ∨ P3_ k_) ∨ w.heap.size ≤ k_)) (.slice A3 l3.length c3) l3 from Kd.V_mono hs3 (fun k_ hk => .inl (.inr hk)))
 have HB := Aside0.mk (Below.refl w.heap.size w)
 have H : ((line_places.f l0_0 a0_1 a1 a2).bind fun bt103 => (if 0 ≤ bt103.1 then (if bt103.1 ≤ (l0_0.length : Int) then (if 0 ≤ bt103.2 then (if bt103.2 ≤ (l0_0.length : Int) then ((Concat_Sign.f (([(l0_0.take (bt103.1 : Int).toNat), l3, (l0_0.drop (bt103.2 : Int).toNat)] : List (List (S47))))).bind fun t118 => (some (t118, wrap64 (bt103.1 + (l3.length : Int))))) else (none)) else (none)) else (none)) else (none))) = some (r1, r2) := h
 clear h
 replace H := Option.bind_eq_some_iff.mp H
 obtain ⟨⟨t103, t104⟩, A50, H⟩ := H
 try dsimp only at H
 have A5 := Aside0.mk A50
 clear A50
 by_cases c6 : 0 ≤ t103
 ·rw [if_pos c6] at H
  have c6b0 := eq_true c6
  have c6b1 : decide (0 ≤ t103) = true := decide_eq_true c6
  clear c6
  by_cases c7 : t103 ≤ (l0_0.length : Int)
  ·rw [if_pos c7] at H
   have c7b0 := eq_true c7
   have c7b1 : decide (t103 ≤ (l0_0.length : Int)) = true := decide_eq_true c7
   clear c7
   obtain ⟨y105, hy105⟩ : ∃ y_ : List (S47), y_ = (l0_0.take (t103 : Int).toNat) := ⟨_, rfl⟩
   replace H : (if 0 ≤ t104 then (if t104 ≤ (l0_0.length : Int) then ((Concat_Sign.f (([y105, l3, (l0_0.drop (t104 : Int).toNat)] : List (List (S47))))).bind fun t118 => (some (t118, wrap64 (t103 + (l3.length : Int))))) else (none)) else (none)) = some (r1, r2) := by first | (rw [hy105]; with_reducible exact H) | (have H2_ := (Option.bind_some _ _).symm.trans H; rw [hy105]; with_reducible exact H2_) | (have H2_ := (Option.bind_some _ _).symm.trans H; with_reducible exact H2_) | with_reducible exact H | (rw [hy105]; exact H) | exact H
   have Ny105 := Aside0.mk hy105
   clear hy105
   by_cases c8 : 0 ≤ t104
   ·rw [if_pos c8] at H
    have c8b0 := eq_true c8
    have c8b1 : decide (0 ≤ t104) = true := decide_eq_true c8
    clear c8
    by_cases c9 : t104 ≤ (l0_0.length : Int)
    ·rw [if_pos c9] at H
     have c9b0 := eq_true c9
     have c9b1 : decide (t104 ≤ (l0_0.length : Int)) = true := decide_eq_true c9
     clear c9
     obtain ⟨y110, hy110⟩ : ∃ y_ : List (S47), y_ = (l0_0.drop (t104 : Int).toNat) := ⟨_, rfl⟩
     replace H : ((Concat_Sign.f (([y105, l3, y110] : List (List (S47))))).bind fun t118 => (some (t118, wrap64 (t103 + (l3.length : Int))))) = some (r1, r2) := by first | (rw [hy110]; with_reducible exact H) | (have H2_ := (Option.bind_some _ _).symm.trans H; rw [hy110]; with_reducible exact H2_) | (have H2_ := (Option.bind_some _ _).symm.trans H; with_reducible exact H2_) | with_reducible exact H | (rw [hy110]; exact H) | exact H
     have Ny110 := Aside0.mk hy110
     clear hy110
     obtain ⟨y115, hy115⟩ : ∃ y_ : List (List (S47)), y_ = (([y105, l3, y110] : List (List (S47)))) := ⟨_, rfl⟩
     replace H : ((Concat_Sign.f y115).bind fun t118 => (some (t118, wrap64 (t103 + (l3.length : Int))))) = some (r1, r2) := by first | (rw [hy115]; with_reducible exact H) | (have H2_ := (Option.bind_some _ _).symm.trans H; rw [hy115]; with_reducible exact H2_) | (have H2_ := (Option.bind_some _ _).symm.trans H; with_reducible exact H2_) | with_reducible exact H | (rw [hy115]; exact H) | exact H
     have Ny115 := Aside0.mk hy115
     clear hy115
     replace H := Option.bind_eq_some_iff.mp H
     obtain ⟨t118, A100, H⟩ := H
     try dsimp only at H
     have A10 := Aside0.mk A100
     clear A100
     simp only [Option.some.injEq, Prod.mk.injEq] at H
     obtain ⟨rfl, rfl⟩ := H
     go_enter Try.func69, Try.ntmps69
     try go_wp2_with (first | ((with_reducible refine gate_dst (N := 4) rfl ?_); refine box_event ?hg (N := 4) ?hd (cs := #[.slice A0_0 l0_0.length c0_0, .int .i64 a0_1]) (t := 24) ?hr ?_; (case hd => rfl); (case hg => rfl); (case hr => first | (go_simp; done) | (go_simp; rfl)); intro gb101 hg w11 hbox hb; replace HO0_0 := a0 (Kd.V_below (Kd.V_elderB HO0_0.out gb101 (Nat.le_of_eq hg.symm)) hb); replace HO3 := a0 (Kd.V_below (Kd.V_elderB HO3.out gb101 (Nat.le_of_eq hg.symm)) hb); have BK101 := a0 (hbox); have GW101 := a0 ((by rw [hg]; exact (below_size HB.out) : w.heap.size ≤ gb101)); have GE101 := a0 ((by rw [hg]; exact (below_size HB.out) : w.heap.size ≤ gb101)); replace HB := a0 (below_step HB.out hb); clear hb hbox hg) | ((with_reducible refine gate_dst (N := 8) rfl ?_); refine box_event ?hg (N := 8) ?hd (cs := #[.slice none 0 0, .int .i64 0]) (t := 24) ?hr ?_; (case hd => rfl); (case hg => rfl); (case hr => first | (go_simp; done) | (go_simp; rfl)); intro gb102 hg w12 hbox hb; replace HO0_0 := a0 (Kd.V_below (Kd.V_elderB HO0_0.out gb102 (Nat.le_of_eq hg.symm)) hb); replace HO3 := a0 (Kd.V_below (Kd.V_elderB HO3.out gb102 (Nat.le_of_eq hg.symm)) hb); have BK102 := a0 (hbox); have GW102 := a0 ((by rw [hg]; exact (below_size HB.out) : w.heap.size ≤ gb102)); have GE102 := a0 ((by rw [hg]; exact (below_size HB.out) : w.heap.size ≤ gb102)); replace HB := a0 (below_step HB.out hb); have NB101_102 := a0 ((by rw [hg]; exact Nat.ne_of_lt (blk_lt BK101.out) : gb101 ≠ gb102)); have NB102_101 := a0 ((by rw [hg]; exact Nat.ne_of_gt (blk_lt BK101.out) : gb102 ≠ gb101)); replace BK101 := a0 (bB hb BK101.out); clear hb hbox hg; have hnb13 := NB101_102.out; have hnc13 := NB102_101.out; obtain ⟨hcz14_0, hcz14_1, hfz14_0, hfz14_1⟩ := c2 BK101.out) | ((with_reducible refine gate_callee (f := 77) rfl ?_); refine gL (some 15) Try.func77 (by kernel_rfl) #[.agg #[.slice A0_0 l0_0.length c0_0, .int .i64 a0_1], .int .i64 a1, .int .i64 a2] rfl rfl rfl rfl rfl ?_; (with_reducible refine (line_places.calls _ _ l0_0 a0_1 a1 a2 t103 t104 _ ?side1 ?side2 A5.out).mono ?_); (case side1 => repeat (first | exact (Kd.V_reads' HO0_0.out).2.2 | (with_reducible refine Kd.C_alloc ?_ _) | (with_reducible refine Kd.C_drewN ?_ _) | (with_reducible refine Kd.C_drew ?_))); (case side2 => exact (Kd.V_reads' HO0_0.out).2.1); rintro e w15 ⟨rfl, hb⟩; refine ⟨_, rfl, ?_⟩; replace HO0_0 := a0 (Kd.V_below HO0_0.out hb); replace HO3 := a0 (Kd.V_below HO3.out hb); replace BK101 := a0 (bB hb BK101.out); replace BK102 := a0 (bB hb BK102.out); replace HB := a0 (below_step HB.out hb); (try clear hb); (try clear hb2); (try clear hk); (try clear hi)))
     replace HO0_0 := a0 (Kd.V_drew HO0_0.out)
     replace HO3 := a0 (Kd.V_drew HO3.out)
     replace BK101 := a0 (blk_drew BK101.out)
     replace BK102 := a0 (blk_drew BK102.out)
     replace HB := a0 (below_drew1 HB.out)
     have q17 : (t103 : Int) ≤ ((l0_0.length : Int) : Int) := of_decide_eq_true (by first | (with_reducible assumption) | assumption)
     obtain ⟨i017, hi017, _, hsz17, _⟩ := info_parts info47
     have hroom17 : l0_0.length ≤ c0_0 := (Kd.V_reads' HO0_0.out).2.1
     have hC17 : Kd.F k47 _ _ A0_0 l0_0.length l0_0 := (Kd.V_at (base := w.heap.size) HO0_0.out).2.2
     have hcut17 := cut_to (P := Try.prog) 22 47 .i64 Try.underlying22 hi017 A0_0 l0_0.length c0_0 t103 (of_decide_eq_true (by first | (with_reducible assumption) | assumption)) q17 hroom17
     have hr17 := Kd.F_take (m := (t103 : Int).toNat) hC17 (by omega)
     have hy17 : y105.length = (t103 : Int).toNat := (by rw [Ny105.out, List.length_take]; omega)
     rw [← Ny105.out] at hr17
     rw [← hy17] at hcut17
     have HO109 := Aside0.mk (show Kd.V k47 47 _ w.heap.size _ (.slice A0_0 y105.length c0_0) y105 from Kd.V_mk (by omega) hr17)
     have HC109 := Aside0.mk (show y105.length ≤ c0_0 from by omega)
     clear hr17 hC17 hroom17 hi017 hsz17
     have KY17 := Aside0.mk hy17
     clear hy17
     replace q17 := eq_true q17
     have q18 : (t104 : Int) ≤ ((l0_0.length : Int) : Int) := of_decide_eq_true (by first | (with_reducible assumption) | assumption)
     obtain ⟨i018, hi018, _, hsz18, _⟩ := info_parts info47
     have hroom18 : l0_0.length ≤ c0_0 := (Kd.V_reads' HO0_0.out).2.1
     have hC18 : Kd.F k47 _ _ A0_0 l0_0.length l0_0 := (Kd.V_at (base := w.heap.size) HO0_0.out).2.2
     have q018 : (0 : Int) ≤ (t104 : Int) := of_decide_eq_true (by first | (with_reducible assumption) | assumption)
     have hcut18 := cut_from (P := Try.prog) 22 47 .i64 Try.underlying22 hi018 2 hsz18 A0_0 l0_0.length c0_0 t104 q018 q18
     have hr18 := Kd.F_cut (m := (t104 : Int).toNat) (c := c0_0) hC18 (by omega) hroom18
     obtain ⟨A18, hA18⟩ : ∃ A1, A1 = (if c0_0 = (t104 : Int).toNat then A0_0 else (A0_0 : Option Addr).map (·.add ((t104 : Int).toNat * 2))) := ⟨_, rfl⟩
     obtain ⟨c18, hc18⟩ : ∃ c1, c1 = c0_0 - (t104 : Int).toNat := ⟨_, rfl⟩
     have hy18 : y110.length = l0_0.length - (t104 : Int).toNat := (by rw [Ny110.out, List.length_drop] <;> omega)
     rw [show (l0_0).drop (t104 : Int).toNat = y110 from Ny110.out.symm] at hr18
     replace hr18 : Kd.F k47 _ _ A18 y110.length y110 := (by rw [hA18]; exact hr18)
     rw [← hy18, ← hA18, ← hc18] at hcut18
     have HO114 := Aside0.mk (show Kd.V k47 47 _ w.heap.size _ (.slice A18 y110.length c18) y110 from Kd.V_mk (by rw [hy18, hc18]; exact Nat.sub_le_sub_right hroom18 _) hr18)
     have HC114 := Aside0.mk (show y110.length ≤ c18 from by rw [hy18, hc18]; exact Nat.sub_le_sub_right hroom18 _)
     clear hr18 hC18 hroom18 hi018 hsz18 hc18
     have KY18 := Aside0.mk hy18
     have KA18 := Aside0.mk hA18
     clear hy18 hA18
     replace q18 := eq_true q18
     refine start_ (n := 17) (S := fun w' => w'.cell? ⟨gb101, 0, none⟩ = some (.slice A0_0 l0_0.length c0_0) ∧ w'.cell? ⟨gb101, 1, none⟩ = some (.int .i64 a0_1)) (ds := []) (ba 17 0) (by kernel_rfl) rfl rfl ⟨(blk_cell BK101.out 0).trans rfl, (blk_cell BK101.out 1).trans rfl⟩ (fun hHeld => ?_); refine with_tabW line_Replace.tab2 line_Replace.bits2 (fun HT_ HW_ => ?_)
     generalize w15.drew = w16 at HO0_0 HO3 BK101 BK102 HB HO109 HO114 hHeld ⊢
     refine pS 0 18 (v := ?_) (a' := ?_) (ba 17 1) HT_ (by kernel_rfl) rfl rfl (fun _ _ _ h => h) (by rfl) ?_ ?_ ?_; rotate_left 2; (intro w'; go_simp; with_reducible rfl); (simp only [Act.put, List.setIfInBounds_toArray, List.set_cons_zero, List.set_cons_succ, i64_w, i32_w]; rfl)
     refine pS 2 20 (v := ?_) (a' := ?_) (ba 17 5) HT_ (by kernel_rfl) rfl rfl (fun _ _ _ h => h) (by rfl) ?_ ?_ ?_; rotate_left 2; (intro w'; go_simp; with_reducible rfl); (simp only [Act.put, List.setIfInBounds_toArray, List.set_cons_zero, List.set_cons_succ, i64_w, i32_w]; rfl)
     refine pS 4 22 (v := ?_) (a' := ?_) (ba 17 21) HT_ (by kernel_rfl) rfl rfl (fun _ _ _ h => h) (by rfl) ?_ ?_ ?_; rotate_left 2; (intro w'; go_simp; with_reducible rfl); (simp only [Act.put, List.setIfInBounds_toArray, List.set_cons_zero, List.set_cons_succ, i64_w, i32_w]; rfl)
     refine pS 5 23 (v := ?_) (a' := ?_) (ba 17 53) HT_ (by kernel_rfl) rfl rfl (fun _ _ _ h => h) (by rfl) ?_ ?_ ?_; rotate_left 2; (intro w'; go_simp; with_reducible rfl); (simp only [Act.put, List.setIfInBounds_toArray, List.set_cons_zero, List.set_cons_succ, i64_w, i32_w]; rfl)
     refine pS 7 25 (v := ?_) (a' := ?_) (ba 17 181) HT_ (by kernel_rfl) rfl rfl (fun _ _ _ h => h) (by rfl) ?_ ?_ ?_; rotate_left 2; (intro w'; go_simp; with_reducible rfl); (simp only [Act.put, List.setIfInBounds_toArray, List.set_cons_zero, List.set_cons_succ, i64_w, i32_w]; rfl)
     refine pS 11 29 (v := ?_) (a' := ?_) (ba 17 2229) HT_ (by kernel_rfl) rfl rfl (fun _ _ _ h => h) (by rfl) ?_ ?_ ?_; rotate_left 2; (intro w'; go_simp; with_reducible rfl); (simp only [Act.put, List.setIfInBounds_toArray, List.set_cons_zero, List.set_cons_succ, i64_w, i32_w]; rfl)
     refine pS 12 30 (v := ?_) (a' := ?_) (ba 17 6325) HT_ (by kernel_rfl) rfl rfl (fun _ _ _ h => h) (by rfl) ?_ ?_ ?_; rotate_left 2; (intro w'; go_simp; with_reducible rfl); (simp only [Act.put, List.setIfInBounds_toArray, List.set_cons_zero, List.set_cons_succ, i64_w, i32_w]; rfl)
     refine pS 13 31 (v := ?_) (a' := ?_) (ba 17 14517) HT_ (by kernel_rfl) rfl rfl (fun _ _ _ h => h) (by rfl) ?_ ?_ ?_; rotate_left 2; (intro w'; go_simp; with_reducible rfl); (simp only [Act.put, List.setIfInBounds_toArray, List.set_cons_zero, List.set_cons_succ, i64_w, i32_w]; rfl)
     refine pS 14 32 (v := ?_) (a' := ?_) (ba 17 30901) HT_ (by kernel_rfl) rfl rfl (fun _ _ _ h => h) (by rfl) ?_ ?_ ?_; rotate_left 2; (intro w'; go_simp; with_reducible rfl); (simp only [Act.put, List.setIfInBounds_toArray, List.set_cons_zero, List.set_cons_succ, i64_w, i32_w]; rfl)
     refine take_ (i := 1) (N := some 19) (v := ?_) (a' := ?_) (ba 17 30903) rfl rfl (take_ofW HT_.out HW_.out (by kernel_rfl)) (fun _ _ _ h => h) (Or.inl ⟨by rfl, ?_⟩) hHeld ?_ ?_; rotate_left; (rintro w' ⟨s0, s1⟩; go_simp; with_reducible rfl); rotate_left; (simp only [Act.put, List.setIfInBounds_toArray, List.set_cons_zero, List.set_cons_succ, i64_w, i32_w]; rfl)
     refine pS 3 21 (v := ?_) (a' := ?_) (ba 17 30911) HT_ (by kernel_rfl) rfl rfl (fun _ _ _ h => h) (by rfl) ?_ ?_ ?_; rotate_left 2; (intro w'; go_simp; with_reducible rfl); (simp only [Act.put, List.setIfInBounds_toArray, List.set_cons_zero, List.set_cons_succ, i64_w, i32_w]; rfl)
     refine take_ (i := 6) (N := some 24) (v := ?_) (a' := ?_) (ba 17 30975) rfl rfl (take_ofW HT_.out HW_.out (by kernel_rfl)) (fun _ _ _ h => h) (Or.inl ⟨by rfl, ?_⟩) hHeld ?_ ?_; rotate_left; (rintro w' ⟨s0, s1⟩; go_simp; with_reducible rfl); rotate_left; (simp only [Act.put, List.setIfInBounds_toArray, List.set_cons_zero, List.set_cons_succ, i64_w, i32_w]; rfl)
     refine pS 8 26 (v := ?_) (a' := ?_) (ba 17 31231) HT_ (by kernel_rfl) rfl rfl (fun _ _ _ h => h) (by rfl) ?_ ?_ ?_; rotate_left 2; (intro w'; go_simp; with_reducible rfl); (simp only [Act.put, List.setIfInBounds_toArray, List.set_cons_zero, List.set_cons_succ, i64_w, i32_w]; rfl)
     refine one_ (i := 9) (N := some 27) (ba 17 31743) rfl rfl (one_of HT_.out (by kernel_rfl)) (by decide) (fun K hK => ?_)
     refine Kd.N_lit_step (Kd.slice 47 k47) _ 22 ?hg (N' := 27) ?hd (xs := ([y105, l3, y110] : List (List (S47)))) (inner := [.slice A0_0 y105.length c0_0, .slice A3 l3.length c3, .slice A18 y110.length c18]) (ok := (fun k_ => ((P0_0_ k_ ∨ P3_ k_) ∨ w.heap.size ≤ k_) ∧ k_ ≠ gb101 ∧ k_ ≠ gb102)) (okp := (fun k_ => ((P0_0_ k_ ∨ P3_ k_) ∨ w.heap.size ≤ k_) ∧ k_ ≠ gb101 ∧ k_ ≠ gb102)) ?hr ?hp (fun _ hk => hk) ((show ∀ k_, w16.heap.size ≤ k_ → (fun k_ => ((P0_0_ k_ ∨ P3_ k_) ∨ w.heap.size ≤ k_) ∧ k_ ≠ gb101 ∧ k_ ≠ gb102) k_ from fun k_ hk => ⟨(.inr (Nat.le_trans (below_size HB.out) hk)), Kd.freshB (g := gb101) (o := .cells #[.slice A0_0 l0_0.length c0_0, .int .i64 a0_1] 24 (0, 0)) BK101.out k_ hk, Kd.freshB (g := gb102) (o := .cells #[.slice none 0 0, .int .i64 0] 24 (0, 0)) BK102.out k_ hk⟩) _ (Nat.le_refl _)) (Below.refl _ _) (Nat.le_refl _) (by simp) ?_; (case hd => rfl); (case hg => rfl); (case hr => first | (go_simp; done) | (go_simp; rfl)); (case hp => exact (Reps.one (show Kd.FK (Kd.slice 47 k47) _ _ y105 [.slice A0_0 y105.length c0_0] from (Kd.FK_slice_mk (Kd.V_reads' (Kd.V_mono (ok' := (fun k_ => ((P0_0_ k_ ∨ P3_ k_) ∨ w.heap.size ≤ k_) ∧ k_ ≠ gb101 ∧ k_ ≠ gb102)) (HO109.out) (fun k_ hk => ⟨hk.1.1, ⟨hk.1.2, hk.2⟩⟩))).2.1 (Kd.V_F (Kd.V_mono (ok' := (fun k_ => ((P0_0_ k_ ∨ P3_ k_) ∨ w.heap.size ≤ k_) ∧ k_ ≠ gb101 ∧ k_ ≠ gb102)) (HO109.out) (fun k_ hk => ⟨hk.1.1, ⟨hk.1.2, hk.2⟩⟩))))) (Reps.one (show Kd.FK (Kd.slice 47 k47) _ _ l3 [.slice A3 l3.length c3] from (Kd.FK_slice_mk (Kd.V_reads' (Kd.V_mono (ok' := (fun k_ => ((P0_0_ k_ ∨ P3_ k_) ∨ w.heap.size ≤ k_) ∧ k_ ≠ gb101 ∧ k_ ≠ gb102)) (HO3.out) (fun k_ hk => ⟨hk.1.1, ⟨hk.1.2, hk.2⟩⟩))).2.1 (Kd.V_F (Kd.V_mono (ok' := (fun k_ => ((P0_0_ k_ ∨ P3_ k_) ∨ w.heap.size ≤ k_) ∧ k_ ≠ gb101 ∧ k_ ≠ gb102)) (HO3.out) (fun k_ hk => ⟨hk.1.1, ⟨hk.1.2, hk.2⟩⟩))))) (Reps.one (show Kd.FK (Kd.slice 47 k47) _ _ y110 [.slice A18 y110.length c18] from (Kd.FK_slice_mk (Kd.V_reads' (Kd.V_mono (ok' := (fun k_ => ((P0_0_ k_ ∨ P3_ k_) ∨ w.heap.size ≤ k_) ∧ k_ ≠ gb101 ∧ k_ ≠ gb102)) (HO114.out) (fun k_ hk => ⟨hk.1.1, ⟨hk.1.2, hk.2⟩⟩))).2.1 (Kd.V_F (Kd.V_mono (ok' := (fun k_ => ((P0_0_ k_ ∨ P3_ k_) ∨ w.heap.size ≤ k_) ∧ k_ ≠ gb101 ∧ k_ ≠ gb102)) (HO114.out) (fun k_ hk => ⟨hk.1.1, ⟨hk.1.2, hk.2⟩⟩))))) (Reps.none _ _)))))
     intro v116 w19 ho20 hb hg_ hnew_
     clear hg_ hnew_
     (first | rw [← Ny115.out] at ho20 | (simp only [Int.reduceToNat] at ho20; rw [← Ny115.out] at ho20))
     replace HO0_0 := a0 (Kd.V_elder' HO0_0.out (Kd.N_base ho20) hb)
     replace HO3 := a0 (Kd.V_elder' HO3.out (Kd.N_base ho20) hb)
     replace HO109 := a0 (Kd.V_elder' HO109.out (Kd.N_base ho20) hb)
     replace HO114 := a0 (Kd.V_elder' HO114.out (Kd.N_base ho20) hb)
     have HO117 := a0 (Kd.N_lower ho20 (below_size HB.out))
     replace BK101 := a0 (bB hb BK101.out)
     replace BK102 := a0 (bB hb BK102.out)
     replace HB := a0 (below_step HB.out hb)
     clear hb ho20
     obtain ⟨Ao21, co21, eo21⟩ := Kd.N_slice HO117.out
     (first | subst eo21 | (injection eo21 with f1_ f2_ f3_; have f4_ := f1_.symm; have f5_ := f3_.symm; clear f1_ f2_ f3_; subst f4_; subst f5_))
     refine hK.out _ _ ⟨(blk_cell BK101.out 0).trans rfl, (blk_cell BK101.out 1).trans rfl⟩ (fun hHeld => ?_)
     clear hK K
     refine norm_ (a' := ?_) ?_ ?_; rotate_left; (show Act.put _ (some 27) _ = _; simp only [Act.put, List.setIfInBounds_toArray, List.set_cons_zero, List.set_cons_succ, i64_w, i32_w]; rfl)
     refine one_ (i := 10) (N := some 28) (ba 17 32767) rfl rfl (one_of HT_.out (by kernel_rfl)) (by decide) (fun K hK => ?_)
     refine gR Try.func73 (by kernel_rfl) #[.slice Ao21 y115.length co21] (by rfl) rfl rfl rfl rfl ?_
     with_reducible refine (Concat_Sign.calls _ _ y115 t118 _ ?side1 ?side2 A10.out).mono ?_
     (case side1 => repeat (first | exact (Kd.N_reads' HO117.out).2.2 | (with_reducible refine Kd.C_alloc ?_ _) | (with_reducible refine Kd.C_drewN ?_ _) | (with_reducible refine Kd.C_drew ?_)))
     (case side2 => exact (Kd.N_reads' HO117.out).2.1)
     rintro e w22 ⟨v119, rfl, ho0, hb⟩
     refine ⟨_, rfl, ?_⟩
     replace HO0_0 := a0 (Kd.V_elder' HO0_0.out (Kd.R_base ho0) hb)
     replace HO3 := a0 (Kd.V_elder' HO3.out (Kd.R_base ho0) hb)
     replace HO109 := a0 (Kd.V_elder' HO109.out (Kd.R_base ho0) hb)
     replace HO114 := a0 (Kd.V_elder' HO114.out (Kd.R_base ho0) hb)
     replace HO117 := a0 (Kd.N_elder' HO117.out (Kd.R_base ho0) hb)
     have HO120 := a0 (Kd.R_lower (Kd.R_newM (M := fun k_ => (w.heap.size ≤ k_)) ho0 (below_size HB.out) (fun k_ h_ => h_)) (below_size HB.out))
     replace BK101 := a0 (bB hb BK101.out)
     replace BK102 := a0 (bB hb BK102.out)
     replace HB := a0 (below_step HB.out hb)
     (try clear hb)
     (try clear hb2)
     (try clear hk)
     (try clear hi)
     (try clear ho0)
     obtain ⟨Ao23, co23, eo23⟩ := Kd.R_slice HO120.out
     (first | subst eo23 | (injection eo23 with f1_ f2_ f3_; have f4_ := f1_.symm; have f5_ := f3_.symm; clear f1_ f2_ f3_; subst f4_; subst f5_))
     refine hK.out _ _ ⟨(blk_cell BK101.out 0).trans rfl, (blk_cell BK101.out 1).trans rfl⟩ (fun hHeld => ?_)
     clear hK K
     refine norm_ (a' := ?_) ?_ ?_; rotate_left; (show Act.put _ (some 28) _ = _; simp only [Act.put, List.setIfInBounds_toArray, List.set_cons_zero, List.set_cons_succ, i64_w, i32_w]; rfl)
     refine pS 15 33 (v := ?_) (a' := ?_) (ba 17 65535) HT_ (by kernel_rfl) rfl rfl (fun _ _ _ h => h) (by rfl) ?_ ?_ ?_; rotate_left 2; (intro w'; go_simp; with_reducible rfl); (simp only [Act.put, List.setIfInBounds_toArray, List.set_cons_zero, List.set_cons_succ, i64_w, i32_w]; rfl)
     refine one_ (i := 16) (N := none) (ba 17 131071) rfl rfl (one_of HT_.out (by kernel_rfl)) (by decide) (fun K hK => ?_)
     have hs24 : w22.cell? ⟨gb102, 0, none⟩ = some (.slice none 0 0) := (blk_cell BK102.out 0).trans rfl
     have hfs24 := blk_frozen BK102.out 0
     have hns24_0 := NB101_102.out
     have hms24_0 := NB102_101.out
     have hs25 : w22.cell? ⟨gb102, 1, none⟩ = some (.int .i64 0) := (blk_cell BK102.out 1).trans rfl
     have hfs25 := blk_frozen BK102.out 1
     have hns25_0 := NB101_102.out
     have hms25_0 := NB102_101.out
     refine skip_ (w1 := ?_) (by rfl) rfl ?_ ?_
     rotate_left
     ·go_simp
      rfl
     refine hK.out _ _ ⟨((cell_far (p := ⟨gb102, _, none⟩) NB101_102.out _).trans (((cell_far (p := ⟨gb102, _, none⟩) NB101_102.out _).trans (hHeld.1)))), ((cell_far (p := ⟨gb102, _, none⟩) NB101_102.out _).trans (((cell_far (p := ⟨gb102, _, none⟩) NB101_102.out _).trans (hHeld.2))))⟩ (fun hHeld => ?_)
     clear hK K
     refine done_ (done_of HT_.out (by kernel_rfl)) ?_
     try go_wp2
     refine bodyPost_ret (results_cell_row rfl _ _ gb102 24 #[.slice Ao23 t118.length co23, .int .i64 (wrap64 (t103 + (l3.length : Int)))] (0, 0) _ rfl (by refine blk_put (cs := #[.slice Ao23 t118.length co23, .int .i64 0]) ?_ 1 _ rfl; refine blk_put (cs := #[.slice none 0 0, .int .i64 0]) ?_ 0 _ rfl; exact BK102.out) Try.underlying24 rfl (by kernel_rfl)) rfl ?_
     exact ⟨_, by first | rfl | (simp [errW_none, errW_some] <;> rfl) | (simp [*, errW_none, errW_some] <;> rfl), by exact Kd.R_mono (Kd.R_far (p := ⟨gb102, 1, none⟩) (Kd.R_far (p := ⟨gb102, 0, none⟩) (Kd.R_types HO120.out BK102.out (by decide)) (fun _ hk => hk.2) (.slice Ao23 t118.length co23)) (fun _ hk => hk.2) (.int .i64 (wrap64 (t103 + (l3.length : Int))))) (fun _ hk => hk.1.1), by repeat (first | (with_reducible first | exact HB.out | apply below_alloc | apply pw_below_drewN | apply below_drew1 | refine below_set ?_ GE101.out | refine below_set ?_ GE102.out) | exact HB.out)⟩
    ·rw [if_neg c9] at H
     exact absurd H (by simp)
   ·rw [if_neg c8] at H
    exact absurd H (by simp)
  ·rw [if_neg c7] at H
   exact absurd H (by simp)
 ·rw [if_neg c6] at H
  exact absurd H (by simp)

end Go.Proofs.Ytemoocoedibbpab.X

namespace Go.Proofs.Ytemoocoedibbpab.X
open Go.RowKit Go.Proofs.YtemoocoedibbpabW.PrintWords Go.Proofs.YtemoocoedibbpabW.PrintLast Go.Proofs.YtemoocoedibbpabW.PrintMore
attribute [local go_sem] max2_int min2_int max_two min_two max_three min_three max_four min_four
set_option linter.unusedVariables false
set_option linter.unusedSimpArgs false

/-! ### dactyllaw17_awake0: function 29 -/
def dactyllaw17_awake0.f (k : Nat)  : Option (Bool) := (sign_Of.f k 0 (⟨#[97, 98, 32, 99, 100]⟩ : ByteArray)).bind fun t101 => ((line_SwapWords.f k t101 2).bind fun bt105 => ((sign_Of.f k 0 (⟨#[97, 98]⟩ : ByteArray)).bind fun t111 => ((line_Swap.f t111 0).bind fun bt114 => ((line_Cut.f k t101 2 1 3).bind fun bt120 => ((line_Case.f t101 2 5 2).bind fun bt128 => (if bt105.2.2 = true then ((sign_Text.f k bt105.1).bind fun t133 => (if t133.toList = ([99, 100, 32, 97, 98] : List UInt8) then (if bt105.2.1 = 5 then (if bt114.2.2 = true then (some false) else (if (bt114.1.length : Int) = 2 then ((sign_Text.f k bt120.1).bind fun t134 => (if t134.toList = ([97, 99, 100] : List UInt8) then (if bt120.2.1 = 1 then ((sign_Text.f k bt120.2.2).bind fun t135 => (if t135.toList = ([98, 32] : List UInt8) then ((sign_Text.f k bt128.1).bind fun t136 => (if t136.toList = ([97, 98, 32, 67, 100] : List UInt8) then (if bt128.2 = 5 then ((line_Right.f t101 2).bind fun t137 => (if t137 = true then ((line_Same.f k t101 2 t101 2).bind fun t138 => (if t138 = true then ((line_Insert.f t101 2 bt120.2.2).bind fun bt139 => ((sign_Text.f k bt139.1).bind fun t143 => (if t143.toList = ([97, 98, 98, 32, 32, 99, 100] : List UInt8) then ((line_Replace.f t101 2 0 2 bt120.2.2).bind fun bt144 => ((sign_Text.f k bt144.1).bind fun t148 => (some (t148.toList == ([98, 32, 32, 99, 100] : List UInt8))))) else (some false)))) else (some false))) else (some false))) else (some false)) else (some false))) else (some false))) else (some false)) else (some false))) else (some false))) else (some false)) else (some false))) else (some false)))))))
theorem dactyllaw17_awake0.mono : ∀ k, LeO (dactyllaw17_awake0.f k ) (dactyllaw17_awake0.f (k + 1) ) := by
 intro  k
 unfold dactyllaw17_awake0.f
 repeat' first
   | (with_reducible exact line_Cut.mono _ _ _ _ _)
   | (with_reducible exact line_Same.mono _ _ _ _ _)
   | (with_reducible exact line_SwapWords.mono _ _ _)
   | (with_reducible exact sign_Of.mono _ _ _)
   | (with_reducible exact sign_Text.mono _ _)
   | (with_reducible exact LeO.refl _)
   | (with_reducible exact LeO.none _)
   | (with_reducible refine LeO.ite ?_ ?_)
   | (with_reducible refine LeO.bind ?_ (fun _ => ?_))
   | exact line_Cut.mono _ _ _ _ _
   | exact line_Same.mono _ _ _ _ _
   | exact line_SwapWords.mono _ _ _
   | exact sign_Of.mono _ _ _
   | exact sign_Text.mono _ _
   | exact LeO.none _
   | refine LeO.ite ?_ ?_
   | refine LeO.bind ?_ (fun _ => ?_)
set_option maxHeartbeats 8000000 in
set_option maxRecDepth 100000 in
theorem dactyllaw17_awake0.calls (k : Nat)  (r : Bool) (w : World) (hr_ : r = true) (h : dactyllaw17_awake0.f k  = some r) :
  Calls Try.prog 29 #[] w fun e w' => e = .returned (.bool r) ∧ Below w.heap.size w w' := by
 have HR_ := Aside0.mk hr_
 clear hr_
 have hfd24_0 : ∀ (A0 : Option Addr) (n0 c0 : Nat) (x1 : Int) (w : World), (Instr.field 24 (.agg #[.slice A0 n0 c0, .int .i64 x1]) 0).run Try.prog w = .ok (.slice A0 n0 c0) w := by intros; kernel_rfl
 have hu24 := Try.underlying24
 have HB := Aside0.mk (Below.refl w.heap.size w)
 have H : ((sign_Of.f k 0 (⟨#[97, 98, 32, 99, 100]⟩ : ByteArray)).bind fun t101 => ((line_SwapWords.f k t101 2).bind fun bt105 => ((sign_Of.f k 0 (⟨#[97, 98]⟩ : ByteArray)).bind fun t111 => ((line_Swap.f t111 0).bind fun bt114 => ((line_Cut.f k t101 2 1 3).bind fun bt120 => ((line_Case.f t101 2 5 2).bind fun bt128 => (if bt105.2.2 = true then ((sign_Text.f k bt105.1).bind fun t133 => (if t133.toList = ([99, 100, 32, 97, 98] : List UInt8) then (if bt105.2.1 = 5 then (if bt114.2.2 = true then (some false) else (if (bt114.1.length : Int) = 2 then ((sign_Text.f k bt120.1).bind fun t134 => (if t134.toList = ([97, 99, 100] : List UInt8) then (if bt120.2.1 = 1 then ((sign_Text.f k bt120.2.2).bind fun t135 => (if t135.toList = ([98, 32] : List UInt8) then ((sign_Text.f k bt128.1).bind fun t136 => (if t136.toList = ([97, 98, 32, 67, 100] : List UInt8) then (if bt128.2 = 5 then ((line_Right.f t101 2).bind fun t137 => (if t137 = true then ((line_Same.f k t101 2 t101 2).bind fun t138 => (if t138 = true then ((line_Insert.f t101 2 bt120.2.2).bind fun bt139 => ((sign_Text.f k bt139.1).bind fun t143 => (if t143.toList = ([97, 98, 98, 32, 32, 99, 100] : List UInt8) then ((line_Replace.f t101 2 0 2 bt120.2.2).bind fun bt144 => ((sign_Text.f k bt144.1).bind fun t148 => (some (t148.toList == ([98, 32, 32, 99, 100] : List UInt8))))) else (some false)))) else (some false))) else (some false))) else (some false)) else (some false))) else (some false))) else (some false)) else (some false))) else (some false))) else (some false)) else (some false))) else (some false)))))))) = some r := h
 clear h
 replace H := Option.bind_eq_some_iff.mp H
 obtain ⟨t101, A10, H⟩ := H
 try dsimp only at H
 have A1 := Aside0.mk A10
 clear A10
 replace H := Option.bind_eq_some_iff.mp H
 obtain ⟨⟨t105, t108, t109⟩, A20, H⟩ := H
 try dsimp only at H
 have A2 := Aside0.mk A20
 clear A20
 replace H := Option.bind_eq_some_iff.mp H
 obtain ⟨t111, A30, H⟩ := H
 try dsimp only at H
 have A3 := Aside0.mk A30
 clear A30
 replace H := Option.bind_eq_some_iff.mp H
 obtain ⟨⟨t114, t117, t118⟩, A40, H⟩ := H
 try dsimp only at H
 have A4 := Aside0.mk A40
 clear A40
 replace H := Option.bind_eq_some_iff.mp H
 obtain ⟨⟨t120, t123, t124⟩, A50, H⟩ := H
 try dsimp only at H
 have A5 := Aside0.mk A50
 clear A50
 replace H := Option.bind_eq_some_iff.mp H
 obtain ⟨⟨t128, t131⟩, A60, H⟩ := H
 try dsimp only at H
 have A6 := Aside0.mk A60
 clear A60
 by_cases c7 : t109 = true
 ·subst c7
  have H1 : ((sign_Text.f k t105).bind fun t133 => (if t133.toList = ([99, 100, 32, 97, 98] : List UInt8) then (if t108 = 5 then (if t118 = true then (some false) else (if (t114.length : Int) = 2 then ((sign_Text.f k t120).bind fun t134 => (if t134.toList = ([97, 99, 100] : List UInt8) then (if t123 = 1 then ((sign_Text.f k t124).bind fun t135 => (if t135.toList = ([98, 32] : List UInt8) then ((sign_Text.f k t128).bind fun t136 => (if t136.toList = ([97, 98, 32, 67, 100] : List UInt8) then (if t131 = 5 then ((line_Right.f t101 2).bind fun t137 => (if t137 = true then ((line_Same.f k t101 2 t101 2).bind fun t138 => (if t138 = true then ((line_Insert.f t101 2 t124).bind fun bt139 => ((sign_Text.f k bt139.1).bind fun t143 => (if t143.toList = ([97, 98, 98, 32, 32, 99, 100] : List UInt8) then ((line_Replace.f t101 2 0 2 t124).bind fun bt144 => ((sign_Text.f k bt144.1).bind fun t148 => (some (t148.toList == ([98, 32, 32, 99, 100] : List UInt8))))) else (some false)))) else (some false))) else (some false))) else (some false)) else (some false))) else (some false))) else (some false)) else (some false))) else (some false))) else (some false)) else (some false))) = some r := by rw [if_pos rfl] at H; exact H
  clear H
  have H := H1
  clear H1
  replace H := Option.bind_eq_some_iff.mp H
  obtain ⟨t133, A80, H⟩ := H
  try dsimp only at H
  have A8 := Aside0.mk A80
  clear A80
  by_cases c9 : t133.toList = ([99, 100, 32, 97, 98] : List UInt8)
  ·rw [if_pos c9] at H
   have c9b0 : (t133.toList == ([99, 100, 32, 97, 98] : List UInt8)) = true := beq_iff_eq.mpr c9
   have c9b1 : (t133.toList != ([99, 100, 32, 97, 98] : List UInt8)) = false := bne_eq_false_iff_eq.mpr c9
   clear c9
   by_cases c10 : t108 = 5
   ·rw [if_pos c10] at H
    have c10b0 : (t108 == 5) = true := beq_iff_eq.mpr c10
    have c10b1 : (t108 != 5) = false := bne_eq_false_iff_eq.mpr c10
    clear c10
    by_cases c11 : t118 = true
    ·subst c11
     have H1 : (some false) = some r := by rw [if_pos rfl] at H; exact H
     clear H
     have H := H1
     clear H1
     obtain rfl := Option.some.inj H
     exact absurd HR_.out (by decide)
    ·replace c11 := Bool.eq_false_iff.mpr c11
     subst c11
     have H1 : (if (t114.length : Int) = 2 then ((sign_Text.f k t120).bind fun t134 => (if t134.toList = ([97, 99, 100] : List UInt8) then (if t123 = 1 then ((sign_Text.f k t124).bind fun t135 => (if t135.toList = ([98, 32] : List UInt8) then ((sign_Text.f k t128).bind fun t136 => (if t136.toList = ([97, 98, 32, 67, 100] : List UInt8) then (if t131 = 5 then ((line_Right.f t101 2).bind fun t137 => (if t137 = true then ((line_Same.f k t101 2 t101 2).bind fun t138 => (if t138 = true then ((line_Insert.f t101 2 t124).bind fun bt139 => ((sign_Text.f k bt139.1).bind fun t143 => (if t143.toList = ([97, 98, 98, 32, 32, 99, 100] : List UInt8) then ((line_Replace.f t101 2 0 2 t124).bind fun bt144 => ((sign_Text.f k bt144.1).bind fun t148 => (some (t148.toList == ([98, 32, 32, 99, 100] : List UInt8))))) else (some false)))) else (some false))) else (some false))) else (some false)) else (some false))) else (some false))) else (some false)) else (some false))) else (some false)) = some r := by rw [if_neg (show ¬ (false = true) by decide)] at H; exact H
     clear H
     have H := H1
     clear H1
     by_cases c12 : (t114.length : Int) = 2
     ·rw [if_pos c12] at H
      have c12b0 : ((t114.length : Int) == 2) = true := beq_iff_eq.mpr c12
      have c12b1 : ((t114.length : Int) != 2) = false := bne_eq_false_iff_eq.mpr c12
      clear c12
      replace H := Option.bind_eq_some_iff.mp H
      obtain ⟨t134, A130, H⟩ := H
      try dsimp only at H
      have A13 := Aside0.mk A130
      clear A130
      by_cases c14 : t134.toList = ([97, 99, 100] : List UInt8)
      ·rw [if_pos c14] at H
       have c14b0 : (t134.toList == ([97, 99, 100] : List UInt8)) = true := beq_iff_eq.mpr c14
       have c14b1 : (t134.toList != ([97, 99, 100] : List UInt8)) = false := bne_eq_false_iff_eq.mpr c14
       clear c14
       by_cases c15 : t123 = 1
       ·rw [if_pos c15] at H
        have c15b0 : (t123 == 1) = true := beq_iff_eq.mpr c15
        have c15b1 : (t123 != 1) = false := bne_eq_false_iff_eq.mpr c15
        clear c15
        replace H := Option.bind_eq_some_iff.mp H
        obtain ⟨t135, A160, H⟩ := H
        try dsimp only at H
        have A16 := Aside0.mk A160
        clear A160
        by_cases c17 : t135.toList = ([98, 32] : List UInt8)
        ·rw [if_pos c17] at H
         have c17b0 : (t135.toList == ([98, 32] : List UInt8)) = true := beq_iff_eq.mpr c17
         have c17b1 : (t135.toList != ([98, 32] : List UInt8)) = false := bne_eq_false_iff_eq.mpr c17
         clear c17
         replace H := Option.bind_eq_some_iff.mp H
         obtain ⟨t136, A180, H⟩ := H
         try dsimp only at H
         have A18 := Aside0.mk A180
         clear A180
         by_cases c19 : t136.toList = ([97, 98, 32, 67, 100] : List UInt8)
         ·rw [if_pos c19] at H
          have c19b0 : (t136.toList == ([97, 98, 32, 67, 100] : List UInt8)) = true := beq_iff_eq.mpr c19
          have c19b1 : (t136.toList != ([97, 98, 32, 67, 100] : List UInt8)) = false := bne_eq_false_iff_eq.mpr c19
          clear c19
          by_cases c20 : t131 = 5
          ·rw [if_pos c20] at H
           have c20b0 : (t131 == 5) = true := beq_iff_eq.mpr c20
           have c20b1 : (t131 != 5) = false := bne_eq_false_iff_eq.mpr c20
           clear c20
           replace H := Option.bind_eq_some_iff.mp H
           obtain ⟨t137, A210, H⟩ := H
           try dsimp only at H
           have A21 := Aside0.mk A210
           clear A210
           by_cases c22 : t137 = true
           ·subst c22
            have H1 : ((line_Same.f k t101 2 t101 2).bind fun t138 => (if t138 = true then ((line_Insert.f t101 2 t124).bind fun bt139 => ((sign_Text.f k bt139.1).bind fun t143 => (if t143.toList = ([97, 98, 98, 32, 32, 99, 100] : List UInt8) then ((line_Replace.f t101 2 0 2 t124).bind fun bt144 => ((sign_Text.f k bt144.1).bind fun t148 => (some (t148.toList == ([98, 32, 32, 99, 100] : List UInt8))))) else (some false)))) else (some false))) = some r := by rw [if_pos rfl] at H; exact H
            clear H
            have H := H1
            clear H1
            replace H := Option.bind_eq_some_iff.mp H
            obtain ⟨t138, A230, H⟩ := H
            try dsimp only at H
            have A23 := Aside0.mk A230
            clear A230
            by_cases c24 : t138 = true
            ·subst c24
             have H1 : ((line_Insert.f t101 2 t124).bind fun bt139 => ((sign_Text.f k bt139.1).bind fun t143 => (if t143.toList = ([97, 98, 98, 32, 32, 99, 100] : List UInt8) then ((line_Replace.f t101 2 0 2 t124).bind fun bt144 => ((sign_Text.f k bt144.1).bind fun t148 => (some (t148.toList == ([98, 32, 32, 99, 100] : List UInt8))))) else (some false)))) = some r := by rw [if_pos rfl] at H; exact H
             clear H
             have H := H1
             clear H1
             replace H := Option.bind_eq_some_iff.mp H
             obtain ⟨⟨t139, t142⟩, A250, H⟩ := H
             try dsimp only at H
             have A25 := Aside0.mk A250
             clear A250
             replace H := Option.bind_eq_some_iff.mp H
             obtain ⟨t143, A260, H⟩ := H
             try dsimp only at H
             have A26 := Aside0.mk A260
             clear A260
             by_cases c27 : t143.toList = ([97, 98, 98, 32, 32, 99, 100] : List UInt8)
             ·rw [if_pos c27] at H
              have c27b0 : (t143.toList == ([97, 98, 98, 32, 32, 99, 100] : List UInt8)) = true := beq_iff_eq.mpr c27
              have c27b1 : (t143.toList != ([97, 98, 98, 32, 32, 99, 100] : List UInt8)) = false := bne_eq_false_iff_eq.mpr c27
              clear c27
              replace H := Option.bind_eq_some_iff.mp H
              obtain ⟨⟨t144, t147⟩, A280, H⟩ := H
              try dsimp only at H
              have A28 := Aside0.mk A280
              clear A280
              replace H := Option.bind_eq_some_iff.mp H
              obtain ⟨t148, A290, H⟩ := H
              try dsimp only at H
              have A29 := Aside0.mk A290
              clear A290
              obtain rfl := Option.some.inj H
              go_enter Try.func29, Try.ntmps29
              go_wp2_with (first | ((with_reducible refine gate_callee (f := 55) rfl ?_); refine gL (some 9) Try.func55 (by kernel_rfl) #[.int .i64 0, .string (⟨#[97, 98, 32, 99, 100]⟩ : ByteArray)] rfl rfl rfl rfl rfl ?_; (with_reducible refine (sign_Of.calls k 0 (⟨#[97, 98, 32, 99, 100]⟩ : ByteArray) t101 _ A1.out).mono ?_); rintro e w30 ⟨v102, rfl, ho0, hb⟩; refine ⟨_, rfl, ?_⟩; have HO103 := a0 (Kd.R_lower ho0 (below_size (by repeat (first | exact HB.out | apply below_alloc | apply pw_below_drewN | apply below_drew1)))); replace HB := a0 (below_step (by repeat (first | exact HB.out | apply below_alloc | apply pw_below_drewN | apply below_drew1)) hb); clear hb ho0; obtain ⟨Ao31, co31, eo31⟩ := Kd.R_slice HO103.out; subst eo31) | ((with_reducible refine gate_dst (N := 1) rfl ?_); (try (refine gate_guard (by rfl) ?_; dsimp only)); refine box_event ?hg (N := 1) ?hd (cs := #[.slice none 0 0, .int .i64 0]) (t := 24) ?hr ?_; (case hd => rfl); (case hg => rfl); (case hr => first | (go_simp; done) | (go_simp; rfl)); intro gb104 hg w32 hbox hb; replace HO103 := a0 (Kd.R_below HO103.out hb); have BK104 := a0 (hbox); have GW104 := a0 ((by rw [hg]; exact (below_size (by repeat (first | exact HB.out | apply below_alloc | apply pw_below_drewN | apply below_drew1))) : w.heap.size ≤ gb104)); have GE104 := a0 ((by rw [hg]; exact (below_size (by repeat (first | exact HB.out | apply below_alloc | apply pw_below_drewN | apply below_drew1))) : w.heap.size ≤ gb104)); replace HB := a0 (below_step (by repeat (first | exact HB.out | apply below_alloc | apply pw_below_drewN | apply below_drew1)) hb); clear hb hbox hg; obtain ⟨hcz33_0, hcz33_1, hfz33_0, hfz33_1⟩ := c2 BK104.out) | ((with_reducible refine gate_store (t := 24) (p := 1) rfl ?_); refine store_event (t := 24) (p := 1) (v := ?vo_w34) (w1 := ((w32.setCell ⟨gb104, 0, none⟩ (.slice Ao31 t101.length co31)).setCell ⟨gb104, 1, none⟩ (.int .i64 2))) ?hg ?ho ?hn ?hr ?_; (case ho => rfl); (case hg => rfl); (case hn => rfl); (case hr => first | (go_simp; done) | (go_simp; rfl)); intro w34 hw; have n0_ : Aside0 (Kd.R k47 47 w34 w.heap.size (fun _ => True) (.slice Ao31 t101.length co31) t101) := ⟨(by rw [hw]; exact (Kd.R_mono (Kd.R_far (p := ⟨gb104, 1, none⟩) (Kd.R_far (p := ⟨gb104, 0, none⟩) (Kd.R_types HO103.out BK104.out (by decide)) (fun _ hk => hk.2) (.slice Ao31 t101.length co31)) (fun _ hk => hk.2) (.int .i64 2)) (fun _ hk => trivial)))⟩; have n1_ : Aside0 (w34.heap[gb104]? = some (.cells #[.slice Ao31 t101.length co31, .int .i64 2] 24 (0, 0))) := ⟨(by rw [hw]; exact (by refine blk_put (cs := #[.slice Ao31 t101.length co31, .int .i64 0]) ?_ 1 _ rfl; refine blk_put (cs := #[.slice none 0 0, .int .i64 0]) ?_ 0 _ rfl; exact BK104.out))⟩; have n2_ : Aside0 (Below w.heap.size w w34) := ⟨(by rw [hw]; exact (by repeat (first | exact HB.out | apply below_alloc | apply pw_below_drewN | apply below_drew1 | refine below_set ?_ GE104.out)))⟩; clear hw; clear HO103; clear BK104; clear HB; have HO103 := n0_; have BK104 := n1_; have HB := n2_; clear n0_ n1_ n2_; obtain ⟨hcz35_0, hcz35_1, hfz35_0, hfz35_1⟩ := c2 BK104.out) | ((with_reducible refine gate_callee (f := 32) rfl ?_); refine gL (some 13) Try.func32 (by kernel_rfl) #[.agg #[.slice Ao31 t101.length co31, .int .i64 2]] rfl rfl rfl rfl rfl ?_; (with_reducible refine (line_SwapWords.calls k (fun k_ => some k_ = (.slice Ao31 t101.length co31 : Value).ownBlock) _ _ t101 2 t105 t108 true _ ?side1 A2.out).mono ?_); (case side1 => exact Kd.R_V (Kd.R_tight rfl (Kd.R_types (HO103.out) BK104.out (by decide)))); rintro e w36 ⟨v106, rfl, ho0, hb⟩; refine ⟨_, rfl, ?_⟩; have HO107 := a0 (Kd.R_lower (Kd.R_new' (Kd.R_mono (ok' := fun k_ => True) ho0 (fun _ hk_ => trivial)) (Kd.R_lt HO103.out)) (below_size (by repeat (first | exact HB.out | apply below_alloc | apply pw_below_drewN | apply below_drew1 | refine below_set ?_ GE104.out)))); replace HO103 := a0 (Kd.R_elder' HO103.out (Kd.R_base ho0) hb); replace BK104 := a0 (bB hb BK104.out); replace HB := a0 (below_step (by repeat (first | exact HB.out | apply below_alloc | apply pw_below_drewN | apply below_drew1 | refine below_set ?_ GE104.out)) hb); clear hb ho0) | ((with_reducible refine gate_dst (N := 2) rfl ?_); (try (refine gate_guard (by rfl) ?_; dsimp only)); refine box_event ?hg (N := 2) ?hd (cs := #[.slice none 0 0, .int .i64 0]) (t := 24) ?hr ?_; (case hd => rfl); (case hg => rfl); (case hr => first | (go_simp; done) | (go_simp; rfl)); intro gb110 hg w37 hbox hb; replace HO103 := a0 (Kd.R_below HO103.out hb); replace HO107 := a0 (Kd.R_below HO107.out hb); have BK110 := a0 (hbox); have GW110 := a0 ((by rw [hg]; exact (below_size (by repeat (first | exact HB.out | apply below_alloc | apply pw_below_drewN | apply below_drew1 | refine below_set ?_ GE104.out))) : w.heap.size ≤ gb110)); have GE110 := a0 ((by rw [hg]; exact (below_size (by repeat (first | exact HB.out | apply below_alloc | apply pw_below_drewN | apply below_drew1 | refine below_set ?_ GE104.out))) : w.heap.size ≤ gb110)); replace HB := a0 (below_step (by repeat (first | exact HB.out | apply below_alloc | apply pw_below_drewN | apply below_drew1 | refine below_set ?_ GE104.out)) hb); have NB104_110 := a0 ((by rw [hg]; exact Nat.ne_of_lt (blk_lt BK104.out) : gb104 ≠ gb110)); have NB110_104 := a0 ((by rw [hg]; exact Nat.ne_of_gt (blk_lt BK104.out) : gb110 ≠ gb104)); replace BK104 := a0 (bB hb BK104.out); clear hb hbox hg; obtain ⟨Ao38, co38, eo38⟩ := Kd.R_slice HO107.out; subst eo38; have hnb39 := NB110_104.out; have hnc39 := NB104_110.out; obtain ⟨hcz40_0, hcz40_1, hfz40_0, hfz40_1⟩ := c2 BK110.out) | ((with_reducible refine gate_callee (f := 55) rfl ?_); refine gL (some 17) Try.func55 (by kernel_rfl) #[.int .i64 0, .string (⟨#[97, 98]⟩ : ByteArray)] rfl rfl rfl rfl rfl ?_; (with_reducible refine (sign_Of.calls k 0 (⟨#[97, 98]⟩ : ByteArray) t111 _ A3.out).mono ?_); rintro e w41 ⟨v112, rfl, ho0, hb⟩; refine ⟨_, rfl, ?_⟩; have HO113 := a0 (Kd.R_lower (Kd.R_new' (Kd.R_new' ho0 (Kd.R_lt ((Kd.R_mono (Kd.R_far (p := ⟨gb110, 1, none⟩) (Kd.R_far (p := ⟨gb110, 0, none⟩) (Kd.R_types HO103.out BK110.out (by decide)) (fun _ hk => hk.2) (.slice Ao38 t105.length co38)) (fun _ hk => hk.2) (.int .i64 t108)) (fun _ h_ => h_.1))))) (Kd.R_lt ((Kd.R_mono (Kd.R_far (p := ⟨gb110, 1, none⟩) (Kd.R_far (p := ⟨gb110, 0, none⟩) (Kd.R_types HO107.out BK110.out (by decide)) (fun _ hk => hk.2) (.slice Ao38 t105.length co38)) (fun _ hk => hk.2) (.int .i64 t108)) (fun _ h_ => h_.1))))) (below_size (by repeat (first | exact HB.out | apply below_alloc | apply pw_below_drewN | apply below_drew1 | refine below_set ?_ GE104.out | refine below_set ?_ GE110.out)))); replace HO103 := a0 (Kd.R_elder' ((Kd.R_mono (Kd.R_far (p := ⟨gb110, 1, none⟩) (Kd.R_far (p := ⟨gb110, 0, none⟩) (Kd.R_types HO103.out BK110.out (by decide)) (fun _ hk => hk.2) (.slice Ao38 t105.length co38)) (fun _ hk => hk.2) (.int .i64 t108)) (fun _ h_ => h_.1))) (Kd.R_base ho0) hb); replace HO107 := a0 (Kd.R_elder' ((Kd.R_mono (Kd.R_far (p := ⟨gb110, 1, none⟩) (Kd.R_far (p := ⟨gb110, 0, none⟩) (Kd.R_types HO107.out BK110.out (by decide)) (fun _ hk => hk.2) (.slice Ao38 t105.length co38)) (fun _ hk => hk.2) (.int .i64 t108)) (fun _ h_ => h_.1))) (Kd.R_base ho0) hb); replace BK104 := a0 (blk_below (g := gb104) (o := .cells #[.slice Ao31 t101.length co31, .int .i64 2] 24 (0, 0)) (by refine blk_far ?_ NB104_110.out _; refine blk_far ?_ NB104_110.out _; exact BK104.out) hb); replace BK110 := a0 (blk_below (g := gb110) (o := .cells #[.slice Ao38 t105.length co38, .int .i64 t108] 24 (0, 0)) (by refine blk_put (cs := #[.slice Ao38 t105.length co38, .int .i64 0]) ?_ 1 _ rfl; refine blk_put (cs := #[.slice none 0 0, .int .i64 0]) ?_ 0 _ rfl; exact BK110.out) hb); replace HB := a0 (below_step (by repeat (first | exact HB.out | apply below_alloc | apply pw_below_drewN | apply below_drew1 | refine below_set ?_ GE104.out | refine below_set ?_ GE110.out)) hb); clear hb ho0; obtain ⟨Ao42, co42, eo42⟩ := Kd.R_slice HO113.out; subst eo42) | ((with_reducible refine gate_callee (f := 30) rfl ?_); refine gL (some 19) Try.func30 (by kernel_rfl) #[.agg #[.slice Ao42 t111.length co42, .int .i64 0]] rfl rfl rfl rfl rfl ?_; (with_reducible refine (line_Swap.calls _ _ t111 0 t114 t117 false _ ?side1 ?side2 A4.out).mono ?_); (case side1 => repeat (first | exact (Kd.R_reads' HO113.out).2.2 | (with_reducible refine Kd.C_alloc ?_ _) | (with_reducible refine Kd.C_drewN ?_ _) | (with_reducible refine Kd.C_drew ?_))); (case side2 => exact (Kd.R_reads' HO113.out).2.1); rintro e w43 ⟨v115, rfl, ho0, hb⟩; refine ⟨_, rfl, ?_⟩; have HO116 := a0 (Kd.R_lower (Kd.R_new' (Kd.R_new' (Kd.R_new' ho0 (Kd.R_lt HO103.out)) (Kd.R_lt HO107.out)) (Kd.R_lt HO113.out)) (below_size (by repeat (first | exact HB.out | apply below_alloc | apply pw_below_drewN | apply below_drew1 | refine below_set ?_ GE104.out | refine below_set ?_ GE110.out)))); replace HO103 := a0 (Kd.R_elder' HO103.out (Kd.R_base ho0) hb); replace HO107 := a0 (Kd.R_elder' HO107.out (Kd.R_base ho0) hb); replace HO113 := a0 (Kd.R_elder' HO113.out (Kd.R_base ho0) hb); replace BK104 := a0 (bB hb BK104.out); replace BK110 := a0 (bB hb BK110.out); replace HB := a0 (below_step (by repeat (first | exact HB.out | apply below_alloc | apply pw_below_drewN | apply below_drew1 | refine below_set ?_ GE104.out | refine below_set ?_ GE110.out)) hb); clear hb ho0) | ((with_reducible refine gate_dst (N := 4) rfl ?_); (try (refine gate_guard (by rfl) ?_; dsimp only)); refine box_event ?hg (N := 4) ?hd (cs := #[.slice none 0 0, .int .i64 0]) (t := 24) ?hr ?_; (case hd => rfl); (case hg => rfl); (case hr => first | (go_simp; done) | (go_simp; rfl)); intro gb119 hg w44 hbox hb; replace HO103 := a0 (Kd.R_below HO103.out hb); replace HO107 := a0 (Kd.R_below HO107.out hb); replace HO113 := a0 (Kd.R_below HO113.out hb); replace HO116 := a0 (Kd.R_below HO116.out hb); have BK119 := a0 (hbox); have GW119 := a0 ((by rw [hg]; exact (below_size (by repeat (first | exact HB.out | apply below_alloc | apply pw_below_drewN | apply below_drew1 | refine below_set ?_ GE104.out | refine below_set ?_ GE110.out))) : w.heap.size ≤ gb119)); have GE119 := a0 ((by rw [hg]; exact (below_size (by repeat (first | exact HB.out | apply below_alloc | apply pw_below_drewN | apply below_drew1 | refine below_set ?_ GE104.out | refine below_set ?_ GE110.out))) : w.heap.size ≤ gb119)); replace HB := a0 (below_step (by repeat (first | exact HB.out | apply below_alloc | apply pw_below_drewN | apply below_drew1 | refine below_set ?_ GE104.out | refine below_set ?_ GE110.out)) hb); have NB104_119 := a0 ((by rw [hg]; exact Nat.ne_of_lt (blk_lt BK104.out) : gb104 ≠ gb119)); have NB119_104 := a0 ((by rw [hg]; exact Nat.ne_of_gt (blk_lt BK104.out) : gb119 ≠ gb104)); replace BK104 := a0 (bB hb BK104.out); have NB110_119 := a0 ((by rw [hg]; exact Nat.ne_of_lt (blk_lt BK110.out) : gb110 ≠ gb119)); have NB119_110 := a0 ((by rw [hg]; exact Nat.ne_of_gt (blk_lt BK110.out) : gb119 ≠ gb110)); replace BK110 := a0 (bB hb BK110.out); clear hb hbox hg; obtain ⟨Ao45, co45, eo45⟩ := Kd.R_slice HO116.out; subst eo45; have hnb46 := NB119_104.out; have hnc46 := NB104_119.out; have hnb47 := NB119_110.out; have hnc47 := NB110_119.out; obtain ⟨hcz48_0, hcz48_1, hfz48_0, hfz48_1⟩ := c2 BK119.out) | ((with_reducible refine gate_store (t := 24) (p := 4) rfl ?_); refine store_event (t := 24) (p := 4) (v := ?vo_w49) (w1 := ((w44.setCell ⟨gb119, 0, none⟩ (.slice Ao45 t114.length co45)).setCell ⟨gb119, 1, none⟩ (.int .i64 t117))) ?hg ?ho ?hn ?hr ?_; (case ho => rfl); (case hg => rfl); (case hn => rfl); (case hr => first | (go_simp; done) | (go_simp; rfl)); intro w49 hw; have n0_ : Aside0 (Kd.R k47 47 w49 w.heap.size (fun k_ => some k_ ≠ (.slice Ao38 t105.length co38 : Value).ownBlock ∧ some k_ ≠ (.slice Ao42 t111.length co42 : Value).ownBlock ∧ some k_ ≠ (.slice Ao45 t114.length co45 : Value).ownBlock) (.slice Ao31 t101.length co31) t101) := ⟨(by rw [hw]; exact (Kd.R_mono (Kd.R_far (p := ⟨gb119, 1, none⟩) (Kd.R_far (p := ⟨gb119, 0, none⟩) (Kd.R_types HO103.out BK119.out (by decide)) (fun _ hk => hk.2) (.slice Ao45 t114.length co45)) (fun _ hk => hk.2) (.int .i64 t117)) (fun _ hk => ⟨hk.1.1.1.2, ⟨hk.1.1.2, hk.1.2⟩⟩)))⟩; have n1_ : Aside0 (Kd.R k47 47 w49 w.heap.size (fun k_ => some k_ ≠ (.slice Ao31 t101.length co31 : Value).ownBlock ∧ some k_ ≠ (.slice Ao42 t111.length co42 : Value).ownBlock ∧ some k_ ≠ (.slice Ao45 t114.length co45 : Value).ownBlock) (.slice Ao38 t105.length co38) t105) := ⟨(by rw [hw]; exact (Kd.R_mono (Kd.R_far (p := ⟨gb119, 1, none⟩) (Kd.R_far (p := ⟨gb119, 0, none⟩) (Kd.R_types HO107.out BK119.out (by decide)) (fun _ hk => hk.2) (.slice Ao45 t114.length co45)) (fun _ hk => hk.2) (.int .i64 t117)) (fun _ hk => ⟨hk.1.1.1.2, ⟨hk.1.1.2, hk.1.2⟩⟩)))⟩; have n2_ : Aside0 (Kd.R k47 47 w49 w.heap.size (fun k_ => some k_ ≠ (.slice Ao31 t101.length co31 : Value).ownBlock ∧ some k_ ≠ (.slice Ao38 t105.length co38 : Value).ownBlock ∧ some k_ ≠ (.slice Ao45 t114.length co45 : Value).ownBlock) (.slice Ao42 t111.length co42) t111) := ⟨(by rw [hw]; exact (Kd.R_mono (Kd.R_far (p := ⟨gb119, 1, none⟩) (Kd.R_far (p := ⟨gb119, 0, none⟩) (Kd.R_types HO113.out BK119.out (by decide)) (fun _ hk => hk.2) (.slice Ao45 t114.length co45)) (fun _ hk => hk.2) (.int .i64 t117)) (fun _ hk => ⟨hk.1.1.1.2, ⟨hk.1.1.2, hk.1.2⟩⟩)))⟩; have n3_ : Aside0 (Kd.R k47 47 w49 w.heap.size (fun k_ => some k_ ≠ (.slice Ao31 t101.length co31 : Value).ownBlock ∧ some k_ ≠ (.slice Ao38 t105.length co38 : Value).ownBlock ∧ some k_ ≠ (.slice Ao42 t111.length co42 : Value).ownBlock) (.slice Ao45 t114.length co45) t114) := ⟨(by rw [hw]; exact (Kd.R_mono (Kd.R_far (p := ⟨gb119, 1, none⟩) (Kd.R_far (p := ⟨gb119, 0, none⟩) (Kd.R_types HO116.out BK119.out (by decide)) (fun _ hk => hk.2) (.slice Ao45 t114.length co45)) (fun _ hk => hk.2) (.int .i64 t117)) (fun _ hk => ⟨hk.1.1.1.2, ⟨hk.1.1.2, hk.1.2⟩⟩)))⟩; have n4_ : Aside0 (w49.heap[gb104]? = some (.cells #[.slice Ao31 t101.length co31, .int .i64 2] 24 (0, 0))) := ⟨(by rw [hw]; exact (by refine blk_far ?_ NB104_119.out _; refine blk_far ?_ NB104_119.out _; exact BK104.out))⟩; have n5_ : Aside0 (w49.heap[gb110]? = some (.cells #[.slice Ao38 t105.length co38, .int .i64 t108] 24 (0, 0))) := ⟨(by rw [hw]; exact (by refine blk_far ?_ NB110_119.out _; refine blk_far ?_ NB110_119.out _; exact BK110.out))⟩; have n6_ : Aside0 (w49.heap[gb119]? = some (.cells #[.slice Ao45 t114.length co45, .int .i64 t117] 24 (0, 0))) := ⟨(by rw [hw]; exact (by refine blk_put (cs := #[.slice Ao45 t114.length co45, .int .i64 0]) ?_ 1 _ rfl; refine blk_put (cs := #[.slice none 0 0, .int .i64 0]) ?_ 0 _ rfl; exact BK119.out))⟩; have n7_ : Aside0 (Below w.heap.size w w49) := ⟨(by rw [hw]; exact (by repeat (first | exact HB.out | apply below_alloc | apply pw_below_drewN | apply below_drew1 | refine below_set ?_ GE104.out | refine below_set ?_ GE110.out | refine below_set ?_ GE119.out)))⟩; clear hw; clear HO103; clear HO107; clear HO113; clear HO116; clear BK104; clear BK110; clear BK119; clear HB; have HO103 := n0_; have HO107 := n1_; have HO113 := n2_; have HO116 := n3_; have BK104 := n4_; have BK110 := n5_; have BK119 := n6_; have HB := n7_; clear n0_ n1_ n2_ n3_ n4_ n5_ n6_ n7_; obtain ⟨hcz50_0, hcz50_1, hfz50_0, hfz50_1⟩ := c2 BK104.out) | ((with_reducible refine gate_callee (f := 35) rfl ?_); refine gL (some 24) Try.func35 (by kernel_rfl) #[.agg #[.slice Ao31 t101.length co31, .int .i64 2], .int .i64 1, .int .i64 3] rfl rfl rfl rfl rfl ?_; (with_reducible refine (line_Cut.calls k (fun k_ => some k_ = (.slice Ao31 t101.length co31 : Value).ownBlock) _ _ t101 2 1 3 t120 t123 t124 _ ?side1 A5.out).mono ?_); (case side1 => exact Kd.R_V (Kd.R_tight rfl (Kd.R_types (Kd.R_types (Kd.R_types (HO103.out) BK104.out (by decide)) BK110.out (by decide)) BK119.out (by decide)))); rintro e w51 ⟨v121, v125, rfl, ho0, ho1, hb⟩; refine ⟨_, rfl, ?_⟩; have HO122 := a0 (Kd.R_lower (Kd.R_new' (Kd.R_new' (Kd.R_new' (Kd.R_new' (Kd.R_mono (ok' := fun k_ => some k_ ≠ (v125 : Value).ownBlock) ho0 (fun _ hk_ => hk_.2)) (Kd.R_lt HO103.out)) (Kd.R_lt HO107.out)) (Kd.R_lt HO113.out)) (Kd.R_lt HO116.out)) (below_size (by repeat (first | exact HB.out | apply below_alloc | apply pw_below_drewN | apply below_drew1 | refine below_set ?_ GE104.out | refine below_set ?_ GE110.out | refine below_set ?_ GE119.out)))); have HO126 := a0 (Kd.R_lower (Kd.R_new' (Kd.R_new' (Kd.R_new' (Kd.R_new' (Kd.R_mono (ok' := fun k_ => some k_ ≠ (v121 : Value).ownBlock) ho1 (fun _ hk_ => hk_.2)) (Kd.R_lt HO103.out)) (Kd.R_lt HO107.out)) (Kd.R_lt HO113.out)) (Kd.R_lt HO116.out)) (below_size (by repeat (first | exact HB.out | apply below_alloc | apply pw_below_drewN | apply below_drew1 | refine below_set ?_ GE104.out | refine below_set ?_ GE110.out | refine below_set ?_ GE119.out)))); replace HO103 := a0 (Kd.R_mono (Kd.R_told (Kd.R_told (Kd.R_old HO103.out hb) (Kd.R_base ho0)) (Kd.R_base ho1)) (fun _ h_ => h_.1)); replace HO107 := a0 (Kd.R_mono (Kd.R_told (Kd.R_told (Kd.R_old HO107.out hb) (Kd.R_base ho0)) (Kd.R_base ho1)) (fun _ h_ => h_.1)); replace HO113 := a0 (Kd.R_mono (Kd.R_told (Kd.R_told (Kd.R_old HO113.out hb) (Kd.R_base ho0)) (Kd.R_base ho1)) (fun _ h_ => h_.1)); replace HO116 := a0 (Kd.R_mono (Kd.R_told (Kd.R_told (Kd.R_old HO116.out hb) (Kd.R_base ho0)) (Kd.R_base ho1)) (fun _ h_ => h_.1)); replace BK104 := a0 (bB hb BK104.out); replace BK110 := a0 (bB hb BK110.out); replace BK119 := a0 (bB hb BK119.out); replace HB := a0 (below_step (by repeat (first | exact HB.out | apply below_alloc | apply pw_below_drewN | apply below_drew1 | refine below_set ?_ GE104.out | refine below_set ?_ GE110.out | refine below_set ?_ GE119.out)) hb); clear hb ho0 ho1) | ((with_reducible refine gate_dst (N := 6) rfl ?_); (try (refine gate_guard (by rfl) ?_; dsimp only)); refine box_event ?hg (N := 6) ?hd (cs := #[.slice none 0 0, .int .i64 0]) (t := 24) ?hr ?_; (case hd => rfl); (case hg => rfl); (case hr => first | (go_simp; done) | (go_simp; rfl)); intro gb127 hg w52 hbox hb; replace HO103 := a0 (Kd.R_below HO103.out hb); replace HO107 := a0 (Kd.R_below HO107.out hb); replace HO113 := a0 (Kd.R_below HO113.out hb); replace HO116 := a0 (Kd.R_below HO116.out hb); replace HO122 := a0 (Kd.R_below HO122.out hb); replace HO126 := a0 (Kd.R_below HO126.out hb); have BK127 := a0 (hbox); have GW127 := a0 ((by rw [hg]; exact (below_size (by repeat (first | exact HB.out | apply below_alloc | apply pw_below_drewN | apply below_drew1 | refine below_set ?_ GE104.out | refine below_set ?_ GE110.out | refine below_set ?_ GE119.out))) : w.heap.size ≤ gb127)); have GE127 := a0 ((by rw [hg]; exact (below_size (by repeat (first | exact HB.out | apply below_alloc | apply pw_below_drewN | apply below_drew1 | refine below_set ?_ GE104.out | refine below_set ?_ GE110.out | refine below_set ?_ GE119.out))) : w.heap.size ≤ gb127)); replace HB := a0 (below_step (by repeat (first | exact HB.out | apply below_alloc | apply pw_below_drewN | apply below_drew1 | refine below_set ?_ GE104.out | refine below_set ?_ GE110.out | refine below_set ?_ GE119.out)) hb); have NB104_127 := a0 ((by rw [hg]; exact Nat.ne_of_lt (blk_lt BK104.out) : gb104 ≠ gb127)); have NB127_104 := a0 ((by rw [hg]; exact Nat.ne_of_gt (blk_lt BK104.out) : gb127 ≠ gb104)); replace BK104 := a0 (bB hb BK104.out); have NB110_127 := a0 ((by rw [hg]; exact Nat.ne_of_lt (blk_lt BK110.out) : gb110 ≠ gb127)); have NB127_110 := a0 ((by rw [hg]; exact Nat.ne_of_gt (blk_lt BK110.out) : gb127 ≠ gb110)); replace BK110 := a0 (bB hb BK110.out); have NB119_127 := a0 ((by rw [hg]; exact Nat.ne_of_lt (blk_lt BK119.out) : gb119 ≠ gb127)); have NB127_119 := a0 ((by rw [hg]; exact Nat.ne_of_gt (blk_lt BK119.out) : gb127 ≠ gb119)); replace BK119 := a0 (bB hb BK119.out); clear hb hbox hg; obtain ⟨Ao53, co53, eo53⟩ := Kd.R_slice HO122.out; subst eo53; have hnb54 := NB127_104.out; have hnc54 := NB104_127.out; have hnb55 := NB127_110.out; have hnc55 := NB110_127.out; have hnb56 := NB127_119.out; have hnc56 := NB119_127.out; obtain ⟨hcz57_0, hcz57_1, hfz57_0, hfz57_1⟩ := c2 BK127.out; obtain ⟨hcz58_0, hcz58_1, hfz58_0, hfz58_1⟩ := c2 BK104.out) | ((with_reducible refine gate_callee (f := 39) rfl ?_); refine gL (some 28) Try.func39 (by kernel_rfl) #[.agg #[.slice Ao31 t101.length co31, .int .i64 2], .int .i64 5, .int .i64 2] rfl rfl rfl rfl rfl ?_; (with_reducible refine (line_Case.calls _ _ t101 2 5 2 t128 t131 _ ?side1 ?side2 A6.out).mono ?_); (case side1 => refine (Kd.R_reads' (e := 47) (base := w.heap.size) (ok := fun k_ => (((some k_ ≠ (.slice Ao38 t105.length co38 : Value).ownBlock ∧ (some k_ ≠ (.slice Ao42 t111.length co42 : Value).ownBlock ∧ some k_ ≠ (.slice Ao45 t114.length co45 : Value).ownBlock)) ∧ some k_ ≠ (.slice Ao53 t120.length co53 : Value).ownBlock) ∧ some k_ ≠ (v125 : Value).ownBlock)) (n := t101.length) (c := co31) ?_).2.2; exact ((Kd.R_mono (Kd.R_far (p := ⟨gb127, 1, none⟩) (Kd.R_far (p := ⟨gb127, 0, none⟩) (Kd.R_types HO103.out BK127.out (by decide)) (fun _ hk => hk.2) (.slice Ao53 t120.length co53)) (fun _ hk => hk.2) (.int .i64 t123)) (fun _ h_ => h_.1)))); (case side2 => exact (Kd.R_reads' HO103.out).2.1); rintro e w59 ⟨v129, rfl, ho0, hb⟩; refine ⟨_, rfl, ?_⟩; have HO130 := a0 (Kd.R_lower (Kd.R_new' (Kd.R_new' (Kd.R_new' (Kd.R_new' (Kd.R_new' (Kd.R_new' ho0 (Kd.R_lt ((Kd.R_mono (Kd.R_far (p := ⟨gb127, 1, none⟩) (Kd.R_far (p := ⟨gb127, 0, none⟩) (Kd.R_types HO103.out BK127.out (by decide)) (fun _ hk => hk.2) (.slice Ao53 t120.length co53)) (fun _ hk => hk.2) (.int .i64 t123)) (fun _ h_ => h_.1))))) (Kd.R_lt ((Kd.R_mono (Kd.R_far (p := ⟨gb127, 1, none⟩) (Kd.R_far (p := ⟨gb127, 0, none⟩) (Kd.R_types HO107.out BK127.out (by decide)) (fun _ hk => hk.2) (.slice Ao53 t120.length co53)) (fun _ hk => hk.2) (.int .i64 t123)) (fun _ h_ => h_.1))))) (Kd.R_lt ((Kd.R_mono (Kd.R_far (p := ⟨gb127, 1, none⟩) (Kd.R_far (p := ⟨gb127, 0, none⟩) (Kd.R_types HO113.out BK127.out (by decide)) (fun _ hk => hk.2) (.slice Ao53 t120.length co53)) (fun _ hk => hk.2) (.int .i64 t123)) (fun _ h_ => h_.1))))) (Kd.R_lt ((Kd.R_mono (Kd.R_far (p := ⟨gb127, 1, none⟩) (Kd.R_far (p := ⟨gb127, 0, none⟩) (Kd.R_types HO116.out BK127.out (by decide)) (fun _ hk => hk.2) (.slice Ao53 t120.length co53)) (fun _ hk => hk.2) (.int .i64 t123)) (fun _ h_ => h_.1))))) (Kd.R_lt ((Kd.R_mono (Kd.R_far (p := ⟨gb127, 1, none⟩) (Kd.R_far (p := ⟨gb127, 0, none⟩) (Kd.R_types HO122.out BK127.out (by decide)) (fun _ hk => hk.2) (.slice Ao53 t120.length co53)) (fun _ hk => hk.2) (.int .i64 t123)) (fun _ h_ => h_.1))))) (Kd.R_lt ((Kd.R_mono (Kd.R_far (p := ⟨gb127, 1, none⟩) (Kd.R_far (p := ⟨gb127, 0, none⟩) (Kd.R_types HO126.out BK127.out (by decide)) (fun _ hk => hk.2) (.slice Ao53 t120.length co53)) (fun _ hk => hk.2) (.int .i64 t123)) (fun _ h_ => h_.1))))) (below_size (by repeat (first | exact HB.out | apply below_alloc | apply pw_below_drewN | apply below_drew1 | refine below_set ?_ GE104.out | refine below_set ?_ GE110.out | refine below_set ?_ GE119.out | refine below_set ?_ GE127.out)))); replace HO103 := a0 (Kd.R_elder' ((Kd.R_mono (Kd.R_far (p := ⟨gb127, 1, none⟩) (Kd.R_far (p := ⟨gb127, 0, none⟩) (Kd.R_types HO103.out BK127.out (by decide)) (fun _ hk => hk.2) (.slice Ao53 t120.length co53)) (fun _ hk => hk.2) (.int .i64 t123)) (fun _ h_ => h_.1))) (Kd.R_base ho0) hb); replace HO107 := a0 (Kd.R_elder' ((Kd.R_mono (Kd.R_far (p := ⟨gb127, 1, none⟩) (Kd.R_far (p := ⟨gb127, 0, none⟩) (Kd.R_types HO107.out BK127.out (by decide)) (fun _ hk => hk.2) (.slice Ao53 t120.length co53)) (fun _ hk => hk.2) (.int .i64 t123)) (fun _ h_ => h_.1))) (Kd.R_base ho0) hb); replace HO113 := a0 (Kd.R_elder' ((Kd.R_mono (Kd.R_far (p := ⟨gb127, 1, none⟩) (Kd.R_far (p := ⟨gb127, 0, none⟩) (Kd.R_types HO113.out BK127.out (by decide)) (fun _ hk => hk.2) (.slice Ao53 t120.length co53)) (fun _ hk => hk.2) (.int .i64 t123)) (fun _ h_ => h_.1))) (Kd.R_base ho0) hb); replace HO116 := a0 (Kd.R_elder' ((Kd.R_mono (Kd.R_far (p := ⟨gb127, 1, none⟩) (Kd.R_far (p := ⟨gb127, 0, none⟩) (Kd.R_types HO116.out BK127.out (by decide)) (fun _ hk => hk.2) (.slice Ao53 t120.length co53)) (fun _ hk => hk.2) (.int .i64 t123)) (fun _ h_ => h_.1))) (Kd.R_base ho0) hb); replace HO122 := a0 (Kd.R_elder' ((Kd.R_mono (Kd.R_far (p := ⟨gb127, 1, none⟩) (Kd.R_far (p := ⟨gb127, 0, none⟩) (Kd.R_types HO122.out BK127.out (by decide)) (fun _ hk => hk.2) (.slice Ao53 t120.length co53)) (fun _ hk => hk.2) (.int .i64 t123)) (fun _ h_ => h_.1))) (Kd.R_base ho0) hb); replace HO126 := a0 (Kd.R_elder' ((Kd.R_mono (Kd.R_far (p := ⟨gb127, 1, none⟩) (Kd.R_far (p := ⟨gb127, 0, none⟩) (Kd.R_types HO126.out BK127.out (by decide)) (fun _ hk => hk.2) (.slice Ao53 t120.length co53)) (fun _ hk => hk.2) (.int .i64 t123)) (fun _ h_ => h_.1))) (Kd.R_base ho0) hb); replace BK104 := a0 (blk_below (g := gb104) (o := .cells #[.slice Ao31 t101.length co31, .int .i64 2] 24 (0, 0)) (by refine blk_far ?_ NB104_127.out _; refine blk_far ?_ NB104_127.out _; exact BK104.out) hb); replace BK110 := a0 (blk_below (g := gb110) (o := .cells #[.slice Ao38 t105.length co38, .int .i64 t108] 24 (0, 0)) (by refine blk_far ?_ NB110_127.out _; refine blk_far ?_ NB110_127.out _; exact BK110.out) hb); replace BK119 := a0 (blk_below (g := gb119) (o := .cells #[.slice Ao45 t114.length co45, .int .i64 t117] 24 (0, 0)) (by refine blk_far ?_ NB119_127.out _; refine blk_far ?_ NB119_127.out _; exact BK119.out) hb); replace BK127 := a0 (blk_below (g := gb127) (o := .cells #[.slice Ao53 t120.length co53, .int .i64 t123] 24 (0, 0)) (by refine blk_put (cs := #[.slice Ao53 t120.length co53, .int .i64 0]) ?_ 1 _ rfl; refine blk_put (cs := #[.slice none 0 0, .int .i64 0]) ?_ 0 _ rfl; exact BK127.out) hb); replace HB := a0 (below_step (by repeat (first | exact HB.out | apply below_alloc | apply pw_below_drewN | apply below_drew1 | refine below_set ?_ GE104.out | refine below_set ?_ GE110.out | refine below_set ?_ GE119.out | refine below_set ?_ GE127.out)) hb); clear hb ho0) | ((with_reducible refine gate_dst (N := 8) rfl ?_); (try (refine gate_guard (by rfl) ?_; dsimp only)); refine box_event ?hg (N := 8) ?hd (cs := #[.slice none 0 0, .int .i64 0]) (t := 24) ?hr ?_; (case hd => rfl); (case hg => rfl); (case hr => first | (go_simp; done) | (go_simp; rfl)); intro gb132 hg w60 hbox hb; replace HO103 := a0 (Kd.R_below HO103.out hb); replace HO107 := a0 (Kd.R_below HO107.out hb); replace HO113 := a0 (Kd.R_below HO113.out hb); replace HO116 := a0 (Kd.R_below HO116.out hb); replace HO122 := a0 (Kd.R_below HO122.out hb); replace HO126 := a0 (Kd.R_below HO126.out hb); replace HO130 := a0 (Kd.R_below HO130.out hb); have BK132 := a0 (hbox); have GW132 := a0 ((by rw [hg]; exact (below_size (by repeat (first | exact HB.out | apply below_alloc | apply pw_below_drewN | apply below_drew1 | refine below_set ?_ GE104.out | refine below_set ?_ GE110.out | refine below_set ?_ GE119.out | refine below_set ?_ GE127.out))) : w.heap.size ≤ gb132)); have GE132 := a0 ((by rw [hg]; exact (below_size (by repeat (first | exact HB.out | apply below_alloc | apply pw_below_drewN | apply below_drew1 | refine below_set ?_ GE104.out | refine below_set ?_ GE110.out | refine below_set ?_ GE119.out | refine below_set ?_ GE127.out))) : w.heap.size ≤ gb132)); replace HB := a0 (below_step (by repeat (first | exact HB.out | apply below_alloc | apply pw_below_drewN | apply below_drew1 | refine below_set ?_ GE104.out | refine below_set ?_ GE110.out | refine below_set ?_ GE119.out | refine below_set ?_ GE127.out)) hb); have NB104_132 := a0 ((by rw [hg]; exact Nat.ne_of_lt (blk_lt BK104.out) : gb104 ≠ gb132)); have NB132_104 := a0 ((by rw [hg]; exact Nat.ne_of_gt (blk_lt BK104.out) : gb132 ≠ gb104)); replace BK104 := a0 (bB hb BK104.out); have NB110_132 := a0 ((by rw [hg]; exact Nat.ne_of_lt (blk_lt BK110.out) : gb110 ≠ gb132)); have NB132_110 := a0 ((by rw [hg]; exact Nat.ne_of_gt (blk_lt BK110.out) : gb132 ≠ gb110)); replace BK110 := a0 (bB hb BK110.out); have NB119_132 := a0 ((by rw [hg]; exact Nat.ne_of_lt (blk_lt BK119.out) : gb119 ≠ gb132)); have NB132_119 := a0 ((by rw [hg]; exact Nat.ne_of_gt (blk_lt BK119.out) : gb132 ≠ gb119)); replace BK119 := a0 (bB hb BK119.out); have NB127_132 := a0 ((by rw [hg]; exact Nat.ne_of_lt (blk_lt BK127.out) : gb127 ≠ gb132)); have NB132_127 := a0 ((by rw [hg]; exact Nat.ne_of_gt (blk_lt BK127.out) : gb132 ≠ gb127)); replace BK127 := a0 (bB hb BK127.out); clear hb hbox hg; obtain ⟨Ao61, co61, eo61⟩ := Kd.R_slice HO130.out; subst eo61; have hnb62 := NB132_104.out; have hnc62 := NB104_132.out; have hnb63 := NB132_110.out; have hnc63 := NB110_132.out; have hnb64 := NB132_119.out; have hnc64 := NB119_132.out; have hnb65 := NB132_127.out; have hnc65 := NB127_132.out; obtain ⟨hcz66_0, hcz66_1, hfz66_0, hfz66_1⟩ := c2 BK132.out; obtain ⟨hcz67_0, hcz67_1, hfz67_0, hfz67_1⟩ := c2 BK110.out) | (go_at_call 56; (with_reducible refine (sign_Text.calls k _ _ t105 t133 _ ?side1 ?side2 A8.out).mono ?_); (case side1 => refine (Kd.R_reads' (e := 47) (base := w.heap.size) (ok := fun k_ => ((((some k_ ≠ (.slice Ao31 t101.length co31 : Value).ownBlock ∧ (some k_ ≠ (.slice Ao42 t111.length co42 : Value).ownBlock ∧ some k_ ≠ (.slice Ao45 t114.length co45 : Value).ownBlock)) ∧ some k_ ≠ (.slice Ao53 t120.length co53 : Value).ownBlock) ∧ some k_ ≠ (v125 : Value).ownBlock) ∧ some k_ ≠ (.slice Ao61 t128.length co61 : Value).ownBlock)) (n := t105.length) (c := co38) ?_).2.2; exact ((Kd.R_mono (Kd.R_far (p := ⟨gb132, 1, none⟩) (Kd.R_far (p := ⟨gb132, 0, none⟩) (Kd.R_types HO107.out BK132.out (by decide)) (fun _ hk => hk.2) (.slice Ao61 t128.length co61)) (fun _ hk => hk.2) (.int .i64 t131)) (fun _ h_ => h_.1)))); (case side2 => exact (Kd.R_reads' HO107.out).2.1); rintro e w68 ⟨rfl, hb⟩; replace HO103 := a0 (Kd.R_below ((Kd.R_mono (Kd.R_far (p := ⟨gb132, 1, none⟩) (Kd.R_far (p := ⟨gb132, 0, none⟩) (Kd.R_types HO103.out BK132.out (by decide)) (fun _ hk => hk.2) (.slice Ao61 t128.length co61)) (fun _ hk => hk.2) (.int .i64 t131)) (fun _ h_ => h_.1))) hb); replace HO107 := a0 (Kd.R_below ((Kd.R_mono (Kd.R_far (p := ⟨gb132, 1, none⟩) (Kd.R_far (p := ⟨gb132, 0, none⟩) (Kd.R_types HO107.out BK132.out (by decide)) (fun _ hk => hk.2) (.slice Ao61 t128.length co61)) (fun _ hk => hk.2) (.int .i64 t131)) (fun _ h_ => h_.1))) hb); replace HO113 := a0 (Kd.R_below ((Kd.R_mono (Kd.R_far (p := ⟨gb132, 1, none⟩) (Kd.R_far (p := ⟨gb132, 0, none⟩) (Kd.R_types HO113.out BK132.out (by decide)) (fun _ hk => hk.2) (.slice Ao61 t128.length co61)) (fun _ hk => hk.2) (.int .i64 t131)) (fun _ h_ => h_.1))) hb); replace HO116 := a0 (Kd.R_below ((Kd.R_mono (Kd.R_far (p := ⟨gb132, 1, none⟩) (Kd.R_far (p := ⟨gb132, 0, none⟩) (Kd.R_types HO116.out BK132.out (by decide)) (fun _ hk => hk.2) (.slice Ao61 t128.length co61)) (fun _ hk => hk.2) (.int .i64 t131)) (fun _ h_ => h_.1))) hb); replace HO122 := a0 (Kd.R_below ((Kd.R_mono (Kd.R_far (p := ⟨gb132, 1, none⟩) (Kd.R_far (p := ⟨gb132, 0, none⟩) (Kd.R_types HO122.out BK132.out (by decide)) (fun _ hk => hk.2) (.slice Ao61 t128.length co61)) (fun _ hk => hk.2) (.int .i64 t131)) (fun _ h_ => h_.1))) hb); replace HO126 := a0 (Kd.R_below ((Kd.R_mono (Kd.R_far (p := ⟨gb132, 1, none⟩) (Kd.R_far (p := ⟨gb132, 0, none⟩) (Kd.R_types HO126.out BK132.out (by decide)) (fun _ hk => hk.2) (.slice Ao61 t128.length co61)) (fun _ hk => hk.2) (.int .i64 t131)) (fun _ h_ => h_.1))) hb); replace HO130 := a0 (Kd.R_below ((Kd.R_mono (Kd.R_far (p := ⟨gb132, 1, none⟩) (Kd.R_far (p := ⟨gb132, 0, none⟩) (Kd.R_types HO130.out BK132.out (by decide)) (fun _ hk => hk.2) (.slice Ao61 t128.length co61)) (fun _ hk => hk.2) (.int .i64 t131)) (fun _ h_ => h_.1))) hb); replace BK104 := a0 (blk_below (g := gb104) (o := .cells #[.slice Ao31 t101.length co31, .int .i64 2] 24 (0, 0)) (by refine blk_far ?_ NB104_132.out _; refine blk_far ?_ NB104_132.out _; exact BK104.out) hb); replace BK110 := a0 (blk_below (g := gb110) (o := .cells #[.slice Ao38 t105.length co38, .int .i64 t108] 24 (0, 0)) (by refine blk_far ?_ NB110_132.out _; refine blk_far ?_ NB110_132.out _; exact BK110.out) hb); replace BK119 := a0 (blk_below (g := gb119) (o := .cells #[.slice Ao45 t114.length co45, .int .i64 t117] 24 (0, 0)) (by refine blk_far ?_ NB119_132.out _; refine blk_far ?_ NB119_132.out _; exact BK119.out) hb); replace BK127 := a0 (blk_below (g := gb127) (o := .cells #[.slice Ao53 t120.length co53, .int .i64 t123] 24 (0, 0)) (by refine blk_far ?_ NB127_132.out _; refine blk_far ?_ NB127_132.out _; exact BK127.out) hb); replace BK132 := a0 (blk_below (g := gb132) (o := .cells #[.slice Ao61 t128.length co61, .int .i64 t131] 24 (0, 0)) (by refine blk_put (cs := #[.slice Ao61 t128.length co61, .int .i64 0]) ?_ 1 _ rfl; refine blk_put (cs := #[.slice none 0 0, .int .i64 0]) ?_ 0 _ rfl; exact BK132.out) hb); replace HB := a0 (below_step (by repeat (first | exact HB.out | apply below_alloc | apply pw_below_drewN | apply below_drew1 | refine below_set ?_ GE104.out | refine below_set ?_ GE110.out | refine below_set ?_ GE119.out | refine below_set ?_ GE127.out | refine below_set ?_ GE132.out)) hb); (try clear hb); (try clear hb2); (try clear hk); (try clear hi); obtain ⟨hcz69_0, hcz69_1, hfz69_0, hfz69_1⟩ := c2 BK110.out; obtain ⟨hcz70_0, hcz70_1, hfz70_0, hfz70_1⟩ := c2 BK119.out; obtain ⟨hcz71_0, hcz71_1, hfz71_0, hfz71_1⟩ := c2 BK127.out) | (go_at_call 56; (with_reducible refine (sign_Text.calls k _ _ t120 t134 _ ?side1 ?side2 A13.out).mono ?_); (case side1 => repeat (first | exact (Kd.R_reads' HO122.out).2.2 | (with_reducible refine Kd.C_alloc ?_ _) | (with_reducible refine Kd.C_drewN ?_ _) | (with_reducible refine Kd.C_drew ?_))); (case side2 => exact (Kd.R_reads' HO122.out).2.1); rintro e w72 ⟨rfl, hb⟩; replace HO103 := a0 (Kd.R_below HO103.out hb); replace HO107 := a0 (Kd.R_below HO107.out hb); replace HO113 := a0 (Kd.R_below HO113.out hb); replace HO116 := a0 (Kd.R_below HO116.out hb); replace HO122 := a0 (Kd.R_below HO122.out hb); replace HO126 := a0 (Kd.R_below HO126.out hb); replace HO130 := a0 (Kd.R_below HO130.out hb); replace BK104 := a0 (bB hb BK104.out); replace BK110 := a0 (bB hb BK110.out); replace BK119 := a0 (bB hb BK119.out); replace BK127 := a0 (bB hb BK127.out); replace BK132 := a0 (bB hb BK132.out); replace HB := a0 (below_step (by repeat (first | exact HB.out | apply below_alloc | apply pw_below_drewN | apply below_drew1 | refine below_set ?_ GE104.out | refine below_set ?_ GE110.out | refine below_set ?_ GE119.out | refine below_set ?_ GE127.out | refine below_set ?_ GE132.out)) hb); (try clear hb); (try clear hb2); (try clear hk); (try clear hi); obtain ⟨hcz73_0, hcz73_1, hfz73_0, hfz73_1⟩ := c2 BK127.out; obtain ⟨Ao74, co74, eo74⟩ := Kd.R_slice HO126.out; subst eo74) | (go_at_call 56; (with_reducible refine (sign_Text.calls k _ _ t124 t135 _ ?side1 ?side2 A16.out).mono ?_); (case side1 => repeat (first | exact (Kd.R_reads' HO126.out).2.2 | (with_reducible refine Kd.C_alloc ?_ _) | (with_reducible refine Kd.C_drewN ?_ _) | (with_reducible refine Kd.C_drew ?_))); (case side2 => exact (Kd.R_reads' HO126.out).2.1); rintro e w75 ⟨rfl, hb⟩; replace HO103 := a0 (Kd.R_below HO103.out hb); replace HO107 := a0 (Kd.R_below HO107.out hb); replace HO113 := a0 (Kd.R_below HO113.out hb); replace HO116 := a0 (Kd.R_below HO116.out hb); replace HO122 := a0 (Kd.R_below HO122.out hb); replace HO126 := a0 (Kd.R_below HO126.out hb); replace HO130 := a0 (Kd.R_below HO130.out hb); replace BK104 := a0 (bB hb BK104.out); replace BK110 := a0 (bB hb BK110.out); replace BK119 := a0 (bB hb BK119.out); replace BK127 := a0 (bB hb BK127.out); replace BK132 := a0 (bB hb BK132.out); replace HB := a0 (below_step (by repeat (first | exact HB.out | apply below_alloc | apply pw_below_drewN | apply below_drew1 | refine below_set ?_ GE104.out | refine below_set ?_ GE110.out | refine below_set ?_ GE119.out | refine below_set ?_ GE127.out | refine below_set ?_ GE132.out)) hb); (try clear hb); (try clear hb2); (try clear hk); (try clear hi); obtain ⟨hcz76_0, hcz76_1, hfz76_0, hfz76_1⟩ := c2 BK132.out) | (go_at_call 56; (with_reducible refine (sign_Text.calls k _ _ t128 t136 _ ?side1 ?side2 A18.out).mono ?_); (case side1 => repeat (first | exact (Kd.R_reads' HO130.out).2.2 | (with_reducible refine Kd.C_alloc ?_ _) | (with_reducible refine Kd.C_drewN ?_ _) | (with_reducible refine Kd.C_drew ?_))); (case side2 => exact (Kd.R_reads' HO130.out).2.1); rintro e w77 ⟨rfl, hb⟩; replace HO103 := a0 (Kd.R_below HO103.out hb); replace HO107 := a0 (Kd.R_below HO107.out hb); replace HO113 := a0 (Kd.R_below HO113.out hb); replace HO116 := a0 (Kd.R_below HO116.out hb); replace HO122 := a0 (Kd.R_below HO122.out hb); replace HO126 := a0 (Kd.R_below HO126.out hb); replace HO130 := a0 (Kd.R_below HO130.out hb); replace BK104 := a0 (bB hb BK104.out); replace BK110 := a0 (bB hb BK110.out); replace BK119 := a0 (bB hb BK119.out); replace BK127 := a0 (bB hb BK127.out); replace BK132 := a0 (bB hb BK132.out); replace HB := a0 (below_step (by repeat (first | exact HB.out | apply below_alloc | apply pw_below_drewN | apply below_drew1 | refine below_set ?_ GE104.out | refine below_set ?_ GE110.out | refine below_set ?_ GE119.out | refine below_set ?_ GE127.out | refine below_set ?_ GE132.out)) hb); (try clear hb); (try clear hb2); (try clear hk); (try clear hi); obtain ⟨hcz78_0, hcz78_1, hfz78_0, hfz78_1⟩ := c2 BK132.out; obtain ⟨hcz79_0, hcz79_1, hfz79_0, hfz79_1⟩ := c2 BK104.out) | (go_at_call 57; (with_reducible refine (line_Right.calls _ _ t101 2 true _ ?side1 ?side2 A21.out).mono ?_); (case side1 => repeat (first | exact (Kd.R_reads' HO103.out).2.2 | (with_reducible refine Kd.C_alloc ?_ _) | (with_reducible refine Kd.C_drewN ?_ _) | (with_reducible refine Kd.C_drew ?_))); (case side2 => exact (Kd.R_reads' HO103.out).2.1); rintro e w80 ⟨rfl, hb⟩; replace HO103 := a0 (Kd.R_below HO103.out hb); replace HO107 := a0 (Kd.R_below HO107.out hb); replace HO113 := a0 (Kd.R_below HO113.out hb); replace HO116 := a0 (Kd.R_below HO116.out hb); replace HO122 := a0 (Kd.R_below HO122.out hb); replace HO126 := a0 (Kd.R_below HO126.out hb); replace HO130 := a0 (Kd.R_below HO130.out hb); replace BK104 := a0 (bB hb BK104.out); replace BK110 := a0 (bB hb BK110.out); replace BK119 := a0 (bB hb BK119.out); replace BK127 := a0 (bB hb BK127.out); replace BK132 := a0 (bB hb BK132.out); replace HB := a0 (below_step (by repeat (first | exact HB.out | apply below_alloc | apply pw_below_drewN | apply below_drew1 | refine below_set ?_ GE104.out | refine below_set ?_ GE110.out | refine below_set ?_ GE119.out | refine below_set ?_ GE127.out | refine below_set ?_ GE132.out)) hb); (try clear hb); (try clear hb2); (try clear hk); (try clear hi); obtain ⟨hcz81_0, hcz81_1, hfz81_0, hfz81_1⟩ := c2 BK104.out) | (go_at_call 68; (with_reducible refine (line_Same.calls k _ _ t101 2 _ _ t101 2 true _ ?side1 ?side2 ?side3 ?side4 A23.out).mono ?_); (case side1 => repeat (first | exact (Kd.R_reads' HO103.out).2.2 | (with_reducible refine Kd.C_alloc ?_ _) | (with_reducible refine Kd.C_drewN ?_ _) | (with_reducible refine Kd.C_drew ?_))); (case side2 => exact (Kd.R_reads' HO103.out).2.1); (case side3 => repeat (first | exact (Kd.R_reads' HO103.out).2.2 | (with_reducible refine Kd.C_alloc ?_ _) | (with_reducible refine Kd.C_drewN ?_ _) | (with_reducible refine Kd.C_drew ?_))); (case side4 => exact (Kd.R_reads' HO103.out).2.1); rintro e w82 ⟨rfl, hb⟩; replace HO103 := a0 (Kd.R_below HO103.out hb); replace HO107 := a0 (Kd.R_below HO107.out hb); replace HO113 := a0 (Kd.R_below HO113.out hb); replace HO116 := a0 (Kd.R_below HO116.out hb); replace HO122 := a0 (Kd.R_below HO122.out hb); replace HO126 := a0 (Kd.R_below HO126.out hb); replace HO130 := a0 (Kd.R_below HO130.out hb); replace BK104 := a0 (bB hb BK104.out); replace BK110 := a0 (bB hb BK110.out); replace BK119 := a0 (bB hb BK119.out); replace BK127 := a0 (bB hb BK127.out); replace BK132 := a0 (bB hb BK132.out); replace HB := a0 (below_step (by repeat (first | exact HB.out | apply below_alloc | apply pw_below_drewN | apply below_drew1 | refine below_set ?_ GE104.out | refine below_set ?_ GE110.out | refine below_set ?_ GE119.out | refine below_set ?_ GE127.out | refine below_set ?_ GE132.out)) hb); (try clear hb); (try clear hb2); (try clear hk); (try clear hi); obtain ⟨hcz83_0, hcz83_1, hfz83_0, hfz83_1⟩ := c2 BK104.out) | (go_at_call 38; (with_reducible refine (line_Insert.calls (fun k_ => some k_ = (.slice Ao31 t101.length co31 : Value).ownBlock) _ _ t101 2 (fun k_ => some k_ = (.slice Ao74 t124.length co74 : Value).ownBlock) _ _ t124 t139 t142 _ ?side1 ?side2 A25.out).mono ?_); (case side1 => exact Kd.R_V (Kd.R_tight rfl (Kd.R_types (Kd.R_types (Kd.R_types (Kd.R_types (Kd.R_types (HO103.out) BK104.out (by decide)) BK110.out (by decide)) BK119.out (by decide)) BK127.out (by decide)) BK132.out (by decide)))); (case side2 => exact Kd.R_V (Kd.R_tight rfl (Kd.R_types (Kd.R_types (Kd.R_types (Kd.R_types (Kd.R_types (HO126.out) BK104.out (by decide)) BK110.out (by decide)) BK119.out (by decide)) BK127.out (by decide)) BK132.out (by decide)))); rintro e w84 ⟨v140, rfl, ho0, hb⟩; have HO141 := a0 (Kd.R_lower (Kd.R_new' (Kd.R_new' (Kd.R_new' (Kd.R_new' (Kd.R_new' (Kd.R_new' (Kd.R_new' (Kd.R_mono (ok' := fun k_ => True) ho0 (fun _ hk_ => trivial)) (Kd.R_lt HO103.out)) (Kd.R_lt HO107.out)) (Kd.R_lt HO113.out)) (Kd.R_lt HO116.out)) (Kd.R_lt HO122.out)) (Kd.R_lt HO126.out)) (Kd.R_lt HO130.out)) (below_size (by repeat (first | exact HB.out | apply below_alloc | apply pw_below_drewN | apply below_drew1 | refine below_set ?_ GE104.out | refine below_set ?_ GE110.out | refine below_set ?_ GE119.out | refine below_set ?_ GE127.out | refine below_set ?_ GE132.out)))); replace HO103 := a0 (Kd.R_elder' HO103.out (Kd.R_base ho0) hb); replace HO107 := a0 (Kd.R_elder' HO107.out (Kd.R_base ho0) hb); replace HO113 := a0 (Kd.R_elder' HO113.out (Kd.R_base ho0) hb); replace HO116 := a0 (Kd.R_elder' HO116.out (Kd.R_base ho0) hb); replace HO122 := a0 (Kd.R_elder' HO122.out (Kd.R_base ho0) hb); replace HO126 := a0 (Kd.R_elder' HO126.out (Kd.R_base ho0) hb); replace HO130 := a0 (Kd.R_elder' HO130.out (Kd.R_base ho0) hb); replace BK104 := a0 (bB hb BK104.out); replace BK110 := a0 (bB hb BK110.out); replace BK119 := a0 (bB hb BK119.out); replace BK127 := a0 (bB hb BK127.out); replace BK132 := a0 (bB hb BK132.out); replace HB := a0 (below_step (by repeat (first | exact HB.out | apply below_alloc | apply pw_below_drewN | apply below_drew1 | refine below_set ?_ GE104.out | refine below_set ?_ GE110.out | refine below_set ?_ GE119.out | refine below_set ?_ GE127.out | refine below_set ?_ GE132.out)) hb); (try clear hb); (try clear hb2); (try clear hk); (try clear hi); (try clear ho0); obtain ⟨Ao85, co85, eo85⟩ := Kd.R_slice HO141.out; subst eo85) | (go_at_call 56; (with_reducible refine (sign_Text.calls k _ _ t139 t143 _ ?side1 ?side2 A26.out).mono ?_); (case side1 => repeat (first | exact (Kd.R_reads' HO141.out).2.2 | (with_reducible refine Kd.C_alloc ?_ _) | (with_reducible refine Kd.C_drewN ?_ _) | (with_reducible refine Kd.C_drew ?_))); (case side2 => exact (Kd.R_reads' HO141.out).2.1); rintro e w86 ⟨rfl, hb⟩; replace HO103 := a0 (Kd.R_below HO103.out hb); replace HO107 := a0 (Kd.R_below HO107.out hb); replace HO113 := a0 (Kd.R_below HO113.out hb); replace HO116 := a0 (Kd.R_below HO116.out hb); replace HO122 := a0 (Kd.R_below HO122.out hb); replace HO126 := a0 (Kd.R_below HO126.out hb); replace HO130 := a0 (Kd.R_below HO130.out hb); replace HO141 := a0 (Kd.R_below HO141.out hb); replace BK104 := a0 (bB hb BK104.out); replace BK110 := a0 (bB hb BK110.out); replace BK119 := a0 (bB hb BK119.out); replace BK127 := a0 (bB hb BK127.out); replace BK132 := a0 (bB hb BK132.out); replace HB := a0 (below_step (by repeat (first | exact HB.out | apply below_alloc | apply pw_below_drewN | apply below_drew1 | refine below_set ?_ GE104.out | refine below_set ?_ GE110.out | refine below_set ?_ GE119.out | refine below_set ?_ GE127.out | refine below_set ?_ GE132.out)) hb); (try clear hb); (try clear hb2); (try clear hk); (try clear hi); obtain ⟨hcz87_0, hcz87_1, hfz87_0, hfz87_1⟩ := c2 BK104.out) | (go_at_call 69; (with_reducible refine (line_Replace.calls (fun k_ => some k_ = (.slice Ao31 t101.length co31 : Value).ownBlock) _ _ t101 2 0 2 (fun k_ => some k_ = (.slice Ao74 t124.length co74 : Value).ownBlock) _ _ t124 t144 t147 _ ?side1 ?side2 A28.out).mono ?_); (case side1 => exact Kd.R_V (Kd.R_tight rfl (Kd.R_types (Kd.R_types (Kd.R_types (Kd.R_types (Kd.R_types (HO103.out) BK104.out (by decide)) BK110.out (by decide)) BK119.out (by decide)) BK127.out (by decide)) BK132.out (by decide)))); (case side2 => exact Kd.R_V (Kd.R_tight rfl (Kd.R_types (Kd.R_types (Kd.R_types (Kd.R_types (Kd.R_types (HO126.out) BK104.out (by decide)) BK110.out (by decide)) BK119.out (by decide)) BK127.out (by decide)) BK132.out (by decide)))); rintro e w88 ⟨v145, rfl, ho0, hb⟩; have HO146 := a0 (Kd.R_lower (Kd.R_new' (Kd.R_new' (Kd.R_new' (Kd.R_new' (Kd.R_new' (Kd.R_new' (Kd.R_new' (Kd.R_new' (Kd.R_mono (ok' := fun k_ => True) ho0 (fun _ hk_ => trivial)) (Kd.R_lt HO103.out)) (Kd.R_lt HO107.out)) (Kd.R_lt HO113.out)) (Kd.R_lt HO116.out)) (Kd.R_lt HO122.out)) (Kd.R_lt HO126.out)) (Kd.R_lt HO130.out)) (Kd.R_lt HO141.out)) (below_size (by repeat (first | exact HB.out | apply below_alloc | apply pw_below_drewN | apply below_drew1 | refine below_set ?_ GE104.out | refine below_set ?_ GE110.out | refine below_set ?_ GE119.out | refine below_set ?_ GE127.out | refine below_set ?_ GE132.out)))); replace HO103 := a0 (Kd.R_elder' HO103.out (Kd.R_base ho0) hb); replace HO107 := a0 (Kd.R_elder' HO107.out (Kd.R_base ho0) hb); replace HO113 := a0 (Kd.R_elder' HO113.out (Kd.R_base ho0) hb); replace HO116 := a0 (Kd.R_elder' HO116.out (Kd.R_base ho0) hb); replace HO122 := a0 (Kd.R_elder' HO122.out (Kd.R_base ho0) hb); replace HO126 := a0 (Kd.R_elder' HO126.out (Kd.R_base ho0) hb); replace HO130 := a0 (Kd.R_elder' HO130.out (Kd.R_base ho0) hb); replace HO141 := a0 (Kd.R_elder' HO141.out (Kd.R_base ho0) hb); replace BK104 := a0 (bB hb BK104.out); replace BK110 := a0 (bB hb BK110.out); replace BK119 := a0 (bB hb BK119.out); replace BK127 := a0 (bB hb BK127.out); replace BK132 := a0 (bB hb BK132.out); replace HB := a0 (below_step (by repeat (first | exact HB.out | apply below_alloc | apply pw_below_drewN | apply below_drew1 | refine below_set ?_ GE104.out | refine below_set ?_ GE110.out | refine below_set ?_ GE119.out | refine below_set ?_ GE127.out | refine below_set ?_ GE132.out)) hb); (try clear hb); (try clear hb2); (try clear hk); (try clear hi); (try clear ho0); obtain ⟨Ao89, co89, eo89⟩ := Kd.R_slice HO146.out; subst eo89) | (go_at_call 56; (with_reducible refine (sign_Text.calls k _ _ t144 t148 _ ?side1 ?side2 A29.out).mono ?_); (case side1 => repeat (first | exact (Kd.R_reads' HO146.out).2.2 | (with_reducible refine Kd.C_alloc ?_ _) | (with_reducible refine Kd.C_drewN ?_ _) | (with_reducible refine Kd.C_drew ?_))); (case side2 => exact (Kd.R_reads' HO146.out).2.1); rintro e w90 ⟨rfl, hb⟩; replace HO103 := a0 (Kd.R_below HO103.out hb); replace HO107 := a0 (Kd.R_below HO107.out hb); replace HO113 := a0 (Kd.R_below HO113.out hb); replace HO116 := a0 (Kd.R_below HO116.out hb); replace HO122 := a0 (Kd.R_below HO122.out hb); replace HO126 := a0 (Kd.R_below HO126.out hb); replace HO130 := a0 (Kd.R_below HO130.out hb); replace HO141 := a0 (Kd.R_below HO141.out hb); replace HO146 := a0 (Kd.R_below HO146.out hb); replace BK104 := a0 (bB hb BK104.out); replace BK110 := a0 (bB hb BK110.out); replace BK119 := a0 (bB hb BK119.out); replace BK127 := a0 (bB hb BK127.out); replace BK132 := a0 (bB hb BK132.out); replace HB := a0 (below_step (by repeat (first | exact HB.out | apply below_alloc | apply pw_below_drewN | apply below_drew1 | refine below_set ?_ GE104.out | refine below_set ?_ GE110.out | refine below_set ?_ GE119.out | refine below_set ?_ GE127.out | refine below_set ?_ GE132.out)) hb); (try clear hb); (try clear hb2); (try clear hk); (try clear hi)))
              go_ret
              exact ⟨by first | rfl | (simp [errW_none, errW_some] <;> rfl) | (simp [*, errW_none, errW_some] <;> rfl), by repeat (first | exact HB.out | apply below_alloc | apply pw_below_drewN | apply below_drew1 | refine below_set ?_ GE104.out | refine below_set ?_ GE110.out | refine below_set ?_ GE119.out | refine below_set ?_ GE127.out | refine below_set ?_ GE132.out)⟩
             ·rw [if_neg c27] at H
              have c27b0 : (t143.toList == ([97, 98, 98, 32, 32, 99, 100] : List UInt8)) = false := beq_eq_false_iff_ne.mpr c27
              have c27b1 : (t143.toList != ([97, 98, 98, 32, 32, 99, 100] : List UInt8)) = true := bne_iff_ne.mpr c27
              obtain rfl := Option.some.inj H
              exact absurd HR_.out (by decide)
            ·replace c24 := Bool.eq_false_iff.mpr c24
             subst c24
             have H1 : (some false) = some r := by rw [if_neg (show ¬ (false = true) by decide)] at H; exact H
             clear H
             have H := H1
             clear H1
             obtain rfl := Option.some.inj H
             exact absurd HR_.out (by decide)
           ·replace c22 := Bool.eq_false_iff.mpr c22
            subst c22
            have H1 : (some false) = some r := by rw [if_neg (show ¬ (false = true) by decide)] at H; exact H
            clear H
            have H := H1
            clear H1
            obtain rfl := Option.some.inj H
            exact absurd HR_.out (by decide)
          ·rw [if_neg c20] at H
           have c20b0 : (t131 == 5) = false := beq_eq_false_iff_ne.mpr c20
           have c20b1 : (t131 != 5) = true := bne_iff_ne.mpr c20
           obtain rfl := Option.some.inj H
           exact absurd HR_.out (by decide)
         ·rw [if_neg c19] at H
          have c19b0 : (t136.toList == ([97, 98, 32, 67, 100] : List UInt8)) = false := beq_eq_false_iff_ne.mpr c19
          have c19b1 : (t136.toList != ([97, 98, 32, 67, 100] : List UInt8)) = true := bne_iff_ne.mpr c19
          obtain rfl := Option.some.inj H
          exact absurd HR_.out (by decide)
        ·rw [if_neg c17] at H
         have c17b0 : (t135.toList == ([98, 32] : List UInt8)) = false := beq_eq_false_iff_ne.mpr c17
         have c17b1 : (t135.toList != ([98, 32] : List UInt8)) = true := bne_iff_ne.mpr c17
         obtain rfl := Option.some.inj H
         exact absurd HR_.out (by decide)
       ·rw [if_neg c15] at H
        have c15b0 : (t123 == 1) = false := beq_eq_false_iff_ne.mpr c15
        have c15b1 : (t123 != 1) = true := bne_iff_ne.mpr c15
        obtain rfl := Option.some.inj H
        exact absurd HR_.out (by decide)
      ·rw [if_neg c14] at H
       have c14b0 : (t134.toList == ([97, 99, 100] : List UInt8)) = false := beq_eq_false_iff_ne.mpr c14
       have c14b1 : (t134.toList != ([97, 99, 100] : List UInt8)) = true := bne_iff_ne.mpr c14
       obtain rfl := Option.some.inj H
       exact absurd HR_.out (by decide)
     ·rw [if_neg c12] at H
      have c12b0 : ((t114.length : Int) == 2) = false := beq_eq_false_iff_ne.mpr c12
      have c12b1 : ((t114.length : Int) != 2) = true := bne_iff_ne.mpr c12
      obtain rfl := Option.some.inj H
      exact absurd HR_.out (by decide)
   ·rw [if_neg c10] at H
    have c10b0 : (t108 == 5) = false := beq_eq_false_iff_ne.mpr c10
    have c10b1 : (t108 != 5) = true := bne_iff_ne.mpr c10
    obtain rfl := Option.some.inj H
    exact absurd HR_.out (by decide)
  ·rw [if_neg c9] at H
   have c9b0 : (t133.toList == ([99, 100, 32, 97, 98] : List UInt8)) = false := beq_eq_false_iff_ne.mpr c9
   have c9b1 : (t133.toList != ([99, 100, 32, 97, 98] : List UInt8)) = true := bne_iff_ne.mpr c9
   obtain rfl := Option.some.inj H
   exact absurd HR_.out (by decide)
 ·replace c7 := Bool.eq_false_iff.mpr c7
  subst c7
  have H1 : (some false) = some r := by rw [if_neg (show ¬ (false = true) by decide)] at H; exact H
  clear H
  have H := H1
  clear H1
  obtain rfl := Option.some.inj H
  exact absurd HR_.out (by decide)

theorem dactyllaw17_awake0.true_ : dactyllaw17_awake0.f 90 = some true := by decide +kernel
def dactyllaw17_awake.f : Option Bool := some true
theorem dactyllaw17_awake.calls (r : Bool) (w : World) (h : dactyllaw17_awake.f = some r) : Calls Try.prog 29 #[] w fun e w' => e = .returned (.bool r) ∧ Below w.heap.size w w' := by
 obtain rfl := Option.some.inj h
 exact dactyllaw17_awake0.calls 90 true w rfl dactyllaw17_awake0.true_

end Go.Proofs.Ytemoocoedibbpab.X

namespace Go.Proofs.Ytemoocoedibbpab.X
open Go.RowKit Go.Proofs.YtemoocoedibbpabW.PrintWords Go.Proofs.YtemoocoedibbpabW.PrintLast Go.Proofs.YtemoocoedibbpabW.PrintMore
attribute [local go_sem] max2_int min2_int max_two min_two max_three min_three max_four min_four
set_option linter.unusedVariables false
set_option linter.unusedSimpArgs false

/-! ### dactylref04_Join: function 34 -/
def dactylref04_Join.f (l0 : List (S47)) (l1 : List (S47)) : Option ((List (S47))) := (some (([] : List (S47)) : List (S47))).bind fun y101 => (if y101.length + l0.length < 8796093022208 then ((some (y101 ++ l0 : List (S47))).bind fun y104 => (if y104.length + l1.length < 8796093022208 then (some (y104 ++ l1)) else (none))) else (none))
set_option maxHeartbeats 8000000 in
set_option maxRecDepth 100000 in
theorem dactylref04_Join.calls (A0 : Option Addr) (c0 : Nat) (l0 : List (S47)) (A1 : Option Addr) (c1 : Nat) (l1 : List (S47)) (r : List (S47)) (w : World) (hr0 : Kd.C k47 w A0 l0.length l0) (hc0 : l0.length ≤ c0) (hr1 : Kd.C k47 w A1 l1.length l1) (hc1 : l1.length ≤ c1) (h : dactylref04_Join.f l0 l1 = some r) :
  Calls Try.prog 34 #[.slice A0 l0.length c0, .slice A1 l1.length c1] w fun e w' => ∃ v0_ : Value, e = .returned (v0_) ∧ Kd.R k47 47 w' w.heap.size (fun _ => True) v0_ r ∧ Below w.heap.size w w' := by
 have HR0 := Aside0.mk hr0
 have HC0 := Aside0.mk hc0
 clear hr0 hc0
 have HR1 := Aside0.mk hr1
 have HC1 := Aside0.mk hc1
 clear hr1 hc1
 have HB := Aside0.mk (Below.refl w.heap.size w)
 have H : ((some (([] : List (S47)) : List (S47))).bind fun y101 => (if y101.length + l0.length < 8796093022208 then ((some (y101 ++ l0 : List (S47))).bind fun y104 => (if y104.length + l1.length < 8796093022208 then (some (y104 ++ l1)) else (none))) else (none))) = some r := h
 clear h
 obtain ⟨y101, hy101⟩ : ∃ y_ : List (S47), y_ = (([] : List (S47))) := ⟨_, rfl⟩
 replace H : (if y101.length + l0.length < 8796093022208 then ((some (y101 ++ l0 : List (S47))).bind fun y104 => (if y104.length + l1.length < 8796093022208 then (some (y104 ++ l1)) else (none))) else (none)) = some r := by first | (rw [hy101]; with_reducible exact H) | (have H2_ := (Option.bind_some _ _).symm.trans H; rw [hy101]; with_reducible exact H2_) | (have H2_ := (Option.bind_some _ _).symm.trans H; with_reducible exact H2_) | with_reducible exact H | (rw [hy101]; exact H) | exact H
 have Ny101 := Aside0.mk hy101
 clear hy101
 by_cases c3 : y101.length + l0.length < 8796093022208
 ·rw [if_pos c3] at H
  have LMc3 := Aside0.mk c3
  clear c3
  obtain ⟨y104, hy104⟩ : ∃ y_ : List (S47), y_ = (y101 ++ l0) := ⟨_, rfl⟩
  replace H : (if y104.length + l1.length < 8796093022208 then (some (y104 ++ l1)) else (none)) = some r := by first | (rw [hy104]; with_reducible exact H) | (have H2_ := (Option.bind_some _ _).symm.trans H; rw [hy104]; with_reducible exact H2_) | (have H2_ := (Option.bind_some _ _).symm.trans H; with_reducible exact H2_) | with_reducible exact H | (rw [hy104]; exact H) | exact H
  have Ny104 := Aside0.mk hy104
  clear hy104
  by_cases c4 : y104.length + l1.length < 8796093022208
  ·rw [if_pos c4] at H
   have LMc4 := Aside0.mk c4
   clear c4
   obtain ⟨y107, hy107⟩ : ∃ y_ : List (S47), y_ = (y104 ++ l1) := ⟨_, rfl⟩
   replace H : (some y107) = some r := by first | (rw [hy107]; with_reducible exact H) | (have H2_ := (Option.bind_some _ _).symm.trans H; rw [hy107]; with_reducible exact H2_) | (have H2_ := (Option.bind_some _ _).symm.trans H; with_reducible exact H2_) | with_reducible exact H | (rw [hy107]; exact H) | exact H
   have Ny107 := Aside0.mk hy107
   clear hy107
   obtain rfl := Option.some.inj H
   go_enter Try.func34, Try.ntmps34
   go_wp2_with (first | ((with_reducible refine gate_dst (N := 5) rfl ?_); refine Kd.R_lit k47 _ 47 ?hg (N := 5) ?hd (xs := ([] : List (S47))) (inner := []) (ok := fun _ => True) (okp := fun _ => True) ?hr ?hp (fun _ hk => hk) trivial (Below.refl _ _) (Nat.le_refl _) (by simp) ?_; (case hd => rfl); (case hg => rfl); (case hr => first | (go_simp; done) | (go_simp; rfl)); (case hp => exact (Reps.none _ _)); intro v102 w5 ho6 hb hg_ hnew_; clear hg_ hnew_; (first | rw [← Ny101.out] at ho6 | (simp only [Int.reduceToNat] at ho6; rw [← Ny101.out] at ho6)); have HO103 := a0 (Kd.R_lower ho6 (below_size HB.out)); replace HB := a0 (below_step HB.out hb); clear hb ho6) | ((with_reducible refine gate_builtin (b := .append) (xs := #[.tmp 5, .tmp 6]) rfl ?_); at_builtin; refine Kd.R_append_rows k47 (w0 := w) w.heap.size rfl (.tmp 5) (.tmp 6) 22 47 (.agg #[(.int .i64 0), (.int .i64 0)]) 16 rfl Try.underlying22 info47 rfl (by decide) (by omega) v102 y101 l0 _ _ _ (fun _ => True) (fun _ => False) rfl rfl ?aO ?aR (fun _ _ h => h) (fun _ h => h.elim) ?aF ?aB ?aS ?aL ?_; (case aR => repeat (first | exact (Kd.C_below HR0.out HB.out) | (with_reducible refine Kd.C_alloc ?_ _) | (with_reducible refine Kd.C_drewN ?_ _) | (with_reducible refine Kd.C_drew ?_))); (case aB => exact HB.out); (case aF => exact (fun _ _ => trivial)); (case aO => exact HO103.out); (case aS => exact (below_size HB.out)); (case aL => have := LMc3.out; omega); intro v105 w7 ho hb hg hat; rw [← Ny104.out] at ho; have n0_ := Aside0.mk (hb); have n1_ := Aside0.mk (ho); clear HB; clear HO103; have HB := n0_; have HO106 := n1_; clear n0_ n1_; clear ho hb hg hat) | ((with_reducible refine gate_builtin (b := .append) (xs := #[.tmp 7, .tmp 8]) rfl ?_); at_builtin; refine Kd.R_append_rows k47 (w0 := w) w.heap.size rfl (.tmp 7) (.tmp 8) 22 47 (.agg #[(.int .i64 0), (.int .i64 0)]) 16 rfl Try.underlying22 info47 rfl (by decide) (by omega) v105 y104 l1 _ _ _ (fun _ => True) (fun _ => False) rfl rfl ?aO ?aR (fun _ _ h => h) (fun _ h => h.elim) ?aF ?aB ?aS ?aL ?_; (case aR => repeat (first | exact (Kd.C_below HR1.out HB.out) | (with_reducible refine Kd.C_alloc ?_ _) | (with_reducible refine Kd.C_drewN ?_ _) | (with_reducible refine Kd.C_drew ?_))); (case aB => exact HB.out); (case aF => exact (fun _ _ => trivial)); (case aO => exact HO106.out); (case aS => exact (below_size HB.out)); (case aL => have := LMc4.out; omega); intro v108 w8 ho hb hg hat; rw [← Ny107.out] at ho; have n0_ := Aside0.mk (hb); have n1_ := Aside0.mk (ho); clear HB; clear HO106; have HB := n0_; have HO109 := n1_; clear n0_ n1_; clear ho hb hg hat))
   go_ret
   exact ⟨_, by first | rfl | (simp [errW_none, errW_some] <;> rfl) | (simp [*, errW_none, errW_some] <;> rfl), by exact HO109.out, by repeat (first | (with_reducible first | exact HB.out | apply below_alloc | apply pw_below_drewN | apply below_drew1) | exact HB.out)⟩
  ·rw [if_neg c4] at H
   exact absurd H (by simp)
 ·rw [if_neg c3] at H
  exact absurd H (by simp)

end Go.Proofs.Ytemoocoedibbpab.X

namespace Go.Proofs.Ytemoocoedibbpab.X
open Go.RowKit Go.Proofs.YtemoocoedibbpabW.PrintWords Go.Proofs.YtemoocoedibbpabW.PrintLast Go.Proofs.YtemoocoedibbpabW.PrintMore
attribute [local go_sem] max2_int min2_int max_two min_two max_three min_three max_four min_four
set_option linter.unusedVariables false
set_option linter.unusedSimpArgs false

abbrev dactylref04_SameB.f := @dactylref04_Same.f
abbrev dactylref04_SameB.mono := @dactylref04_Same.mono
theorem dactylref04_SameB.calls (k : Nat) (A0 : Option Addr) (c0 : Nat) (l0 : List (S47)) (A1 : Option Addr) (c1 : Nat) (l1 : List (S47)) (r : Bool) (w : World) (hr0 : Kd.C k47 w A0 l0.length l0) (hc0 : l0.length ≤ c0) (hr1 : Kd.C k47 w A1 l1.length l1) (hc1 : l1.length ≤ c1) (h : dactylref04_Same.f k l0 l1 = some r) :
    Calls Try.prog 26 #[.slice A0 l0.length c0, .slice A1 l1.length c1] w fun e w' => e = .returned (.bool r) ∧ Below w.heap.size w w' := (dactylref04_Same.calls k A0 c0 l0 A1 c1 l1 r w hr0 hc0 hr1 hc1 h).mono fun _ _ h => ⟨h.1, h.2.below⟩

end Go.Proofs.Ytemoocoedibbpab.X

namespace Go.Proofs.Ytemoocoedibbpab.X
open Go.RowKit Go.Proofs.YtemoocoedibbpabW.PrintWords Go.Proofs.YtemoocoedibbpabW.PrintLast Go.Proofs.YtemoocoedibbpabW.PrintMore
attribute [local go_sem] max2_int min2_int max_two min_two max_three min_three max_four min_four
set_option linter.unusedVariables false
set_option linter.unusedSimpArgs false

/-! ### dactylref01_Low: function 36 -/
def dactylref01_Low.f (a0 : Int) (a1 : Int) : Option (Int) := if a0 < a1 then (some a0) else (some a1)
set_option maxHeartbeats 8000000 in
set_option maxRecDepth 100000 in
theorem dactylref01_Low.calls (a0 : Int) (a1 : Int) (r : Int) (w : World) (h : dactylref01_Low.f a0 a1 = some r) :
    Calls Try.prog 36 #[.int .i64 a0, .int .i64 a1] w fun e w' => e = .returned (.int .i64 r) ∧ Drawn0 w w' := by
  have H : (if a0 < a1 then (some a0) else (some a1)) = some r := h
  clear h
  by_cases c3 : a0 < a1
  · rw [if_pos c3] at H
    have c3b0 : decide (a0 < a1) = true := decide_eq_true c3
    clear c3
    obtain rfl := Option.some.inj H
    go_enter Try.func36, Try.ntmps36
    go_wp2
    go_ret
    exact ⟨by first | rfl | (simp; done) | (simp [*]; done), by repeat (first | exact Drawn0.refl _ | apply Drawn0.step)⟩
  · rw [if_neg c3] at H
    have c3b0 : decide (a0 < a1) = false := decide_eq_false c3
    clear c3
    obtain rfl := Option.some.inj H
    go_enter Try.func36, Try.ntmps36
    go_wp2
    go_ret
    exact ⟨by first | rfl | (simp; done) | (simp [*]; done), by repeat (first | exact Drawn0.refl _ | apply Drawn0.step)⟩

end Go.Proofs.Ytemoocoedibbpab.X

namespace Go.Proofs.Ytemoocoedibbpab.X
open Go.RowKit Go.Proofs.YtemoocoedibbpabW.PrintWords Go.Proofs.YtemoocoedibbpabW.PrintLast Go.Proofs.YtemoocoedibbpabW.PrintMore
attribute [local go_sem] max2_int min2_int max_two min_two max_three min_three max_four min_four
set_option linter.unusedVariables false
set_option linter.unusedSimpArgs false

abbrev dactylref01_LowB.f := @dactylref01_Low.f
theorem dactylref01_LowB.mono : True := trivial
theorem dactylref01_LowB.calls (a0 : Int) (a1 : Int) (r : Int) (w : World) (h : dactylref01_Low.f a0 a1 = some r) :
    Calls Try.prog 36 #[.int .i64 a0, .int .i64 a1] w fun e w' => e = .returned (.int .i64 r) ∧ Below w.heap.size w w' := (dactylref01_Low.calls a0 a1 r w h).mono fun _ _ h => ⟨h.1, h.2.below⟩

end Go.Proofs.Ytemoocoedibbpab.X

namespace Go.Proofs.Ytemoocoedibbpab.X
open Go.RowKit Go.Proofs.YtemoocoedibbpabW.PrintWords Go.Proofs.YtemoocoedibbpabW.PrintLast Go.Proofs.YtemoocoedibbpabW.PrintMore
attribute [local go_sem] max2_int min2_int max_two min_two max_three min_three max_four min_four
set_option linter.unusedVariables false
set_option linter.unusedSimpArgs false

/-! ### dactylref01_High: function 78 -/
def dactylref01_High.f (a0 : Int) (a1 : Int) : Option (Int) := if a0 > a1 then (some a0) else (some a1)
set_option maxHeartbeats 8000000 in
set_option maxRecDepth 100000 in
theorem dactylref01_High.calls (a0 : Int) (a1 : Int) (r : Int) (w : World) (h : dactylref01_High.f a0 a1 = some r) :
    Calls Try.prog 78 #[.int .i64 a0, .int .i64 a1] w fun e w' => e = .returned (.int .i64 r) ∧ Drawn0 w w' := by
  have H : (if a0 > a1 then (some a0) else (some a1)) = some r := h
  clear h
  by_cases c3 : a0 > a1
  · rw [if_pos c3] at H
    have c3b0 : decide (a1 < a0) = true := decide_eq_true c3
    clear c3
    obtain rfl := Option.some.inj H
    go_enter Try.func78, Try.ntmps78
    go_wp2
    go_ret
    exact ⟨by first | rfl | (simp; done) | (simp [*]; done), by repeat (first | exact Drawn0.refl _ | apply Drawn0.step)⟩
  · rw [if_neg c3] at H
    have c3b0 : decide (a1 < a0) = false := decide_eq_false c3
    clear c3
    obtain rfl := Option.some.inj H
    go_enter Try.func78, Try.ntmps78
    go_wp2
    go_ret
    exact ⟨by first | rfl | (simp; done) | (simp [*]; done), by repeat (first | exact Drawn0.refl _ | apply Drawn0.step)⟩

end Go.Proofs.Ytemoocoedibbpab.X

namespace Go.Proofs.Ytemoocoedibbpab.X
open Go.RowKit Go.Proofs.YtemoocoedibbpabW.PrintWords Go.Proofs.YtemoocoedibbpabW.PrintLast Go.Proofs.YtemoocoedibbpabW.PrintMore
attribute [local go_sem] max2_int min2_int max_two min_two max_three min_three max_four min_four
set_option linter.unusedVariables false
set_option linter.unusedSimpArgs false

/-! ### dactylref16_Place: function 37 -/
def dactylref16_Place.f (a0 : Int) (a1 : Int) : Option (Int) := (dactylref01_High.f a1 0).bind fun t101 => ((dactylref01_Low.f t101 a0).bind fun t102 => (some t102))
set_option maxHeartbeats 8000000 in
set_option maxRecDepth 100000 in
theorem dactylref16_Place.calls (a0 : Int) (a1 : Int) (r : Int) (w : World) (h : dactylref16_Place.f a0 a1 = some r) :
    Calls Try.prog 37 #[.int .i64 a0, .int .i64 a1] w fun e w' => e = .returned (.int .i64 r) ∧ Drawn0 w w' := by
  have H : ((dactylref01_High.f a1 0).bind fun t101 => ((dactylref01_Low.f t101 a0).bind fun t102 => (some t102))) = some r := h
  clear h
  replace H := Option.bind_eq_some_iff.mp H
  obtain ⟨t101, A30, H⟩ := H
  replace H : ((dactylref01_Low.f t101 a0).bind fun t102 => (some t102)) = some r := H
  have A3 := Aside0.mk A30
  clear A30
  replace H := Option.bind_eq_some_iff.mp H
  obtain ⟨t102, A40, H⟩ := H
  replace H : (some t102) = some r := H
  have A4 := Aside0.mk A40
  clear A40
  obtain rfl := Option.some.inj H
  go_enter Try.func37, Try.ntmps37
  go_wp2_with (first | ((with_reducible refine gate_callee (f := 78) rfl ?_); refine goesL_ (some 6) rfl rfl Try.func78 (by kernel_rfl) rfl #[.int .i64 a1, .int .i64 0] rfl (by (try simp only [List.map_toArray, List.map_cons, List.map_nil]); first | done | rfl | (simp only [List.length_drop, List.length_take]; rfl)) ?_; (with_reducible refine (dactylref01_High.calls a1 0 t101 _ A3.out).mono ?_); rintro e w' ⟨rfl, ⟨nd, rfl⟩⟩; refine ⟨_, rfl, ?_⟩) | ((with_reducible refine gate_callee (f := 36) rfl ?_); refine goesL_ (some 8) rfl rfl Try.func36 (by kernel_rfl) rfl #[.int .i64 t101, .int .i64 a0] rfl (by (try simp only [List.map_toArray, List.map_cons, List.map_nil]); first | done | rfl | (simp only [List.length_drop, List.length_take]; rfl)) ?_; (with_reducible refine (dactylref01_Low.calls t101 a0 t102 _ A4.out).mono ?_); rintro e w' ⟨rfl, ⟨nd, rfl⟩⟩; refine ⟨_, rfl, ?_⟩))
  go_ret
  exact ⟨by first | rfl | (simp; done) | (simp [*]; done), by repeat (first | exact Drawn0.refl _ | apply Drawn0.step)⟩

end Go.Proofs.Ytemoocoedibbpab.X

namespace Go.Proofs.Ytemoocoedibbpab.X
open Go.RowKit Go.Proofs.YtemoocoedibbpabW.PrintWords Go.Proofs.YtemoocoedibbpabW.PrintLast Go.Proofs.YtemoocoedibbpabW.PrintMore
attribute [local go_sem] max2_int min2_int max_two min_two max_three min_three max_four min_four
set_option linter.unusedVariables false
set_option linter.unusedSimpArgs false

abbrev dactylref16_PlaceB.f := @dactylref16_Place.f
theorem dactylref16_PlaceB.mono : True := trivial
theorem dactylref16_PlaceB.calls (a0 : Int) (a1 : Int) (r : Int) (w : World) (h : dactylref16_Place.f a0 a1 = some r) :
    Calls Try.prog 37 #[.int .i64 a0, .int .i64 a1] w fun e w' => e = .returned (.int .i64 r) ∧ Below w.heap.size w w' := (dactylref16_Place.calls a0 a1 r w h).mono fun _ _ h => ⟨h.1, h.2.below⟩

end Go.Proofs.Ytemoocoedibbpab.X

namespace Go.Proofs.Ytemoocoedibbpab.X
open Go.RowKit Go.Proofs.YtemoocoedibbpabW.PrintWords Go.Proofs.YtemoocoedibbpabW.PrintLast Go.Proofs.YtemoocoedibbpabW.PrintMore
attribute [local go_sem] max2_int min2_int max_two min_two max_three min_three max_four min_four
set_option linter.unusedVariables false
set_option linter.unusedSimpArgs false

/-! ### dactylref17_Letter: function 40 -/
def dactylref17_Letter.j0 : Nat → Int → Bool → Bool → Option (Int)
 | 0, _, _, _ => none
 | k + 1, x0, x1, x13 => if x13 = true then (some (wrap64 (x0 - 32))) else (if x1 = true then (some x0) else (if x0 ≥ 65 then (if x0 ≤ 90 then (some (wrap64 (x0 + 32))) else (some x0)) else (some x0)))
def dactylref17_Letter.f (k : Nat) (a0 : Int) (a1 : Bool) : Option (Int) := if a1 = true then (if a0 ≥ 97 then (dactylref17_Letter.j0 k a0 a1 (decide (a0 ≤ 122))) else (dactylref17_Letter.j0 k a0 a1 false)) else (dactylref17_Letter.j0 k a0 a1 false)
theorem dactylref17_Letter.mono_l : ∀ k, (∀ y0 y1 y2, LeO (dactylref17_Letter.j0 k y0 y1 y2) (dactylref17_Letter.j0 (k + 1) y0 y1 y2))
 | 0 => fun _ _ _ r h => by simp [dactylref17_Letter.j0] at h
 | k + 1 => by
  have ih0 := dactylref17_Letter.mono_l k
  ·intro y0 y1 y2
   unfold dactylref17_Letter.j0
   repeat' first
   | (with_reducible exact ih0 _ _ _)
   | (with_reducible exact LeO.refl _)
   | (with_reducible exact LeO.none _)
   | (with_reducible refine LeO.ite ?_ ?_)
   | (with_reducible refine LeO.bind ?_ (fun _ => ?_))
   | exact ih0 _ _ _
   | exact LeO.none _
   | refine LeO.ite ?_ ?_
   | refine LeO.bind ?_ (fun _ => ?_)
theorem dactylref17_Letter.mono : ∀ a0 a1 k, LeO (dactylref17_Letter.f k a0 a1) (dactylref17_Letter.f (k + 1) a0 a1) := by
 intro a0 a1 k
 have ih0 := dactylref17_Letter.mono_l k
 unfold dactylref17_Letter.f
 repeat' first
   | (with_reducible exact ih0 _ _ _)
   | (with_reducible exact LeO.refl _)
   | (with_reducible exact LeO.none _)
   | (with_reducible refine LeO.ite ?_ ?_)
   | (with_reducible refine LeO.bind ?_ (fun _ => ?_))
   | exact ih0 _ _ _
   | exact LeO.none _
   | refine LeO.ite ?_ ?_
   | refine LeO.bind ?_ (fun _ => ?_)
set_option maxHeartbeats 8000000 in
set_option maxRecDepth 100000 in
theorem dactylref17_Letter.calls (k : Nat) (a0 : Int) (a1 : Bool) (r : Int) (w : World) (h : dactylref17_Letter.f k a0 a1 = some r) :
  Calls Try.prog 40 #[.int .i64 a0, .bool a1] w fun e w' => e = .returned (.int .i64 r) ∧ Drawn0 w w' := by
 have H : (if a1 = true then (if a0 ≥ 97 then (dactylref17_Letter.j0 k a0 a1 (decide (a0 ≤ 122))) else (dactylref17_Letter.j0 k a0 a1 false)) else (dactylref17_Letter.j0 k a0 a1 false)) = some r := h
 clear h
 have HC3 := Aside0.mk H
 clear H
 go_enter Try.func40, Try.ntmps40
 go_upto_region 1 with (fail)
 go_cut [13] (fun v13 wc => ∃ (kq : Nat) (x13_2 : Bool), v13 = .bool x13_2 ∧ Aside0 (dactylref17_Letter.j0 kq a0 a1 x13_2 = some r) ∧ Aside0 (kq ≤ k) ∧ Drawn0 w wc)
 case first =>
  have H := HC3.out
  clear HC3
  by_cases c4 : a1 = true
  ·subst c4
   have H1 : (if a0 ≥ 97 then (dactylref17_Letter.j0 k a0 true (decide (a0 ≤ 122))) else (dactylref17_Letter.j0 k a0 true false)) = some r := by rw [if_pos rfl] at H; exact H
   clear H
   have H := H1
   clear H1
   by_cases c5 : a0 ≥ 97
   ·rw [if_pos c5] at H
    have c5b0 : decide (97 ≤ a0) = true := decide_eq_true c5
    clear c5
    (first | rw [c5b0] | (simp only [i64_w, i32_w]; rw [c5b0]) | skip)
    have H' := Aside0.mk H
    clear H
    go_wp2
    go_meet
    case rel => exact ⟨_, (decide (a0 ≤ 122)), (by first | rfl | (simp; done) | (simp [*]; done)), H', ⟨by first | omega | exact Nat.le_refl _⟩, by repeat (first | exact Drawn0.refl _ | apply Drawn0.step)⟩
   ·rw [if_neg c5] at H
    have c5b0 : decide (97 ≤ a0) = false := decide_eq_false c5
    clear c5
    (first | rw [c5b0] | (simp only [i64_w, i32_w]; rw [c5b0]) | skip)
    have H' := Aside0.mk H
    clear H
    go_wp2
    go_meet
    case rel => exact ⟨_, (false), (by first | rfl | (simp; done) | (simp [*]; done)), H', ⟨by first | omega | exact Nat.le_refl _⟩, by repeat (first | exact Drawn0.refl _ | apply Drawn0.step)⟩
  ·replace c4 := Bool.eq_false_iff.mpr c4
   subst c4
   have H1 : (dactylref17_Letter.j0 k a0 false false) = some r := by rw [if_neg (show ¬ (false = true) by decide)] at H; exact H
   clear H
   have H := H1
   clear H1
   have H' := Aside0.mk H
   clear H
   go_wp2
   go_meet
   case rel => exact ⟨_, (false), (by first | rfl | (simp; done) | (simp [*]; done)), H', ⟨by first | omega | exact Nat.le_refl _⟩, by repeat (first | exact Drawn0.refl _ | apply Drawn0.step)⟩
 case rest =>
  clear HC3
  try clear p2
  try clear c4
  try clear c5
  try clear c5b0
  obtain ⟨kq, x13_2, rfl, HA, HJ2, ⟨mc2, rfl⟩⟩ := hcut
  cases kq with
  | zero => exact absurd HA.out (by simp [dactylref17_Letter.j0])
  | succ kj2 =>
   have H := HA.out
   clear HA
   simp only [dactylref17_Letter.j0] at H
   by_cases c6 : x13_2 = true
   ·subst c6
    have H1 : (some (wrap64 (a0 - 32))) = some r := by rw [if_pos rfl] at H; exact H
    clear H
    have H := H1
    clear H1
    obtain rfl := Option.some.inj H
    go_wp2
    go_ret
    exact ⟨by first | rfl | (simp; done) | (simp [*]; done), by repeat (first | exact Drawn0.refl _ | apply Drawn0.step)⟩
   ·replace c6 := Bool.eq_false_iff.mpr c6
    subst c6
    have H1 : (if a1 = true then (some a0) else (if a0 ≥ 65 then (if a0 ≤ 90 then (some (wrap64 (a0 + 32))) else (some a0)) else (some a0))) = some r := by rw [if_neg (show ¬ (false = true) by decide)] at H; exact H
    clear H
    have H := H1
    clear H1
    by_cases c7 : a1 = true
    ·subst c7
     have H1 : (some a0) = some r := by rw [if_pos rfl] at H; exact H
     clear H
     have H := H1
     clear H1
     obtain rfl := Option.some.inj H
     go_wp2
     go_ret
     exact ⟨by first | rfl | (simp; done) | (simp [*]; done), by repeat (first | exact Drawn0.refl _ | apply Drawn0.step)⟩
    ·replace c7 := Bool.eq_false_iff.mpr c7
     subst c7
     have H1 : (if a0 ≥ 65 then (if a0 ≤ 90 then (some (wrap64 (a0 + 32))) else (some a0)) else (some a0)) = some r := by rw [if_neg (show ¬ (false = true) by decide)] at H; exact H
     clear H
     have H := H1
     clear H1
     by_cases c8 : a0 ≥ 65
     ·rw [if_pos c8] at H
      have c8b0 : decide (65 ≤ a0) = true := decide_eq_true c8
      clear c8
      by_cases c9 : a0 ≤ 90
      ·rw [if_pos c9] at H
       have c9b0 : decide (a0 ≤ 90) = true := decide_eq_true c9
       clear c9
       obtain rfl := Option.some.inj H
       go_wp2
       go_ret
       exact ⟨by first | rfl | (simp; done) | (simp [*]; done), by repeat (first | exact Drawn0.refl _ | apply Drawn0.step)⟩
      ·rw [if_neg c9] at H
       have c9b0 : decide (a0 ≤ 90) = false := decide_eq_false c9
       clear c9
       obtain rfl := Option.some.inj H
       go_wp2
       go_ret
       exact ⟨by first | rfl | (simp; done) | (simp [*]; done), by repeat (first | exact Drawn0.refl _ | apply Drawn0.step)⟩
     ·rw [if_neg c8] at H
      have c8b0 : decide (65 ≤ a0) = false := decide_eq_false c8
      clear c8
      obtain rfl := Option.some.inj H
      go_wp2
      go_ret
      exact ⟨by first | rfl | (simp; done) | (simp [*]; done), by repeat (first | exact Drawn0.refl _ | apply Drawn0.step)⟩

end Go.Proofs.Ytemoocoedibbpab.X

namespace Go.Proofs.Ytemoocoedibbpab.X
open Go.RowKit Go.Proofs.YtemoocoedibbpabW.PrintWords Go.Proofs.YtemoocoedibbpabW.PrintLast Go.Proofs.YtemoocoedibbpabW.PrintMore
attribute [local go_sem] max2_int min2_int max_two min_two max_three min_three max_four min_four
set_option linter.unusedVariables false
set_option linter.unusedSimpArgs false

abbrev dactylref17_LetterB.f := @dactylref17_Letter.f
abbrev dactylref17_LetterB.mono := @dactylref17_Letter.mono
theorem dactylref17_LetterB.calls (k : Nat) (a0 : Int) (a1 : Bool) (r : Int) (w : World) (h : dactylref17_Letter.f k a0 a1 = some r) :
    Calls Try.prog 40 #[.int .i64 a0, .bool a1] w fun e w' => e = .returned (.int .i64 r) ∧ Below w.heap.size w w' := (dactylref17_Letter.calls k a0 a1 r w h).mono fun _ _ h => ⟨h.1, h.2.below⟩

end Go.Proofs.Ytemoocoedibbpab.X

namespace Go.Proofs.Ytemoocoedibbpab.X
open Go.RowKit Go.Proofs.YtemoocoedibbpabW.PrintWords Go.Proofs.YtemoocoedibbpabW.PrintLast Go.Proofs.YtemoocoedibbpabW.PrintMore
attribute [local go_sem] max2_int min2_int max_two min_two max_three min_three max_four min_four
set_option linter.unusedVariables false
set_option linter.unusedSimpArgs false

/-! ### dactyllaw17_LineBack: function 7 -/
mutual
def dactyllaw17_LineBack.j0 : Nat → Bool → List (S47) → Int → Int → Int → Int → Option (Bool)
 | 0, _, _, _, _, _, _ => none
 | k + 1, x18, x102000, x102001, x103000, x103001, x103002 => if x18 = true then ((dactyllaw17_awake.f).bind fun t105 => (some t105)) else ((dactylref04_Join.f x102000 ([] : List (S47))).bind fun t106 => ((line_Cut.f k x102000 x102001 x103000 x103001).bind fun bt110 => ((dactylref16_PlaceB.f (x102000.length : Int) x103000).bind fun t118 => ((dactylref16_PlaceB.f (x102000.length : Int) x103001).bind fun t119 => ((dactylref01_LowB.f t118 t119).bind fun t120 => ((line_Insert.f bt110.1 t120 bt110.2.2).bind fun bt121 => ((line_Case.f x102000 x102001 x103000 x103002).bind fun bt126 => (dactyllaw17_LineBack.l0 k 0 x102000 x102001 t106 x102001 bt121.1 bt121.2 bt126.1 bt126.2))))))))
def dactyllaw17_LineBack.l0 : Nat → Int → List (S47) → Int → List (S47) → Int → List (S47) → Int → List (S47) → Int → Option (Bool)
 | 0, _, _, _, _, _, _, _, _, _ => none
 | k + 1, x10, x102000, x102001, x110000, x110001, x126000, x126001, x131000, x131001 => if x10 < (x102000.length : Int) then (if (x131000.length : Int) = (x102000.length : Int) then (if 0 ≤ x10 then (if x10 < (x131000.length : Int) then (if ((rd_T47 x131000 x10).f1) = ((rd_T47 x102000 x10).f1) then ((dactylref17_LetterB.f k ((rd_T47 x131000 x10).f0) true).bind fun t134 => ((dactylref17_LetterB.f k ((rd_T47 x102000 x10).f0) true).bind fun t136 => (if t134 = t136 then (dactyllaw17_LineBack.l0 k (wrap64 (x10 + 1)) x102000 x102001 x110000 x110001 x126000 x126001 x131000 x131001) else (some false)))) else (some false)) else (none)) else (none)) else (some false)) else ((line_Swap.f x102000 x102001).bind fun bt137 => ((line_SwapWords.f k x102000 x102001).bind fun bt142 => ((dactyllaw17_awake.f).bind fun t147 => (if t147 = true then ((dactylref04_SameB.f k x126000 x102000).bind fun t148 => (if t148 = true then ((dactylref16_Same.f k x102000 x102001 x110000 x110001).bind fun t149 => (some t149)) else (some false))) else (some false)))))
end
def dactyllaw17_LineBack.f (k : Nat) (l0_0 : List (S47)) (a0_1 : Int) (a1_0 : Int) (a1_1 : Int) (a1_2 : Int) : Option (Bool) := (dactyllaw17_Light.f l0_0 a0_1).bind fun t103 => (if t103 = true then ((dactylref17_May.f k l0_0 a0_1).bind fun t104 => (dactyllaw17_LineBack.j0 k (!t104) l0_0 a0_1 a1_0 a1_1 a1_2)) else (dactyllaw17_LineBack.j0 k true l0_0 a0_1 a1_0 a1_1 a1_2))
theorem dactyllaw17_LineBack.mono_l : ∀ k, (∀ y0 y1 y2 y3 y4 y5, LeO (dactyllaw17_LineBack.j0 k y0 y1 y2 y3 y4 y5) (dactyllaw17_LineBack.j0 (k + 1) y0 y1 y2 y3 y4 y5)) ∧ (∀ y0 y1 y2 y3 y4 y5 y6 y7 y8, LeO (dactyllaw17_LineBack.l0 k y0 y1 y2 y3 y4 y5 y6 y7 y8) (dactyllaw17_LineBack.l0 (k + 1) y0 y1 y2 y3 y4 y5 y6 y7 y8))
 | 0 => ⟨fun _ _ _ _ _ _ r h => by simp [dactyllaw17_LineBack.j0] at h, fun _ _ _ _ _ _ _ _ _ r h => by simp [dactyllaw17_LineBack.l0] at h⟩
 | k + 1 => by
  obtain ⟨ih0, ih1⟩ := dactyllaw17_LineBack.mono_l k
  refine ⟨?_, ?_⟩
  ·intro y0 y1 y2 y3 y4 y5
   unfold dactyllaw17_LineBack.j0
   repeat' first
   | (with_reducible exact ih0 _ _ _ _ _ _)
   | (with_reducible exact ih1 _ _ _ _ _ _ _ _ _)
   | (with_reducible exact dactylref04_SameB.mono _ _ _)
   | (with_reducible exact dactylref16_Same.mono _ _ _ _ _)
   | (with_reducible exact dactylref17_LetterB.mono _ _ _)
   | (with_reducible exact dactylref17_May.mono _ _ _)
   | (with_reducible exact line_Cut.mono _ _ _ _ _)
   | (with_reducible exact line_SwapWords.mono _ _ _)
   | (with_reducible exact LeO.refl _)
   | (with_reducible exact LeO.none _)
   | (with_reducible refine LeO.ite ?_ ?_)
   | (with_reducible refine LeO.bind ?_ (fun _ => ?_))
   | exact ih0 _ _ _ _ _ _
   | exact ih1 _ _ _ _ _ _ _ _ _
   | exact dactylref04_SameB.mono _ _ _
   | exact dactylref16_Same.mono _ _ _ _ _
   | exact dactylref17_LetterB.mono _ _ _
   | exact dactylref17_May.mono _ _ _
   | exact line_Cut.mono _ _ _ _ _
   | exact line_SwapWords.mono _ _ _
   | exact LeO.none _
   | refine LeO.ite ?_ ?_
   | refine LeO.bind ?_ (fun _ => ?_)
  ·intro y0 y1 y2 y3 y4 y5 y6 y7 y8
   unfold dactyllaw17_LineBack.l0
   repeat' first
   | (with_reducible exact ih0 _ _ _ _ _ _)
   | (with_reducible exact ih1 _ _ _ _ _ _ _ _ _)
   | (with_reducible exact dactylref04_SameB.mono _ _ _)
   | (with_reducible exact dactylref16_Same.mono _ _ _ _ _)
   | (with_reducible exact dactylref17_LetterB.mono _ _ _)
   | (with_reducible exact dactylref17_May.mono _ _ _)
   | (with_reducible exact line_Cut.mono _ _ _ _ _)
   | (with_reducible exact line_SwapWords.mono _ _ _)
   | (with_reducible exact LeO.refl _)
   | (with_reducible exact LeO.none _)
   | (with_reducible refine LeO.ite ?_ ?_)
   | (with_reducible refine LeO.bind ?_ (fun _ => ?_))
   | exact ih0 _ _ _ _ _ _
   | exact ih1 _ _ _ _ _ _ _ _ _
   | exact dactylref04_SameB.mono _ _ _
   | exact dactylref16_Same.mono _ _ _ _ _
   | exact dactylref17_LetterB.mono _ _ _
   | exact dactylref17_May.mono _ _ _
   | exact line_Cut.mono _ _ _ _ _
   | exact line_SwapWords.mono _ _ _
   | exact LeO.none _
   | refine LeO.ite ?_ ?_
   | refine LeO.bind ?_ (fun _ => ?_)
theorem dactyllaw17_LineBack.mono : ∀ a0 a1 a2 a3 a4 k, LeO (dactyllaw17_LineBack.f k a0 a1 a2 a3 a4) (dactyllaw17_LineBack.f (k + 1) a0 a1 a2 a3 a4) := by
 intro a0 a1 a2 a3 a4 k
 obtain ⟨ih0, ih1⟩ := dactyllaw17_LineBack.mono_l k
 unfold dactyllaw17_LineBack.f
 repeat' first
   | (with_reducible exact ih0 _ _ _ _ _ _)
   | (with_reducible exact ih1 _ _ _ _ _ _ _ _ _)
   | (with_reducible exact dactylref04_SameB.mono _ _ _)
   | (with_reducible exact dactylref16_Same.mono _ _ _ _ _)
   | (with_reducible exact dactylref17_LetterB.mono _ _ _)
   | (with_reducible exact dactylref17_May.mono _ _ _)
   | (with_reducible exact line_Cut.mono _ _ _ _ _)
   | (with_reducible exact line_SwapWords.mono _ _ _)
   | (with_reducible exact LeO.refl _)
   | (with_reducible exact LeO.none _)
   | (with_reducible refine LeO.ite ?_ ?_)
   | (with_reducible refine LeO.bind ?_ (fun _ => ?_))
   | exact ih0 _ _ _ _ _ _
   | exact ih1 _ _ _ _ _ _ _ _ _
   | exact dactylref04_SameB.mono _ _ _
   | exact dactylref16_Same.mono _ _ _ _ _
   | exact dactylref17_LetterB.mono _ _ _
   | exact dactylref17_May.mono _ _ _
   | exact line_Cut.mono _ _ _ _ _
   | exact line_SwapWords.mono _ _ _
   | exact LeO.none _
   | refine LeO.ite ?_ ?_
   | refine LeO.bind ?_ (fun _ => ?_)
def dactyllaw17_LineBack.T3 : Bool × List (List Nat × List Nat) := (true, [([], []), ([0], [0]), ([1], [1]), ([], []), ([3], [3]), ([2, 4], [2, 4]), ([], []), ([6, 5, 2, 0, 1, 2, 3, 4, 5, 6], [5, 6])])
def dactyllaw17_LineBack.B3 : List Nat := [0, 1, 3, 0, 8, 31, 0, 127]
theorem dactyllaw17_LineBack.tab3 : rtab .any (opsOf Try.f7 3) = dactyllaw17_LineBack.T3 := by kernel_rfl
theorem dactyllaw17_LineBack.bits3 : waitsOk dactyllaw17_LineBack.T3.2 dactyllaw17_LineBack.B3 = true := by kernel_rfl
def dactyllaw17_LineBack.T5 : Bool × List (List Nat × List Nat) := (true, [([], []), ([0], [0]), ([1], [1]), ([], []), ([3], [3]), ([2, 4], [2, 4]), ([], []), ([6], [6]), ([7], [7]), ([], []), ([9], [9]), ([8, 10, 5], [8, 10]), ([5, 11, 11], [5, 11]), ([0, 1, 2, 3, 4, 5, 6, 7, 8, 9, 10, 11, 12], []), ([13, 12, 12, 0, 1, 2, 3, 4, 5, 6, 7, 8, 9, 10, 11, 12], [12, 13])])
def dactyllaw17_LineBack.B5 : List Nat := [0, 1, 3, 0, 8, 31, 0, 64, 192, 0, 512, 2047, 4095, 8191, 16383]
theorem dactyllaw17_LineBack.tab5 : rtab .any (opsOf Try.f7 5) = dactyllaw17_LineBack.T5 := by kernel_rfl
theorem dactyllaw17_LineBack.bits5 : waitsOk dactyllaw17_LineBack.T5.2 dactyllaw17_LineBack.B5 = true := by kernel_rfl
def dactyllaw17_LineBack.T11 : Bool × List (List Nat × List Nat) := (true, [([], []), ([0], [0]), ([1], [1]), ([], []), ([3], [3]), ([4], [4]), ([2, 5], [2, 5]), ([6], [6]), ([7], [7]), ([8, 7], [7, 8]), ([7], [7]), ([9, 10, 7], [7, 9, 10]), ([11, 7], [7, 11]), ([12, 7], [7, 12]), ([7], [7]), ([14, 7], [7, 14]), ([7], [7]), ([15, 16, 7], [7, 15, 16]), ([17, 7], [7, 17]), ([18, 7], [7, 18]), ([13, 19, 7], [7, 13, 19]), ([7, 20], [7, 20]), ([21, 7], [21]), ([22], [22]), ([23, 22], [22, 23]), ([22], [22]), ([24, 25, 22], [22, 24, 25]), ([26, 22], [22, 26]), ([27, 22], [22, 27]), ([28, 22, 22], [22, 28]), ([22], [22]), ([30, 22], [22, 30]), ([22], [22]), ([31, 32, 22], [22, 31, 32]), ([33, 22], [22, 33]), ([34, 22], [22, 34]), ([35, 29, 22], [22, 35]), ([29, 36, 22], [22, 29, 36]), ([22, 37], [22, 37])])
def dactyllaw17_LineBack.B11 : List Nat := [0, 1, 3, 0, 8, 24, 63, 127, 255, 511, 255, 2047, 4095, 8191, 255, 16639, 255, 114943, 246015, 508159, 1048575, 2097151, 4194303, 8388607, 16777215, 8388607, 67108863, 134217727, 268435455, 536870911, 8388607, 1082130431, 8388607, 7524581375, 16114515967, 33294385151, 68719476735, 137438953471, 274877906943]
theorem dactyllaw17_LineBack.tab11 : rtab .any (opsOf Try.f7 11) = dactyllaw17_LineBack.T11 := by kernel_rfl
theorem dactyllaw17_LineBack.bits11 : waitsOk dactyllaw17_LineBack.T11.2 dactyllaw17_LineBack.B11 = true := by kernel_rfl
set_option maxHeartbeats 8000000 in
set_option maxRecDepth 100000 in
theorem dactyllaw17_LineBack.calls (k : Nat) (A0_0 : Option Addr) (c0_0 : Nat) (l0_0 : List (S47)) (a0_1 : Int) (a1_0 : Int) (a1_1 : Int) (a1_2 : Int) (r : Bool) (w : World) (hr0_0 : Kd.C k47 w A0_0 l0_0.length l0_0) (hc0_0 : l0_0.length ≤ c0_0) (hr_ : r = true) (h : dactyllaw17_LineBack.f k l0_0 a0_1 a1_0 a1_1 a1_2 = some r) :
  Calls Try.prog 7 #[.agg #[.slice A0_0 l0_0.length c0_0, .int .i64 a0_1], .agg #[.int .i64 a1_0, .int .i64 a1_1, .int .i64 a1_2]] w fun e w' => e = .returned (.bool r) ∧ Below w.heap.size w w' := by
 have HR_ := Aside0.mk hr_
 clear hr_
 have hu24 := Try.underlying24
 have hu53 := Try.underlying53
 have HR0_0 := Aside0.mk hr0_0
 have HC0_0 := Aside0.mk hc0_0
 clear hr0_0 hc0_0
 have HB := Aside0.mk (Below.refl w.heap.size w)
 have H : ((dactyllaw17_Light.f l0_0 a0_1).bind fun t103 => (if t103 = true then ((dactylref17_May.f k l0_0 a0_1).bind fun t104 => (dactyllaw17_LineBack.j0 k (!t104) l0_0 a0_1 a1_0 a1_1 a1_2)) else (dactyllaw17_LineBack.j0 k true l0_0 a0_1 a1_0 a1_1 a1_2))) = some r := h
 clear h
 have HC3 := Aside0.mk H
 clear H
 go_enter Try.func7, Try.ntmps7
 go_upto_region 1 with (first | ((with_reducible refine gate_dst (N := 2) rfl ?_); refine box_event ?hg (N := 2) ?hd (cs := #[.slice A0_0 l0_0.length c0_0, .int .i64 a0_1]) (t := 24) ?hr ?_; (case hd => rfl); (case hg => rfl); (case hr => first | (go_simp; done) | (go_simp; rfl)); intro gb101 hg w4 hbox hb; have BK101 := a0 (hbox); have GW101 := a0 ((by rw [hg]; exact (below_size (by repeat (first | exact HB.out | apply below_alloc | apply pw_below_drewN | apply below_drew1))) : w.heap.size ≤ gb101)); have GE101 := a0 ((by rw [hg]; exact (below_size (by repeat (first | exact HB.out | apply below_alloc | apply pw_below_drewN | apply below_drew1))) : w.heap.size ≤ gb101)); replace HB := a0 (below_step (by repeat (first | exact HB.out | apply below_alloc | apply pw_below_drewN | apply below_drew1)) hb); clear hb hbox hg) | ((with_reducible refine gate_dst (N := 3) rfl ?_); refine box_event ?hg (N := 3) ?hd (cs := #[.int .i64 a1_0, .int .i64 a1_1, .int .i64 a1_2]) (t := 53) ?hr ?_; (case hd => rfl); (case hg => rfl); (case hr => first | (go_simp; done) | (go_simp; rfl)); intro gb102 hg w5 hbox hb; have BK102 := a0 (hbox); have GW102 := a0 ((by rw [hg]; exact (below_size (by repeat (first | exact HB.out | apply below_alloc | apply pw_below_drewN | apply below_drew1 | refine below_set ?_ GE101.out))) : w.heap.size ≤ gb102)); have GE102 := a0 ((by rw [hg]; exact (below_size (by repeat (first | exact HB.out | apply below_alloc | apply pw_below_drewN | apply below_drew1 | refine below_set ?_ GE101.out))) : w.heap.size ≤ gb102)); replace HB := a0 (below_step (by repeat (first | exact HB.out | apply below_alloc | apply pw_below_drewN | apply below_drew1 | refine below_set ?_ GE101.out)) hb); have NB101_102 := a0 ((by rw [hg]; exact Nat.ne_of_lt (blk_lt BK101.out) : gb101 ≠ gb102)); have NB102_101 := a0 ((by rw [hg]; exact Nat.ne_of_gt (blk_lt BK101.out) : gb102 ≠ gb101)); replace BK101 := a0 (bB hb BK101.out); clear hb hbox hg))
 (try simp only [Act.put, List.setIfInBounds_toArray, List.set_cons_zero, List.set_cons_succ])
 go_cut [18] (fun v18 wc => ∃ (kq : Nat) (x18_2 : Bool), v18 = .bool x18_2 ∧ Aside0 (dactyllaw17_LineBack.j0 kq x18_2 l0_0 a0_1 a1_0 a1_1 a1_2 = some r) ∧ Aside0 (kq ≤ k) ∧ Aside0 (wc.heap[gb101]? = some (.cells #[(.slice A0_0 l0_0.length c0_0), .int .i64 a0_1] 24 (0, 0))) ∧ Aside0 (wc.heap[gb102]? = some (.cells #[.int .i64 a1_0, .int .i64 a1_1, .int .i64 a1_2] 53 (0, 0))) ∧ Aside0 (Below w.heap.size w wc))
 case first =>
  have H := HC3.out
  clear HC3
  replace H := Option.bind_eq_some_iff.mp H
  obtain ⟨t103, A60, H⟩ := H
  try dsimp only at H
  have A6 := Aside0.mk A60
  clear A60
  by_cases c7 : t103 = true
  ·subst c7
   have H1 : ((dactylref17_May.f k l0_0 a0_1).bind fun t104 => (dactyllaw17_LineBack.j0 k (!t104) l0_0 a0_1 a1_0 a1_1 a1_2)) = some r := by rw [if_pos rfl] at H; exact H
   clear H
   have H := H1
   clear H1
   replace H := Option.bind_eq_some_iff.mp H
   obtain ⟨t104, A80, H⟩ := H
   try dsimp only at H
   have A8 := Aside0.mk A80
   clear A80
   have H' := Aside0.mk H
   clear H
   have hnb9 := NB101_102.out
   have hnc9 := NB102_101.out
   obtain ⟨hcz10_0, hcz10_1, hfz10_0, hfz10_1⟩ := c2 BK101.out
   go_wp2_with (first | ((with_reducible refine gate_callee (f := 28) rfl ?_); refine gL (some 12) Try.func28 (by kernel_rfl) #[.agg #[.slice A0_0 l0_0.length c0_0, .int .i64 a0_1]] rfl rfl rfl rfl rfl ?_; (with_reducible refine (dactyllaw17_Light.calls _ _ l0_0 a0_1 true _ ?side1 ?side2 A6.out).mono ?_); (case side1 => repeat (first | exact (Kd.C_below HR0_0.out HB.out) | (with_reducible refine Kd.C_alloc ?_ _) | (with_reducible refine Kd.C_drewN ?_ _) | (with_reducible refine Kd.C_drew ?_))); (case side2 => exact HC0_0.out); rintro e w11 ⟨rfl, hb⟩; refine ⟨_, rfl, ?_⟩; replace BK101 := a0 (bB hb BK101.out); replace BK102 := a0 (bB hb BK102.out); replace HB := a0 (below_step (by repeat (first | exact HB.out | apply below_alloc | apply pw_below_drewN | apply below_drew1 | refine below_set ?_ GE101.out | refine below_set ?_ GE102.out)) hb); clear hb; obtain ⟨hcz12_0, hcz12_1, hfz12_0, hfz12_1⟩ := c2 BK101.out) | (go_at_call 14; (with_reducible refine (dactylref17_May.calls k _ _ l0_0 a0_1 t104 _ ?side1 ?side2 A8.out).mono ?_); (case side1 => repeat (first | exact (Kd.C_below HR0_0.out HB.out) | (with_reducible refine Kd.C_alloc ?_ _) | (with_reducible refine Kd.C_drewN ?_ _) | (with_reducible refine Kd.C_drew ?_))); (case side2 => exact HC0_0.out); rintro e w13 ⟨rfl, hb⟩; replace BK101 := a0 (bB hb BK101.out); replace BK102 := a0 (bB hb BK102.out); replace HB := a0 (below_step (by repeat (first | exact HB.out | apply below_alloc | apply pw_below_drewN | apply below_drew1 | refine below_set ?_ GE101.out | refine below_set ?_ GE102.out)) hb); (try clear hb); (try clear hb2); (try clear hk); (try clear hi)))
   go_meet
   case rel => exact ⟨_, (!t104), (by first | rfl | (simp; done) | (simp [*]; done)), H', ⟨by first | omega | exact Nat.le_refl _⟩, ⟨by exact BK101.out⟩, ⟨by exact BK102.out⟩, ⟨by repeat (first | exact HB.out | apply below_alloc | apply pw_below_drewN | apply below_drew1 | refine below_set ?_ GE101.out | refine below_set ?_ GE102.out)⟩⟩
  ·replace c7 := Bool.eq_false_iff.mpr c7
   subst c7
   have H1 : (dactyllaw17_LineBack.j0 k true l0_0 a0_1 a1_0 a1_1 a1_2) = some r := by rw [if_neg (show ¬ (false = true) by decide)] at H; exact H
   clear H
   have H := H1
   clear H1
   have H' := Aside0.mk H
   clear H
   have hnb14 := NB101_102.out
   have hnc14 := NB102_101.out
   obtain ⟨hcz15_0, hcz15_1, hfz15_0, hfz15_1⟩ := c2 BK101.out
   go_wp2_with (first | ((with_reducible refine gate_callee (f := 28) rfl ?_); refine gL (some 12) Try.func28 (by kernel_rfl) #[.agg #[.slice A0_0 l0_0.length c0_0, .int .i64 a0_1]] rfl rfl rfl rfl rfl ?_; (with_reducible refine (dactyllaw17_Light.calls _ _ l0_0 a0_1 false _ ?side1 ?side2 A6.out).mono ?_); (case side1 => repeat (first | exact (Kd.C_below HR0_0.out HB.out) | (with_reducible refine Kd.C_alloc ?_ _) | (with_reducible refine Kd.C_drewN ?_ _) | (with_reducible refine Kd.C_drew ?_))); (case side2 => exact HC0_0.out); rintro e w16 ⟨rfl, hb⟩; refine ⟨_, rfl, ?_⟩; replace BK101 := a0 (bB hb BK101.out); replace BK102 := a0 (bB hb BK102.out); replace HB := a0 (below_step (by repeat (first | exact HB.out | apply below_alloc | apply pw_below_drewN | apply below_drew1 | refine below_set ?_ GE101.out | refine below_set ?_ GE102.out)) hb); (try clear hb); (try clear hb2); (try clear hk); (try clear hi)))
   go_meet
   case rel => exact ⟨_, (true), (by first | rfl | (simp; done) | (simp [*]; done)), H', ⟨by first | omega | exact Nat.le_refl _⟩, ⟨by exact BK101.out⟩, ⟨by exact BK102.out⟩, ⟨by repeat (first | exact HB.out | apply below_alloc | apply pw_below_drewN | apply below_drew1 | refine below_set ?_ GE101.out | refine below_set ?_ GE102.out)⟩⟩
 case rest =>
  clear HC3
  try clear c1
  try clear c2
  try clear p2
  try clear c7
  try clear c9
  try clear c14
  try clear hcz10_0
  try clear hcz10_1
  try clear hcz12_0
  try clear hcz12_1
  try clear hcz15_0
  try clear hcz15_1
  try clear hfz10_0
  try clear hfz10_1
  try clear hfz12_0
  try clear hfz12_1
  try clear hfz15_0
  try clear hfz15_1
  obtain ⟨kq, x18_2, rfl, HA, HJ2, BK101, BK102, HB⟩ := hcut
  cases kq with
  | zero => exact absurd HA.out (by simp [dactyllaw17_LineBack.j0])
  | succ kj2 =>
   have H := HA.out
   clear HA
   simp only [dactyllaw17_LineBack.j0] at H
   by_cases c17 : x18_2 = true
   ·subst c17
    have H1 : ((dactyllaw17_awake.f).bind fun t105 => (some t105)) = some r := by rw [if_pos rfl] at H; exact H
    clear H
    have H := H1
    clear H1
    replace H := Option.bind_eq_some_iff.mp H
    obtain ⟨t105, A180, H⟩ := H
    try dsimp only at H
    have A18 := Aside0.mk A180
    clear A180
    obtain rfl := Option.some.inj H
    go_wp2_with (first | ((with_reducible refine gate_callee (f := 29) rfl ?_); refine gL (some 19) Try.func29 (by kernel_rfl) #[] rfl rfl rfl rfl rfl ?_; (with_reducible refine (dactyllaw17_awake.calls  t105 _ A18.out).mono ?_); rintro e w19 ⟨rfl, hb⟩; refine ⟨_, rfl, ?_⟩; replace BK101 := a0 (bB hb BK101.out); replace BK102 := a0 (bB hb BK102.out); replace HB := a0 (below_step (by repeat (first | exact HB.out | apply below_alloc | apply pw_below_drewN | apply below_drew1 | refine below_set ?_ GE101.out | refine below_set ?_ GE102.out)) hb); (try clear hb); (try clear hb2); (try clear hk); (try clear hi)))
    go_ret
    exact ⟨by first | rfl | (simp [errW_none, errW_some] <;> rfl) | (simp [*, errW_none, errW_some] <;> rfl), by repeat (first | exact HB.out | apply below_alloc | apply pw_below_drewN | apply below_drew1 | refine below_set ?_ GE101.out | refine below_set ?_ GE102.out)⟩
   ·replace c17 := Bool.eq_false_iff.mpr c17
    subst c17
    have H1 : ((dactylref04_Join.f l0_0 ([] : List (S47))).bind fun t106 => ((line_Cut.f kj2 l0_0 a0_1 a1_0 a1_1).bind fun bt110 => ((dactylref16_PlaceB.f (l0_0.length : Int) a1_0).bind fun t118 => ((dactylref16_PlaceB.f (l0_0.length : Int) a1_1).bind fun t119 => ((dactylref01_LowB.f t118 t119).bind fun t120 => ((line_Insert.f bt110.1 t120 bt110.2.2).bind fun bt121 => ((line_Case.f l0_0 a0_1 a1_0 a1_2).bind fun bt126 => (dactyllaw17_LineBack.l0 kj2 0 l0_0 a0_1 t106 a0_1 bt121.1 bt121.2 bt126.1 bt126.2)))))))) = some r := by rw [if_neg (show ¬ (false = true) by decide)] at H; exact H
    clear H
    have H := H1
    clear H1
    replace H := Option.bind_eq_some_iff.mp H
    obtain ⟨t106, A200, H⟩ := H
    try dsimp only at H
    have A20 := Aside0.mk A200
    clear A200
    replace H := Option.bind_eq_some_iff.mp H
    obtain ⟨⟨t110, t113, t114⟩, A210, H⟩ := H
    try dsimp only at H
    have A21 := Aside0.mk A210
    clear A210
    replace H := Option.bind_eq_some_iff.mp H
    obtain ⟨t118, A220, H⟩ := H
    try dsimp only at H
    have A22 := Aside0.mk A220
    clear A220
    replace H := Option.bind_eq_some_iff.mp H
    obtain ⟨t119, A230, H⟩ := H
    try dsimp only at H
    have A23 := Aside0.mk A230
    clear A230
    replace H := Option.bind_eq_some_iff.mp H
    obtain ⟨t120, A240, H⟩ := H
    try dsimp only at H
    have A24 := Aside0.mk A240
    clear A240
    replace H := Option.bind_eq_some_iff.mp H
    obtain ⟨⟨t121, t124⟩, A250, H⟩ := H
    try dsimp only at H
    have A25 := Aside0.mk A250
    clear A250
    replace H := Option.bind_eq_some_iff.mp H
    obtain ⟨⟨t126, t129⟩, A260, H⟩ := H
    try dsimp only at H
    have A26 := Aside0.mk A260
    clear A260
    have H' := Aside0.mk H
    clear H
    try go_wp2
    replace BK101 := a0 (blk_drew BK101.out)
    replace BK102 := a0 (blk_drew BK102.out)
    replace HB := a0 (below_drew1 HB.out)
    refine start_ (n := 8) (S := fun w' => w'.cell? ⟨gb101, 0, none⟩ = some (.slice A0_0 l0_0.length c0_0) ∧ w'.cell? ⟨gb101, 1, none⟩ = some (.int .i64 a0_1)) (ds := []) (ba 8 0) (by kernel_rfl) rfl rfl ⟨(blk_cell BK101.out 0).trans rfl, (blk_cell BK101.out 1).trans rfl⟩ (fun hHeld => ?_); refine with_tabW dactyllaw17_LineBack.tab3 dactyllaw17_LineBack.bits3 (fun HT_ HW_ => ?_)
    generalize wc.drew = w27 at BK101 BK102 HB hHeld ⊢
    refine pS 0 20 (v := ?_) (a' := ?_) (ba 8 1) HT_ (by kernel_rfl) rfl rfl (fun _ _ _ h => h) (by rfl) ?_ ?_ ?_; rotate_left 2; (intro w'; go_simp; with_reducible rfl); (simp only [Act.put, List.setIfInBounds_toArray, List.set_cons_zero, List.set_cons_succ, i64_w, i32_w]; rfl)
    refine pS 3 23 (v := ?_) (a' := ?_) (ba 8 9) HT_ (by kernel_rfl) rfl rfl (fun _ _ _ h => h) (by rfl) ?_ ?_ ?_; rotate_left 2; (intro w'; go_simp; with_reducible rfl); (simp only [Act.put, List.setIfInBounds_toArray, List.set_cons_zero, List.set_cons_succ, i64_w, i32_w]; rfl)
    refine take_ (i := 1) (N := some 21) (v := ?_) (a' := ?_) (ba 8 11) rfl rfl (take_ofW HT_.out HW_.out (by kernel_rfl)) (fun _ _ _ h => h) (Or.inl ⟨by rfl, ?_⟩) hHeld ?_ ?_; rotate_left; (rintro w' ⟨s0, s1⟩; go_simp; with_reducible rfl); rotate_left; (simp only [Act.put, List.setIfInBounds_toArray, List.set_cons_zero, List.set_cons_succ, i64_w, i32_w]; rfl)
    refine take_ (i := 4) (N := some 24) (v := ?_) (a' := ?_) (ba 8 27) rfl rfl (take_ofW HT_.out HW_.out (by kernel_rfl)) (fun _ _ _ h => h) (Or.inl ⟨by rfl, ?_⟩) hHeld ?_ ?_; rotate_left; (rintro w' ⟨s0, s1⟩; go_simp; with_reducible rfl); rotate_left; (simp only [Act.put, List.setIfInBounds_toArray, List.set_cons_zero, List.set_cons_succ, i64_w, i32_w]; rfl)
    refine join_ (σ := Value × Nat) 1 (ba 8 127) (fun s_ => [(22, s_.1), (5, .pointer (some ⟨s_.2, 0, none⟩)), (25, .agg #[s_.1, .int .i64 a0_1])]) (fun s_ w' => (w'.cell? ⟨gb101, 0, none⟩ = some (.slice A0_0 l0_0.length c0_0) ∧ w'.cell? ⟨gb101, 1, none⟩ = some (.int .i64 a0_1)) ∧ (Kd.R k47 47 w' w.heap.size (fun _ => True) s_.1 t106) ∧ (w'.heap[gb101]? = some (.cells #[.slice A0_0 l0_0.length c0_0, .int .i64 a0_1] 24 (0, 0))) ∧ (w'.heap[gb102]? = some (.cells #[.int .i64 a1_0, .int .i64 a1_1, .int .i64 a1_2] 53 (0, 0))) ∧ (w'.heap[s_.2]? = some (.cells #[.slice none 0 0, .int .i64 0] 24 (0, 0))) ∧ (w.heap.size ≤ s_.2) ∧ (w.heap.size ≤ s_.2) ∧ (gb101 ≠ s_.2) ∧ (s_.2 ≠ gb101) ∧ (gb102 ≠ s_.2) ∧ (s_.2 ≠ gb102) ∧ (Below w.heap.size w w')) ?_ ?_
    rotate_left
    ·intro hCont
     refine two_ (i := 2) (j := 6) (Ni := some 22) (Nj := some 5) (ba 8 31) (ba 8 91) rfl rfl rfl rfl (two_of HT_.out (by kernel_rfl)) (by decide) (by decide) (fun K hK => ?_) (fun K hK => ?_)
     ·skip
      refine gR Try.func34 (by kernel_rfl) #[.slice A0_0 l0_0.length c0_0, .slice none 0 0] (by rfl) rfl rfl rfl rfl ?_
      refine (dactylref04_Join.calls _ _ l0_0 _ _ ([] : List (S47)) t106 _ ?side1 ?side2 ?side3 ?side4 A20.out).mono ?_
      (case side1 => repeat (first | exact (Kd.C_below HR0_0.out HB.out) | (with_reducible refine Kd.C_alloc ?_ _) | (with_reducible refine Kd.C_drewN ?_ _) | (with_reducible refine Kd.C_drew ?_)))
      (case side2 => exact HC0_0.out)
      (case side3 => exact Kd.C_nil _ _)
      (case side4 => exact Nat.le_refl _)
      rintro e w28 ⟨v107, rfl, ho0, hb⟩
      refine ⟨_, rfl, ?_⟩
      have HO108 := a0 (Kd.R_lower ho0 (below_size (by repeat (first | exact HB.out | apply below_alloc | apply pw_below_drewN | apply below_drew1 | refine below_set ?_ GE101.out | refine below_set ?_ GE102.out))))
      replace BK101 := a0 (bB hb BK101.out)
      replace BK102 := a0 (bB hb BK102.out)
      replace HB := a0 (below_step (by repeat (first | exact HB.out | apply below_alloc | apply pw_below_drewN | apply below_drew1 | refine below_set ?_ GE101.out | refine below_set ?_ GE102.out)) hb)
      (try clear hb)
      (try clear hb2)
      (try clear hk)
      (try clear hi)
      (try clear ho0)
      obtain ⟨Ao29, co29, eo29⟩ := Kd.R_slice HO108.out
      (first | subst eo29 | (injection eo29 with f1_ f2_ f3_; have f4_ := f1_.symm; have f5_ := f3_.symm; clear f1_ f2_ f3_; subst f4_; subst f5_))
      refine hK.out _ _ ⟨(blk_cell BK101.out 0).trans rfl, (blk_cell BK101.out 1).trans rfl⟩ (fun hHeld => ?_)
      clear hK K
      refine norm_ (a' := ?_) ?_ ?_; rotate_left; (show Act.put _ (some 22) _ = _; simp only [Act.put, List.setIfInBounds_toArray, List.set_cons_zero, List.set_cons_succ, i64_w, i32_w]; rfl)
      refine pS 5 25 (v := ?_) (a' := ?_) (ba 8 63) HT_ (by kernel_rfl) rfl rfl (fun _ _ _ h => h) (by rfl) ?_ ?_ ?_; rotate_left 2; (intro w'; go_simp; with_reducible rfl); (simp only [Act.put, List.setIfInBounds_toArray, List.set_cons_zero, List.set_cons_succ, i64_w, i32_w]; rfl)
      refine one_ (i := 6) (N := some 5) (ba 8 127) rfl rfl (one_of HT_.out (by kernel_rfl)) (by decide) (fun K hK => ?_)
      refine box_step ?hg (N := 5) ?hd (cs := #[.slice none 0 0, .int .i64 0]) (t := 24) ?hr ?_; (case hd => rfl); (case hg => rfl); (case hr => first | (go_simp; done) | (go_simp; rfl))
      intro gb109 hg w30 hbox hb
      replace HO108 := a0 (Kd.R_below HO108.out hb)
      have BK109 := a0 (hbox)
      have GW109 := a0 ((by rw [hg]; exact (below_size (by repeat (first | exact HB.out | apply below_alloc | apply pw_below_drewN | apply below_drew1 | refine below_set ?_ GE101.out | refine below_set ?_ GE102.out))) : w.heap.size ≤ gb109))
      have GE109 := a0 ((by rw [hg]; exact (below_size (by repeat (first | exact HB.out | apply below_alloc | apply pw_below_drewN | apply below_drew1 | refine below_set ?_ GE101.out | refine below_set ?_ GE102.out))) : w.heap.size ≤ gb109))
      replace HB := a0 (below_step (by repeat (first | exact HB.out | apply below_alloc | apply pw_below_drewN | apply below_drew1 | refine below_set ?_ GE101.out | refine below_set ?_ GE102.out)) hb)
      have NB101_109 := a0 ((by rw [hg]; exact Nat.ne_of_lt (blk_lt BK101.out) : gb101 ≠ gb109))
      have NB109_101 := a0 ((by rw [hg]; exact Nat.ne_of_gt (blk_lt BK101.out) : gb109 ≠ gb101))
      replace BK101 := a0 (bB hb BK101.out)
      have NB102_109 := a0 ((by rw [hg]; exact Nat.ne_of_lt (blk_lt BK102.out) : gb102 ≠ gb109))
      have NB109_102 := a0 ((by rw [hg]; exact Nat.ne_of_gt (blk_lt BK102.out) : gb109 ≠ gb102))
      replace BK102 := a0 (bB hb BK102.out)
      clear hb hbox hg
      refine hK.out _ _ ⟨(blk_cell BK101.out 0).trans rfl, (blk_cell BK101.out 1).trans rfl⟩ (fun hHeld => ?_)
      clear hK K
      refine norm_ (a' := ?_) ?_ ?_; rotate_left; (show Act.put _ (some 5) _ = _; simp only [Act.put, List.setIfInBounds_toArray, List.set_cons_zero, List.set_cons_succ, i64_w, i32_w]; rfl)
      exact norm_ (by simp only [putAll, Act.put, List.setIfInBounds_toArray, List.set_cons_zero, List.set_cons_succ]) (hCont (.slice Ao29 t106.length co29, gb109) _ ⟨hHeld, HO108.out, BK101.out, BK102.out, BK109.out, GW109.out, GE109.out, NB101_109.out, NB109_101.out, NB102_109.out, NB109_102.out, (by repeat (first | exact HB.out | apply below_alloc | apply pw_below_drewN | apply below_drew1 | refine below_set ?_ GE101.out | refine below_set ?_ GE102.out | refine below_set ?_ GE109.out))⟩)
     ·skip
      refine box_step ?hg (N := 5) ?hd (cs := #[.slice none 0 0, .int .i64 0]) (t := 24) ?hr ?_; (case hd => rfl); (case hg => rfl); (case hr => first | (go_simp; done) | (go_simp; rfl))
      intro gb109 hg w28 hbox hb
      have BK109 := a0 (hbox)
      have GW109 := a0 ((by rw [hg]; exact (below_size (by repeat (first | exact HB.out | apply below_alloc | apply pw_below_drewN | apply below_drew1 | refine below_set ?_ GE101.out | refine below_set ?_ GE102.out))) : w.heap.size ≤ gb109))
      have GE109 := a0 ((by rw [hg]; exact (below_size (by repeat (first | exact HB.out | apply below_alloc | apply pw_below_drewN | apply below_drew1 | refine below_set ?_ GE101.out | refine below_set ?_ GE102.out))) : w.heap.size ≤ gb109))
      replace HB := a0 (below_step (by repeat (first | exact HB.out | apply below_alloc | apply pw_below_drewN | apply below_drew1 | refine below_set ?_ GE101.out | refine below_set ?_ GE102.out)) hb)
      have NB101_109 := a0 ((by rw [hg]; exact Nat.ne_of_lt (blk_lt BK101.out) : gb101 ≠ gb109))
      have NB109_101 := a0 ((by rw [hg]; exact Nat.ne_of_gt (blk_lt BK101.out) : gb109 ≠ gb101))
      replace BK101 := a0 (bB hb BK101.out)
      have NB102_109 := a0 ((by rw [hg]; exact Nat.ne_of_lt (blk_lt BK102.out) : gb102 ≠ gb109))
      have NB109_102 := a0 ((by rw [hg]; exact Nat.ne_of_gt (blk_lt BK102.out) : gb109 ≠ gb102))
      replace BK102 := a0 (bB hb BK102.out)
      clear hb hbox hg
      refine hK.out _ _ ⟨(blk_cell BK101.out 0).trans rfl, (blk_cell BK101.out 1).trans rfl⟩ (fun hHeld => ?_)
      clear hK K
      refine norm_ (a' := ?_) ?_ ?_; rotate_left; (show Act.put _ (some 5) _ = _; simp only [Act.put, List.setIfInBounds_toArray, List.set_cons_zero, List.set_cons_succ, i64_w, i32_w]; rfl)
      refine one_ (i := 2) (N := some 22) (ba 8 95) rfl rfl (one_of HT_.out (by kernel_rfl)) (by decide) (fun K hK => ?_)
      refine gR Try.func34 (by kernel_rfl) #[.slice A0_0 l0_0.length c0_0, .slice none 0 0] (by rfl) rfl rfl rfl rfl ?_
      refine (dactylref04_Join.calls _ _ l0_0 _ _ ([] : List (S47)) t106 _ ?side1 ?side2 ?side3 ?side4 A20.out).mono ?_
      (case side1 => repeat (first | exact (Kd.C_below HR0_0.out HB.out) | (with_reducible refine Kd.C_alloc ?_ _) | (with_reducible refine Kd.C_drewN ?_ _) | (with_reducible refine Kd.C_drew ?_)))
      (case side2 => exact HC0_0.out)
      (case side3 => exact Kd.C_nil _ _)
      (case side4 => exact Nat.le_refl _)
      rintro e w29 ⟨v107, rfl, ho0, hb⟩
      refine ⟨_, rfl, ?_⟩
      have HO108 := a0 (Kd.R_lower ho0 (below_size (by repeat (first | exact HB.out | apply below_alloc | apply pw_below_drewN | apply below_drew1 | refine below_set ?_ GE101.out | refine below_set ?_ GE102.out | refine below_set ?_ GE109.out))))
      replace BK101 := a0 (bB hb BK101.out)
      replace BK102 := a0 (bB hb BK102.out)
      replace BK109 := a0 (bB hb BK109.out)
      replace HB := a0 (below_step (by repeat (first | exact HB.out | apply below_alloc | apply pw_below_drewN | apply below_drew1 | refine below_set ?_ GE101.out | refine below_set ?_ GE102.out | refine below_set ?_ GE109.out)) hb)
      (try clear hb)
      (try clear hb2)
      (try clear hk)
      (try clear hi)
      (try clear ho0)
      obtain ⟨Ao30, co30, eo30⟩ := Kd.R_slice HO108.out
      (first | subst eo30 | (injection eo30 with f1_ f2_ f3_; have f4_ := f1_.symm; have f5_ := f3_.symm; clear f1_ f2_ f3_; subst f4_; subst f5_))
      refine hK.out _ _ ⟨(blk_cell BK101.out 0).trans rfl, (blk_cell BK101.out 1).trans rfl⟩ (fun hHeld => ?_)
      clear hK K
      refine norm_ (a' := ?_) ?_ ?_; rotate_left; (show Act.put _ (some 22) _ = _; simp only [Act.put, List.setIfInBounds_toArray, List.set_cons_zero, List.set_cons_succ, i64_w, i32_w]; rfl)
      refine pS 5 25 (v := ?_) (a' := ?_) (ba 8 127) HT_ (by kernel_rfl) rfl rfl (fun _ _ _ h => h) (by rfl) ?_ ?_ ?_; rotate_left 2; (intro w'; go_simp; with_reducible rfl); (simp only [Act.put, List.setIfInBounds_toArray, List.set_cons_zero, List.set_cons_succ, i64_w, i32_w]; rfl)
      exact norm_ (by simp only [putAll, Act.put, List.setIfInBounds_toArray, List.set_cons_zero, List.set_cons_succ]) (hCont (.slice Ao30 t106.length co30, gb109) _ ⟨hHeld, HO108.out, BK101.out, BK102.out, BK109.out, GW109.out, GE109.out, NB101_109.out, NB109_101.out, NB102_109.out, NB109_102.out, (by repeat (first | exact HB.out | apply below_alloc | apply pw_below_drewN | apply below_drew1 | refine below_set ?_ GE101.out | refine below_set ?_ GE102.out | refine below_set ?_ GE109.out))⟩)
    rintro ⟨v107, gb109⟩ w31 ⟨hS_, h0_, h1_, h2_, h3_, h4_, h5_, h6_, h7_, h8_, h9_, h10_⟩
    have n0_ : Aside0 (Kd.R k47 47 w31 w.heap.size (fun _ => True) v107 t106) := ⟨h0_⟩
    have n1_ : Aside0 (w31.heap[gb101]? = some (.cells #[.slice A0_0 l0_0.length c0_0, .int .i64 a0_1] 24 (0, 0))) := ⟨h1_⟩
    have n2_ : Aside0 (w31.heap[gb102]? = some (.cells #[.int .i64 a1_0, .int .i64 a1_1, .int .i64 a1_2] 53 (0, 0))) := ⟨h2_⟩
    have n3_ : Aside0 (w31.heap[gb109]? = some (.cells #[.slice none 0 0, .int .i64 0] 24 (0, 0))) := ⟨h3_⟩
    have n4_ : Aside0 (w.heap.size ≤ gb109) := ⟨h4_⟩
    have n5_ : Aside0 (w.heap.size ≤ gb109) := ⟨h5_⟩
    have n6_ : Aside0 (gb101 ≠ gb109) := ⟨h6_⟩
    have n7_ : Aside0 (gb109 ≠ gb101) := ⟨h7_⟩
    have n8_ : Aside0 (gb102 ≠ gb109) := ⟨h8_⟩
    have n9_ : Aside0 (gb109 ≠ gb102) := ⟨h9_⟩
    have n10_ : Aside0 (Below w.heap.size w w31) := ⟨h10_⟩
    clear BK101
    clear BK102
    clear HB
    clear h0_ h1_ h2_ h3_ h4_ h5_ h6_ h7_ h8_ h9_ h10_
    have HO108 := n0_
    have BK101 := n1_
    have BK102 := n2_
    have BK109 := n3_
    have GW109 := n4_
    have GE109 := n5_
    have NB101_109 := n6_
    have NB109_101 := n7_
    have NB102_109 := n8_
    have NB109_102 := n9_
    have HB := n10_
    clear n0_ n1_ n2_ n3_ n4_ n5_ n6_ n7_ n8_ n9_ n10_
    have hHeld : w31.cell? ⟨gb101, 0, none⟩ = some (.slice A0_0 l0_0.length c0_0) ∧ w31.cell? ⟨gb101, 1, none⟩ = some (.int .i64 a0_1) := hS_
    obtain ⟨Ao32, co32, eo32⟩ := Kd.R_slice HO108.out
    (first | subst eo32 | (injection eo32 with f1_ f2_ f3_; have f4_ := f1_.symm; have f5_ := f3_.symm; clear f1_ f2_ f3_; subst f4_; subst f5_))
    refine norm_ (a' := ?_) ?_ ?_
    rotate_left
    ·simp only [putAll, Act.put, List.setIfInBounds_toArray, List.set_cons_zero, List.set_cons_succ]
     rfl
    refine one_ (i := 7) (N := none) (ba 8 255) rfl rfl (one_of HT_.out (by kernel_rfl)) (by decide) (fun K hK => ?_)
    have hs33 : w31.cell? ⟨gb109, 0, none⟩ = some (.slice none 0 0) := (blk_cell BK109.out 0).trans rfl
    have hfs33 := blk_frozen BK109.out 0
    have hns33_0 := NB101_109.out
    have hns33_1 := NB102_109.out
    have hms33_0 := NB109_101.out
    have hms33_1 := NB109_102.out
    have hs34 : w31.cell? ⟨gb109, 1, none⟩ = some (.int .i64 0) := (blk_cell BK109.out 1).trans rfl
    have hfs34 := blk_frozen BK109.out 1
    have hns34_0 := NB101_109.out
    have hns34_1 := NB102_109.out
    have hms34_0 := NB109_101.out
    have hms34_1 := NB109_102.out
    refine skip_ (w1 := ?_) (by rfl) rfl ?_ ?_
    rotate_left
    ·go_simp
     rfl
    refine hK.out _ _ ⟨((cell_far (p := ⟨gb109, _, none⟩) NB101_109.out _).trans (((cell_far (p := ⟨gb109, _, none⟩) NB101_109.out _).trans (hHeld.1)))), ((cell_far (p := ⟨gb109, _, none⟩) NB101_109.out _).trans (((cell_far (p := ⟨gb109, _, none⟩) NB101_109.out _).trans (hHeld.2))))⟩ (fun hHeld => ?_)
    clear hK K
    refine done_ (done_of HT_.out (by kernel_rfl)) ?_
    have n0_ : Aside0 (Kd.R k47 47 ((w31.setCell ⟨gb109, 0, none⟩ (.slice Ao32 t106.length co32)).setCell ⟨gb109, 1, none⟩ (.int .i64 a0_1)) w.heap.size (fun _ => True) (.slice Ao32 t106.length co32) t106) := ⟨by exact Kd.R_mono (Kd.R_far (p := ⟨gb109, 1, none⟩) (Kd.R_far (p := ⟨gb109, 0, none⟩) (Kd.R_types HO108.out BK109.out (by decide)) (fun _ hk => hk.2) (.slice Ao32 t106.length co32)) (fun _ hk => hk.2) (.int .i64 a0_1)) (fun _ hk => trivial)⟩
    have n1_ : Aside0 (((w31.setCell ⟨gb109, 0, none⟩ (.slice Ao32 t106.length co32)).setCell ⟨gb109, 1, none⟩ (.int .i64 a0_1)).heap[gb101]? = some (.cells #[.slice A0_0 l0_0.length c0_0, .int .i64 a0_1] 24 (0, 0))) := ⟨by refine blk_far ?_ NB101_109.out _; refine blk_far ?_ NB101_109.out _; exact BK101.out⟩
    have n2_ : Aside0 (((w31.setCell ⟨gb109, 0, none⟩ (.slice Ao32 t106.length co32)).setCell ⟨gb109, 1, none⟩ (.int .i64 a0_1)).heap[gb102]? = some (.cells #[.int .i64 a1_0, .int .i64 a1_1, .int .i64 a1_2] 53 (0, 0))) := ⟨by refine blk_far ?_ NB102_109.out _; refine blk_far ?_ NB102_109.out _; exact BK102.out⟩
    have n3_ : Aside0 (((w31.setCell ⟨gb109, 0, none⟩ (.slice Ao32 t106.length co32)).setCell ⟨gb109, 1, none⟩ (.int .i64 a0_1)).heap[gb109]? = some (.cells #[.slice Ao32 t106.length co32, .int .i64 a0_1] 24 (0, 0))) := ⟨by refine blk_put (cs := #[.slice Ao32 t106.length co32, .int .i64 0]) ?_ 1 _ rfl; refine blk_put (cs := #[.slice none 0 0, .int .i64 0]) ?_ 0 _ rfl; exact BK109.out⟩
    have n4_ : Aside0 (Below w.heap.size w ((w31.setCell ⟨gb109, 0, none⟩ (.slice Ao32 t106.length co32)).setCell ⟨gb109, 1, none⟩ (.int .i64 a0_1))) := ⟨by repeat (first | exact HB.out | apply below_alloc | apply pw_below_drewN | apply below_drew1 | refine below_set ?_ GE101.out | refine below_set ?_ GE102.out | refine below_set ?_ GE109.out)⟩
    (try clear HO108)
    (try clear BK101)
    (try clear BK102)
    (try clear BK109)
    (try clear HB)
    generalize ((w31.setCell ⟨gb109, 0, none⟩ (.slice Ao32 t106.length co32)).setCell ⟨gb109, 1, none⟩ (.int .i64 a0_1)) = w35 at n0_ n1_ n2_ n3_ n4_ ⊢
    have HO108 := n0_
    have BK101 := n1_
    have BK102 := n2_
    have BK109 := n3_
    have HB := n4_
    clear n0_ n1_ n2_ n3_ n4_
    have hnb36 := NB101_102.out
    have hnc36 := NB102_101.out
    have hnb37 := NB101_109.out
    have hnc37 := NB109_101.out
    obtain ⟨hcz38_0, hcz38_1, hfz38_0, hfz38_1⟩ := c2 BK101.out
    have hnb39 := NB102_109.out
    have hnc39 := NB109_102.out
    have hcz40_0 : w35.cell? ⟨gb102, 0, none⟩ = some (.int .i64 a1_0) := (blk_cell BK102.out 0).trans rfl
    have hcz40_1 : w35.cell? ⟨gb102, 1, none⟩ = some (.int .i64 a1_1) := (blk_cell BK102.out 1).trans rfl
    have hcz40_2 : w35.cell? ⟨gb102, 2, none⟩ = some (.int .i64 a1_2) := (blk_cell BK102.out 2).trans rfl
    have hfz40_0 := blk_frozen BK102.out 0
    have hfz40_1 := blk_frozen BK102.out 1
    have hfz40_2 := blk_frozen BK102.out 2
    try go_wp2_with (first | ((with_reducible refine gate_callee (f := 35) rfl ?_); refine gL (some 32) Try.func35 (by kernel_rfl) #[.agg #[.slice A0_0 l0_0.length c0_0, .int .i64 a0_1], .int .i64 a1_0, .int .i64 a1_1] rfl rfl rfl rfl rfl ?_; (with_reducible refine (line_Cut.calls kj2 (fun k_ => k_ < w.heap.size) _ _ l0_0 a0_1 a1_0 a1_1 t110 t113 t114 _ ?side1 A21.out).mono ?_); (case side1 => exact Kd.V_mk HC0_0.out (Kd.F_below (Kd.C_F k47_heap HR0_0.out) (by repeat (first | exact HB.out | apply below_alloc | apply pw_below_drewN | apply below_drew1 | refine below_set ?_ GE101.out | refine below_set ?_ GE102.out | refine below_set ?_ GE109.out)))); rintro e w41 ⟨v111, v115, rfl, ho0, ho1, hb⟩; refine ⟨_, rfl, ?_⟩; have HO112 := a0 (Kd.R_lower (Kd.R_new' (Kd.R_mono (ok' := fun k_ => some k_ ≠ (v115 : Value).ownBlock) ho0 (fun _ hk_ => hk_.2)) (Kd.R_lt HO108.out)) (below_size (by repeat (first | exact HB.out | apply below_alloc | apply pw_below_drewN | apply below_drew1 | refine below_set ?_ GE101.out | refine below_set ?_ GE102.out | refine below_set ?_ GE109.out)))); have HO116 := a0 (Kd.R_lower (Kd.R_new' (Kd.R_mono (ok' := fun k_ => some k_ ≠ (v111 : Value).ownBlock) ho1 (fun _ hk_ => hk_.2)) (Kd.R_lt HO108.out)) (below_size (by repeat (first | exact HB.out | apply below_alloc | apply pw_below_drewN | apply below_drew1 | refine below_set ?_ GE101.out | refine below_set ?_ GE102.out | refine below_set ?_ GE109.out)))); replace HO108 := a0 (Kd.R_mono (Kd.R_told (Kd.R_told (Kd.R_old HO108.out hb) (Kd.R_base ho0)) (Kd.R_base ho1)) (fun _ h_ => h_.1)); replace BK101 := a0 (bB hb BK101.out); replace BK102 := a0 (bB hb BK102.out); replace BK109 := a0 (bB hb BK109.out); replace HB := a0 (below_step (by repeat (first | exact HB.out | apply below_alloc | apply pw_below_drewN | apply below_drew1 | refine below_set ?_ GE101.out | refine below_set ?_ GE102.out | refine below_set ?_ GE109.out)) hb); clear hb ho0 ho1) | ((with_reducible refine gate_dst (N := 6) rfl ?_); refine box_event ?hg (N := 6) ?hd (cs := #[.slice none 0 0, .int .i64 0]) (t := 24) ?hr ?_; (case hd => rfl); (case hg => rfl); (case hr => first | (go_simp; done) | (go_simp; rfl)); intro gb117 hg w42 hbox hb; replace HO108 := a0 (Kd.R_below HO108.out hb); replace HO112 := a0 (Kd.R_below HO112.out hb); replace HO116 := a0 (Kd.R_below HO116.out hb); have BK117 := a0 (hbox); have GW117 := a0 ((by rw [hg]; exact (below_size (by repeat (first | exact HB.out | apply below_alloc | apply pw_below_drewN | apply below_drew1 | refine below_set ?_ GE101.out | refine below_set ?_ GE102.out | refine below_set ?_ GE109.out))) : w.heap.size ≤ gb117)); have GE117 := a0 ((by rw [hg]; exact (below_size (by repeat (first | exact HB.out | apply below_alloc | apply pw_below_drewN | apply below_drew1 | refine below_set ?_ GE101.out | refine below_set ?_ GE102.out | refine below_set ?_ GE109.out))) : w.heap.size ≤ gb117)); replace HB := a0 (below_step (by repeat (first | exact HB.out | apply below_alloc | apply pw_below_drewN | apply below_drew1 | refine below_set ?_ GE101.out | refine below_set ?_ GE102.out | refine below_set ?_ GE109.out)) hb); have NB101_117 := a0 ((by rw [hg]; exact Nat.ne_of_lt (blk_lt BK101.out) : gb101 ≠ gb117)); have NB117_101 := a0 ((by rw [hg]; exact Nat.ne_of_gt (blk_lt BK101.out) : gb117 ≠ gb101)); replace BK101 := a0 (bB hb BK101.out); have NB102_117 := a0 ((by rw [hg]; exact Nat.ne_of_lt (blk_lt BK102.out) : gb102 ≠ gb117)); have NB117_102 := a0 ((by rw [hg]; exact Nat.ne_of_gt (blk_lt BK102.out) : gb117 ≠ gb102)); replace BK102 := a0 (bB hb BK102.out); have NB109_117 := a0 ((by rw [hg]; exact Nat.ne_of_lt (blk_lt BK109.out) : gb109 ≠ gb117)); have NB117_109 := a0 ((by rw [hg]; exact Nat.ne_of_gt (blk_lt BK109.out) : gb117 ≠ gb109)); replace BK109 := a0 (bB hb BK109.out); clear hb hbox hg; obtain ⟨Ao43, co43, eo43⟩ := Kd.R_slice HO112.out; subst eo43; have hnb44 := NB117_101.out; have hnc44 := NB101_117.out; have hnb45 := NB117_102.out; have hnc45 := NB102_117.out; have hnb46 := NB117_109.out; have hnc46 := NB109_117.out; obtain ⟨hcz47_0, hcz47_1, hfz47_0, hfz47_1⟩ := c2 BK117.out))
    have n0_ : Aside0 (Kd.R k47 47 ((w42.setCell ⟨gb117, 0, none⟩ (.slice Ao43 t110.length co43)).setCell ⟨gb117, 1, none⟩ (.int .i64 t113)) w.heap.size (fun k_ => some k_ ≠ (.slice Ao43 t110.length co43 : Value).ownBlock ∧ some k_ ≠ (v115 : Value).ownBlock) (.slice Ao32 t106.length co32) t106) := ⟨by exact Kd.R_mono (Kd.R_far (p := ⟨gb117, 1, none⟩) (Kd.R_far (p := ⟨gb117, 0, none⟩) (Kd.R_types HO108.out BK117.out (by decide)) (fun _ hk => hk.2) (.slice Ao43 t110.length co43)) (fun _ hk => hk.2) (.int .i64 t113)) (fun _ hk => ⟨hk.1.1.2, hk.1.2⟩)⟩
    have n1_ : Aside0 (Kd.R k47 47 ((w42.setCell ⟨gb117, 0, none⟩ (.slice Ao43 t110.length co43)).setCell ⟨gb117, 1, none⟩ (.int .i64 t113)) w.heap.size (fun k_ => some k_ ≠ (.slice Ao32 t106.length co32 : Value).ownBlock ∧ some k_ ≠ (v115 : Value).ownBlock) (.slice Ao43 t110.length co43) t110) := ⟨by exact Kd.R_mono (Kd.R_far (p := ⟨gb117, 1, none⟩) (Kd.R_far (p := ⟨gb117, 0, none⟩) (Kd.R_types HO112.out BK117.out (by decide)) (fun _ hk => hk.2) (.slice Ao43 t110.length co43)) (fun _ hk => hk.2) (.int .i64 t113)) (fun _ hk => ⟨hk.1.2, hk.1.1⟩)⟩
    have n2_ : Aside0 (Kd.R k47 47 ((w42.setCell ⟨gb117, 0, none⟩ (.slice Ao43 t110.length co43)).setCell ⟨gb117, 1, none⟩ (.int .i64 t113)) w.heap.size (fun k_ => some k_ ≠ (.slice Ao32 t106.length co32 : Value).ownBlock ∧ some k_ ≠ (.slice Ao43 t110.length co43 : Value).ownBlock) v115 t114) := ⟨by exact Kd.R_mono (Kd.R_far (p := ⟨gb117, 1, none⟩) (Kd.R_far (p := ⟨gb117, 0, none⟩) (Kd.R_types HO116.out BK117.out (by decide)) (fun _ hk => hk.2) (.slice Ao43 t110.length co43)) (fun _ hk => hk.2) (.int .i64 t113)) (fun _ hk => ⟨hk.1.2, hk.1.1⟩)⟩
    have n3_ : Aside0 (((w42.setCell ⟨gb117, 0, none⟩ (.slice Ao43 t110.length co43)).setCell ⟨gb117, 1, none⟩ (.int .i64 t113)).heap[gb101]? = some (.cells #[.slice A0_0 l0_0.length c0_0, .int .i64 a0_1] 24 (0, 0))) := ⟨by refine blk_far ?_ NB101_117.out _; refine blk_far ?_ NB101_117.out _; exact BK101.out⟩
    have n4_ : Aside0 (((w42.setCell ⟨gb117, 0, none⟩ (.slice Ao43 t110.length co43)).setCell ⟨gb117, 1, none⟩ (.int .i64 t113)).heap[gb102]? = some (.cells #[.int .i64 a1_0, .int .i64 a1_1, .int .i64 a1_2] 53 (0, 0))) := ⟨by refine blk_far ?_ NB102_117.out _; refine blk_far ?_ NB102_117.out _; exact BK102.out⟩
    have n5_ : Aside0 (((w42.setCell ⟨gb117, 0, none⟩ (.slice Ao43 t110.length co43)).setCell ⟨gb117, 1, none⟩ (.int .i64 t113)).heap[gb109]? = some (.cells #[.slice Ao32 t106.length co32, .int .i64 a0_1] 24 (0, 0))) := ⟨by refine blk_far ?_ NB109_117.out _; refine blk_far ?_ NB109_117.out _; exact BK109.out⟩
    have n6_ : Aside0 (((w42.setCell ⟨gb117, 0, none⟩ (.slice Ao43 t110.length co43)).setCell ⟨gb117, 1, none⟩ (.int .i64 t113)).heap[gb117]? = some (.cells #[.slice Ao43 t110.length co43, .int .i64 t113] 24 (0, 0))) := ⟨by refine blk_put (cs := #[.slice Ao43 t110.length co43, .int .i64 0]) ?_ 1 _ rfl; refine blk_put (cs := #[.slice none 0 0, .int .i64 0]) ?_ 0 _ rfl; exact BK117.out⟩
    have n7_ : Aside0 (Below w.heap.size w ((w42.setCell ⟨gb117, 0, none⟩ (.slice Ao43 t110.length co43)).setCell ⟨gb117, 1, none⟩ (.int .i64 t113))) := ⟨by repeat (first | exact HB.out | apply below_alloc | apply pw_below_drewN | apply below_drew1 | refine below_set ?_ GE101.out | refine below_set ?_ GE102.out | refine below_set ?_ GE109.out | refine below_set ?_ GE117.out)⟩
    (try clear HO108)
    (try clear HO112)
    (try clear HO116)
    (try clear BK101)
    (try clear BK102)
    (try clear BK109)
    (try clear BK117)
    (try clear HB)
    generalize ((w42.setCell ⟨gb117, 0, none⟩ (.slice Ao43 t110.length co43)).setCell ⟨gb117, 1, none⟩ (.int .i64 t113)) = w48 at n0_ n1_ n2_ n3_ n4_ n5_ n6_ n7_ ⊢
    have HO108 := n0_
    have HO112 := n1_
    have HO116 := n2_
    have BK101 := n3_
    have BK102 := n4_
    have BK109 := n5_
    have BK117 := n6_
    have HB := n7_
    clear n0_ n1_ n2_ n3_ n4_ n5_ n6_ n7_
    replace HO108 := a0 (Kd.R_drew HO108.out)
    replace HO112 := a0 (Kd.R_drew HO112.out)
    replace HO116 := a0 (Kd.R_drew HO116.out)
    replace BK101 := a0 (blk_drew BK101.out)
    replace BK102 := a0 (blk_drew BK102.out)
    replace BK109 := a0 (blk_drew BK109.out)
    replace BK117 := a0 (blk_drew BK117.out)
    replace HB := a0 (below_drew1 HB.out)
    refine start_ (n := 15) (S := fun w' => w'.cell? ⟨gb101, 0, none⟩ = some (.slice A0_0 l0_0.length c0_0) ∧ w'.cell? ⟨gb101, 1, none⟩ = some (.int .i64 a0_1) ∧ w'.cell? ⟨gb102, 0, none⟩ = some (.int .i64 a1_0) ∧ w'.cell? ⟨gb102, 1, none⟩ = some (.int .i64 a1_1) ∧ w'.cell? ⟨gb102, 2, none⟩ = some (.int .i64 a1_2)) (ds := []) (ba 15 0) (by kernel_rfl) rfl rfl ⟨(blk_cell BK101.out 0).trans rfl, (blk_cell BK101.out 1).trans rfl, (blk_cell BK102.out 0).trans rfl, (blk_cell BK102.out 1).trans rfl, (blk_cell BK102.out 2).trans rfl⟩ (fun hHeld => ?_); refine with_tabW dactyllaw17_LineBack.tab5 dactyllaw17_LineBack.bits5 (fun HT_ HW_ => ?_)
    generalize w48.drew = w49 at HO108 HO112 HO116 BK101 BK102 BK109 BK117 HB hHeld ⊢
    refine pS 0 35 (v := ?_) (a' := ?_) (ba 15 1) HT_ (by kernel_rfl) rfl rfl (fun _ _ _ h => h) (by rfl) ?_ ?_ ?_; rotate_left 2; (intro w'; go_simp; with_reducible rfl); (simp only [Act.put, List.setIfInBounds_toArray, List.set_cons_zero, List.set_cons_succ, i64_w, i32_w]; rfl)
    refine pS 3 38 (v := ?_) (a' := ?_) (ba 15 9) HT_ (by kernel_rfl) rfl rfl (fun _ _ _ h => h) (by rfl) ?_ ?_ ?_; rotate_left 2; (intro w'; go_simp; with_reducible rfl); (simp only [Act.put, List.setIfInBounds_toArray, List.set_cons_zero, List.set_cons_succ, i64_w, i32_w]; rfl)
    refine pS 6 41 (v := ?_) (a' := ?_) (ba 15 73) HT_ (by kernel_rfl) rfl rfl (fun _ _ _ h => h) (by rfl) ?_ ?_ ?_; rotate_left 2; (intro w'; go_simp; with_reducible rfl); (simp only [Act.put, List.setIfInBounds_toArray, List.set_cons_zero, List.set_cons_succ, i64_w, i32_w]; rfl)
    refine pS 9 44 (v := ?_) (a' := ?_) (ba 15 585) HT_ (by kernel_rfl) rfl rfl (fun _ _ _ h => h) (by rfl) ?_ ?_ ?_; rotate_left 2; (intro w'; go_simp; with_reducible rfl); (simp only [Act.put, List.setIfInBounds_toArray, List.set_cons_zero, List.set_cons_succ, i64_w, i32_w]; rfl)
    refine take_ (i := 1) (N := some 36) (v := ?_) (a' := ?_) (ba 15 587) rfl rfl (take_ofW HT_.out HW_.out (by kernel_rfl)) (fun _ _ _ h => h) (Or.inl ⟨by rfl, ?_⟩) hHeld ?_ ?_; rotate_left; (rintro w' ⟨s0, s1, s2, s3, s4⟩; go_simp; with_reducible rfl); rotate_left; (simp only [Act.put, List.setIfInBounds_toArray, List.set_cons_zero, List.set_cons_succ, i64_w, i32_w]; rfl)
    refine pS 2 37 (v := ?_) (a' := ?_) (ba 15 591) HT_ (by kernel_rfl) rfl rfl (fun _ _ _ h => h) (by rfl) ?_ ?_ ?_; rotate_left 2; (intro w'; go_simp; with_reducible rfl); (simp only [Act.put, List.setIfInBounds_toArray, List.set_cons_zero, List.set_cons_succ, i64_w, i32_w]; rfl)
    refine take_ (i := 4) (N := some 39) (v := ?_) (a' := ?_) (ba 15 607) rfl rfl (take_ofW HT_.out HW_.out (by kernel_rfl)) (fun _ _ _ h => h) (Or.inl ⟨by rfl, ?_⟩) hHeld ?_ ?_; rotate_left; (rintro w' ⟨s0, s1, s2, s3, s4⟩; go_simp; with_reducible rfl); rotate_left; (simp only [Act.put, List.setIfInBounds_toArray, List.set_cons_zero, List.set_cons_succ, i64_w, i32_w]; rfl)
    refine take_ (i := 7) (N := some 42) (v := ?_) (a' := ?_) (ba 15 735) rfl rfl (take_ofW HT_.out HW_.out (by kernel_rfl)) (fun _ _ _ h => h) (Or.inl ⟨by rfl, ?_⟩) hHeld ?_ ?_; rotate_left; (rintro w' ⟨s0, s1, s2, s3, s4⟩; go_simp; with_reducible rfl); rotate_left; (simp only [Act.put, List.setIfInBounds_toArray, List.set_cons_zero, List.set_cons_succ, i64_w, i32_w]; rfl)
    refine pS 8 43 (v := ?_) (a' := ?_) (ba 15 991) HT_ (by kernel_rfl) rfl rfl (fun _ _ _ h => h) (by rfl) ?_ ?_ ?_; rotate_left 2; (intro w'; go_simp; with_reducible rfl); (simp only [Act.put, List.setIfInBounds_toArray, List.set_cons_zero, List.set_cons_succ, i64_w, i32_w]; rfl)
    refine take_ (i := 10) (N := some 45) (v := ?_) (a' := ?_) (ba 15 2015) rfl rfl (take_ofW HT_.out HW_.out (by kernel_rfl)) (fun _ _ _ h => h) (Or.inl ⟨by rfl, ?_⟩) hHeld ?_ ?_; rotate_left; (rintro w' ⟨s0, s1, s2, s3, s4⟩; go_simp; with_reducible rfl); rotate_left; (simp only [Act.put, List.setIfInBounds_toArray, List.set_cons_zero, List.set_cons_succ, i64_w, i32_w]; rfl)
    refine one_ (i := 5) (N := some 40) (ba 15 2047) rfl rfl (one_of HT_.out (by kernel_rfl)) (by decide) (fun K hK => ?_)
    refine gR Try.func37 (by kernel_rfl) #[.int .i64 (l0_0.length : Int), .int .i64 a1_0] (by rfl) rfl rfl rfl rfl ?_
    with_reducible refine (dactylref16_PlaceB.calls (l0_0.length : Int) a1_0 t118 _ A22.out).mono ?_
    rintro e w50 ⟨rfl, hb⟩
    refine ⟨_, rfl, ?_⟩
    replace HO108 := a0 (Kd.R_below HO108.out hb)
    replace HO112 := a0 (Kd.R_below HO112.out hb)
    replace HO116 := a0 (Kd.R_below HO116.out hb)
    replace BK101 := a0 (bB hb BK101.out)
    replace BK102 := a0 (bB hb BK102.out)
    replace BK109 := a0 (bB hb BK109.out)
    replace BK117 := a0 (bB hb BK117.out)
    replace HB := a0 (below_step (by repeat (first | exact HB.out | apply below_alloc | apply pw_below_drewN | apply below_drew1 | refine below_set ?_ GE101.out | refine below_set ?_ GE102.out | refine below_set ?_ GE109.out | refine below_set ?_ GE117.out)) hb)
    (try clear hb)
    (try clear hb2)
    (try clear hk)
    (try clear hi)
    refine hK.out _ _ ⟨(blk_cell BK101.out 0).trans rfl, (blk_cell BK101.out 1).trans rfl, (blk_cell BK102.out 0).trans rfl, (blk_cell BK102.out 1).trans rfl, (blk_cell BK102.out 2).trans rfl⟩ (fun hHeld => ?_)
    clear hK K
    refine norm_ (a' := ?_) ?_ ?_; rotate_left; (show Act.put _ (some 40) _ = _; simp only [Act.put, List.setIfInBounds_toArray, List.set_cons_zero, List.set_cons_succ, i64_w, i32_w]; rfl)
    refine one_ (i := 11) (N := some 46) (ba 15 4095) rfl rfl (one_of HT_.out (by kernel_rfl)) (by decide) (fun K hK => ?_)
    refine gR Try.func37 (by kernel_rfl) #[.int .i64 (l0_0.length : Int), .int .i64 a1_1] (by rfl) rfl rfl rfl rfl ?_
    with_reducible refine (dactylref16_PlaceB.calls (l0_0.length : Int) a1_1 t119 _ A23.out).mono ?_
    rintro e w51 ⟨rfl, hb⟩
    refine ⟨_, rfl, ?_⟩
    replace HO108 := a0 (Kd.R_below HO108.out hb)
    replace HO112 := a0 (Kd.R_below HO112.out hb)
    replace HO116 := a0 (Kd.R_below HO116.out hb)
    replace BK101 := a0 (bB hb BK101.out)
    replace BK102 := a0 (bB hb BK102.out)
    replace BK109 := a0 (bB hb BK109.out)
    replace BK117 := a0 (bB hb BK117.out)
    replace HB := a0 (below_step (by repeat (first | exact HB.out | apply below_alloc | apply pw_below_drewN | apply below_drew1 | refine below_set ?_ GE101.out | refine below_set ?_ GE102.out | refine below_set ?_ GE109.out | refine below_set ?_ GE117.out)) hb)
    (try clear hb)
    (try clear hb2)
    (try clear hk)
    (try clear hi)
    refine hK.out _ _ ⟨(blk_cell BK101.out 0).trans rfl, (blk_cell BK101.out 1).trans rfl, (blk_cell BK102.out 0).trans rfl, (blk_cell BK102.out 1).trans rfl, (blk_cell BK102.out 2).trans rfl⟩ (fun hHeld => ?_)
    clear hK K
    refine norm_ (a' := ?_) ?_ ?_; rotate_left; (show Act.put _ (some 46) _ = _; simp only [Act.put, List.setIfInBounds_toArray, List.set_cons_zero, List.set_cons_succ, i64_w, i32_w]; rfl)
    refine one_ (i := 12) (N := some 47) (ba 15 8191) rfl rfl (one_of HT_.out (by kernel_rfl)) (by decide) (fun K hK => ?_)
    refine gR Try.func36 (by kernel_rfl) #[.int .i64 t118, .int .i64 t119] (by rfl) rfl rfl rfl rfl ?_
    with_reducible refine (dactylref01_LowB.calls t118 t119 t120 _ A24.out).mono ?_
    rintro e w52 ⟨rfl, hb⟩
    refine ⟨_, rfl, ?_⟩
    replace HO108 := a0 (Kd.R_below HO108.out hb)
    replace HO112 := a0 (Kd.R_below HO112.out hb)
    replace HO116 := a0 (Kd.R_below HO116.out hb)
    replace BK101 := a0 (bB hb BK101.out)
    replace BK102 := a0 (bB hb BK102.out)
    replace BK109 := a0 (bB hb BK109.out)
    replace BK117 := a0 (bB hb BK117.out)
    replace HB := a0 (below_step (by repeat (first | exact HB.out | apply below_alloc | apply pw_below_drewN | apply below_drew1 | refine below_set ?_ GE101.out | refine below_set ?_ GE102.out | refine below_set ?_ GE109.out | refine below_set ?_ GE117.out)) hb)
    (try clear hb)
    (try clear hb2)
    (try clear hk)
    (try clear hi)
    refine hK.out _ _ ⟨(blk_cell BK101.out 0).trans rfl, (blk_cell BK101.out 1).trans rfl, (blk_cell BK102.out 0).trans rfl, (blk_cell BK102.out 1).trans rfl, (blk_cell BK102.out 2).trans rfl⟩ (fun hHeld => ?_)
    clear hK K
    refine norm_ (a' := ?_) ?_ ?_; rotate_left; (show Act.put _ (some 47) _ = _; simp only [Act.put, List.setIfInBounds_toArray, List.set_cons_zero, List.set_cons_succ, i64_w, i32_w]; rfl)
    refine pS 13 48 (v := ?_) (a' := ?_) (ba 15 16383) HT_ (by kernel_rfl) rfl rfl (fun _ _ _ h => h) (by rfl) ?_ ?_ ?_; rotate_left 2; (intro w'; go_simp; with_reducible rfl); (simp only [Act.put, List.setIfInBounds_toArray, List.set_cons_zero, List.set_cons_succ, i64_w, i32_w]; rfl)
    refine one_ (i := 14) (N := none) (ba 15 32767) rfl rfl (one_of HT_.out (by kernel_rfl)) (by decide) (fun K hK => ?_)
    have hs53 : w52.cell? ⟨gb117, 1, none⟩ = some (.int .i64 t113) := (blk_cell BK117.out 1).trans rfl
    have hfs53 := blk_frozen BK117.out 1
    have hns53_0 := NB101_117.out
    have hns53_1 := NB102_117.out
    have hns53_2 := NB109_117.out
    have hms53_0 := NB117_101.out
    have hms53_1 := NB117_102.out
    have hms53_2 := NB117_109.out
    refine skip_ (w1 := ?_) (by rfl) rfl ?_ ?_
    rotate_left
    ·go_simp
     rfl
    refine hK.out _ _ ⟨((cell_far (p := ⟨gb117, _, none⟩) NB101_117.out _).trans (hHeld.1)), ((cell_far (p := ⟨gb117, _, none⟩) NB101_117.out _).trans (hHeld.2.1)), ((cell_far (p := ⟨gb117, _, none⟩) NB102_117.out _).trans (hHeld.2.2.1)), ((cell_far (p := ⟨gb117, _, none⟩) NB102_117.out _).trans (hHeld.2.2.2.1)), ((cell_far (p := ⟨gb117, _, none⟩) NB102_117.out _).trans (hHeld.2.2.2.2))⟩ (fun hHeld => ?_)
    clear hK K
    refine done_ (done_of HT_.out (by kernel_rfl)) ?_
    have n0_ : Aside0 (Kd.R k47 47 (w52.setCell ⟨gb117, 1, none⟩ (.int .i64 t120)) w.heap.size (fun k_ => some k_ ≠ (.slice Ao43 t110.length co43 : Value).ownBlock ∧ some k_ ≠ (v115 : Value).ownBlock) (.slice Ao32 t106.length co32) t106) := ⟨by exact Kd.R_mono (Kd.R_far (p := ⟨gb117, 1, none⟩) (Kd.R_types HO108.out BK117.out (by decide)) (fun _ hk => hk.2) (.int .i64 t120)) (fun _ hk => ⟨hk.1.1, hk.1.2⟩)⟩
    have n1_ : Aside0 (Kd.R k47 47 (w52.setCell ⟨gb117, 1, none⟩ (.int .i64 t120)) w.heap.size (fun k_ => some k_ ≠ (.slice Ao32 t106.length co32 : Value).ownBlock ∧ some k_ ≠ (v115 : Value).ownBlock) (.slice Ao43 t110.length co43) t110) := ⟨by exact Kd.R_mono (Kd.R_far (p := ⟨gb117, 1, none⟩) (Kd.R_types HO112.out BK117.out (by decide)) (fun _ hk => hk.2) (.int .i64 t120)) (fun _ hk => ⟨hk.1.1, hk.1.2⟩)⟩
    have n2_ : Aside0 (Kd.R k47 47 (w52.setCell ⟨gb117, 1, none⟩ (.int .i64 t120)) w.heap.size (fun k_ => some k_ ≠ (.slice Ao32 t106.length co32 : Value).ownBlock ∧ some k_ ≠ (.slice Ao43 t110.length co43 : Value).ownBlock) v115 t114) := ⟨by exact Kd.R_mono (Kd.R_far (p := ⟨gb117, 1, none⟩) (Kd.R_types HO116.out BK117.out (by decide)) (fun _ hk => hk.2) (.int .i64 t120)) (fun _ hk => ⟨hk.1.1, hk.1.2⟩)⟩
    have n3_ : Aside0 ((w52.setCell ⟨gb117, 1, none⟩ (.int .i64 t120)).heap[gb101]? = some (.cells #[.slice A0_0 l0_0.length c0_0, .int .i64 a0_1] 24 (0, 0))) := ⟨by refine blk_far ?_ NB101_117.out _; exact BK101.out⟩
    have n4_ : Aside0 ((w52.setCell ⟨gb117, 1, none⟩ (.int .i64 t120)).heap[gb102]? = some (.cells #[.int .i64 a1_0, .int .i64 a1_1, .int .i64 a1_2] 53 (0, 0))) := ⟨by refine blk_far ?_ NB102_117.out _; exact BK102.out⟩
    have n5_ : Aside0 ((w52.setCell ⟨gb117, 1, none⟩ (.int .i64 t120)).heap[gb109]? = some (.cells #[.slice Ao32 t106.length co32, .int .i64 a0_1] 24 (0, 0))) := ⟨by refine blk_far ?_ NB109_117.out _; exact BK109.out⟩
    have n6_ : Aside0 ((w52.setCell ⟨gb117, 1, none⟩ (.int .i64 t120)).heap[gb117]? = some (.cells #[.slice Ao43 t110.length co43, .int .i64 t120] 24 (0, 0))) := ⟨by refine blk_put (cs := #[.slice Ao43 t110.length co43, .int .i64 t113]) ?_ 1 _ rfl; exact BK117.out⟩
    have n7_ : Aside0 (Below w.heap.size w (w52.setCell ⟨gb117, 1, none⟩ (.int .i64 t120))) := ⟨by repeat (first | exact HB.out | apply below_alloc | apply pw_below_drewN | apply below_drew1 | refine below_set ?_ GE101.out | refine below_set ?_ GE102.out | refine below_set ?_ GE109.out | refine below_set ?_ GE117.out)⟩
    (try clear HO108)
    (try clear HO112)
    (try clear HO116)
    (try clear BK101)
    (try clear BK102)
    (try clear BK109)
    (try clear BK117)
    (try clear HB)
    generalize (w52.setCell ⟨gb117, 1, none⟩ (.int .i64 t120)) = w54 at n0_ n1_ n2_ n3_ n4_ n5_ n6_ n7_ ⊢
    have HO108 := n0_
    have HO112 := n1_
    have HO116 := n2_
    have BK101 := n3_
    have BK102 := n4_
    have BK109 := n5_
    have BK117 := n6_
    have HB := n7_
    clear n0_ n1_ n2_ n3_ n4_ n5_ n6_ n7_
    obtain ⟨hcz55_0, hcz55_1, hfz55_0, hfz55_1⟩ := c2 BK117.out
    obtain ⟨Ao56, co56, eo56⟩ := Kd.R_slice HO116.out
    subst eo56
    try go_wp2_with (first | ((with_reducible refine gate_callee (f := 38) rfl ?_); refine gL (some 51) Try.func38 (by kernel_rfl) #[.agg #[.slice Ao43 t110.length co43, .int .i64 t120], .slice Ao56 t114.length co56] rfl rfl rfl rfl rfl ?_; (with_reducible refine (line_Insert.calls (fun k_ => some k_ = (.slice Ao43 t110.length co43 : Value).ownBlock) _ _ t110 t120 (fun k_ => some k_ = (.slice Ao56 t114.length co56 : Value).ownBlock) _ _ t114 t121 t124 _ ?side1 ?side2 A25.out).mono ?_); (case side1 => exact Kd.R_V (Kd.R_tight rfl (Kd.R_types (Kd.R_types (Kd.R_types (Kd.R_types (HO112.out) BK101.out (by decide)) BK102.out (by decide)) BK109.out (by decide)) BK117.out (by decide)))); (case side2 => exact Kd.R_V (Kd.R_tight rfl (Kd.R_types (Kd.R_types (Kd.R_types (Kd.R_types (HO116.out) BK101.out (by decide)) BK102.out (by decide)) BK109.out (by decide)) BK117.out (by decide)))); rintro e w57 ⟨v122, rfl, ho0, hb⟩; refine ⟨_, rfl, ?_⟩; have HO123 := a0 (Kd.R_lower (Kd.R_new' (Kd.R_new' (Kd.R_new' (Kd.R_mono (ok' := fun k_ => True) ho0 (fun _ hk_ => trivial)) (Kd.R_lt HO108.out)) (Kd.R_lt HO112.out)) (Kd.R_lt HO116.out)) (below_size (by repeat (first | exact HB.out | apply below_alloc | apply pw_below_drewN | apply below_drew1 | refine below_set ?_ GE101.out | refine below_set ?_ GE102.out | refine below_set ?_ GE109.out | refine below_set ?_ GE117.out)))); replace HO108 := a0 (Kd.R_elder' HO108.out (Kd.R_base ho0) hb); replace HO112 := a0 (Kd.R_elder' HO112.out (Kd.R_base ho0) hb); replace HO116 := a0 (Kd.R_elder' HO116.out (Kd.R_base ho0) hb); replace BK101 := a0 (bB hb BK101.out); replace BK102 := a0 (bB hb BK102.out); replace BK109 := a0 (bB hb BK109.out); replace BK117 := a0 (bB hb BK117.out); replace HB := a0 (below_step (by repeat (first | exact HB.out | apply below_alloc | apply pw_below_drewN | apply below_drew1 | refine below_set ?_ GE101.out | refine below_set ?_ GE102.out | refine below_set ?_ GE109.out | refine below_set ?_ GE117.out)) hb); clear hb ho0) | ((with_reducible refine gate_dst (N := 8) rfl ?_); refine box_event ?hg (N := 8) ?hd (cs := #[.slice none 0 0, .int .i64 0]) (t := 24) ?hr ?_; (case hd => rfl); (case hg => rfl); (case hr => first | (go_simp; done) | (go_simp; rfl)); intro gb125 hg w58 hbox hb; replace HO108 := a0 (Kd.R_below HO108.out hb); replace HO112 := a0 (Kd.R_below HO112.out hb); replace HO116 := a0 (Kd.R_below HO116.out hb); replace HO123 := a0 (Kd.R_below HO123.out hb); have BK125 := a0 (hbox); have GW125 := a0 ((by rw [hg]; exact (below_size (by repeat (first | exact HB.out | apply below_alloc | apply pw_below_drewN | apply below_drew1 | refine below_set ?_ GE101.out | refine below_set ?_ GE102.out | refine below_set ?_ GE109.out | refine below_set ?_ GE117.out))) : w.heap.size ≤ gb125)); have GE125 := a0 ((by rw [hg]; exact (below_size (by repeat (first | exact HB.out | apply below_alloc | apply pw_below_drewN | apply below_drew1 | refine below_set ?_ GE101.out | refine below_set ?_ GE102.out | refine below_set ?_ GE109.out | refine below_set ?_ GE117.out))) : w.heap.size ≤ gb125)); replace HB := a0 (below_step (by repeat (first | exact HB.out | apply below_alloc | apply pw_below_drewN | apply below_drew1 | refine below_set ?_ GE101.out | refine below_set ?_ GE102.out | refine below_set ?_ GE109.out | refine below_set ?_ GE117.out)) hb); have NB101_125 := a0 ((by rw [hg]; exact Nat.ne_of_lt (blk_lt BK101.out) : gb101 ≠ gb125)); have NB125_101 := a0 ((by rw [hg]; exact Nat.ne_of_gt (blk_lt BK101.out) : gb125 ≠ gb101)); replace BK101 := a0 (bB hb BK101.out); have NB102_125 := a0 ((by rw [hg]; exact Nat.ne_of_lt (blk_lt BK102.out) : gb102 ≠ gb125)); have NB125_102 := a0 ((by rw [hg]; exact Nat.ne_of_gt (blk_lt BK102.out) : gb125 ≠ gb102)); replace BK102 := a0 (bB hb BK102.out); have NB109_125 := a0 ((by rw [hg]; exact Nat.ne_of_lt (blk_lt BK109.out) : gb109 ≠ gb125)); have NB125_109 := a0 ((by rw [hg]; exact Nat.ne_of_gt (blk_lt BK109.out) : gb125 ≠ gb109)); replace BK109 := a0 (bB hb BK109.out); have NB117_125 := a0 ((by rw [hg]; exact Nat.ne_of_lt (blk_lt BK117.out) : gb117 ≠ gb125)); have NB125_117 := a0 ((by rw [hg]; exact Nat.ne_of_gt (blk_lt BK117.out) : gb125 ≠ gb117)); replace BK117 := a0 (bB hb BK117.out); clear hb hbox hg; obtain ⟨Ao59, co59, eo59⟩ := Kd.R_slice HO123.out; subst eo59; have hnb60 := NB125_101.out; have hnc60 := NB101_125.out; have hnb61 := NB125_102.out; have hnc61 := NB102_125.out; have hnb62 := NB125_109.out; have hnc62 := NB109_125.out; have hnb63 := NB125_117.out; have hnc63 := NB117_125.out; obtain ⟨hcz64_0, hcz64_1, hfz64_0, hfz64_1⟩ := c2 BK125.out; obtain ⟨hcz65_0, hcz65_1, hfz65_0, hfz65_1⟩ := c2 BK101.out; have hcz66_0 : w58.cell? ⟨gb102, 0, none⟩ = some (.int .i64 a1_0) := (blk_cell BK102.out 0).trans rfl; have hcz66_1 : w58.cell? ⟨gb102, 1, none⟩ = some (.int .i64 a1_1) := (blk_cell BK102.out 1).trans rfl; have hcz66_2 : w58.cell? ⟨gb102, 2, none⟩ = some (.int .i64 a1_2) := (blk_cell BK102.out 2).trans rfl; have hfz66_0 := blk_frozen BK102.out 0; have hfz66_1 := blk_frozen BK102.out 1; have hfz66_2 := blk_frozen BK102.out 2) | ((with_reducible refine gate_callee (f := 39) rfl ?_); refine gL (some 57) Try.func39 (by kernel_rfl) #[.agg #[.slice A0_0 l0_0.length c0_0, .int .i64 a0_1], .int .i64 a1_0, .int .i64 a1_2] rfl rfl rfl rfl rfl ?_; (with_reducible refine (line_Case.calls _ _ l0_0 a0_1 a1_0 a1_2 t126 t129 _ ?side1 ?side2 A26.out).mono ?_); (case side1 => exact Kd.C_below HR0_0.out (by repeat (first | exact HB.out | apply below_alloc | apply pw_below_drewN | apply below_drew1 | refine below_set ?_ GE101.out | refine below_set ?_ GE102.out | refine below_set ?_ GE109.out | refine below_set ?_ GE117.out | refine below_set ?_ GE125.out))); (case side2 => exact HC0_0.out); rintro e w67 ⟨v127, rfl, ho0, hb⟩; refine ⟨_, rfl, ?_⟩; have HO128 := a0 (Kd.R_lower (Kd.R_new' (Kd.R_new' (Kd.R_new' (Kd.R_new' ho0 (Kd.R_lt ((Kd.R_mono (Kd.R_far (p := ⟨gb125, 1, none⟩) (Kd.R_far (p := ⟨gb125, 0, none⟩) (Kd.R_types HO108.out BK125.out (by decide)) (fun _ hk => hk.2) (.slice Ao59 t121.length co59)) (fun _ hk => hk.2) (.int .i64 t124)) (fun _ h_ => h_.1))))) (Kd.R_lt ((Kd.R_mono (Kd.R_far (p := ⟨gb125, 1, none⟩) (Kd.R_far (p := ⟨gb125, 0, none⟩) (Kd.R_types HO112.out BK125.out (by decide)) (fun _ hk => hk.2) (.slice Ao59 t121.length co59)) (fun _ hk => hk.2) (.int .i64 t124)) (fun _ h_ => h_.1))))) (Kd.R_lt ((Kd.R_mono (Kd.R_far (p := ⟨gb125, 1, none⟩) (Kd.R_far (p := ⟨gb125, 0, none⟩) (Kd.R_types HO116.out BK125.out (by decide)) (fun _ hk => hk.2) (.slice Ao59 t121.length co59)) (fun _ hk => hk.2) (.int .i64 t124)) (fun _ h_ => h_.1))))) (Kd.R_lt ((Kd.R_mono (Kd.R_far (p := ⟨gb125, 1, none⟩) (Kd.R_far (p := ⟨gb125, 0, none⟩) (Kd.R_types HO123.out BK125.out (by decide)) (fun _ hk => hk.2) (.slice Ao59 t121.length co59)) (fun _ hk => hk.2) (.int .i64 t124)) (fun _ h_ => h_.1))))) (below_size (by repeat (first | exact HB.out | apply below_alloc | apply pw_below_drewN | apply below_drew1 | refine below_set ?_ GE101.out | refine below_set ?_ GE102.out | refine below_set ?_ GE109.out | refine below_set ?_ GE117.out | refine below_set ?_ GE125.out)))); replace HO108 := a0 (Kd.R_elder' ((Kd.R_mono (Kd.R_far (p := ⟨gb125, 1, none⟩) (Kd.R_far (p := ⟨gb125, 0, none⟩) (Kd.R_types HO108.out BK125.out (by decide)) (fun _ hk => hk.2) (.slice Ao59 t121.length co59)) (fun _ hk => hk.2) (.int .i64 t124)) (fun _ h_ => h_.1))) (Kd.R_base ho0) hb); replace HO112 := a0 (Kd.R_elder' ((Kd.R_mono (Kd.R_far (p := ⟨gb125, 1, none⟩) (Kd.R_far (p := ⟨gb125, 0, none⟩) (Kd.R_types HO112.out BK125.out (by decide)) (fun _ hk => hk.2) (.slice Ao59 t121.length co59)) (fun _ hk => hk.2) (.int .i64 t124)) (fun _ h_ => h_.1))) (Kd.R_base ho0) hb); replace HO116 := a0 (Kd.R_elder' ((Kd.R_mono (Kd.R_far (p := ⟨gb125, 1, none⟩) (Kd.R_far (p := ⟨gb125, 0, none⟩) (Kd.R_types HO116.out BK125.out (by decide)) (fun _ hk => hk.2) (.slice Ao59 t121.length co59)) (fun _ hk => hk.2) (.int .i64 t124)) (fun _ h_ => h_.1))) (Kd.R_base ho0) hb); replace HO123 := a0 (Kd.R_elder' ((Kd.R_mono (Kd.R_far (p := ⟨gb125, 1, none⟩) (Kd.R_far (p := ⟨gb125, 0, none⟩) (Kd.R_types HO123.out BK125.out (by decide)) (fun _ hk => hk.2) (.slice Ao59 t121.length co59)) (fun _ hk => hk.2) (.int .i64 t124)) (fun _ h_ => h_.1))) (Kd.R_base ho0) hb); replace BK101 := a0 (blk_below (g := gb101) (o := .cells #[.slice A0_0 l0_0.length c0_0, .int .i64 a0_1] 24 (0, 0)) (by refine blk_far ?_ NB101_125.out _; refine blk_far ?_ NB101_125.out _; exact BK101.out) hb); replace BK102 := a0 (blk_below (g := gb102) (o := .cells #[.int .i64 a1_0, .int .i64 a1_1, .int .i64 a1_2] 53 (0, 0)) (by refine blk_far ?_ NB102_125.out _; refine blk_far ?_ NB102_125.out _; exact BK102.out) hb); replace BK109 := a0 (blk_below (g := gb109) (o := .cells #[.slice Ao32 t106.length co32, .int .i64 a0_1] 24 (0, 0)) (by refine blk_far ?_ NB109_125.out _; refine blk_far ?_ NB109_125.out _; exact BK109.out) hb); replace BK117 := a0 (blk_below (g := gb117) (o := .cells #[.slice Ao43 t110.length co43, .int .i64 t120] 24 (0, 0)) (by refine blk_far ?_ NB117_125.out _; refine blk_far ?_ NB117_125.out _; exact BK117.out) hb); replace BK125 := a0 (blk_below (g := gb125) (o := .cells #[.slice Ao59 t121.length co59, .int .i64 t124] 24 (0, 0)) (by refine blk_put (cs := #[.slice Ao59 t121.length co59, .int .i64 0]) ?_ 1 _ rfl; refine blk_put (cs := #[.slice none 0 0, .int .i64 0]) ?_ 0 _ rfl; exact BK125.out) hb); replace HB := a0 (below_step (by repeat (first | exact HB.out | apply below_alloc | apply pw_below_drewN | apply below_drew1 | refine below_set ?_ GE101.out | refine below_set ?_ GE102.out | refine below_set ?_ GE109.out | refine below_set ?_ GE117.out | refine below_set ?_ GE125.out)) hb); clear hb ho0) | ((with_reducible refine gate_dst (N := 9) rfl ?_); refine box_event ?hg (N := 9) ?hd (cs := #[.slice none 0 0, .int .i64 0]) (t := 24) ?hr ?_; (case hd => rfl); (case hg => rfl); (case hr => first | (go_simp; done) | (go_simp; rfl)); intro gb130 hg w68 hbox hb; replace HO108 := a0 (Kd.R_below HO108.out hb); replace HO112 := a0 (Kd.R_below HO112.out hb); replace HO116 := a0 (Kd.R_below HO116.out hb); replace HO123 := a0 (Kd.R_below HO123.out hb); replace HO128 := a0 (Kd.R_below HO128.out hb); have BK130 := a0 (hbox); have GW130 := a0 ((by rw [hg]; exact (below_size (by repeat (first | exact HB.out | apply below_alloc | apply pw_below_drewN | apply below_drew1 | refine below_set ?_ GE101.out | refine below_set ?_ GE102.out | refine below_set ?_ GE109.out | refine below_set ?_ GE117.out | refine below_set ?_ GE125.out))) : w.heap.size ≤ gb130)); have GE130 := a0 ((by rw [hg]; exact (below_size (by repeat (first | exact HB.out | apply below_alloc | apply pw_below_drewN | apply below_drew1 | refine below_set ?_ GE101.out | refine below_set ?_ GE102.out | refine below_set ?_ GE109.out | refine below_set ?_ GE117.out | refine below_set ?_ GE125.out))) : w.heap.size ≤ gb130)); replace HB := a0 (below_step (by repeat (first | exact HB.out | apply below_alloc | apply pw_below_drewN | apply below_drew1 | refine below_set ?_ GE101.out | refine below_set ?_ GE102.out | refine below_set ?_ GE109.out | refine below_set ?_ GE117.out | refine below_set ?_ GE125.out)) hb); have NB101_130 := a0 ((by rw [hg]; exact Nat.ne_of_lt (blk_lt BK101.out) : gb101 ≠ gb130)); have NB130_101 := a0 ((by rw [hg]; exact Nat.ne_of_gt (blk_lt BK101.out) : gb130 ≠ gb101)); replace BK101 := a0 (bB hb BK101.out); have NB102_130 := a0 ((by rw [hg]; exact Nat.ne_of_lt (blk_lt BK102.out) : gb102 ≠ gb130)); have NB130_102 := a0 ((by rw [hg]; exact Nat.ne_of_gt (blk_lt BK102.out) : gb130 ≠ gb102)); replace BK102 := a0 (bB hb BK102.out); have NB109_130 := a0 ((by rw [hg]; exact Nat.ne_of_lt (blk_lt BK109.out) : gb109 ≠ gb130)); have NB130_109 := a0 ((by rw [hg]; exact Nat.ne_of_gt (blk_lt BK109.out) : gb130 ≠ gb109)); replace BK109 := a0 (bB hb BK109.out); have NB117_130 := a0 ((by rw [hg]; exact Nat.ne_of_lt (blk_lt BK117.out) : gb117 ≠ gb130)); have NB130_117 := a0 ((by rw [hg]; exact Nat.ne_of_gt (blk_lt BK117.out) : gb130 ≠ gb117)); replace BK117 := a0 (bB hb BK117.out); have NB125_130 := a0 ((by rw [hg]; exact Nat.ne_of_lt (blk_lt BK125.out) : gb125 ≠ gb130)); have NB130_125 := a0 ((by rw [hg]; exact Nat.ne_of_gt (blk_lt BK125.out) : gb130 ≠ gb125)); replace BK125 := a0 (bB hb BK125.out); clear hb hbox hg; obtain ⟨Ao69, co69, eo69⟩ := Kd.R_slice HO128.out; subst eo69; have hnb70 := NB130_101.out; have hnc70 := NB101_130.out; have hnb71 := NB130_102.out; have hnc71 := NB102_130.out; have hnb72 := NB130_109.out; have hnc72 := NB109_130.out; have hnb73 := NB130_117.out; have hnc73 := NB117_130.out; have hnb74 := NB130_125.out; have hnc74 := NB125_130.out; obtain ⟨hcz75_0, hcz75_1, hfz75_0, hfz75_1⟩ := c2 BK130.out))
    go_loopg [10] kj2 (fun kq v10 w' => ∃ (x10_2 : Int), v10 = .int .i64 x10_2 ∧ Aside0 (dactyllaw17_LineBack.l0 kq x10_2 l0_0 a0_1 t106 a0_1 t121 t124 t126 t129 = some r) ∧ Aside0 (kq ≤ kj2) ∧ Aside0 (Kd.R k47 47 w' w.heap.size (fun k_ => some k_ ≠ ((.slice Ao43 t110.length co43) : Value).ownBlock ∧ some k_ ≠ ((.slice Ao59 t121.length co59) : Value).ownBlock ∧ some k_ ≠ ((.slice Ao69 t126.length co69) : Value).ownBlock) (.slice Ao32 t106.length co32) t106) ∧ Aside0 (Kd.R k47 47 w' w.heap.size (fun k_ => some k_ ≠ ((.slice Ao32 t106.length co32) : Value).ownBlock ∧ some k_ ≠ ((.slice Ao59 t121.length co59) : Value).ownBlock ∧ some k_ ≠ ((.slice Ao69 t126.length co69) : Value).ownBlock) (.slice Ao43 t110.length co43) t110) ∧ Aside0 (Kd.R k47 47 w' w.heap.size (fun k_ => some k_ ≠ ((.slice Ao32 t106.length co32) : Value).ownBlock ∧ some k_ ≠ ((.slice Ao43 t110.length co43) : Value).ownBlock ∧ some k_ ≠ ((.slice Ao69 t126.length co69) : Value).ownBlock) (.slice Ao59 t121.length co59) t121) ∧ Aside0 (Kd.R k47 47 w' w.heap.size (fun k_ => some k_ ≠ ((.slice Ao32 t106.length co32) : Value).ownBlock ∧ some k_ ≠ ((.slice Ao43 t110.length co43) : Value).ownBlock ∧ some k_ ≠ ((.slice Ao59 t121.length co59) : Value).ownBlock) (.slice Ao69 t126.length co69) t126) ∧ Aside0 (w'.heap[gb101]? = some (.cells #[(.slice A0_0 l0_0.length c0_0), .int .i64 a0_1] 24 (0, 0))) ∧ Aside0 (w'.heap[gb102]? = some (.cells #[.int .i64 a1_0, .int .i64 a1_1, .int .i64 a1_2] 53 (0, 0))) ∧ Aside0 (w'.heap[gb109]? = some (.cells #[(.slice Ao32 t106.length co32), .int .i64 a0_1] 24 (0, 0))) ∧ Aside0 (w'.heap[gb117]? = some (.cells #[(.slice Ao43 t110.length co43), .int .i64 t120] 24 (0, 0))) ∧ Aside0 (w'.heap[gb125]? = some (.cells #[(.slice Ao59 t121.length co59), .int .i64 t124] 24 (0, 0))) ∧ Aside0 (w'.heap[gb130]? = some (.cells #[(.slice Ao69 t126.length co69), .int .i64 t129] 24 (0, 0))) ∧ Aside0 (Below w.heap.size w w'))
    case atStart => exact ⟨(0), (by first | rfl | (simp; done) | (simp [*]; done)), H', ⟨Nat.le_refl _⟩, ⟨by exact Kd.R_mono (Kd.R_far (p := ⟨gb130, 1, none⟩) (Kd.R_far (p := ⟨gb130, 0, none⟩) (Kd.R_types HO108.out BK130.out (by decide)) (fun _ hk => hk.2) (.slice Ao69 t126.length co69)) (fun _ hk => hk.2) (.int .i64 t129)) (fun _ hk => ⟨hk.1.1.1.1, ⟨hk.1.1.2, hk.1.2⟩⟩)⟩, ⟨by exact Kd.R_mono (Kd.R_far (p := ⟨gb130, 1, none⟩) (Kd.R_far (p := ⟨gb130, 0, none⟩) (Kd.R_types HO112.out BK130.out (by decide)) (fun _ hk => hk.2) (.slice Ao69 t126.length co69)) (fun _ hk => hk.2) (.int .i64 t129)) (fun _ hk => ⟨hk.1.1.1.1, ⟨hk.1.1.2, hk.1.2⟩⟩)⟩, ⟨by exact Kd.R_mono (Kd.R_far (p := ⟨gb130, 1, none⟩) (Kd.R_far (p := ⟨gb130, 0, none⟩) (Kd.R_types HO123.out BK130.out (by decide)) (fun _ hk => hk.2) (.slice Ao69 t126.length co69)) (fun _ hk => hk.2) (.int .i64 t129)) (fun _ hk => ⟨hk.1.1.1.1.2, ⟨hk.1.1.1.2, hk.1.2⟩⟩)⟩, ⟨by exact Kd.R_mono (Kd.R_far (p := ⟨gb130, 1, none⟩) (Kd.R_far (p := ⟨gb130, 0, none⟩) (Kd.R_types HO128.out BK130.out (by decide)) (fun _ hk => hk.2) (.slice Ao69 t126.length co69)) (fun _ hk => hk.2) (.int .i64 t129)) (fun _ hk => ⟨hk.1.1.1.1.2, ⟨hk.1.1.1.2, hk.1.2⟩⟩)⟩, ⟨by refine blk_far ?_ NB101_130.out _; refine blk_far ?_ NB101_130.out _; exact BK101.out⟩, ⟨by refine blk_far ?_ NB102_130.out _; refine blk_far ?_ NB102_130.out _; exact BK102.out⟩, ⟨by refine blk_far ?_ NB109_130.out _; refine blk_far ?_ NB109_130.out _; exact BK109.out⟩, ⟨by refine blk_far ?_ NB117_130.out _; refine blk_far ?_ NB117_130.out _; exact BK117.out⟩, ⟨by refine blk_far ?_ NB125_130.out _; refine blk_far ?_ NB125_130.out _; exact BK125.out⟩, ⟨by refine blk_put (cs := #[.slice Ao69 t126.length co69, .int .i64 0]) ?_ 1 _ rfl; refine blk_put (cs := #[.slice none 0 0, .int .i64 0]) ?_ 0 _ rfl; exact BK130.out⟩, ⟨by repeat (first | exact HB.out | apply below_alloc | apply pw_below_drewN | apply below_drew1 | refine below_set ?_ GE101.out | refine below_set ?_ GE102.out | refine below_set ?_ GE109.out | refine below_set ?_ GE117.out | refine below_set ?_ GE125.out | refine below_set ?_ GE130.out)⟩⟩
    case round =>
     clear H'
     try clear p2
     try clear c3
     try clear c4
     try clear c6
     try clear c7
     try clear c34
     try clear c35
     try clear c36
     try clear c37
     try clear c38
     try clear c39
     try clear c44
     try clear c45
     try clear c46
     try clear c60
     try clear c61
     try clear c62
     try clear c63
     try clear c70
     try clear c71
     try clear c72
     try clear c73
     try clear c74
     try clear hcz38_0
     try clear hcz38_1
     try clear hcz40_0
     try clear hcz40_1
     try clear hcz40_2
     try clear hcz47_0
     try clear hcz47_1
     try clear hcz55_0
     try clear hcz55_1
     try clear hcz64_0
     try clear hcz64_1
     try clear hcz65_0
     try clear hcz65_1
     try clear hcz66_0
     try clear hcz66_1
     try clear hcz66_2
     try clear hcz75_0
     try clear hcz75_1
     try clear hfz38_0
     try clear hfz38_1
     try clear hfz40_0
     try clear hfz40_1
     try clear hfz40_2
     try clear hfz47_0
     try clear hfz47_1
     try clear hfz55_0
     try clear hfz55_1
     try clear hfz64_0
     try clear hfz64_1
     try clear hfz65_0
     try clear hfz65_1
     try clear hfz66_0
     try clear hfz66_1
     try clear hfz66_2
     try clear hfz75_0
     try clear hfz75_1
     obtain ⟨x10_2, rfl, HA, HK2, HO_110000, HO_118000, HO_126000, HO_131000, BK101, BK102, BK109, BK117, BK125, BK130, HB⟩ := hrel
     cases gk with
     | zero => exact absurd HA.out (by simp [dactyllaw17_LineBack.l0])
     | succ k2 =>
      have H := HA.out
      clear HA
      simp only [dactyllaw17_LineBack.l0] at H
      by_cases c76 : x10_2 < (l0_0.length : Int)
      ·rw [if_pos c76] at H
       have c76b0 : decide (x10_2 < (l0_0.length : Int)) = true := decide_eq_true c76
       clear c76
       by_cases c77 : (t126.length : Int) = (l0_0.length : Int)
       ·rw [if_pos c77] at H
        have c77b0 : ((t126.length : Int) == (l0_0.length : Int)) = true := beq_iff_eq.mpr c77
        have c77b1 : ((t126.length : Int) != (l0_0.length : Int)) = false := bne_eq_false_iff_eq.mpr c77
        have c77b2 : (t126.length == l0_0.length) = true := by first | simpa using c77 | (simp at c77 ⊢; omega)
        clear c77
        by_cases c78 : 0 ≤ x10_2
        ·rw [if_pos c78] at H
         have c78b0 : decide (0 ≤ x10_2) = true := decide_eq_true c78
         clear c78
         by_cases c79 : x10_2 < (t126.length : Int)
         ·rw [if_pos c79] at H
          have c79b0 : decide (x10_2 < (t126.length : Int)) = true := decide_eq_true c79
          clear c79
          by_cases c80 : ((rd_T47 t126 x10_2).f1) = ((rd_T47 l0_0 x10_2).f1)
          ·rw [if_pos c80] at H
           have c80b0 : (((rd_T47 t126 x10_2).f1) == ((rd_T47 l0_0 x10_2).f1)) = true := beq_iff_eq.mpr c80
           have c80b1 : (((rd_T47 t126 x10_2).f1) != ((rd_T47 l0_0 x10_2).f1)) = false := bne_eq_false_iff_eq.mpr c80
           clear c80
           replace H := Option.bind_eq_some_iff.mp H
           obtain ⟨t134, A810, H⟩ := H
           try dsimp only at H
           have A81 := Aside0.mk A810
           clear A810
           replace H := Option.bind_eq_some_iff.mp H
           obtain ⟨t136, A820, H⟩ := H
           try dsimp only at H
           have A82 := Aside0.mk A820
           clear A820
           by_cases c83 : t134 = t136
           ·rw [if_pos c83] at H
            have c83b0 : (t134 == t136) = true := beq_iff_eq.mpr c83
            have c83b1 : (t134 != t136) = false := bne_eq_false_iff_eq.mpr c83
            clear c83
            have H' := Aside0.mk H
            clear H
            have hnb84 := NB101_102.out
            have hnc84 := NB102_101.out
            have hnb85 := NB101_109.out
            have hnc85 := NB109_101.out
            have hnb86 := NB101_117.out
            have hnc86 := NB117_101.out
            have hnb87 := NB101_125.out
            have hnc87 := NB125_101.out
            have hnb88 := NB101_130.out
            have hnc88 := NB130_101.out
            obtain ⟨hcz89_0, hcz89_1, hfz89_0, hfz89_1⟩ := c2 BK101.out
            try go_wp2
            replace HO_110000 := a0 (Kd.R_drew HO_110000.out)
            replace HO_118000 := a0 (Kd.R_drew HO_118000.out)
            replace HO_126000 := a0 (Kd.R_drew HO_126000.out)
            replace HO_131000 := a0 (Kd.R_drew HO_131000.out)
            replace BK101 := a0 (blk_drew BK101.out)
            replace BK102 := a0 (blk_drew BK102.out)
            replace BK109 := a0 (blk_drew BK109.out)
            replace BK117 := a0 (blk_drew BK117.out)
            replace BK125 := a0 (blk_drew BK125.out)
            replace BK130 := a0 (blk_drew BK130.out)
            replace HB := a0 (below_drew1 HB.out)
            have p131 : 0 ≤ (x10_2 : Int) := of_decide_eq_true (by first | (with_reducible assumption) | assumption)
            have q131 : x10_2 < (t126.length : Int) := of_decide_eq_true (by first | (with_reducible assumption) | assumption)
            obtain ⟨ad131, e131, hx131_0, hx131_1⟩ := at_T47 (Kd.R_reads' HO_131000.out).2.2 x10_2 p131 q131
            cases e131
            replace p131 := eq_true p131
            replace q131 := eq_true q131
            have p132 : 0 ≤ (x10_2 : Int) := of_decide_eq_true (by first | (with_reducible assumption) | assumption)
            have q132 : x10_2 < (l0_0.length : Int) := of_decide_eq_true (by first | (with_reducible assumption) | assumption)
            obtain ⟨ad132, e132, hx132_0, hx132_1⟩ := at_T47 HR0_0.out x10_2 p132 q132
            have hw132_1 := hx132_1
            have hw132_0 := hx132_0
            cases e132
            replace hx132_0 := (HB.out.cell (World.block_lt_of_cell? w _ hx132_0)).trans hx132_0
            replace hx132_1 := (HB.out.cell (World.block_lt_of_cell? w _ hx132_1)).trans hx132_1
            replace p132 := eq_true p132
            replace q132 := eq_true q132
            have p133 : 0 ≤ (x10_2 : Int) := of_decide_eq_true (by first | (with_reducible assumption) | assumption)
            have q133 : x10_2 < (t126.length : Int) := of_decide_eq_true (by first | (with_reducible assumption) | assumption)
            obtain ⟨ad133, e133, hx133_0, hx133_1⟩ := at_T47 (Kd.R_reads' HO_131000.out).2.2 x10_2 p133 q133
            obtain rfl : ad131 = ad133 := (by injection e133)
            replace p133 := eq_true p133
            replace q133 := eq_true q133
            have p135 : 0 ≤ (x10_2 : Int) := of_decide_eq_true (by first | (with_reducible assumption) | assumption)
            have q135 : x10_2 < (l0_0.length : Int) := of_decide_eq_true (by first | (with_reducible assumption) | assumption)
            obtain ⟨ad135, e135, hx135_0, hx135_1⟩ := at_T47 HR0_0.out x10_2 p135 q135
            have hw135_1 := hx135_1
            have hw135_0 := hx135_0
            obtain rfl : ad132 = ad135 := (by injection e135)
            replace hx135_0 := (HB.out.cell (World.block_lt_of_cell? w _ hx135_0)).trans hx135_0
            replace hx135_1 := (HB.out.cell (World.block_lt_of_cell? w _ hx135_1)).trans hx135_1
            replace p135 := eq_true p135
            replace q135 := eq_true q135
            refine start_ (n := 39) (S := fun w' => w'.cell? ⟨gb130, 0, none⟩ = some (.slice (some ad131) t126.length co69) ∧ w'.cell? ⟨gb130, 1, none⟩ = some (.int .i64 t129) ∧ w'.cell? ⟨gb101, 0, none⟩ = some (.slice (some ad132) l0_0.length c0_0) ∧ w'.cell? ⟨gb101, 1, none⟩ = some (.int .i64 a0_1) ∧ w'.cell? (ad131.add ((x10_2).toNat * 2)) = some (.int .i64 ((rd_T47 t126 x10_2).f0)) ∧ w'.cell? ⟨(ad131.add ((x10_2).toNat * 2)).block, (ad131.add ((x10_2).toNat * 2)).off + 1, none⟩ = some (.int .i64 ((rd_T47 t126 x10_2).f1)) ∧ w'.cell? (ad132.add ((x10_2).toNat * 2)) = some (.int .i64 ((rd_T47 l0_0 x10_2).f0)) ∧ w'.cell? ⟨(ad132.add ((x10_2).toNat * 2)).block, (ad132.add ((x10_2).toNat * 2)).off + 1, none⟩ = some (.int .i64 ((rd_T47 l0_0 x10_2).f1)) ∧ w'.cell? (ad131.add ((x10_2).toNat * 2)) = some (.int .i64 ((rd_T47 t126 x10_2).f0)) ∧ w'.cell? ⟨(ad131.add ((x10_2).toNat * 2)).block, (ad131.add ((x10_2).toNat * 2)).off + 1, none⟩ = some (.int .i64 ((rd_T47 t126 x10_2).f1)) ∧ w'.cell? (ad132.add ((x10_2).toNat * 2)) = some (.int .i64 ((rd_T47 l0_0 x10_2).f0)) ∧ w'.cell? ⟨(ad132.add ((x10_2).toNat * 2)).block, (ad132.add ((x10_2).toNat * 2)).off + 1, none⟩ = some (.int .i64 ((rd_T47 l0_0 x10_2).f1))) (ds := []) (ba 39 0) (by kernel_rfl) rfl rfl ⟨(blk_cell BK130.out 0).trans rfl, (blk_cell BK130.out 1).trans rfl, (blk_cell BK101.out 0).trans rfl, (blk_cell BK101.out 1).trans rfl, hx131_0, hx131_1, ((HB.out.cell (World.block_lt_of_cell? w _ hw132_0)).trans hw132_0), ((HB.out.cell (World.block_lt_of_cell? w _ hw132_1)).trans hw132_1), hx133_0, hx133_1, ((HB.out.cell (World.block_lt_of_cell? w _ hw135_0)).trans hw135_0), ((HB.out.cell (World.block_lt_of_cell? w _ hw135_1)).trans hw135_1)⟩ (fun hHeld => ?_); refine with_tabW dactyllaw17_LineBack.tab11 dactyllaw17_LineBack.bits11 (fun HT_ HW_ => ?_)
            generalize wr.drew = w90 at HO_110000 HO_118000 HO_126000 HO_131000 BK101 BK102 BK109 BK117 BK125 BK130 HB hx131_0 hx131_1 hx132_0 hx132_1 hx133_0 hx133_1 hx135_0 hx135_1 hHeld ⊢
            refine pS 0 65 (v := ?_) (a' := ?_) (ba 39 1) HT_ (by kernel_rfl) rfl rfl (fun _ _ _ h => h) (by rfl) ?_ ?_ ?_; rotate_left 2; (intro w'; go_simp; with_reducible rfl); (simp only [Act.put, List.setIfInBounds_toArray, List.set_cons_zero, List.set_cons_succ, i64_w, i32_w]; rfl)
            refine pS 3 68 (v := ?_) (a' := ?_) (ba 39 9) HT_ (by kernel_rfl) rfl rfl (fun _ _ _ h => h) (by rfl) ?_ ?_ ?_; rotate_left 2; (intro w'; go_simp; with_reducible rfl); (simp only [Act.put, List.setIfInBounds_toArray, List.set_cons_zero, List.set_cons_succ, i64_w, i32_w]; rfl)
            refine take_ (i := 1) (N := some 66) (v := ?_) (a' := ?_) (ba 39 11) rfl rfl (take_ofW HT_.out HW_.out (by kernel_rfl)) (fun _ _ _ h => h) (Or.inl ⟨by rfl, ?_⟩) hHeld ?_ ?_; rotate_left; (rintro w' ⟨s0, s1, s2, s3, s4, s5, s6, s7, s8, s9, s10, s11⟩; go_simp; with_reducible rfl); rotate_left; (simp only [Act.put, List.setIfInBounds_toArray, List.set_cons_zero, List.set_cons_succ, i64_w, i32_w]; rfl)
            refine pS 2 67 (v := ?_) (a' := ?_) (ba 39 15) HT_ (by kernel_rfl) rfl rfl (fun _ _ _ h => h) (by rfl) ?_ ?_ ?_; rotate_left 2; (intro w'; go_simp; with_reducible rfl); (simp only [Act.put, List.setIfInBounds_toArray, List.set_cons_zero, List.set_cons_succ, i64_w, i32_w]; rfl)
            refine take_ (i := 4) (N := some 69) (v := ?_) (a' := ?_) (ba 39 31) rfl rfl (take_ofW HT_.out HW_.out (by kernel_rfl)) (fun _ _ _ h => h) (Or.inl ⟨by rfl, ?_⟩) hHeld ?_ ?_; rotate_left; (rintro w' ⟨s0, s1, s2, s3, s4, s5, s6, s7, s8, s9, s10, s11⟩; go_simp; with_reducible rfl); rotate_left; (simp only [Act.put, List.setIfInBounds_toArray, List.set_cons_zero, List.set_cons_succ, i64_w, i32_w]; rfl)
            refine pS 5 70 (v := ?_) (a' := ?_) (ba 39 63) HT_ (by kernel_rfl) rfl rfl (fun _ _ _ h => h) (by rfl) ?_ ?_ ?_; rotate_left 2; (intro w'; go_simp; with_reducible rfl); (simp only [Act.put, List.setIfInBounds_toArray, List.set_cons_zero, List.set_cons_succ, i64_w, i32_w]; rfl)
            refine pS 6 71 (v := ?_) (a' := ?_) (ba 39 127) HT_ (by kernel_rfl) rfl rfl (fun _ _ _ h => h) (by rfl) ?_ ?_ ?_; rotate_left 2; (intro w'; go_simp; with_reducible rfl); (simp only [Act.put, List.setIfInBounds_toArray, List.set_cons_zero, List.set_cons_succ, i64_w, i32_w]; rfl)
            refine pS 7 72 (v := ?_) (a' := ?_) (ba 39 255) HT_ (by kernel_rfl) rfl rfl (fun _ _ _ h => h) (by rfl) ?_ ?_ ?_; rotate_left 2; (intro w'; go_simp; with_reducible rfl); (simp only [Act.put, List.setIfInBounds_toArray, List.set_cons_zero, List.set_cons_succ, i64_w, i32_w]; rfl)
            refine pS 8 73 (v := ?_) (a' := ?_) (ba 39 511) HT_ (by kernel_rfl) rfl rfl (fun _ _ _ h => h) (by rfl) ?_ ?_ ?_; rotate_left 2; (intro w'; go_simp; with_reducible rfl); (simp only [Act.put, List.setIfInBounds_toArray, List.set_cons_zero, List.set_cons_succ, i64_w, i32_w]; rfl)
            refine pS 10 75 (v := ?_) (a' := ?_) (ba 39 1535) HT_ (by kernel_rfl) rfl rfl (fun _ _ _ h => h) (by rfl) ?_ ?_ ?_; rotate_left 2; (intro w'; go_simp; with_reducible rfl); (simp only [Act.put, List.setIfInBounds_toArray, List.set_cons_zero, List.set_cons_succ, i64_w, i32_w]; rfl)
            refine pS 14 79 (v := ?_) (a' := ?_) (ba 39 17919) HT_ (by kernel_rfl) rfl rfl (fun _ _ _ h => h) (by rfl) ?_ ?_ ?_; rotate_left 2; (intro w'; go_simp; with_reducible rfl); (simp only [Act.put, List.setIfInBounds_toArray, List.set_cons_zero, List.set_cons_succ, i64_w, i32_w]; rfl)
            refine pS 16 81 (v := ?_) (a' := ?_) (ba 39 83455) HT_ (by kernel_rfl) rfl rfl (fun _ _ _ h => h) (by rfl) ?_ ?_ ?_; rotate_left 2; (intro w'; go_simp; with_reducible rfl); (simp only [Act.put, List.setIfInBounds_toArray, List.set_cons_zero, List.set_cons_succ, i64_w, i32_w]; rfl)
            refine take_ (i := 9) (N := some 74) (v := ?_) (a' := ?_) (ba 39 83967) rfl rfl (take_ofW HT_.out HW_.out (by kernel_rfl)) (fun _ _ _ h => h) (Or.inl ⟨by rfl, ?_⟩) hHeld ?_ ?_; rotate_left; (rintro w' ⟨s0, s1, s2, s3, s4, s5, s6, s7, s8, s9, s10, s11⟩; go_simp; with_reducible rfl); rotate_left; (simp only [Act.put, List.setIfInBounds_toArray, List.set_cons_zero, List.set_cons_succ, i64_w, i32_w]; rfl)
            refine pS 11 76 (v := ?_) (a' := ?_) (ba 39 86015) HT_ (by kernel_rfl) rfl rfl (fun _ _ _ h => h) (by rfl) ?_ ?_ ?_; rotate_left 2; (intro w'; go_simp; with_reducible rfl); (simp only [Act.put, List.setIfInBounds_toArray, List.set_cons_zero, List.set_cons_succ, i64_w, i32_w]; rfl)
            refine pS 12 77 (v := ?_) (a' := ?_) (ba 39 90111) HT_ (by kernel_rfl) rfl rfl (fun _ _ _ h => h) (by rfl) ?_ ?_ ?_; rotate_left 2; (intro w'; go_simp; with_reducible rfl); (simp only [Act.put, List.setIfInBounds_toArray, List.set_cons_zero, List.set_cons_succ, i64_w, i32_w]; rfl)
            refine take_ (i := 13) (N := some 78) (v := ?_) (a' := ?_) (ba 39 98303) rfl rfl (take_ofW HT_.out HW_.out (by kernel_rfl)) (fun _ _ _ h => h) (Or.inl ⟨by rfl, ?_⟩) hHeld ?_ ?_; rotate_left; (rintro w' ⟨s0, s1, s2, s3, s4, s5, s6, s7, s8, s9, s10, s11⟩; go_simp; with_reducible rfl); rotate_left; (simp only [Act.put, List.setIfInBounds_toArray, List.set_cons_zero, List.set_cons_succ, i64_w, i32_w]; rfl)
            refine take_ (i := 15) (N := some 80) (v := ?_) (a' := ?_) (ba 39 131071) rfl rfl (take_ofW HT_.out HW_.out (by kernel_rfl)) (fun _ _ _ h => h) (Or.inl ⟨by rfl, ?_⟩) hHeld ?_ ?_; rotate_left; (rintro w' ⟨s0, s1, s2, s3, s4, s5, s6, s7, s8, s9, s10, s11⟩; go_simp; with_reducible rfl); rotate_left; (simp only [Act.put, List.setIfInBounds_toArray, List.set_cons_zero, List.set_cons_succ, i64_w, i32_w]; rfl)
            refine pS 17 82 (v := ?_) (a' := ?_) (ba 39 262143) HT_ (by kernel_rfl) rfl rfl (fun _ _ _ h => h) (by rfl) ?_ ?_ ?_; rotate_left 2; (intro w'; go_simp; with_reducible rfl); (simp only [Act.put, List.setIfInBounds_toArray, List.set_cons_zero, List.set_cons_succ, i64_w, i32_w]; rfl)
            refine pS 18 83 (v := ?_) (a' := ?_) (ba 39 524287) HT_ (by kernel_rfl) rfl rfl (fun _ _ _ h => h) (by rfl) ?_ ?_ ?_; rotate_left 2; (intro w'; go_simp; with_reducible rfl); (simp only [Act.put, List.setIfInBounds_toArray, List.set_cons_zero, List.set_cons_succ, i64_w, i32_w]; rfl)
            refine take_ (i := 19) (N := some 84) (v := ?_) (a' := ?_) (ba 39 1048575) rfl rfl (take_ofW HT_.out HW_.out (by kernel_rfl)) (fun _ _ _ h => h) (Or.inl ⟨by rfl, ?_⟩) hHeld ?_ ?_; rotate_left; (rintro w' ⟨s0, s1, s2, s3, s4, s5, s6, s7, s8, s9, s10, s11⟩; go_simp; with_reducible rfl); rotate_left; (simp only [Act.put, List.setIfInBounds_toArray, List.set_cons_zero, List.set_cons_succ, i64_w, i32_w]; rfl)
            refine pS 20 85 (v := ?_) (a' := ?_) (ba 39 2097151) HT_ (by kernel_rfl) rfl rfl (fun _ _ _ h => h) (by rfl) ?_ ?_ ?_; rotate_left 2; (intro w'; go_simp; with_reducible rfl); (simp only [Act.put, List.setIfInBounds_toArray, List.set_cons_zero, List.set_cons_succ, i64_w, i32_w]; rfl)
            refine pS 21 86 (v := ?_) (a' := ?_) (ba 39 4194303) HT_ (by kernel_rfl) rfl rfl (fun _ _ _ h => h) (by rfl) ?_ ?_ ?_; rotate_left 2; (intro w'; go_simp; with_reducible rfl); (simp only [Act.put, List.setIfInBounds_toArray, List.set_cons_zero, List.set_cons_succ, i64_w, i32_w]; rfl)
            refine pS 22 87 (v := ?_) (a' := ?_) (ba 39 8388607) HT_ (by kernel_rfl) rfl rfl (fun _ _ _ h => h) (by rfl) ?_ ?_ ?_; rotate_left 2; (intro w'; go_simp; with_reducible rfl); (simp only [Act.put, List.setIfInBounds_toArray, List.set_cons_zero, List.set_cons_succ, i64_w, i32_w]; rfl)
            refine pS 23 88 (v := ?_) (a' := ?_) (ba 39 16777215) HT_ (by kernel_rfl) rfl rfl (fun _ _ _ h => h) (by rfl) ?_ ?_ ?_; rotate_left 2; (intro w'; go_simp; with_reducible rfl); (simp only [Act.put, List.setIfInBounds_toArray, List.set_cons_zero, List.set_cons_succ, i64_w, i32_w]; rfl)
            refine pS 25 90 (v := ?_) (a' := ?_) (ba 39 50331647) HT_ (by kernel_rfl) rfl rfl (fun _ _ _ h => h) (by rfl) ?_ ?_ ?_; rotate_left 2; (intro w'; go_simp; with_reducible rfl); (simp only [Act.put, List.setIfInBounds_toArray, List.set_cons_zero, List.set_cons_succ, i64_w, i32_w]; rfl)
            refine pS 30 95 (v := ?_) (a' := ?_) (ba 39 1124073471) HT_ (by kernel_rfl) rfl rfl (fun _ _ _ h => h) (by rfl) ?_ ?_ ?_; rotate_left 2; (intro w'; go_simp; with_reducible rfl); (simp only [Act.put, List.setIfInBounds_toArray, List.set_cons_zero, List.set_cons_succ, i64_w, i32_w]; rfl)
            refine pS 32 97 (v := ?_) (a' := ?_) (ba 39 5419040767) HT_ (by kernel_rfl) rfl rfl (fun _ _ _ h => h) (by rfl) ?_ ?_ ?_; rotate_left 2; (intro w'; go_simp; with_reducible rfl); (simp only [Act.put, List.setIfInBounds_toArray, List.set_cons_zero, List.set_cons_succ, i64_w, i32_w]; rfl)
            refine take_ (i := 24) (N := some 89) (v := ?_) (a' := ?_) (ba 39 5435817983) rfl rfl (take_ofW HT_.out HW_.out (by kernel_rfl)) (fun _ _ _ h => h) (Or.inl ⟨by rfl, ?_⟩) hHeld ?_ ?_; rotate_left; (rintro w' ⟨s0, s1, s2, s3, s4, s5, s6, s7, s8, s9, s10, s11⟩; go_simp; with_reducible rfl); rotate_left; (simp only [Act.put, List.setIfInBounds_toArray, List.set_cons_zero, List.set_cons_succ, i64_w, i32_w]; rfl)
            refine pS 26 91 (v := ?_) (a' := ?_) (ba 39 5502926847) HT_ (by kernel_rfl) rfl rfl (fun _ _ _ h => h) (by rfl) ?_ ?_ ?_; rotate_left 2; (intro w'; go_simp; with_reducible rfl); (simp only [Act.put, List.setIfInBounds_toArray, List.set_cons_zero, List.set_cons_succ, i64_w, i32_w]; rfl)
            refine pS 27 92 (v := ?_) (a' := ?_) (ba 39 5637144575) HT_ (by kernel_rfl) rfl rfl (fun _ _ _ h => h) (by rfl) ?_ ?_ ?_; rotate_left 2; (intro w'; go_simp; with_reducible rfl); (simp only [Act.put, List.setIfInBounds_toArray, List.set_cons_zero, List.set_cons_succ, i64_w, i32_w]; rfl)
            refine take_ (i := 28) (N := some 93) (v := ?_) (a' := ?_) (ba 39 5905580031) rfl rfl (take_ofW HT_.out HW_.out (by kernel_rfl)) (fun _ _ _ h => h) (Or.inl ⟨by rfl, ?_⟩) hHeld ?_ ?_; rotate_left; (rintro w' ⟨s0, s1, s2, s3, s4, s5, s6, s7, s8, s9, s10, s11⟩; go_simp; with_reducible rfl); rotate_left; (simp only [Act.put, List.setIfInBounds_toArray, List.set_cons_zero, List.set_cons_succ, i64_w, i32_w]; rfl)
            refine take_ (i := 31) (N := some 96) (v := ?_) (a' := ?_) (ba 39 8053063679) rfl rfl (take_ofW HT_.out HW_.out (by kernel_rfl)) (fun _ _ _ h => h) (Or.inl ⟨by rfl, ?_⟩) hHeld ?_ ?_; rotate_left; (rintro w' ⟨s0, s1, s2, s3, s4, s5, s6, s7, s8, s9, s10, s11⟩; go_simp; with_reducible rfl); rotate_left; (simp only [Act.put, List.setIfInBounds_toArray, List.set_cons_zero, List.set_cons_succ, i64_w, i32_w]; rfl)
            refine pS 33 98 (v := ?_) (a' := ?_) (ba 39 16642998271) HT_ (by kernel_rfl) rfl rfl (fun _ _ _ h => h) (by rfl) ?_ ?_ ?_; rotate_left 2; (intro w'; go_simp; with_reducible rfl); (simp only [Act.put, List.setIfInBounds_toArray, List.set_cons_zero, List.set_cons_succ, i64_w, i32_w]; rfl)
            refine pS 34 99 (v := ?_) (a' := ?_) (ba 39 33822867455) HT_ (by kernel_rfl) rfl rfl (fun _ _ _ h => h) (by rfl) ?_ ?_ ?_; rotate_left 2; (intro w'; go_simp; with_reducible rfl); (simp only [Act.put, List.setIfInBounds_toArray, List.set_cons_zero, List.set_cons_succ, i64_w, i32_w]; rfl)
            refine take_ (i := 35) (N := some 100) (v := ?_) (a' := ?_) (ba 39 68182605823) rfl rfl (take_ofW HT_.out HW_.out (by kernel_rfl)) (fun _ _ _ h => h) (Or.inl ⟨by rfl, ?_⟩) hHeld ?_ ?_; rotate_left; (rintro w' ⟨s0, s1, s2, s3, s4, s5, s6, s7, s8, s9, s10, s11⟩; go_simp; with_reducible rfl); rotate_left; (simp only [Act.put, List.setIfInBounds_toArray, List.set_cons_zero, List.set_cons_succ, i64_w, i32_w]; rfl)
            refine one_ (i := 29) (N := some 94) (ba 39 68719476735) rfl rfl (one_of HT_.out (by kernel_rfl)) (by decide) (fun K hK => ?_)
            refine gR Try.func40 (by kernel_rfl) #[.int .i64 ((rd_T47 t126 x10_2).f0), .bool true] (by rfl) rfl rfl rfl rfl ?_
            with_reducible refine (dactylref17_LetterB.calls k2 ((rd_T47 t126 x10_2).f0) true t134 _ A81.out).mono ?_
            rintro e w91 ⟨rfl, hb⟩
            have HS4_ := (hb.cell (World.block_lt_of_cell? _ _ (hHeld.2.2.2.2.1))).trans (hHeld.2.2.2.2.1)
            have HS5_ := (hb.cell (World.block_lt_of_cell? _ _ (hHeld.2.2.2.2.2.1))).trans (hHeld.2.2.2.2.2.1)
            have HS8_ := (hb.cell (World.block_lt_of_cell? _ _ (hHeld.2.2.2.2.2.2.2.2.1))).trans (hHeld.2.2.2.2.2.2.2.2.1)
            have HS9_ := (hb.cell (World.block_lt_of_cell? _ _ (hHeld.2.2.2.2.2.2.2.2.2.1))).trans (hHeld.2.2.2.2.2.2.2.2.2.1)
            refine ⟨_, rfl, ?_⟩
            replace HO_110000 := a0 (Kd.R_below HO_110000.out hb)
            replace HO_118000 := a0 (Kd.R_below HO_118000.out hb)
            replace HO_126000 := a0 (Kd.R_below HO_126000.out hb)
            replace HO_131000 := a0 (Kd.R_below HO_131000.out hb)
            replace BK101 := a0 (bB hb BK101.out)
            replace BK102 := a0 (bB hb BK102.out)
            replace BK109 := a0 (bB hb BK109.out)
            replace BK117 := a0 (bB hb BK117.out)
            replace BK125 := a0 (bB hb BK125.out)
            replace BK130 := a0 (bB hb BK130.out)
            replace HB := a0 (below_step (by repeat (first | exact HB.out | apply below_alloc | apply pw_below_drewN | apply below_drew1 | refine below_set ?_ GE101.out | refine below_set ?_ GE102.out | refine below_set ?_ GE109.out | refine below_set ?_ GE117.out | refine below_set ?_ GE125.out | refine below_set ?_ GE130.out)) hb)
            (try clear hb)
            (try clear hb2)
            (try clear hk)
            (try clear hi)
            refine hK.out _ _ ⟨(blk_cell BK130.out 0).trans rfl, (blk_cell BK130.out 1).trans rfl, (blk_cell BK101.out 0).trans rfl, (blk_cell BK101.out 1).trans rfl, HS4_, HS5_, ((HB.out.cell (World.block_lt_of_cell? w _ hw132_0)).trans hw132_0), ((HB.out.cell (World.block_lt_of_cell? w _ hw132_1)).trans hw132_1), HS8_, HS9_, ((HB.out.cell (World.block_lt_of_cell? w _ hw135_0)).trans hw135_0), ((HB.out.cell (World.block_lt_of_cell? w _ hw135_1)).trans hw135_1)⟩ (fun hHeld => ?_)
            clear hK K
            refine norm_ (a' := ?_) ?_ ?_; rotate_left; (show Act.put _ (some 94) _ = _; simp only [Act.put, List.setIfInBounds_toArray, List.set_cons_zero, List.set_cons_succ, i64_w, i32_w]; rfl)
            refine one_ (i := 36) (N := some 101) (ba 39 137438953471) rfl rfl (one_of HT_.out (by kernel_rfl)) (by decide) (fun K hK => ?_)
            refine gR Try.func40 (by kernel_rfl) #[.int .i64 ((rd_T47 l0_0 x10_2).f0), .bool true] (by rfl) rfl rfl rfl rfl ?_
            with_reducible refine (dactylref17_LetterB.calls k2 ((rd_T47 l0_0 x10_2).f0) true t136 _ A82.out).mono ?_
            rintro e w92 ⟨rfl, hb⟩
            have HS4_ := (hb.cell (World.block_lt_of_cell? _ _ (hHeld.2.2.2.2.1))).trans (hHeld.2.2.2.2.1)
            have HS5_ := (hb.cell (World.block_lt_of_cell? _ _ (hHeld.2.2.2.2.2.1))).trans (hHeld.2.2.2.2.2.1)
            have HS8_ := (hb.cell (World.block_lt_of_cell? _ _ (hHeld.2.2.2.2.2.2.2.2.1))).trans (hHeld.2.2.2.2.2.2.2.2.1)
            have HS9_ := (hb.cell (World.block_lt_of_cell? _ _ (hHeld.2.2.2.2.2.2.2.2.2.1))).trans (hHeld.2.2.2.2.2.2.2.2.2.1)
            refine ⟨_, rfl, ?_⟩
            replace HO_110000 := a0 (Kd.R_below HO_110000.out hb)
            replace HO_118000 := a0 (Kd.R_below HO_118000.out hb)
            replace HO_126000 := a0 (Kd.R_below HO_126000.out hb)
            replace HO_131000 := a0 (Kd.R_below HO_131000.out hb)
            replace BK101 := a0 (bB hb BK101.out)
            replace BK102 := a0 (bB hb BK102.out)
            replace BK109 := a0 (bB hb BK109.out)
            replace BK117 := a0 (bB hb BK117.out)
            replace BK125 := a0 (bB hb BK125.out)
            replace BK130 := a0 (bB hb BK130.out)
            replace HB := a0 (below_step (by repeat (first | exact HB.out | apply below_alloc | apply pw_below_drewN | apply below_drew1 | refine below_set ?_ GE101.out | refine below_set ?_ GE102.out | refine below_set ?_ GE109.out | refine below_set ?_ GE117.out | refine below_set ?_ GE125.out | refine below_set ?_ GE130.out)) hb)
            (try clear hb)
            (try clear hb2)
            (try clear hk)
            (try clear hi)
            refine hK.out _ _ ⟨(blk_cell BK130.out 0).trans rfl, (blk_cell BK130.out 1).trans rfl, (blk_cell BK101.out 0).trans rfl, (blk_cell BK101.out 1).trans rfl, HS4_, HS5_, ((HB.out.cell (World.block_lt_of_cell? w _ hw132_0)).trans hw132_0), ((HB.out.cell (World.block_lt_of_cell? w _ hw132_1)).trans hw132_1), HS8_, HS9_, ((HB.out.cell (World.block_lt_of_cell? w _ hw135_0)).trans hw135_0), ((HB.out.cell (World.block_lt_of_cell? w _ hw135_1)).trans hw135_1)⟩ (fun hHeld => ?_)
            clear hK K
            refine norm_ (a' := ?_) ?_ ?_; rotate_left; (show Act.put _ (some 101) _ = _; simp only [Act.put, List.setIfInBounds_toArray, List.set_cons_zero, List.set_cons_succ, i64_w, i32_w]; rfl)
            refine pS 37 102 (v := ?_) (a' := ?_) (ba 39 274877906943) HT_ (by kernel_rfl) rfl rfl (fun _ _ _ h => h) (by rfl) ?_ ?_ ?_; rotate_left 2; (intro w'; go_simp; with_reducible rfl); (simp only [Act.put, List.setIfInBounds_toArray, List.set_cons_zero, List.set_cons_succ, i64_w, i32_w]; rfl)
            refine pS 38 103 (v := ?_) (a' := ?_) (ba 39 549755813887) HT_ (by kernel_rfl) rfl rfl (fun _ _ _ h => h) (by rfl) ?_ ?_ ?_; rotate_left 2; (intro w'; go_simp; with_reducible rfl); (simp only [Act.put, List.setIfInBounds_toArray, List.set_cons_zero, List.set_cons_succ, i64_w, i32_w]; rfl)
            refine done_ (done_of HT_.out (by kernel_rfl)) ?_
            try go_wp2
            go_roundg k2
            case measure => have := HJ2.out; have := HK2.out; omega
            case rel => exact ⟨(wrap64 (x10_2 + 1)), (by first | rfl | (simp; done) | (simp [*]; done)), H', ⟨by have := HJ2.out; have := HK2.out; omega⟩, ⟨by exact HO_110000.out⟩, ⟨by exact HO_118000.out⟩, ⟨by exact HO_126000.out⟩, ⟨by exact HO_131000.out⟩, ⟨by exact BK101.out⟩, ⟨by exact BK102.out⟩, ⟨by exact BK109.out⟩, ⟨by exact BK117.out⟩, ⟨by exact BK125.out⟩, ⟨by exact BK130.out⟩, ⟨by repeat (first | exact HB.out | apply below_alloc | apply pw_below_drewN | apply below_drew1 | refine below_set ?_ GE101.out | refine below_set ?_ GE102.out | refine below_set ?_ GE109.out | refine below_set ?_ GE117.out | refine below_set ?_ GE125.out | refine below_set ?_ GE130.out)⟩⟩
           ·rw [if_neg c83] at H
            have c83b0 : (t134 == t136) = false := beq_eq_false_iff_ne.mpr c83
            have c83b1 : (t134 != t136) = true := bne_iff_ne.mpr c83
            obtain rfl := Option.some.inj H
            exact absurd HR_.out (by decide)
          ·rw [if_neg c80] at H
           have c80b0 : (((rd_T47 t126 x10_2).f1) == ((rd_T47 l0_0 x10_2).f1)) = false := beq_eq_false_iff_ne.mpr c80
           have c80b1 : (((rd_T47 t126 x10_2).f1) != ((rd_T47 l0_0 x10_2).f1)) = true := bne_iff_ne.mpr c80
           obtain rfl := Option.some.inj H
           exact absurd HR_.out (by decide)
         ·rw [if_neg c79] at H
          exact absurd H (by simp)
        ·rw [if_neg c78] at H
         exact absurd H (by simp)
       ·rw [if_neg c77] at H
        have c77b0 : ((t126.length : Int) == (l0_0.length : Int)) = false := beq_eq_false_iff_ne.mpr c77
        have c77b1 : ((t126.length : Int) != (l0_0.length : Int)) = true := bne_iff_ne.mpr c77
        have c77b2 : (t126.length == l0_0.length) = false := by first | simpa using c77 | (simp at c77 ⊢; omega)
        obtain rfl := Option.some.inj H
        exact absurd HR_.out (by decide)
      ·rw [if_neg c76] at H
       have c76b0 : decide (x10_2 < (l0_0.length : Int)) = false := decide_eq_false c76
       clear c76
       replace H := Option.bind_eq_some_iff.mp H
       obtain ⟨⟨t137, t140, t141⟩, A930, H⟩ := H
       try dsimp only at H
       have A93 := Aside0.mk A930
       clear A930
       replace H := Option.bind_eq_some_iff.mp H
       obtain ⟨⟨t142, t145, t146⟩, A940, H⟩ := H
       try dsimp only at H
       have A94 := Aside0.mk A940
       clear A940
       replace H := Option.bind_eq_some_iff.mp H
       obtain ⟨t147, A950, H⟩ := H
       try dsimp only at H
       have A95 := Aside0.mk A950
       clear A950
       by_cases c96 : t147 = true
       ·subst c96
        have H1 : ((dactylref04_SameB.f k2 t121 l0_0).bind fun t148 => (if t148 = true then ((dactylref16_Same.f k2 l0_0 a0_1 t106 a0_1).bind fun t149 => (some t149)) else (some false))) = some r := by rw [if_pos rfl] at H; exact H
        clear H
        have H := H1
        clear H1
        replace H := Option.bind_eq_some_iff.mp H
        obtain ⟨t148, A970, H⟩ := H
        try dsimp only at H
        have A97 := Aside0.mk A970
        clear A970
        by_cases c98 : t148 = true
        ·subst c98
         have H1 : ((dactylref16_Same.f k2 l0_0 a0_1 t106 a0_1).bind fun t149 => (some t149)) = some r := by rw [if_pos rfl] at H; exact H
         clear H
         have H := H1
         clear H1
         replace H := Option.bind_eq_some_iff.mp H
         obtain ⟨t149, A990, H⟩ := H
         try dsimp only at H
         have A99 := Aside0.mk A990
         clear A990
         obtain rfl := Option.some.inj H
         have hnb100 := NB101_102.out
         have hnc100 := NB102_101.out
         have hnb101 := NB101_109.out
         have hnc101 := NB109_101.out
         have hnb102 := NB101_117.out
         have hnc102 := NB117_101.out
         have hnb103 := NB101_125.out
         have hnc103 := NB125_101.out
         have hnb104 := NB101_130.out
         have hnc104 := NB130_101.out
         obtain ⟨hcz105_0, hcz105_1, hfz105_0, hfz105_1⟩ := c2 BK101.out
         go_wp2_with (first | ((with_reducible refine gate_callee (f := 30) rfl ?_); refine gL (some 105) Try.func30 (by kernel_rfl) #[.agg #[.slice A0_0 l0_0.length c0_0, .int .i64 a0_1]] rfl rfl rfl rfl rfl ?_; (with_reducible refine (line_Swap.calls _ _ l0_0 a0_1 t137 t140 t141 _ ?side1 ?side2 A93.out).mono ?_); (case side1 => repeat (first | exact (Kd.C_below HR0_0.out HB.out) | (with_reducible refine Kd.C_alloc ?_ _) | (with_reducible refine Kd.C_drewN ?_ _) | (with_reducible refine Kd.C_drew ?_))); (case side2 => exact HC0_0.out); rintro e w106 ⟨v138, rfl, ho0, hb⟩; refine ⟨_, rfl, ?_⟩; have HO139 := a0 (Kd.R_lower (Kd.R_new' (Kd.R_new' (Kd.R_new' (Kd.R_new' ho0 (Kd.R_lt HO_110000.out)) (Kd.R_lt HO_118000.out)) (Kd.R_lt HO_126000.out)) (Kd.R_lt HO_131000.out)) (below_size (by repeat (first | exact HB.out | apply below_alloc | apply pw_below_drewN | apply below_drew1 | refine below_set ?_ GE101.out | refine below_set ?_ GE102.out | refine below_set ?_ GE109.out | refine below_set ?_ GE117.out | refine below_set ?_ GE125.out | refine below_set ?_ GE130.out)))); replace HO_110000 := a0 (Kd.R_elder' HO_110000.out (Kd.R_base ho0) hb); replace HO_118000 := a0 (Kd.R_elder' HO_118000.out (Kd.R_base ho0) hb); replace HO_126000 := a0 (Kd.R_elder' HO_126000.out (Kd.R_base ho0) hb); replace HO_131000 := a0 (Kd.R_elder' HO_131000.out (Kd.R_base ho0) hb); replace BK101 := a0 (bB hb BK101.out); replace BK102 := a0 (bB hb BK102.out); replace BK109 := a0 (bB hb BK109.out); replace BK117 := a0 (bB hb BK117.out); replace BK125 := a0 (bB hb BK125.out); replace BK130 := a0 (bB hb BK130.out); replace HB := a0 (below_step (by repeat (first | exact HB.out | apply below_alloc | apply pw_below_drewN | apply below_drew1 | refine below_set ?_ GE101.out | refine below_set ?_ GE102.out | refine below_set ?_ GE109.out | refine below_set ?_ GE117.out | refine below_set ?_ GE125.out | refine below_set ?_ GE130.out)) hb); clear hb ho0; obtain ⟨hcz107_0, hcz107_1, hfz107_0, hfz107_1⟩ := c2 BK101.out) | ((with_reducible refine gate_callee (f := 32) rfl ?_); refine gL (some 107) Try.func32 (by kernel_rfl) #[.agg #[.slice A0_0 l0_0.length c0_0, .int .i64 a0_1]] rfl rfl rfl rfl rfl ?_; (with_reducible refine (line_SwapWords.calls k2 (fun k_ => k_ < w.heap.size) _ _ l0_0 a0_1 t142 t145 t146 _ ?side1 A94.out).mono ?_); (case side1 => exact Kd.V_mk HC0_0.out (Kd.F_below (Kd.C_F k47_heap HR0_0.out) (by repeat (first | exact HB.out | apply below_alloc | apply pw_below_drewN | apply below_drew1 | refine below_set ?_ GE101.out | refine below_set ?_ GE102.out | refine below_set ?_ GE109.out | refine below_set ?_ GE117.out | refine below_set ?_ GE125.out | refine below_set ?_ GE130.out)))); rintro e w108 ⟨v143, rfl, ho0, hb⟩; refine ⟨_, rfl, ?_⟩; have HO144 := a0 (Kd.R_lower (Kd.R_new' (Kd.R_new' (Kd.R_new' (Kd.R_new' (Kd.R_new' (Kd.R_mono (ok' := fun k_ => True) ho0 (fun _ hk_ => trivial)) (Kd.R_lt HO_110000.out)) (Kd.R_lt HO_118000.out)) (Kd.R_lt HO_126000.out)) (Kd.R_lt HO_131000.out)) (Kd.R_lt HO139.out)) (below_size (by repeat (first | exact HB.out | apply below_alloc | apply pw_below_drewN | apply below_drew1 | refine below_set ?_ GE101.out | refine below_set ?_ GE102.out | refine below_set ?_ GE109.out | refine below_set ?_ GE117.out | refine below_set ?_ GE125.out | refine below_set ?_ GE130.out)))); replace HO_110000 := a0 (Kd.R_elder' HO_110000.out (Kd.R_base ho0) hb); replace HO_118000 := a0 (Kd.R_elder' HO_118000.out (Kd.R_base ho0) hb); replace HO_126000 := a0 (Kd.R_elder' HO_126000.out (Kd.R_base ho0) hb); replace HO_131000 := a0 (Kd.R_elder' HO_131000.out (Kd.R_base ho0) hb); replace HO139 := a0 (Kd.R_elder' HO139.out (Kd.R_base ho0) hb); replace BK101 := a0 (bB hb BK101.out); replace BK102 := a0 (bB hb BK102.out); replace BK109 := a0 (bB hb BK109.out); replace BK117 := a0 (bB hb BK117.out); replace BK125 := a0 (bB hb BK125.out); replace BK130 := a0 (bB hb BK130.out); replace HB := a0 (below_step (by repeat (first | exact HB.out | apply below_alloc | apply pw_below_drewN | apply below_drew1 | refine below_set ?_ GE101.out | refine below_set ?_ GE102.out | refine below_set ?_ GE109.out | refine below_set ?_ GE117.out | refine below_set ?_ GE125.out | refine below_set ?_ GE130.out)) hb); clear hb ho0) | ((with_reducible refine gate_callee (f := 29) rfl ?_); refine gL (some 108) Try.func29 (by kernel_rfl) #[] rfl rfl rfl rfl rfl ?_; (with_reducible refine (dactyllaw17_awake.calls  true _ A95.out).mono ?_); rintro e w109 ⟨rfl, hb⟩; refine ⟨_, rfl, ?_⟩; replace HO_110000 := a0 (Kd.R_below HO_110000.out hb); replace HO_118000 := a0 (Kd.R_below HO_118000.out hb); replace HO_126000 := a0 (Kd.R_below HO_126000.out hb); replace HO_131000 := a0 (Kd.R_below HO_131000.out hb); replace HO139 := a0 (Kd.R_below HO139.out hb); replace HO144 := a0 (Kd.R_below HO144.out hb); replace BK101 := a0 (bB hb BK101.out); replace BK102 := a0 (bB hb BK102.out); replace BK109 := a0 (bB hb BK109.out); replace BK117 := a0 (bB hb BK117.out); replace BK125 := a0 (bB hb BK125.out); replace BK130 := a0 (bB hb BK130.out); replace HB := a0 (below_step (by repeat (first | exact HB.out | apply below_alloc | apply pw_below_drewN | apply below_drew1 | refine below_set ?_ GE101.out | refine below_set ?_ GE102.out | refine below_set ?_ GE109.out | refine below_set ?_ GE117.out | refine below_set ?_ GE125.out | refine below_set ?_ GE130.out)) hb); clear hb; have hnb110 := NB125_102.out; have hnc110 := NB102_125.out; have hnb111 := NB125_109.out; have hnc111 := NB109_125.out; have hnb112 := NB125_117.out; have hnc112 := NB117_125.out; have hnb113 := NB125_130.out; have hnc113 := NB130_125.out; obtain ⟨hcz114_0, hcz114_1, hfz114_0, hfz114_1⟩ := c2 BK125.out; obtain ⟨hcz115_0, hcz115_1, hfz115_0, hfz115_1⟩ := c2 BK101.out) | (go_at_call 26; (with_reducible refine (dactylref04_SameB.calls k2 _ _ t121 _ _ l0_0 true _ ?side1 ?side2 ?side3 ?side4 A97.out).mono ?_); (case side1 => repeat (first | exact (Kd.R_reads' HO_126000.out).2.2 | (with_reducible refine Kd.C_alloc ?_ _) | (with_reducible refine Kd.C_drewN ?_ _) | (with_reducible refine Kd.C_drew ?_))); (case side2 => exact (Kd.R_reads' HO_126000.out).2.1); (case side3 => repeat (first | exact (Kd.C_below HR0_0.out HB.out) | (with_reducible refine Kd.C_alloc ?_ _) | (with_reducible refine Kd.C_drewN ?_ _) | (with_reducible refine Kd.C_drew ?_))); (case side4 => exact HC0_0.out); rintro e w116 ⟨rfl, hb⟩; replace HO_110000 := a0 (Kd.R_below HO_110000.out hb); replace HO_118000 := a0 (Kd.R_below HO_118000.out hb); replace HO_126000 := a0 (Kd.R_below HO_126000.out hb); replace HO_131000 := a0 (Kd.R_below HO_131000.out hb); replace HO139 := a0 (Kd.R_below HO139.out hb); replace HO144 := a0 (Kd.R_below HO144.out hb); replace BK101 := a0 (bB hb BK101.out); replace BK102 := a0 (bB hb BK102.out); replace BK109 := a0 (bB hb BK109.out); replace BK117 := a0 (bB hb BK117.out); replace BK125 := a0 (bB hb BK125.out); replace BK130 := a0 (bB hb BK130.out); replace HB := a0 (below_step (by repeat (first | exact HB.out | apply below_alloc | apply pw_below_drewN | apply below_drew1 | refine below_set ?_ GE101.out | refine below_set ?_ GE102.out | refine below_set ?_ GE109.out | refine below_set ?_ GE117.out | refine below_set ?_ GE125.out | refine below_set ?_ GE130.out)) hb); (try clear hb); (try clear hb2); (try clear hk); (try clear hi); obtain ⟨hcz117_0, hcz117_1, hfz117_0, hfz117_1⟩ := c2 BK101.out; have hnb118 := NB109_102.out; have hnc118 := NB102_109.out; have hnb119 := NB109_117.out; have hnc119 := NB117_109.out; have hnb120 := NB109_130.out; have hnc120 := NB130_109.out; obtain ⟨hcz121_0, hcz121_1, hfz121_0, hfz121_1⟩ := c2 BK109.out) | (go_at_call 21; (with_reducible refine (dactylref16_Same.calls k2 _ _ l0_0 a0_1 _ _ t106 a0_1 t149 _ ?side1 ?side2 ?side3 ?side4 A99.out).mono ?_); (case side1 => repeat (first | exact (Kd.C_below HR0_0.out HB.out) | (with_reducible refine Kd.C_alloc ?_ _) | (with_reducible refine Kd.C_drewN ?_ _) | (with_reducible refine Kd.C_drew ?_))); (case side2 => exact HC0_0.out); (case side3 => repeat (first | exact (Kd.R_reads' HO_110000.out).2.2 | (with_reducible refine Kd.C_alloc ?_ _) | (with_reducible refine Kd.C_drewN ?_ _) | (with_reducible refine Kd.C_drew ?_))); (case side4 => exact (Kd.R_reads' HO_110000.out).2.1); rintro e w122 ⟨rfl, hb⟩; replace HO_110000 := a0 (Kd.R_below HO_110000.out hb); replace HO_118000 := a0 (Kd.R_below HO_118000.out hb); replace HO_126000 := a0 (Kd.R_below HO_126000.out hb); replace HO_131000 := a0 (Kd.R_below HO_131000.out hb); replace HO139 := a0 (Kd.R_below HO139.out hb); replace HO144 := a0 (Kd.R_below HO144.out hb); replace BK101 := a0 (bB hb BK101.out); replace BK102 := a0 (bB hb BK102.out); replace BK109 := a0 (bB hb BK109.out); replace BK117 := a0 (bB hb BK117.out); replace BK125 := a0 (bB hb BK125.out); replace BK130 := a0 (bB hb BK130.out); replace HB := a0 (below_step (by repeat (first | exact HB.out | apply below_alloc | apply pw_below_drewN | apply below_drew1 | refine below_set ?_ GE101.out | refine below_set ?_ GE102.out | refine below_set ?_ GE109.out | refine below_set ?_ GE117.out | refine below_set ?_ GE125.out | refine below_set ?_ GE130.out)) hb); (try clear hb); (try clear hb2); (try clear hk); (try clear hi)))
         go_ret
         exact ⟨by first | rfl | (simp [errW_none, errW_some] <;> rfl) | (simp [*, errW_none, errW_some] <;> rfl), by repeat (first | exact HB.out | apply below_alloc | apply pw_below_drewN | apply below_drew1 | refine below_set ?_ GE101.out | refine below_set ?_ GE102.out | refine below_set ?_ GE109.out | refine below_set ?_ GE117.out | refine below_set ?_ GE125.out | refine below_set ?_ GE130.out)⟩
        ·replace c98 := Bool.eq_false_iff.mpr c98
         subst c98
         have H1 : (some false) = some r := by rw [if_neg (show ¬ (false = true) by decide)] at H; exact H
         clear H
         have H := H1
         clear H1
         obtain rfl := Option.some.inj H
         exact absurd HR_.out (by decide)
       ·replace c96 := Bool.eq_false_iff.mpr c96
        subst c96
        have H1 : (some false) = some r := by rw [if_neg (show ¬ (false = true) by decide)] at H; exact H
        clear H
        have H := H1
        clear H1
        obtain rfl := Option.some.inj H
        exact absurd HR_.out (by decide)

end Go.Proofs.Ytemoocoedibbpab.X

namespace Go.Proofs.Ytemoocoedibbpab.X
open Go.RowKit Go.Proofs.YtemoocoedibbpabW.PrintWords Go.Proofs.YtemoocoedibbpabW.PrintLast Go.Proofs.YtemoocoedibbpabW.PrintMore
attribute [local go_sem] max2_int min2_int max_two min_two max_three min_three max_four min_four
set_option linter.unusedVariables false
set_option linter.unusedSimpArgs false

/-- Whatever reads as a value of the type t is told by the kind d, with what W says of it. -/
def OpK (t : TypeId) {α : Type} (d : Kd α) (W : α → Prop) : Prop :=
  ∀ (H : Type) (enc : TypeId × Value → H) (w : World) (fuel : Nat) (cs : List Value) (x : DataW H × List MemPlace), DataW.trod enc Try.prog w 0 (fun _ => true) true fuel t cs = some x → ∃ y : α, d.K w y cs ∧ W y
theorem OpK.int {t : TypeId} {k : IntKind} (ht : Try.prog.underlying t = some (.int k)) : OpK t (Kd.int k) (fun x => (Lit.int k x).wf = true) := by
  intro H enc w fuel cs x h
  obtain ⟨n, rfl, rfl, hw⟩ := DataW.trod_int ht h
  exact ⟨n, rfl, hw⟩
theorem OpK.bool {t : TypeId} (ht : Try.prog.underlying t = some .bool) : OpK t Kd.bool (fun _ => True) := by
  intro H enc w fuel cs x h
  obtain ⟨n, rfl, rfl⟩ := DataW.trod_bool ht h
  exact ⟨n, rfl, trivial⟩
theorem OpK.string {t : TypeId} (ht : Try.prog.underlying t = some .string) : OpK t Kd.string (fun s => s.size ≤ maxLen) := by
  intro H enc w fuel cs x h
  obtain ⟨n, rfl, rfl, hw⟩ := DataW.trod_string ht h
  exact ⟨n, rfl, hw⟩
theorem opk_list {α : Type} {R : Nat → α → Prop} (n : Nat) (h : ∀ i, i < n → ∃ y, R i y) : ∃ ys : List α, ys.length = n ∧ ∀ i, (hi : i < ys.length) → R i ys[i] := by
  induction n with
  | zero => exact ⟨[], rfl, fun i hi => absurd hi (Nat.not_lt_zero _)⟩
  | succ n ih =>
    obtain ⟨ys, hl, hy⟩ := ih (fun i hi => h i (by omega))
    obtain ⟨y, hy'⟩ := h n (by omega)
    refine ⟨ys ++ [y], by simp [hl], fun i hi => ?_⟩
    by_cases e : i < ys.length
    · rw [List.getElem_append_left e]; exact hy i e
    · have : i = n := by simp at hi; omega
      subst this
      rw [List.getElem_append_right (by omega)]
      simpa [hl] using hy'
theorem OpK.slice {t e : TypeId} {α : Type} {d : Kd α} {W : α → Prop} (ht : Try.prog.underlying t = some (.slice e)) (hc : Try.prog.cellsOf e = d.sz) (he : OpK e d W) :
    OpK t (Kd.slice e d) (fun l => l.length ≤ maxLen ∧ ∀ x ∈ l, W x) := by
  intro H enc w fuel cs x h
  rcases Go.Deep.open_slice ht h with ⟨rfl, rfl⟩ | ⟨a, len, cap, m, n, D, Pl, rfl, hb, hl, hm, hmm, hx, hi⟩
  · exact ⟨[], ⟨none, 0, rfl, Nat.le_refl _, Kd.C_nil d w⟩, by simp, by simp⟩
  · have hmlen : len ≤ m := by rw [hmm]; simp; omega
    obtain ⟨ys, hlen, hy⟩ := opk_list (R := fun i (y : α) => ∃ c, c.length = d.sz ∧ d.K w y c ∧ (∀ j u, c[j]? = some u → w.cell? (a.add (i * d.sz + j)) = some u) ∧ W y) len (fun i hlt => by
      obtain ⟨cs', hcs, htr⟩ := hi i (by omega)
      obtain ⟨y, hk, hW⟩ := he H enc w n cs' _ htr
      obtain ⟨_, hcl, hat⟩ := World.cells?_some hcs
      refine ⟨y, cs', d.K_len hk, hk, fun j u hu => ?_, hW⟩
      have hj : j < cs'.length := (List.getElem?_eq_some_iff.1 hu).1
      have := hat j (by omega)
      rw [hc] at this
      rw [← Go.Deep.add_add, this, hu])
    subst hlen
    refine ⟨ys, ⟨some a, cap, rfl, hl, ⟨rfl, by unfold maxLen at hm; omega, fun _ => ⟨a, rfl, fun j p hp => ?_⟩⟩⟩, by omega, fun x hx => ?_⟩
    · obtain ⟨hj, rfl⟩ := List.getElem?_eq_some_iff.1 hp
      obtain ⟨c, h1, h2, h3, _⟩ := hy j hj
      exact ⟨c, h1, h2, h3⟩
    · obtain ⟨i, hi', rfl⟩ := List.mem_iff_getElem.1 hx
      obtain ⟨c, _, _, _, h4⟩ := hy i hi'
      exact h4
theorem struct_open {t : TypeId} {fs : Array Field} {H : Type} {enc : TypeId × Value → H} {w : World} {fuel : Nat} {cs : List Value} {x : DataW H × List MemPlace} (ht : Try.prog.underlying t = some (.struct fs)) (h : DataW.trod enc Try.prog w 0 (fun _ => true) true fuel t cs = some x) :
    cs.length = Try.prog.cellsOf t ∧ ∃ n, ∀ (i : Nat) (f : Field), fs[i]? = some f → ∃ z, DataW.trod enc Try.prog w 0 (fun _ => true) true n f.type ((cs.drop f.offset).take (Try.prog.cellsOf f.type)) = some z := by
  obtain ⟨xs, n, _, _, hcl, hlen, hg⟩ := DataW.trod_struct ht h
  refine ⟨hcl, n, fun i f hf => ?_⟩
  have hi : i < fs.size := (Array.getElem?_eq_some_iff.1 hf).1
  have := hg i f hf
  rw [List.getElem?_eq_getElem (by omega)] at this
  exact ⟨_, this⟩
theorem len_cons {α : Type} {l : List α} {n : Nat} (h : l.length = n + 1) : ∃ a m, l = a :: m ∧ m.length = n := by
  cases l with
  | nil => simp at h
  | cons a m => exact ⟨a, m, rfl, by simpa using h⟩

end Go.Proofs.Ytemoocoedibbpab.X

namespace Go.Proofs.Ytemoocoedibbpab.X
open Go.RowKit Go.Proofs.YtemoocoedibbpabW.PrintWords Go.Proofs.YtemoocoedibbpabW.PrintLast Go.Proofs.YtemoocoedibbpabW.PrintMore
attribute [local go_sem] max2_int min2_int max_two min_two max_three min_three max_four min_four
set_option linter.unusedVariables false
set_option linter.unusedSimpArgs false

def W47 (x : S47) : Prop := (fun x => (Lit.int .i64 x).wf = true) x.f0 ∧ (fun x => (Lit.int .i64 x).wf = true) x.f1
set_option maxRecDepth 100000 in
theorem opk_47 : OpK 47 k47 W47 := by
  intro H enc w fuel cs x h
  obtain ⟨hcl, n, hg⟩ := struct_open Try.underlying47 h
  have hC : Try.prog.cellsOf 47 = 2 := by kernel_rfl
  rw [hC] at hcl
  obtain ⟨c0_, t0_, rfl, h0_⟩ := len_cons hcl
  obtain ⟨c1_, t1_, rfl, h1_⟩ := len_cons h0_
  obtain rfl := List.eq_nil_of_length_eq_zero h1_
  obtain ⟨z0, g0⟩ := hg 0 _ rfl
  obtain ⟨y0, hy0, w0⟩ := (OpK.int Try.underlying3) H enc w n [c0_] z0 g0
  obtain ⟨z1, g1⟩ := hg 1 _ rfl
  obtain ⟨y1, hy1, w1⟩ := (OpK.int Try.underlying3) H enc w n [c1_] z1 g1
  exact ⟨⟨y0, y1⟩, ⟨[c0_], [c1_], rfl, hy0, hy1⟩, ⟨w0, w1⟩⟩
def W24 (x : S24) : Prop := (fun l => l.length ≤ maxLen ∧ ∀ x ∈ l, W47 x) x.f0 ∧ (fun x => (Lit.int .i64 x).wf = true) x.f1
set_option maxRecDepth 100000 in
theorem opk_24 : OpK 24 k24 W24 := by
  intro H enc w fuel cs x h
  obtain ⟨hcl, n, hg⟩ := struct_open Try.underlying24 h
  have hC : Try.prog.cellsOf 24 = 2 := by kernel_rfl
  rw [hC] at hcl
  obtain ⟨c0_, t0_, rfl, h0_⟩ := len_cons hcl
  obtain ⟨c1_, t1_, rfl, h1_⟩ := len_cons h0_
  obtain rfl := List.eq_nil_of_length_eq_zero h1_
  obtain ⟨z0, g0⟩ := hg 0 _ rfl
  obtain ⟨y0, hy0, w0⟩ := (OpK.slice (d := k47) Try.underlying22 (by kernel_rfl) opk_47) H enc w n [c0_] z0 g0
  obtain ⟨z1, g1⟩ := hg 1 _ rfl
  obtain ⟨y1, hy1, w1⟩ := (OpK.int Try.underlying3) H enc w n [c1_] z1 g1
  exact ⟨⟨y0, y1⟩, ⟨[c0_], [c1_], rfl, hy0, hy1⟩, ⟨w0, w1⟩⟩
def W53 (x : S53) : Prop := (fun x => (Lit.int .i64 x).wf = true) x.f0 ∧ (fun x => (Lit.int .i64 x).wf = true) x.f1 ∧ (fun x => (Lit.int .i64 x).wf = true) x.f2
set_option maxRecDepth 100000 in
theorem opk_53 : OpK 53 k53 W53 := by
  intro H enc w fuel cs x h
  obtain ⟨hcl, n, hg⟩ := struct_open Try.underlying53 h
  have hC : Try.prog.cellsOf 53 = 3 := by kernel_rfl
  rw [hC] at hcl
  obtain ⟨c0_, t0_, rfl, h0_⟩ := len_cons hcl
  obtain ⟨c1_, t1_, rfl, h1_⟩ := len_cons h0_
  obtain ⟨c2_, t2_, rfl, h2_⟩ := len_cons h1_
  obtain rfl := List.eq_nil_of_length_eq_zero h2_
  obtain ⟨z0, g0⟩ := hg 0 _ rfl
  obtain ⟨y0, hy0, w0⟩ := (OpK.int Try.underlying3) H enc w n [c0_] z0 g0
  obtain ⟨z1, g1⟩ := hg 1 _ rfl
  obtain ⟨y1, hy1, w1⟩ := (OpK.int Try.underlying3) H enc w n [c1_] z1 g1
  obtain ⟨z2, g2⟩ := hg 2 _ rfl
  obtain ⟨y2, hy2, w2⟩ := (OpK.int Try.underlying3) H enc w n [c2_] z2 g2
  exact ⟨⟨y0, y1, y2⟩, ⟨[c0_], [c1_, c2_], rfl, hy0, ⟨[c1_], [c2_], rfl, hy1, hy2⟩⟩, ⟨w0, w1, w2⟩⟩
end Go.Proofs.Ytemoocoedibbpab.X

namespace Go.Proofs.Ytemoocoedibbpab.X
open Go.RowKit Go.Proofs.YtemoocoedibbpabW.PrintWords Go.Proofs.YtemoocoedibbpabW.PrintLast Go.Proofs.YtemoocoedibbpabW.PrintMore
attribute [local go_sem] max2_int min2_int max_two min_two max_three min_three max_four min_four
set_option linter.unusedVariables false
set_option linter.unusedSimpArgs false

def dactyllaw17_LineBack.Pure : Prop := ∀ (l0_0 : List (S47)) (a0_1 : Int) (a1_0 : Int) (a1_1 : Int) (a1_2 : Int), W24 (⟨l0_0, a0_1⟩ : S24) → W53 (⟨a1_0, a1_1, a1_2⟩ : S53) → ∃ k, dactyllaw17_LineBack.f k l0_0 a0_1 a1_0 a1_1 a1_2 = some true
end Go.Proofs.Ytemoocoedibbpab.X

namespace Go.Proofs.Ytemoocoedibbpab.X
open Go.RowKit Go.Proofs.YtemoocoedibbpabW.PrintWords Go.Proofs.YtemoocoedibbpabW.PrintLast Go.Proofs.YtemoocoedibbpabW.PrintMore
attribute [local go_sem] max2_int min2_int max_two min_two max_three min_three max_four min_four
set_option linter.unusedVariables false
set_option linter.unusedSimpArgs false

theorem w64 {x : Int} (h0 : -9223372036854775808 ≤ x) (h1 : x ≤ 9223372036854775807) : wrap64 x = x := by unfold wrap64; omega
theorem Ev.all {α : Type} {g : Nat → Option α} {r : α} (K : Nat) (h : ∀ k, K ≤ k → g k = some r) : Ev g r := ⟨K, h⟩
theorem Ev.ite {α : Type} {c : Prop} [Decidable c] {g f : Nat → Option α} {r : α} (h1 : c → Ev g r) (h2 : ¬ c → Ev f r) : Ev (fun k => if c then g k else f k) r := by
  by_cases h : c
  · simp only [if_pos h]; exact h1 h
  · simp only [if_neg h]; exact h2 h
theorem Ev.bind1 {α β : Type} {a : α} {o : Option α} {f : Nat → α → Option β} {r : β} (h : o = some a) (k : Ev (fun n => f n a) r) : Ev (fun n => o.bind (f n)) r := by subst h; exact k
def rightB (v : Int) : Bool := decide (0 ≤ v ∧ v < 55296 ∨ 57343 < v ∧ v ≤ 1114111) || decide (1114240 ≤ v ∧ v ≤ 1114367)
theorem utf_point_f (v : Int) : utf_point.f v = some (decide (0 ≤ v ∧ v < 55296 ∨ 57343 < v ∧ v ≤ 1114111)) := by
  unfold utf_point.f
  by_cases h1 : v ≥ 0
  · rw [if_pos h1]
    by_cases h2 : v ≤ 1114111
    · rw [if_pos h2]
      by_cases h3 : v < 55296
      · rw [if_pos h3]; congr 1; exact (decide_eq_true (by omega)).symm
      · rw [if_neg h3]; congr 1; exact decide_eq_decide.mpr (by omega)
    · rw [if_neg h2]; congr 1; exact (decide_eq_false (by omega)).symm
  · rw [if_neg h1]; congr 1; exact (decide_eq_false (by omega)).symm
theorem utf_Right_f (v : Int) : utf_Right.f v = some (rightB v) := by
  unfold utf_Right.f
  rw [utf_point_f, Option.bind_some]
  unfold rightB
  by_cases h : (0 ≤ v ∧ v < 55296 ∨ 57343 < v ∧ v ≤ 1114111)
  · rw [decide_eq_true h]; simp
  · rw [decide_eq_false h]
    simp only [Bool.false_or, if_neg (show ¬ (false = true) by decide)]
    by_cases h2 : v ≥ 1114240
    · rw [if_pos h2]; congr 1; exact decide_eq_decide.mpr (by omega)
    · rw [if_neg h2]; congr 1; exact (decide_eq_false (by omega)).symm
theorem ref_Right_f (v : Int) : dactylref02_Right.f v = some (rightB v) := by
  unfold dactylref02_Right.f rightB
  repeat' split
  all_goals (congr 1; simp only [Bool.or_eq_true, decide_eq_true_eq, eq_comm (a := true), ← Bool.decide_or]; first | omega | (exact decide_eq_decide.mpr (by omega)) | (simp; omega))
theorem rightB_iff (v : Int) : rightB v = true ↔ (0 ≤ v ∧ v < 55296 ∨ 57343 < v ∧ v ≤ 1114111) ∨ (1114240 ≤ v ∧ v ≤ 1114367) := by unfold rightB; simp only [Bool.or_eq_true, decide_eq_true_eq]
/-- A search through places for one at which something is not so. -/
theorem scan_all (L : Nat → Int → Option Bool) (n : Nat) (P : Nat → Bool) (hn : n ≤ 4611686018427387904) (hend : ∀ k, L (k + 1) (n : Int) = some true) (hstep : ∀ k (i : Nat), i < n → L (k + 1) (i : Int) = if P i = true then L k (wrap64 ((i : Int) + 1)) else some false) :
    ∀ (d k i : Nat), d + i = n → d < k → (∃ b, L k (i : Int) = some b ∧ (b = true ↔ ∀ j, i ≤ j → j < n → P j = true)) := by
  intro d
  induction d with
  | zero =>
    intro k i h1 h2
    obtain ⟨k, rfl⟩ : ∃ m, k = m + 1 := ⟨k - 1, by omega⟩
    obtain rfl : i = n := by omega
    exact ⟨true, hend k, by simp; intro j h1 h2; omega⟩
  | succ d ih =>
    intro k i h1 h2
    obtain ⟨k, rfl⟩ : ∃ m, k = m + 1 := ⟨k - 1, by omega⟩
    obtain ⟨b, hb, hiff⟩ := ih k (i + 1) (by omega) (by omega)
    rw [hstep k i (by omega), show wrap64 ((i : Int) + 1) = ((i + 1 : Nat) : Int) by rw [w64 (by omega) (by omega)]; omega]
    by_cases c : P i = true
    · rw [if_pos c]
      refine ⟨b, hb, hiff.trans ⟨fun h j h1 h2 => ?_, fun h j h1 h2 => h j (by omega) h2⟩⟩
      by_cases e : j = i
      · subst e; exact c
      · exact h j (by omega) h2
    · rw [if_neg c]
      exact ⟨false, rfl, by simp; exact ⟨i, Nat.le_refl _, by omega, by simpa using c⟩⟩

end Go.Proofs.Ytemoocoedibbpab.X

namespace Go.Proofs.Ytemoocoedibbpab.X
open Go.RowKit Go.Proofs.YtemoocoedibbpabW.PrintWords Go.Proofs.YtemoocoedibbpabW.PrintLast Go.Proofs.YtemoocoedibbpabW.PrintMore
attribute [local go_sem] max2_int min2_int max_two min_two max_three min_three max_four min_four
set_option linter.unusedVariables false
set_option linter.unusedSimpArgs false

/-! ### dactylref03_within: function 154 -/
def dactylref03_within.l0 : Nat → Int → List Int → Int → Option (Bool)
 | 0, _, _, _ => none
 | k + 1, x0, x1, x5 => if (wrap64 (x5 + 1)) < (x1.length : Int) then (if 0 ≤ x5 then (if x5 < (x1.length : Int) then (if x0 ≥ (rd x1 x5) then (if 0 ≤ (wrap64 (x5 + 1)) then (if x0 ≤ (rd x1 (wrap64 (x5 + 1))) then (some true) else (dactylref03_within.l0 k x0 x1 (wrap64 (x5 + 2)))) else (none)) else (dactylref03_within.l0 k x0 x1 (wrap64 (x5 + 2)))) else (none)) else (none)) else (some false)
def dactylref03_within.f (k : Nat) (a0 : Int) (l1 : List Int) : Option (Bool) := dactylref03_within.l0 k a0 l1 0
theorem dactylref03_within.mono_l : ∀ k, (∀ y0 y1 y2, LeO (dactylref03_within.l0 k y0 y1 y2) (dactylref03_within.l0 (k + 1) y0 y1 y2))
 | 0 => fun _ _ _ r h => by simp [dactylref03_within.l0] at h
 | k + 1 => by
  have ih0 := dactylref03_within.mono_l k
  ·intro y0 y1 y2
   unfold dactylref03_within.l0
   repeat' first
   | (with_reducible exact ih0 _ _ _)
   | (with_reducible exact LeO.refl _)
   | (with_reducible exact LeO.none _)
   | (with_reducible refine LeO.ite ?_ ?_)
   | (with_reducible refine LeO.bind ?_ (fun _ => ?_))
   | exact ih0 _ _ _
   | exact LeO.none _
   | refine LeO.ite ?_ ?_
   | refine LeO.bind ?_ (fun _ => ?_)
theorem dactylref03_within.mono : ∀ a0 a1 k, LeO (dactylref03_within.f k a0 a1) (dactylref03_within.f (k + 1) a0 a1) := by
 intro a0 a1 k
 have ih0 := dactylref03_within.mono_l k
 unfold dactylref03_within.f
 repeat' first
   | (with_reducible exact ih0 _ _ _)
   | (with_reducible exact LeO.refl _)
   | (with_reducible exact LeO.none _)
   | (with_reducible refine LeO.ite ?_ ?_)
   | (with_reducible refine LeO.bind ?_ (fun _ => ?_))
   | exact ih0 _ _ _
   | exact LeO.none _
   | refine LeO.ite ?_ ?_
   | refine LeO.bind ?_ (fun _ => ?_)
set_option maxHeartbeats 8000000 in
set_option maxRecDepth 100000 in
theorem dactylref03_within.calls (k : Nat) (a0 : Int) (A1 : Option Addr) (c1 : Nat) (l1 : List Int) (r : Bool) (w : World) (hr1 : Kd.C (Kd.int .i64) w A1 l1.length l1) (hc1 : l1.length ≤ c1) (h : dactylref03_within.f k a0 l1 = some r) :
  Calls Try.prog 154 #[.int .i64 a0, .slice A1 l1.length c1] w fun e w' => e = .returned (.bool r) ∧ Drawn0 w w' := by
 have HR1 := Aside0.mk hr1
 have HC1 := Aside0.mk hc1
 clear hr1 hc1
 have H : (dactylref03_within.l0 k a0 l1 0) = some r := h
 clear h
 have H' := Aside0.mk H
 clear H
 go_enter Try.func154, Try.ntmps154
 go_wp2
 go_loopg [5] k (fun kq v5 w' => ∃ (x5_1 : Int), v5 = .int .i64 x5_1 ∧ Aside0 (dactylref03_within.l0 kq a0 l1 x5_1 = some r) ∧ Aside0 (kq ≤ k) ∧ Drawn0 w w')
 case atStart => exact ⟨(0), (by first | rfl | (simp; done) | (simp [*]; done)), H', ⟨Nat.le_refl _⟩, by repeat (first | exact Drawn0.refl _ | apply Drawn0.step)⟩
 case round =>
  clear H'
  try clear c1
  try clear p2
  obtain ⟨x5_1, rfl, HA, HK1, ⟨m1, rfl⟩⟩ := hrel
  cases gk with
  | zero => exact absurd HA.out (by simp [dactylref03_within.l0])
  | succ k1 =>
   have H := HA.out
   clear HA
   simp only [dactylref03_within.l0] at H
   by_cases c3 : (wrap64 (x5_1 + 1)) < (l1.length : Int)
   ·rw [if_pos c3] at H
    have c3b0 : decide ((wrap64 (x5_1 + 1)) < (l1.length : Int)) = true := decide_eq_true c3
    clear c3
    by_cases c4 : 0 ≤ x5_1
    ·rw [if_pos c4] at H
     have c4b0 : decide (0 ≤ x5_1) = true := decide_eq_true c4
     clear c4
     by_cases c5 : x5_1 < (l1.length : Int)
     ·rw [if_pos c5] at H
      have c5b0 : decide (x5_1 < (l1.length : Int)) = true := decide_eq_true c5
      clear c5
      by_cases c6 : a0 ≥ (rd l1 x5_1)
      ·rw [if_pos c6] at H
       have c6b0 : decide ((rd l1 x5_1) ≤ a0) = true := decide_eq_true c6
       clear c6
       obtain ⟨ji7, hji7⟩ : ∃ j_ : Int, (wrap64 (x5_1 + 1)) = j_ := ⟨_, rfl⟩
       replace H : (if 0 ≤ (ji7) then (if a0 ≤ (rd l1 (ji7)) then (some true) else (dactylref03_within.l0 k1 a0 l1 (wrap64 (x5_1 + 2)))) else (none)) = some r := by first | (rw [hji7] at H; exact H) | (simp only [hji7] at H ⊢; exact H)
       (try rw [hji7] at c3b0)
       have hji7w : (IntKind.i64.wrap (x5_1 + 1)) = ji7 := (i64_w _).trans hji7
       by_cases c8 : 0 ≤ (ji7)
       ·rw [if_pos c8] at H
        have c8b0 : decide (0 ≤ (ji7)) = true := decide_eq_true c8
        clear c8
        by_cases c9 : a0 ≤ (rd l1 (ji7))
        ·rw [if_pos c9] at H
         have c9b0 : decide (a0 ≤ (rd l1 (ji7))) = true := decide_eq_true c9
         clear c9
         obtain rfl := Option.some.inj H
         have p101 : 0 ≤ (x5_1 : Int) := of_decide_eq_true (by first | (with_reducible assumption) | assumption)
         have q101 : x5_1 < (l1.length : Int) := of_decide_eq_true (by first | (with_reducible assumption) | assumption)
         obtain ⟨ad101, e101, hx101_0⟩ := Kd.at_int HR1.out x5_1 p101 q101
         cases e101
         replace p101 := eq_true p101
         replace q101 := eq_true q101
         have p102 : 0 ≤ ((ji7) : Int) := of_decide_eq_true (by first | (with_reducible assumption) | assumption)
         have q102 : (ji7) < (l1.length : Int) := of_decide_eq_true (by first | (with_reducible assumption) | assumption)
         obtain ⟨ad102, e102, hx102_0⟩ := Kd.at_int HR1.out (ji7) p102 q102
         obtain rfl : ad101 = ad102 := (by injection e102)
         replace p102 := eq_true p102
         replace q102 := eq_true q102
         go_wp2
         go_ret
         exact ⟨by first | rfl | (simp; done) | (simp only [← hji7] <;> (first | rfl | simp)) | (simp [*]; done), by repeat (first | exact Drawn0.refl _ | apply Drawn0.step)⟩
        ·rw [if_neg c9] at H
         have c9b0 : decide (a0 ≤ (rd l1 (ji7))) = false := decide_eq_false c9
         clear c9
         have H' := Aside0.mk H
         clear H
         have p101 : 0 ≤ (x5_1 : Int) := of_decide_eq_true (by first | (with_reducible assumption) | assumption)
         have q101 : x5_1 < (l1.length : Int) := of_decide_eq_true (by first | (with_reducible assumption) | assumption)
         obtain ⟨ad101, e101, hx101_0⟩ := Kd.at_int HR1.out x5_1 p101 q101
         cases e101
         replace p101 := eq_true p101
         replace q101 := eq_true q101
         have p102 : 0 ≤ ((ji7) : Int) := of_decide_eq_true (by first | (with_reducible assumption) | assumption)
         have q102 : (ji7) < (l1.length : Int) := of_decide_eq_true (by first | (with_reducible assumption) | assumption)
         obtain ⟨ad102, e102, hx102_0⟩ := Kd.at_int HR1.out (ji7) p102 q102
         obtain rfl : ad101 = ad102 := (by injection e102)
         replace p102 := eq_true p102
         replace q102 := eq_true q102
         go_wp2
         go_roundg k1
         case measure => have := HK1.out; omega
         case rel => exact ⟨(wrap64 (x5_1 + 2)), (by first | rfl | (simp; done) | (simp [*]; done)), H', ⟨by have := HK1.out; omega⟩, by repeat (first | exact Drawn0.refl _ | apply Drawn0.step)⟩
       ·rw [if_neg c8] at H
        exact absurd H (by simp)
      ·rw [if_neg c6] at H
       have c6b0 : decide ((rd l1 x5_1) ≤ a0) = false := decide_eq_false c6
       clear c6
       have H' := Aside0.mk H
       clear H
       have p101 : 0 ≤ (x5_1 : Int) := of_decide_eq_true (by first | (with_reducible assumption) | assumption)
       have q101 : x5_1 < (l1.length : Int) := of_decide_eq_true (by first | (with_reducible assumption) | assumption)
       obtain ⟨ad101, e101, hx101_0⟩ := Kd.at_int HR1.out x5_1 p101 q101
       cases e101
       replace p101 := eq_true p101
       replace q101 := eq_true q101
       go_wp2
       go_roundg k1
       case measure => have := HK1.out; omega
       case rel => exact ⟨(wrap64 (x5_1 + 2)), (by first | rfl | (simp; done) | (simp [*]; done)), H', ⟨by have := HK1.out; omega⟩, by repeat (first | exact Drawn0.refl _ | apply Drawn0.step)⟩
     ·rw [if_neg c5] at H
      exact absurd H (by simp)
    ·rw [if_neg c4] at H
     exact absurd H (by simp)
   ·rw [if_neg c3] at H
    have c3b0 : decide ((wrap64 (x5_1 + 1)) < (l1.length : Int)) = false := decide_eq_false c3
    clear c3
    obtain rfl := Option.some.inj H
    go_wp2
    go_ret
    exact ⟨by first | rfl | (simp; done) | (simp [*]; done), by repeat (first | exact Drawn0.refl _ | apply Drawn0.step)⟩

end Go.Proofs.Ytemoocoedibbpab.X

namespace Go.Proofs.Ytemoocoedibbpab.X
open Go.RowKit Go.Proofs.YtemoocoedibbpabW.PrintWords Go.Proofs.YtemoocoedibbpabW.PrintLast Go.Proofs.YtemoocoedibbpabW.PrintMore
attribute [local go_sem] max2_int min2_int max_two min_two max_three min_three max_four min_four
set_option linter.unusedVariables false
set_option linter.unusedSimpArgs false

/-! ### dactylref03_odd: function 152 -/
def dactylref03_odd.j0 : Nat → Int → Bool → Option (Int)
 | 0, _, _ => none
 | k + 1, x0, x12 => if x12 = true then some 6 else ((dactylref03_within.f k x0 ([160, 160, 5760, 5760, 8192, 8202, 8232, 8233, 8239, 8239, 8287, 8287, 12288, 12288] : List Int)).bind fun t => if t = true then some 10 else ((dactylref03_within.f k x0 ([173, 173, 6155, 6158, 8203, 8205, 8288, 8292, 65279, 65279, 65529, 65531] : List Int)).bind fun t => if t = true then some 8 else ((dactylref03_within.f k x0 ([1564, 1564, 8206, 8207, 8234, 8238, 8294, 8297] : List Int)).bind fun t => if t = true then some 7 else ((dactylref03_within.f k x0 ([768, 879, 1155, 1161, 1425, 1469, 1552, 1562, 1611, 1631, 1750, 1756, 6832, 6862, 7616, 7679, 8400, 8432, 12330, 12335, 12441, 12442, 65024, 65039, 65056, 65071] : List Int)).bind fun t => if t = true then some 9 else ((dactylref03_within.f k x0 ([57344, 63743, 64976, 65007, 65520, 65528, 65534, 65535, 131070, 131071, 262142, 1114111] : List Int)).bind fun t => if t = true then some 11 else (some 0))))))
def dactylref03_odd.f (k : Nat) (a0 : Int) : Option (Int) := if a0 ≤ 31 then (some 4) else (if a0 = 127 then (some 5) else (if a0 ≥ 128 then (dactylref03_odd.j0 k a0 (decide (a0 ≤ 159))) else (dactylref03_odd.j0 k a0 false)))
theorem dactylref03_odd.mono_l (k : Nat) (x : Int) (b : Bool) : LeO (dactylref03_odd.j0 k x b) (dactylref03_odd.j0 (k + 1) x b) := by
 cases k with
 | zero => intro r h; simp [dactylref03_odd.j0] at h
 | succ k =>
  simp only [dactylref03_odd.j0]
  repeat' (first | exact LeO.refl _ | exact dactylref03_within.mono _ _ _ | refine LeO.ite ?_ ?_ | refine LeO.bind ?_ (fun _ => ?_))
theorem dactylref03_odd.mono : ∀ a0 k, LeO (dactylref03_odd.f k a0) (dactylref03_odd.f (k + 1) a0) := by
 intro a k
 unfold dactylref03_odd.f
 repeat' (first | exact LeO.refl _ | exact dactylref03_odd.mono_l _ _ _ | refine LeO.ite ?_ ?_)
theorem repsI (k : IntKind) {w : World} {base : Nat} {ok : Nat → Prop} : ∀ xs : List Int, Reps (Kd.M (Kd.int k) w base ok) 1 xs (xs.map (Value.int k)) := fun xs =>
 ⟨by simp, fun j p h => by
  obtain ⟨hj, rfl⟩ := List.getElem?_eq_some_iff.1 h
  show _ = _
  rw [Nat.mul_one, List.drop_eq_getElem_cons (by simpa using hj)]
  simp⟩
set_option maxHeartbeats 8000000 in
set_option maxRecDepth 100000 in
theorem dactylref03_odd.calls (k : Nat) (a0 : Int) (r : Int) (w : World) (h : dactylref03_odd.f k a0 = some r) :
  Calls Try.prog 152 #[.int .i64 a0] w fun e w' => e = .returned (.int .i64 r) ∧ Below w.heap.size w w' := by
 unfold dactylref03_odd.f at h
 have HB := Aside0.mk (Below.refl w.heap.size w)
 by_cases c1 : a0 ≤ 31
 ·rw [if_pos c1] at h
  obtain rfl := Option.some.inj h
  have e1 : decide (a0 ≤ 31) = true := decide_eq_true c1
  go_enter Try.func152, Try.ntmps152
  go_wp2
  go_ret
  exact ⟨rfl, Below.refl _ _⟩
 rw [if_neg c1] at h
 have e1 : decide (a0 ≤ 31) = false := decide_eq_false c1
 by_cases c2 : a0 = 127
 ·rw [if_pos c2] at h
  obtain rfl := Option.some.inj h
  have e2 : (a0 == 127) = true := beq_iff_eq.mpr c2
  clear c2
  go_enter Try.func152, Try.ntmps152
  go_wp2
  go_ret
  exact ⟨rfl, Below.refl _ _⟩
 rw [if_neg c2] at h
 have e2 : (a0 == 127) = false := beq_eq_false_iff_ne.mpr c2
 by_cases c3 : 128 ≤ a0 ∧ a0 ≤ 159
 ·rw [if_pos c3.1, decide_eq_true c3.2] at h
  cases k with
  | zero => simp [dactylref03_odd.j0] at h
  | succ k =>
   simp only [dactylref03_odd.j0, if_true] at h
   obtain rfl := Option.some.inj h
   have e3 : decide (128 ≤ a0) = true := decide_eq_true c3.1
   have e4 : decide (a0 ≤ 159) = true := decide_eq_true c3.2
   clear c1 c2 c3
   go_enter Try.func152, Try.ntmps152
   go_wp2
   go_ret
   exact ⟨rfl, Below.refl _ _⟩
 have h2 : dactylref03_odd.j0 k a0 false = some r := by
  by_cases c4 : a0 ≥ 128
  ·rwa [if_pos c4, decide_eq_false (by omega)] at h
  ·rwa [if_neg c4] at h
 cases k with
 | zero => simp [dactylref03_odd.j0] at h2
 | succ k =>
 simp only [dactylref03_odd.j0, Bool.false_eq_true, if_false] at h2
 have H := Aside0.mk h2
 have E : (decide (128 ≤ a0) = true ∧ decide (a0 ≤ 159) = false) ∨ decide (128 ≤ a0) = false := by
  by_cases c4 : a0 ≥ 128
  ·exact .inl ⟨decide_eq_true c4, decide_eq_false (by omega)⟩
  ·exact .inr (decide_eq_false c4)
 clear h h2 c1 c2 c3
 rcases E with ⟨e3, e4⟩ | e3
 all_goals
  go_enter Try.func152, Try.ntmps152
  go_wp2_with (first | ((with_reducible refine gate_dst (N := 14) rfl ?_); refine Kd.R_lit (Kd.int .i64) _ 3 ?hg (N := 14) ?hd (xs := ([160, 160, 5760, 5760, 8192, 8202, 8232, 8233, 8239, 8239, 8287, 8287, 12288, 12288] : List Int)) (inner := [.int .i64 160, .int .i64 160, .int .i64 5760, .int .i64 5760, .int .i64 8192, .int .i64 8202, .int .i64 8232, .int .i64 8233, .int .i64 8239, .int .i64 8239, .int .i64 8287, .int .i64 8287, .int .i64 12288, .int .i64 12288]) (ok := fun _ => True) (okp := fun _ => True) ?hr ?hp (fun _ hk => hk) trivial (Below.refl _ _) (Nat.le_refl _) (by simp) ?_; (case hd => rfl); (case hg => rfl); (case hr => first | (go_simp; done) | (go_simp; rfl)); (case hp => exact (repsI .i64 [160, 160, 5760, 5760, 8192, 8202, 8232, 8233, 8239, 8239, 8287, 8287, 12288, 12288])); intro v1 w1 ho hb hg_ hnew_; clear hg_ hnew_; obtain ⟨A1, d1, e_, hl_, hc_⟩ := Kd.R_reads ho; subst e_; have HC := Aside0.mk hc_; have HL := Aside0.mk hl_; replace HB := Aside0.mk (below_step HB.out hb); clear ho hb hc_ hl_))
  obtain ⟨b, h1, h2⟩ := Option.bind_eq_some_iff.mp H.out
  clear H
  have H1 := Aside0.mk h1
  clear h1
  refine (dactylref03_within.calls k a0 _ _ ([160, 160, 5760, 5760, 8192, 8202, 8232, 8233, 8239, 8239, 8287, 8287, 12288, 12288] : List Int) b _ HC.out HL.out H1.out).mono ?_
  rintro _ _ ⟨rfl, hd⟩
  replace HB := Aside0.mk (below_step HB.out hd.below)
  clear HC HL H1 hd
  cases b
  rotate_left
  ·rw [if_pos rfl] at h2
   obtain rfl := Option.some.inj h2
   go_wp2
   go_ret
   exact ⟨rfl, HB.out⟩
  rw [if_neg (by decide)] at h2
  have H := Aside0.mk h2
  clear h2
  go_wp2_with (first | ((with_reducible refine gate_dst (N := 17) rfl ?_); refine Kd.R_lit (Kd.int .i64) _ 3 ?hg (N := 17) ?hd (xs := ([173, 173, 6155, 6158, 8203, 8205, 8288, 8292, 65279, 65279, 65529, 65531] : List Int)) (inner := [.int .i64 173, .int .i64 173, .int .i64 6155, .int .i64 6158, .int .i64 8203, .int .i64 8205, .int .i64 8288, .int .i64 8292, .int .i64 65279, .int .i64 65279, .int .i64 65529, .int .i64 65531]) (ok := fun _ => True) (okp := fun _ => True) ?hr ?hp (fun _ hk => hk) trivial (Below.refl _ _) (Nat.le_refl _) (by simp) ?_; (case hd => rfl); (case hg => rfl); (case hr => first | (go_simp; done) | (go_simp; rfl)); (case hp => exact (repsI .i64 [173, 173, 6155, 6158, 8203, 8205, 8288, 8292, 65279, 65279, 65529, 65531])); intro v1 w1 ho hb hg_ hnew_; clear hg_ hnew_; obtain ⟨A1, d1, e_, hl_, hc_⟩ := Kd.R_reads ho; subst e_; have HC := Aside0.mk hc_; have HL := Aside0.mk hl_; replace HB := Aside0.mk (below_step HB.out hb); clear ho hb hc_ hl_))
  obtain ⟨b, h1, h2⟩ := Option.bind_eq_some_iff.mp H.out
  clear H
  have H1 := Aside0.mk h1
  clear h1
  refine (dactylref03_within.calls k a0 _ _ ([173, 173, 6155, 6158, 8203, 8205, 8288, 8292, 65279, 65279, 65529, 65531] : List Int) b _ HC.out HL.out H1.out).mono ?_
  rintro _ _ ⟨rfl, hd⟩
  replace HB := Aside0.mk (below_step HB.out hd.below)
  clear HC HL H1 hd
  cases b
  rotate_left
  ·rw [if_pos rfl] at h2
   obtain rfl := Option.some.inj h2
   go_wp2
   go_ret
   exact ⟨rfl, HB.out⟩
  rw [if_neg (by decide)] at h2
  have H := Aside0.mk h2
  clear h2
  go_wp2_with (first | ((with_reducible refine gate_dst (N := 20) rfl ?_); refine Kd.R_lit (Kd.int .i64) _ 3 ?hg (N := 20) ?hd (xs := ([1564, 1564, 8206, 8207, 8234, 8238, 8294, 8297] : List Int)) (inner := [.int .i64 1564, .int .i64 1564, .int .i64 8206, .int .i64 8207, .int .i64 8234, .int .i64 8238, .int .i64 8294, .int .i64 8297]) (ok := fun _ => True) (okp := fun _ => True) ?hr ?hp (fun _ hk => hk) trivial (Below.refl _ _) (Nat.le_refl _) (by simp) ?_; (case hd => rfl); (case hg => rfl); (case hr => first | (go_simp; done) | (go_simp; rfl)); (case hp => exact (repsI .i64 [1564, 1564, 8206, 8207, 8234, 8238, 8294, 8297])); intro v1 w1 ho hb hg_ hnew_; clear hg_ hnew_; obtain ⟨A1, d1, e_, hl_, hc_⟩ := Kd.R_reads ho; subst e_; have HC := Aside0.mk hc_; have HL := Aside0.mk hl_; replace HB := Aside0.mk (below_step HB.out hb); clear ho hb hc_ hl_))
  obtain ⟨b, h1, h2⟩ := Option.bind_eq_some_iff.mp H.out
  clear H
  have H1 := Aside0.mk h1
  clear h1
  refine (dactylref03_within.calls k a0 _ _ ([1564, 1564, 8206, 8207, 8234, 8238, 8294, 8297] : List Int) b _ HC.out HL.out H1.out).mono ?_
  rintro _ _ ⟨rfl, hd⟩
  replace HB := Aside0.mk (below_step HB.out hd.below)
  clear HC HL H1 hd
  cases b
  rotate_left
  ·rw [if_pos rfl] at h2
   obtain rfl := Option.some.inj h2
   go_wp2
   go_ret
   exact ⟨rfl, HB.out⟩
  rw [if_neg (by decide)] at h2
  have H := Aside0.mk h2
  clear h2
  go_wp2_with (first | ((with_reducible refine gate_dst (N := 23) rfl ?_); refine Kd.R_lit (Kd.int .i64) _ 3 ?hg (N := 23) ?hd (xs := ([768, 879, 1155, 1161, 1425, 1469, 1552, 1562, 1611, 1631, 1750, 1756, 6832, 6862, 7616, 7679, 8400, 8432, 12330, 12335, 12441, 12442, 65024, 65039, 65056, 65071] : List Int)) (inner := [.int .i64 768, .int .i64 879, .int .i64 1155, .int .i64 1161, .int .i64 1425, .int .i64 1469, .int .i64 1552, .int .i64 1562, .int .i64 1611, .int .i64 1631, .int .i64 1750, .int .i64 1756, .int .i64 6832, .int .i64 6862, .int .i64 7616, .int .i64 7679, .int .i64 8400, .int .i64 8432, .int .i64 12330, .int .i64 12335, .int .i64 12441, .int .i64 12442, .int .i64 65024, .int .i64 65039, .int .i64 65056, .int .i64 65071]) (ok := fun _ => True) (okp := fun _ => True) ?hr ?hp (fun _ hk => hk) trivial (Below.refl _ _) (Nat.le_refl _) (by simp) ?_; (case hd => rfl); (case hg => rfl); (case hr => first | (go_simp; done) | (go_simp; rfl)); (case hp => exact (repsI .i64 [768, 879, 1155, 1161, 1425, 1469, 1552, 1562, 1611, 1631, 1750, 1756, 6832, 6862, 7616, 7679, 8400, 8432, 12330, 12335, 12441, 12442, 65024, 65039, 65056, 65071])); intro v1 w1 ho hb hg_ hnew_; clear hg_ hnew_; obtain ⟨A1, d1, e_, hl_, hc_⟩ := Kd.R_reads ho; subst e_; have HC := Aside0.mk hc_; have HL := Aside0.mk hl_; replace HB := Aside0.mk (below_step HB.out hb); clear ho hb hc_ hl_))
  obtain ⟨b, h1, h2⟩ := Option.bind_eq_some_iff.mp H.out
  clear H
  have H1 := Aside0.mk h1
  clear h1
  refine (dactylref03_within.calls k a0 _ _ ([768, 879, 1155, 1161, 1425, 1469, 1552, 1562, 1611, 1631, 1750, 1756, 6832, 6862, 7616, 7679, 8400, 8432, 12330, 12335, 12441, 12442, 65024, 65039, 65056, 65071] : List Int) b _ HC.out HL.out H1.out).mono ?_
  rintro _ _ ⟨rfl, hd⟩
  replace HB := Aside0.mk (below_step HB.out hd.below)
  clear HC HL H1 hd
  cases b
  rotate_left
  ·rw [if_pos rfl] at h2
   obtain rfl := Option.some.inj h2
   go_wp2
   go_ret
   exact ⟨rfl, HB.out⟩
  rw [if_neg (by decide)] at h2
  have H := Aside0.mk h2
  clear h2
  go_wp2_with (first | ((with_reducible refine gate_dst (N := 26) rfl ?_); refine Kd.R_lit (Kd.int .i64) _ 3 ?hg (N := 26) ?hd (xs := ([57344, 63743, 64976, 65007, 65520, 65528, 65534, 65535, 131070, 131071, 262142, 1114111] : List Int)) (inner := [.int .i64 57344, .int .i64 63743, .int .i64 64976, .int .i64 65007, .int .i64 65520, .int .i64 65528, .int .i64 65534, .int .i64 65535, .int .i64 131070, .int .i64 131071, .int .i64 262142, .int .i64 1114111]) (ok := fun _ => True) (okp := fun _ => True) ?hr ?hp (fun _ hk => hk) trivial (Below.refl _ _) (Nat.le_refl _) (by simp) ?_; (case hd => rfl); (case hg => rfl); (case hr => first | (go_simp; done) | (go_simp; rfl)); (case hp => exact (repsI .i64 [57344, 63743, 64976, 65007, 65520, 65528, 65534, 65535, 131070, 131071, 262142, 1114111])); intro v1 w1 ho hb hg_ hnew_; clear hg_ hnew_; obtain ⟨A1, d1, e_, hl_, hc_⟩ := Kd.R_reads ho; subst e_; have HC := Aside0.mk hc_; have HL := Aside0.mk hl_; replace HB := Aside0.mk (below_step HB.out hb); clear ho hb hc_ hl_))
  obtain ⟨b, h1, h2⟩ := Option.bind_eq_some_iff.mp H.out
  clear H
  have H1 := Aside0.mk h1
  clear h1
  refine (dactylref03_within.calls k a0 _ _ ([57344, 63743, 64976, 65007, 65520, 65528, 65534, 65535, 131070, 131071, 262142, 1114111] : List Int) b _ HC.out HL.out H1.out).mono ?_
  rintro _ _ ⟨rfl, hd⟩
  replace HB := Aside0.mk (below_step HB.out hd.below)
  clear HC HL H1 hd
  cases b
  rotate_left
  ·rw [if_pos rfl] at h2
   obtain rfl := Option.some.inj h2
   go_wp2
   go_ret
   exact ⟨rfl, HB.out⟩
  rw [if_neg (by decide)] at h2
  have H := Aside0.mk h2
  clear h2
  obtain rfl := Option.some.inj H.out
  go_wp2
  go_ret
  exact ⟨rfl, HB.out⟩

end Go.Proofs.Ytemoocoedibbpab.X

namespace Go.Proofs.Ytemoocoedibbpab.X
open Go.RowKit Go.Proofs.YtemoocoedibbpabW.PrintWords Go.Proofs.YtemoocoedibbpabW.PrintLast Go.Proofs.YtemoocoedibbpabW.PrintMore
attribute [local go_sem] max2_int min2_int max_two min_two max_three min_three max_four min_four
set_option linter.unusedVariables false
set_option linter.unusedSimpArgs false

/-! ### dactylref03_Skeleton: function 153 -/
def dactylref03_Skeleton.l0 : Nat → Int → List Int → ByteArray → Int → Option (Int)
 | 0, _, _, _, _ => none
 | k + 1, x0, x3, x4, x5 => if x5 < (x3.length : Int) then (if 0 ≤ x5 then (if (rd x3 x5) = x0 then (if x5 < (x4.size : Int) then (some (wrap64 (bt x4 x5))) else (none)) else (dactylref03_Skeleton.l0 k x0 x3 x4 (wrap64 (x5 + 1)))) else (none)) else (some x0)
def dactylref03_Skeleton.f (k : Nat) (a0 : Int) : Option (Int) := dactylref03_Skeleton.l0 k a0 (([913, 914, 917, 918, 919, 921, 922, 924, 925, 927, 929, 932, 933, 935, 957, 959, 961, 1029, 1030, 1032, 1040, 1042, 1045, 1050, 1052, 1053, 1054, 1056, 1057, 1058, 1061, 1072, 1077, 1086, 1088, 1089, 1091, 1093, 1109, 1110, 1112, 1281, 1307, 1309, 894, 8208, 8722, 8260, 8725, 8228, 8218] : List Int)) (⟨#[65, 66, 69, 90, 72, 73, 75, 77, 78, 79, 80, 84, 89, 88, 118, 111, 112, 83, 73, 74, 65, 66, 69, 75, 77, 72, 79, 80, 67, 84, 88, 97, 101, 111, 112, 99, 121, 120, 115, 105, 106, 100, 113, 119, 59, 45, 45, 47, 47, 46, 44]⟩ : ByteArray) 0
theorem dactylref03_Skeleton.mono_l : ∀ k, (∀ y0 y1 y2 y3, LeO (dactylref03_Skeleton.l0 k y0 y1 y2 y3) (dactylref03_Skeleton.l0 (k + 1) y0 y1 y2 y3))
 | 0 => fun _ _ _ _ r h => by simp [dactylref03_Skeleton.l0] at h
 | k + 1 => by
  have ih0 := dactylref03_Skeleton.mono_l k
  ·intro y0 y1 y2 y3
   unfold dactylref03_Skeleton.l0
   repeat' first
   | (with_reducible exact ih0 _ _ _ _)
   | (with_reducible exact LeO.refl _)
   | (with_reducible exact LeO.none _)
   | (with_reducible refine LeO.ite ?_ ?_)
   | (with_reducible refine LeO.bind ?_ (fun _ => ?_))
   | exact ih0 _ _ _ _
   | exact LeO.none _
   | refine LeO.ite ?_ ?_
   | refine LeO.bind ?_ (fun _ => ?_)
theorem dactylref03_Skeleton.mono : ∀ a0 k, LeO (dactylref03_Skeleton.f k a0) (dactylref03_Skeleton.f (k + 1) a0) := by
 intro a0 k
 have ih0 := dactylref03_Skeleton.mono_l k
 unfold dactylref03_Skeleton.f
 repeat' first
   | (with_reducible exact ih0 _ _ _ _)
   | (with_reducible exact LeO.refl _)
   | (with_reducible exact LeO.none _)
   | (with_reducible refine LeO.ite ?_ ?_)
   | (with_reducible refine LeO.bind ?_ (fun _ => ?_))
   | exact ih0 _ _ _ _
   | exact LeO.none _
   | refine LeO.ite ?_ ?_
   | refine LeO.bind ?_ (fun _ => ?_)
set_option maxHeartbeats 8000000 in
set_option maxRecDepth 100000 in
theorem dactylref03_Skeleton.calls (k : Nat) (a0 : Int) (r : Int) (w : World) (h : dactylref03_Skeleton.f k a0 = some r) :
  Calls Try.prog 153 #[.int .i64 a0] w fun e w' => e = .returned (.int .i64 r) ∧ Below w.heap.size w w' := by
 have HB := Aside0.mk (Below.refl w.heap.size w)
 have H : (dactylref03_Skeleton.l0 k a0 (([913, 914, 917, 918, 919, 921, 922, 924, 925, 927, 929, 932, 933, 935, 957, 959, 961, 1029, 1030, 1032, 1040, 1042, 1045, 1050, 1052, 1053, 1054, 1056, 1057, 1058, 1061, 1072, 1077, 1086, 1088, 1089, 1091, 1093, 1109, 1110, 1112, 1281, 1307, 1309, 894, 8208, 8722, 8260, 8725, 8228, 8218] : List Int)) (⟨#[65, 66, 69, 90, 72, 73, 75, 77, 78, 79, 80, 84, 89, 88, 118, 111, 112, 83, 73, 74, 65, 66, 69, 75, 77, 72, 79, 80, 67, 84, 88, 97, 101, 111, 112, 99, 121, 120, 115, 105, 106, 100, 113, 119, 59, 45, 45, 47, 47, 46, 44]⟩ : ByteArray) 0) = some r := h
 clear h
 obtain ⟨y101, hy101⟩ : ∃ y_ : List Int, y_ = (([913, 914, 917, 918, 919, 921, 922, 924, 925, 927, 929, 932, 933, 935, 957, 959, 961, 1029, 1030, 1032, 1040, 1042, 1045, 1050, 1052, 1053, 1054, 1056, 1057, 1058, 1061, 1072, 1077, 1086, 1088, 1089, 1091, 1093, 1109, 1110, 1112, 1281, 1307, 1309, 894, 8208, 8722, 8260, 8725, 8228, 8218] : List Int)) := ⟨_, rfl⟩
 replace H : (dactylref03_Skeleton.l0 k a0 y101 (⟨#[65, 66, 69, 90, 72, 73, 75, 77, 78, 79, 80, 84, 89, 88, 118, 111, 112, 83, 73, 74, 65, 66, 69, 75, 77, 72, 79, 80, 67, 84, 88, 97, 101, 111, 112, 99, 121, 120, 115, 105, 106, 100, 113, 119, 59, 45, 45, 47, 47, 46, 44]⟩ : ByteArray) 0) = some r := by first | (rw [hy101]; with_reducible exact H) | (have H2_ := (Option.bind_some _ _).symm.trans H; rw [hy101]; with_reducible exact H2_) | (have H2_ := (Option.bind_some _ _).symm.trans H; with_reducible exact H2_) | with_reducible exact H | (rw [hy101]; exact H) | exact H
 have Ny101 := Aside0.mk hy101
 clear hy101
 have H' := Aside0.mk H
 clear H
 go_enter Try.func153, Try.ntmps153
 go_wp2_with (first | ((with_reducible refine gate_dst (N := 6) rfl ?_); refine Kd.R_lit (Kd.int .i64) _ 3 ?hg (N := 6) ?hd (xs := ([913, 914, 917, 918, 919, 921, 922, 924, 925, 927, 929, 932, 933, 935, 957, 959, 961, 1029, 1030, 1032, 1040, 1042, 1045, 1050, 1052, 1053, 1054, 1056, 1057, 1058, 1061, 1072, 1077, 1086, 1088, 1089, 1091, 1093, 1109, 1110, 1112, 1281, 1307, 1309, 894, 8208, 8722, 8260, 8725, 8228, 8218] : List Int)) (inner := [.int .i64 913, .int .i64 914, .int .i64 917, .int .i64 918, .int .i64 919, .int .i64 921, .int .i64 922, .int .i64 924, .int .i64 925, .int .i64 927, .int .i64 929, .int .i64 932, .int .i64 933, .int .i64 935, .int .i64 957, .int .i64 959, .int .i64 961, .int .i64 1029, .int .i64 1030, .int .i64 1032, .int .i64 1040, .int .i64 1042, .int .i64 1045, .int .i64 1050, .int .i64 1052, .int .i64 1053, .int .i64 1054, .int .i64 1056, .int .i64 1057, .int .i64 1058, .int .i64 1061, .int .i64 1072, .int .i64 1077, .int .i64 1086, .int .i64 1088, .int .i64 1089, .int .i64 1091, .int .i64 1093, .int .i64 1109, .int .i64 1110, .int .i64 1112, .int .i64 1281, .int .i64 1307, .int .i64 1309, .int .i64 894, .int .i64 8208, .int .i64 8722, .int .i64 8260, .int .i64 8725, .int .i64 8228, .int .i64 8218]) (ok := fun _ => True) (okp := fun _ => True) ?hr ?hp (fun _ hk => hk) trivial (Below.refl _ _) (Nat.le_refl _) (by simp) ?_; (case hd => rfl); (case hg => rfl); (case hr => first | (go_simp; done) | (go_simp; rfl)); (case hp => exact (repsJ .i64 [913, 914, 917, 918, 919, 921, 922, 924, 925, 927, 929, 932, 933, 935, 957, 959, 961, 1029, 1030, 1032, 1040, 1042, 1045, 1050, 1052, 1053, 1054, 1056, 1057, 1058, 1061, 1072, 1077, 1086, 1088, 1089, 1091, 1093, 1109, 1110, 1112, 1281, 1307, 1309, 894, 8208, 8722, 8260, 8725, 8228, 8218])); intro v102 w2 ho3 hb hg_ hnew_; clear hg_ hnew_; (first | rw [← Ny101.out] at ho3 | (simp only [Int.reduceToNat] at ho3; rw [← Ny101.out] at ho3)); have n0_ := Aside0.mk (Kd.R_lower ho3 (below_size (by repeat (first | exact HB.out | apply below_alloc | apply pw_below_drewN | apply below_drew1)))); have n1_ := Aside0.mk (below_step (by repeat (first | exact HB.out | apply below_alloc | apply pw_below_drewN | apply below_drew1)) hb); clear HB; have HO103 := n0_; have HB := n1_; clear n0_ n1_; clear hb ho3))
 go_loopg [5] k (fun kq v5 w' => ∃ (x5_1 : Int), v5 = .int .i64 x5_1 ∧ Aside0 (dactylref03_Skeleton.l0 kq a0 y101 (⟨#[65, 66, 69, 90, 72, 73, 75, 77, 78, 79, 80, 84, 89, 88, 118, 111, 112, 83, 73, 74, 65, 66, 69, 75, 77, 72, 79, 80, 67, 84, 88, 97, 101, 111, 112, 99, 121, 120, 115, 105, 106, 100, 113, 119, 59, 45, 45, 47, 47, 46, 44]⟩ : ByteArray) x5_1 = some r) ∧ Aside0 (kq ≤ k) ∧ Aside0 (Kd.R (Kd.int .i64) 3 w' w.heap.size (fun _ => True) v102 y101) ∧ Aside0 (Below w.heap.size w w'))
 case atStart => exact ⟨(0), (by first | rfl | (simp; done) | (simp [*]; done)), H', ⟨Nat.le_refl _⟩, ⟨by exact HO103.out⟩, ⟨by repeat (first | exact HB.out | apply below_alloc | apply pw_below_drewN | apply below_drew1)⟩⟩
 case round =>
  clear H'
  try clear c1
  try clear p2
  obtain ⟨x5_1, rfl, HA, HK1, HO_3, HB⟩ := hrel
  cases gk with
  | zero => exact absurd HA.out (by simp [dactylref03_Skeleton.l0])
  | succ k1 =>
   have H := HA.out
   clear HA
   simp only [dactylref03_Skeleton.l0] at H
   by_cases c4 : x5_1 < (y101.length : Int)
   ·rw [if_pos c4] at H
    have c4b0 : decide (x5_1 < (y101.length : Int)) = true := decide_eq_true c4
    clear c4
    by_cases c5 : 0 ≤ x5_1
    ·rw [if_pos c5] at H
     have c5b0 : decide (0 ≤ x5_1) = true := decide_eq_true c5
     clear c5
     by_cases c6 : (rd y101 x5_1) = a0
     ·rw [if_pos c6] at H
      have c6b0 : ((rd y101 x5_1) == a0) = true := beq_iff_eq.mpr c6
      have c6b1 : ((rd y101 x5_1) != a0) = false := bne_eq_false_iff_eq.mpr c6
      clear c6
      by_cases c7 : x5_1 < ((⟨#[65, 66, 69, 90, 72, 73, 75, 77, 78, 79, 80, 84, 89, 88, 118, 111, 112, 83, 73, 74, 65, 66, 69, 75, 77, 72, 79, 80, 67, 84, 88, 97, 101, 111, 112, 99, 121, 120, 115, 105, 106, 100, 113, 119, 59, 45, 45, 47, 47, 46, 44]⟩ : ByteArray).size : Int)
      ·rw [if_pos c7] at H
       have c7b0 : decide (x5_1 < ((⟨#[65, 66, 69, 90, 72, 73, 75, 77, 78, 79, 80, 84, 89, 88, 118, 111, 112, 83, 73, 74, 65, 66, 69, 75, 77, 72, 79, 80, 67, 84, 88, 97, 101, 111, 112, 99, 121, 120, 115, 105, 106, 100, 113, 119, 59, 45, 45, 47, 47, 46, 44]⟩ : ByteArray).size : Int)) = true := decide_eq_true c7
       clear c7
       obtain rfl := Option.some.inj H
       obtain ⟨Ao9, co9, eo9⟩ := Kd.R_slice HO_3.out
       subst eo9
       have p104 : 0 ≤ (x5_1 : Int) := of_decide_eq_true (by first | (with_reducible assumption) | assumption)
       have q104 : x5_1 < (y101.length : Int) := of_decide_eq_true (by first | (with_reducible assumption) | assumption)
       obtain ⟨ad104, e104, hx104_0⟩ := Kd.at_int (Kd.R_reads' HO_3.out).2.2 x5_1 p104 q104
       cases e104
       replace p104 := eq_true p104
       replace q104 := eq_true q104
       have p8 : 0 ≤ (x5_1 : Int) := of_decide_eq_true (by first | (with_reducible assumption) | assumption)
       have q8 : x5_1 < (51 : Int) := of_decide_eq_true (by first | (with_reducible assumption) | assumption)
       have hx8 := bt_at (⟨#[65, 66, 69, 90, 72, 73, 75, 77, 78, 79, 80, 84, 89, 88, 118, 111, 112, 83, 73, 74, 65, 66, 69, 75, 77, 72, 79, 80, 67, 84, 88, 97, 101, 111, 112, 99, 121, 120, 115, 105, 106, 100, 113, 119, 59, 45, 45, 47, 47, 46, 44]⟩ : ByteArray) x5_1
       replace p8 := eq_true p8
       replace q8 := eq_true q8
       go_wp2
       go_ret
       exact ⟨by first | rfl | (simp [errW_none, errW_some] <;> rfl) | (simp [*, errW_none, errW_some] <;> rfl), by repeat (first | exact HB.out | apply below_alloc | apply pw_below_drewN | apply below_drew1)⟩
      ·rw [if_neg c7] at H
       exact absurd H (by simp)
     ·rw [if_neg c6] at H
      have c6b0 : ((rd y101 x5_1) == a0) = false := beq_eq_false_iff_ne.mpr c6
      have c6b1 : ((rd y101 x5_1) != a0) = true := bne_iff_ne.mpr c6
      have H' := Aside0.mk H
      clear H
      obtain ⟨Ao10, co10, eo10⟩ := Kd.R_slice HO_3.out
      subst eo10
      have p104 : 0 ≤ (x5_1 : Int) := of_decide_eq_true (by first | (with_reducible assumption) | assumption)
      have q104 : x5_1 < (y101.length : Int) := of_decide_eq_true (by first | (with_reducible assumption) | assumption)
      obtain ⟨ad104, e104, hx104_0⟩ := Kd.at_int (Kd.R_reads' HO_3.out).2.2 x5_1 p104 q104
      cases e104
      replace p104 := eq_true p104
      replace q104 := eq_true q104
      go_wp2
      go_roundg k1
      case measure => have := HK1.out; omega
      case rel => exact ⟨(wrap64 (x5_1 + 1)), (by first | rfl | (simp; done) | (simp [*]; done)), H', ⟨by have := HK1.out; omega⟩, ⟨by exact HO_3.out⟩, ⟨by repeat (first | exact HB.out | apply below_alloc | apply pw_below_drewN | apply below_drew1)⟩⟩
    ·rw [if_neg c5] at H
     exact absurd H (by simp)
   ·rw [if_neg c4] at H
    have c4b0 : decide (x5_1 < (y101.length : Int)) = false := decide_eq_false c4
    clear c4
    obtain rfl := Option.some.inj H
    obtain ⟨Ao11, co11, eo11⟩ := Kd.R_slice HO_3.out
    subst eo11
    go_wp2
    go_ret
    exact ⟨by first | rfl | (simp [errW_none, errW_some] <;> rfl) | (simp [*, errW_none, errW_some] <;> rfl), by repeat (first | exact HB.out | apply below_alloc | apply pw_below_drewN | apply below_drew1)⟩

end Go.Proofs.Ytemoocoedibbpab.X
