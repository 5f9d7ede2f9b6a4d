/- Written by a program of this session (wip/tools/hp.py, pack.py) and by this session: what the law ViewOf reaches, function by function: a Lean function with the same answers, and the proof that the machine's call gives them. No condition but the ones the theorems state. -/
import Derived.Test.YtemoocoedibbpaaQViewOf3
namespace Go.Proofs.Ytemoocoedibbpaa.X
open Go.RowKit Go.Proofs.YtemoocoedibbpaaW.PrintWords Go.Proofs.YtemoocoedibbpaaW.PrintLast Go.Proofs.YtemoocoedibbpaaW.PrintMore
attribute [local go_sem] max2_int min2_int max_two min_two max_three min_three max_four min_four
set_option linter.unusedVariables false
set_option linter.unusedSimpArgs false

def looksV (v l : Int) : Int := (if cls v > 3 then 1 else 0) + (if 2 ≤ l ∧ l ≤ 4 then 2 else 0) + (if cls v = 3 then 4 else 0)
theorem show_Looks_f (v l : Int) (k : Nat) (hk : 10 ≤ k) : show_Looks.f k v l = some (looksV v l) := by
  obtain ⟨k, rfl⟩ : ∃ m, k = m + 2 := ⟨k - 2, by omega⟩
  unfold show_Looks.f class_Danger.f looksV
  rw [class_Of_f v _ (by omega), Option.bind_some]
  simp only [show_Looks.j0, show_Looks.j1]
  rw [class_Of_f v _ (by omega)]
  simp only [Option.bind_some, decide_eq_true_eq, wrap64]
  (repeat' split) <;> first | (congr 1; omega) | (simp; omega) | (simp_all; omega) | simp_all
theorem ref_Looks_f (v l : Int) (k : Nat) (hk : 60 ≤ k) : dactylref06_Looks.f k v l = some (looksV v l) := by
  obtain ⟨k, rfl⟩ : ∃ m, k = m + 2 := ⟨k - 2, by omega⟩
  unfold dactylref06_Looks.f looksV
  rw [ref_Of_f v _ (by omega), Option.bind_some]
  simp only [dactylref06_Looks.j0, dactylref06_Looks.j1, wrap64]
  (repeat' split) <;> first | (congr 1; omega) | (simp; omega) | (simp_all; omega) | simp_all
def colsV (v : Int) : Int := if cls v > 3 then (txt v).size else if cls v = 2 then 2 else if cls v = 1 then 1 else if cls v = 3 then 1 else 0
def cellsOf (v l own : Int) : List S93 := if cls v = 0 then [] else if cls v = 2 then [⟨v, looksV v l, own, v, 0⟩, ⟨-1, looksV v l, own, v, 1⟩] else if cls v ≤ 3 then [⟨v, looksV v l, own, v, 0⟩] else toldCells (txt v) (looksV v l) own v
theorem show_Cells_f (v l own : Int) (k : Nat) (hk : 60 ≤ k) : show_Cells.f k v l own = some (cellsOf v l own) := by
  have hs := txt_size v
  unfold show_Cells.f cellsOf
  rw [show_Looks_f v l k (by omega), Option.bind_some, class_Of_f v k (by omega), Option.bind_some, show_Text_f v k (by omega), Option.bind_some, if_pos (show (txt v).size < 3518437208883 by omega)]
  rcases cls_says v with h | h | h | h | h
  · simp [h.1]
  · rcases h.2.2.2 with h' | h' | h' <;> simp [h']
  all_goals
    have h5 : ¬ cls v = 1 ∧ ¬ cls v = 2 ∧ ¬ cls v = 3 ∧ ¬ cls v = 0 ∧ ¬ cls v ≤ 3 := by omega
    simp only [h5, if_false]
theorem ref_cells_l0 (v l own lk : Int) (t : ByteArray) (ht : t.size ≤ 1000) : ∀ (d k i : Nat) (acc : List S93), d + i = t.size → d < k → acc = toldPre t lk own v i → dactylref06_Cells.l0 k own lk t acc (i : Int) v l = some (toldCells t lk own v) := by
  intro d
  induction d with
  | zero =>
    intro k i acc h1 h2 ha
    obtain ⟨k, rfl⟩ : ∃ m, k = m + 1 := ⟨k - 1, by omega⟩
    simp only [dactylref06_Cells.l0]
    rw [if_neg (by omega), ha, show i = t.size by omega]
    rfl
  | succ d ih =>
    intro k i acc h1 h2 ha
    obtain ⟨k, rfl⟩ : ∃ m, k = m + 1 := ⟨k - 1, by omega⟩
    have hlen : acc.length = i := by rw [ha]; simp [toldPre]
    simp only [dactylref06_Cells.l0]
    rw [if_pos (by omega), if_pos (by omega), if_pos (by omega), show wrap64 ((i : Int) + 1) = ((i + 1 : Nat) : Int) by rw [w64 (by omega) (by omega)]; omega]
    refine ih k (i + 1) _ (by omega) (by omega) ?_
    rw [toldPre_succ, ← ha, hlen]
theorem ref_Cells_f (v l own : Int) (k : Nat) (hk : 60 ≤ k) : dactylref06_Cells.f k v l own = some (cellsOf v l own) := by
  have hs := txt_size v
  unfold dactylref06_Cells.f cellsOf
  rw [ref_Looks_f v l k (by omega), Option.bind_some, ref_Of_f v k (by omega), Option.bind_some, ref_Text_f v k (by omega), Option.bind_some]
  rcases cls_says v with h | h | h | h | h
  · simp [h.1]
  · rcases h.2.2.2 with h' | h' | h' <;> simp [h']
  all_goals
    have h5 : ¬ cls v = 1 ∧ ¬ cls v = 2 ∧ ¬ cls v = 3 ∧ ¬ cls v = 0 ∧ ¬ cls v ≤ 3 := by omega
    simp only [h5, if_false]
    exact ref_cells_l0 v l own (looksV v l) (txt v) (by omega) (txt v).size k 0 [] (by omega) (by omega) rfl
theorem toldCells_len (t : ByteArray) (lk own v : Int) : (toldCells t lk own v).length = t.size := by simp [toldCells]
theorem cellsOf_len (v l own : Int) : ((cellsOf v l own).length : Int) = colsV v := by
  unfold cellsOf colsV
  rcases cls_says v with h | h | h | h | h
  · simp [h.1]
  · rcases h.2.2.2 with h' | h' | h' <;> simp [h']
  all_goals
    have h5 : ¬ cls v = 1 ∧ ¬ cls v = 2 ∧ ¬ cls v = 3 ∧ ¬ cls v = 0 ∧ ¬ cls v ≤ 3 := by omega
    simp only [h5, if_false]
    rw [if_pos (by omega), toldCells_len]
theorem cellsOf_small (v l own : Int) : (cellsOf v l own).length ≤ 25 := by
  have := cellsOf_len v l own
  have h2 := txt_size v
  unfold colsV at this
  (repeat' split at this) <;> omega
theorem ref_Cols_f (v : Int) (k : Nat) (hk : 60 ≤ k) : dactylref06_Cols.f k v = some (colsV v) := by
  unfold dactylref06_Cols.f dactylref03_Width.f colsV
  rw [ref_Of_f v k (by omega), Option.bind_some, ref_Text_f v k (by omega), Option.bind_some]
  simp only [Option.bind_some]
  (repeat' split) <;> first | rfl | (exfalso; omega) | simp_all
theorem show_Cols_f (v : Int) (k : Nat) (hk : 60 ≤ k) : show_Cols.f k v = some (colsV v) := by
  obtain ⟨k, rfl⟩ : ∃ m, k = m + 1 := ⟨k - 1, by omega⟩
  unfold show_Cols.f class_Danger.f class_Width.f colsV
  simp only [class_Width.j0]
  rw [class_Of_f v _ (by omega), Option.bind_some, show_Text_f v _ (by omega), Option.bind_some]
  simp only [Option.bind_some, decide_eq_true_eq, beq_iff_eq]
  (repeat' split) <;> first | rfl | (exfalso; omega) | simp_all
/-- A search through places for one at which something is not so. -/
theorem scan_all (L : Nat → Int → Option Bool) (n : Nat) (P : Nat → Bool) (hn : n ≤ 4611686018427387904) (hend : ∀ k, L (k + 1) (n : Int) = some true) (hstep : ∀ k (i : Nat), i < n → L (k + 1) (i : Int) = if P i = true then L k (wrap64 ((i : Int) + 1)) else some false) :
    ∀ (d k i : Nat), d + i = n → d < k → (∃ b, L k (i : Int) = some b ∧ (b = true ↔ ∀ j, i ≤ j → j < n → P j = true)) := by
  intro d
  induction d with
  | zero =>
    intro k i h1 h2
    obtain ⟨k, rfl⟩ : ∃ m, k = m + 1 := ⟨k - 1, by omega⟩
    obtain rfl : i = n := by omega
    exact ⟨true, hend k, by simp; intro j h1 h2; omega⟩
  | succ d ih =>
    intro k i h1 h2
    obtain ⟨k, rfl⟩ : ∃ m, k = m + 1 := ⟨k - 1, by omega⟩
    obtain ⟨b, hb, hiff⟩ := ih k (i + 1) (by omega) (by omega)
    rw [hstep k i (by omega), show wrap64 ((i : Int) + 1) = ((i + 1 : Nat) : Int) by rw [w64 (by omega) (by omega)]; omega]
    by_cases c : P i = true
    · rw [if_pos c]
      refine ⟨b, hb, hiff.trans ⟨fun h j h1 h2 => ?_, fun h j h1 h2 => h j (by omega) h2⟩⟩
      by_cases e : j = i
      · subst e; exact c
      · exact h j (by omega) h2
    · rw [if_neg c]
      exact ⟨false, rfl, by simp; exact ⟨i, Nat.le_refl _, by omega, by simpa using c⟩⟩
theorem rd_cell (l : List S93) (i : Nat) (h : i < l.length) : rd_T93 l (i : Int) = l[i] := by simp [rd_T93, List.getD, h]
theorem ref_All_self (l : List S93) (hl : l.length ≤ 4611686018427387904) (k : Nat) (hk : l.length < k) : dactylref06_All.f k l l = some true := by
  unfold dactylref06_All.f
  rw [if_pos rfl]
  obtain ⟨b, hb, hiff⟩ := scan_all (fun k i => dactylref06_All.l0 k l l i) l.length (fun _ => true) hl (fun k => by simp [dactylref06_All.l0]) (fun k i hi => by
    simp only [dactylref06_All.l0]
    rw [if_pos (by omega), if_pos (by omega), if_pos (by omega)]
    simp) l.length k 0 (by omega) hk
  rw [show b = true from hiff.2 (by simp)] at hb
  exact hb
theorem eqP_iff {α β : Type} (p : α → β → Bool) (l : List α) (m : List β) : eqP p l m = true ↔ l.length = m.length ∧ ∀ j, (h1 : j < l.length) → (h2 : j < m.length) → p l[j] m[j] = true := by
  constructor
  · intro h
    have hl : l.length = m.length := by
      rcases Nat.decEq l.length m.length with hn | hn
      · rw [eqP_len p l m hn] at h; cases h
      · exact hn
    refine ⟨hl, fun j h1 h2 => ?_⟩
    cases hp : p l[j] m[j]
    · rw [eqP_not p l m j h1 h2 hp] at h; cases h
    · rfl
  · rintro ⟨h1, h2⟩
    exact eqP_all p l m h1 h2
theorem ref_Same_f (l m : List S93) (hl : l.length ≤ 4611686018427387904) (k : Nat) (hk : l.length < k) : dactylref06_Same.f k l m = some (eqP sameP l m) := by
  unfold dactylref06_Same.f
  by_cases c : l.length = m.length
  · rw [if_pos (by omega)]
    obtain ⟨b, hb, hiff⟩ := scan_all (fun k i => dactylref06_Same.l0 k l m i) l.length (fun i => sameP (rd_T93 l i) (rd_T93 m i)) hl (fun k => by simp [dactylref06_Same.l0]) (fun k i hi => by
      simp only [dactylref06_Same.l0]
      rw [if_pos (by omega), if_pos (by omega), if_pos (by omega)]
      simp only [sameP, Bool.and_eq_true, beq_iff_eq]
      by_cases h1 : (rd_T93 l i).f0 = (rd_T93 m i).f0
      · rw [if_pos h1]
        by_cases h2 : (rd_T93 l i).f1 = (rd_T93 m i).f1
        · rw [if_pos h2, if_pos ⟨h1, h2⟩]
        · rw [if_neg h2, if_neg (fun h => h2 h.2)]
      · rw [if_neg h1, if_neg (fun h => h1 h.1)]) l.length k 0 (by omega) hk
    rw [show dactylref06_Same.l0 k l m 0 = some b from hb]
    congr 1
    rw [Bool.eq_iff_iff, hiff, eqP_iff]
    exact ⟨fun h => ⟨c, fun j h1 h2 => by have := h j (by omega) h1; rwa [rd_cell l j h1, rd_cell m j h2] at this⟩, fun h j _ h2 => by rw [rd_cell l j h2, rd_cell m j (by omega)]; exact h.2 j h2 (by omega)⟩
  · rw [if_neg (by omega), eqP_len sameP l m c]

end Go.Proofs.Ytemoocoedibbpaa.X

namespace Go.Proofs.Ytemoocoedibbpaa.X
open Go.RowKit Go.Proofs.YtemoocoedibbpaaW.PrintWords Go.Proofs.YtemoocoedibbpaaW.PrintLast Go.Proofs.YtemoocoedibbpaaW.PrintMore
attribute [local go_sem] max2_int min2_int max_two min_two max_three min_three max_four min_four
set_option linter.unusedVariables false
set_option linter.unusedSimpArgs false

def okS (s : S45) : Bool := rightB s.f0 && (decide (0 ≤ s.f1) && decide (s.f1 ≤ 5))
def allB (l : List S45) : Bool := l.all okS
theorem sign_Right_f (a b : Int) : sign_Right.f a b = some (okS ⟨a, b⟩) := by
  unfold sign_Right.f okS
  rw [utf_Right_f, Option.bind_some]
  cases rightB a
  · simp
  · by_cases h : b ≥ 0
    · simp [h]
    · simp [h]
theorem sign_Check_f (l : List S45) : sign_Check.f l = some (if allB l = true then 0 else 2) := by
  have hb : ∀ s : S45, badSign s = !okS s := fun s => by unfold badSign; rw [sign_Right_f]; rfl
  have : l.any badSign = !allB l := by
    unfold allB
    induction l with
    | nil => rfl
    | cons s l ih => simp only [List.any_cons, List.all_cons, ih, hb, Bool.not_and]
  unfold sign_Check.f
  rw [this]
  cases allB l <;> rfl
theorem rd_sign (l : List S45) (i : Nat) (h : i < l.length) : rd_T45 l (i : Int) = l[i] := by simp [rd_T45, List.getD, h]
theorem ref_Right4_f (a b : Int) : dactylref04_Right.f a b = some (okS ⟨a, b⟩) := by
  unfold dactylref04_Right.f okS
  rw [ref_Right_f, Option.bind_some]
  cases rightB a
  · simp
  · by_cases h : b ≥ 0
    · simp [h]
    · simp [h]
theorem ref_AllS_f (l : List S45) (hl : l.length ≤ 4611686018427387904) (k : Nat) (hk : l.length < k) : dactylref04_All.f k l = some (allB l) := by
  obtain ⟨b, hb, hiff⟩ := scan_all (fun k i => dactylref04_All.l0 k l i) l.length (fun i => okS (rd_T45 l i)) hl (fun k => by simp [dactylref04_All.l0]) (fun k i hi => by
    simp only [dactylref04_All.l0]
    rw [if_pos (by omega), if_pos (by omega), ref_Right4_f, Option.bind_some]) l.length k 0 (by omega) hk
  unfold dactylref04_All.f
  rw [show dactylref04_All.l0 k l 0 = some b from hb]
  congr 1
  rw [Bool.eq_iff_iff, hiff]
  unfold allB
  rw [List.all_eq_true]
  constructor
  · intro h x hx
    obtain ⟨i, hi, rfl⟩ := List.mem_iff_getElem.1 hx
    have := h i (by omega) hi
    rwa [rd_sign l i hi] at this
  · intro h j _ hj
    rw [rd_sign l j hj]
    exact h _ (List.getElem_mem hj)
/-! ### the view -/
def promptCells (l : List S45) : List S93 := l.flatMap fun s => cellsOf s.f0 s.f1 (-1)
def lineCells : Int → List S45 → List S93
  | _, [] => []
  | i, s :: l => cellsOf s.f0 s.f1 i ++ lineCells (i + 1) l
def viewC (p l : List S45) : List S93 := promptCells p ++ lineCells 0 l
theorem promptCells_cons (s : S45) (l : List S45) : promptCells (s :: l) = cellsOf s.f0 s.f1 (-1) ++ promptCells l := by simp [promptCells]
theorem promptCells_small (l : List S45) : (promptCells l).length ≤ 25 * l.length := by
  induction l with
  | nil => simp [promptCells]
  | cons s l ih =>
    have := cellsOf_small s.f0 s.f1 (-1)
    simp only [promptCells, List.flatMap_cons, List.length_append, List.length_cons] at ih ⊢
    omega
theorem lineCells_small (l : List S45) : ∀ i, (lineCells i l).length ≤ 25 * l.length := by
  induction l with
  | nil => intro i; simp [lineCells]
  | cons s l ih =>
    intro i
    have := cellsOf_small s.f0 s.f1 i
    have := ih (i + 1)
    simp only [lineCells, List.length_append, List.length_cons]
    omega
theorem Of_l1 (l : List S45) (hl : l.length ≤ 100000) : ∀ (d k i : Nat) (acc : List S93), d + i = l.length → d + 60 < k → acc.length ≤ 100000000 + 25 * i → view_Of.l1 k acc l (l.length : Int) (i : Int) = some (acc ++ lineCells i (l.drop i), 0) := by
  intro d
  induction d with
  | zero =>
    intro k i acc h1 h2 h3
    obtain ⟨k, rfl⟩ : ∃ m, k = m + 1 := ⟨k - 1, by omega⟩
    simp only [view_Of.l1]
    rw [if_neg (by omega), List.drop_of_length_le (by omega), lineCells, List.append_nil]
  | succ d ih =>
    intro k i acc h1 h2 h3
    obtain ⟨k, rfl⟩ : ∃ m, k = m + 1 := ⟨k - 1, by omega⟩
    have e1 : wrap64 ((i : Int) + 1) = ((i + 1 : Nat) : Int) := by rw [w64 (by omega) (by omega)]; omega
    have ed : l.drop i = l[i] :: l.drop (i + 1) := by rw [List.drop_eq_getElem_cons (by omega)]
    have hs := cellsOf_small (l[i]).f0 (l[i]).f1 i
    simp only [view_Of.l1]
    rw [if_pos (by omega), if_pos (by omega), if_pos (by omega), rd_sign l i (by omega), show_Cells_f _ _ _ k (by omega), Option.bind_some, if_pos (by omega), e1, ih k (i + 1) _ (by omega) (by omega) (by rw [List.length_append]; omega), ed, lineCells, List.append_assoc]
    rfl
theorem Of_l0 (l p : List S45) (hl : l.length ≤ 100000) (hp : p.length ≤ 100000) : ∀ (d k i : Nat) (acc : List S93), d + i = p.length → d + l.length + 70 < k → acc.length ≤ 25 * i → view_Of.l0 k l acc p (p.length : Int) (i : Int) = some (acc ++ promptCells (p.drop i) ++ lineCells 0 l, 0) := by
  intro d
  induction d with
  | zero =>
    intro k i acc h1 h2 h3
    obtain ⟨k, rfl⟩ : ∃ m, k = m + 1 := ⟨k - 1, by omega⟩
    have := Of_l1 l hl l.length k 0 acc (by omega) (by omega) (by omega)
    simp only [view_Of.l0]
    rw [if_neg (by omega), List.drop_of_length_le (by omega), show ((0 : Int)) = ((0 : Nat) : Int) from rfl, this]
    simp [promptCells]
  | succ d ih =>
    intro k i acc h1 h2 h3
    obtain ⟨k, rfl⟩ : ∃ m, k = m + 1 := ⟨k - 1, by omega⟩
    have e1 : wrap64 ((i : Int) + 1) = ((i + 1 : Nat) : Int) := by rw [w64 (by omega) (by omega)]; omega
    have ed : p.drop i = p[i] :: p.drop (i + 1) := by rw [List.drop_eq_getElem_cons (by omega)]
    have hs := cellsOf_small (p[i]).f0 (p[i]).f1 (-1)
    simp only [view_Of.l0]
    rw [if_pos (by omega), if_pos (by omega), if_pos (by omega), rd_sign p i (by omega), show_Cells_f _ _ _ k (by omega), Option.bind_some, if_pos (by omega), e1, ih k (i + 1) _ (by omega) (by omega) (by rw [List.length_append]; omega), ed, promptCells_cons]
    simp only [List.append_assoc]
theorem view_Of_f (p l : List S45) (hl : l.length ≤ 100000) (hp : p.length ≤ 100000) (k : Nat) (hk : p.length + l.length + 80 < k) : view_Of.f k p l = some (if allB p = true ∧ allB l = true then (viewC p l, 0) else ([], 2)) := by
  obtain ⟨k, rfl⟩ : ∃ m, k = m + 1 := ⟨k - 1, by omega⟩
  have h0 := Of_l0 l p hl hp p.length k 0 [] (by omega) (by omega) (by simp)
  unfold view_Of.f
  rw [sign_Check_f, Option.bind_some, sign_Check_f, Option.bind_some]
  simp only [view_Of.j0]
  rw [show ((0 : Int)) = ((0 : Nat) : Int) from rfl, h0]
  cases allB p <;> cases allB l <;> simp [viewC]

end Go.Proofs.Ytemoocoedibbpaa.X

namespace Go.Proofs.Ytemoocoedibbpaa.X
open Go.RowKit Go.Proofs.YtemoocoedibbpaaW.PrintWords Go.Proofs.YtemoocoedibbpaaW.PrintLast Go.Proofs.YtemoocoedibbpaaW.PrintMore
attribute [local go_sem] max2_int min2_int max_two min_two max_three min_three max_four min_four
set_option linter.unusedVariables false
set_option linter.unusedSimpArgs false

theorem RefOf_l1 (l : List S45) (hl : l.length ≤ 100000) : ∀ (d k i : Nat) (acc : List S93), d + i = l.length → d + 60 < k → acc.length ≤ 100000000 + 25 * i → dactylref07_Of.l1 k l acc (i : Int) = some (acc ++ lineCells i (l.drop i)) := by
  intro d
  induction d with
  | zero =>
    intro k i acc h1 h2 h3
    obtain ⟨k, rfl⟩ : ∃ m, k = m + 1 := ⟨k - 1, by omega⟩
    simp only [dactylref07_Of.l1]
    rw [if_neg (by omega), List.drop_of_length_le (by omega), lineCells, List.append_nil]
  | succ d ih =>
    intro k i acc h1 h2 h3
    obtain ⟨k, rfl⟩ : ∃ m, k = m + 1 := ⟨k - 1, by omega⟩
    have e1 : wrap64 ((i : Int) + 1) = ((i + 1 : Nat) : Int) := by rw [w64 (by omega) (by omega)]; omega
    have ed : l.drop i = l[i] :: l.drop (i + 1) := by rw [List.drop_eq_getElem_cons (by omega)]
    have hs := cellsOf_small (l[i]).f0 (l[i]).f1 i
    simp only [dactylref07_Of.l1]
    rw [if_pos (by omega), if_pos (by omega), rd_sign l i (by omega), ref_Cells_f _ _ _ k (by omega), Option.bind_some, if_pos (by omega), e1, ih k (i + 1) _ (by omega) (by omega) (by rw [List.length_append]; omega), ed, lineCells, List.append_assoc]
    rfl
theorem RefOf_l0 (l p : List S45) (hl : l.length ≤ 100000) (hp : p.length ≤ 100000) : ∀ (d k i : Nat) (acc : List S93), d + i = p.length → d + l.length + 70 < k → acc.length ≤ 25 * i → dactylref07_Of.l0 k p l acc (i : Int) = some (acc ++ promptCells (p.drop i) ++ lineCells 0 l) := by
  intro d
  induction d with
  | zero =>
    intro k i acc h1 h2 h3
    obtain ⟨k, rfl⟩ : ∃ m, k = m + 1 := ⟨k - 1, by omega⟩
    have := RefOf_l1 l hl l.length k 0 acc (by omega) (by omega) (by omega)
    simp only [dactylref07_Of.l0]
    rw [if_neg (by omega), List.drop_of_length_le (by omega), show ((0 : Int)) = ((0 : Nat) : Int) from rfl, this]
    simp [promptCells]
  | succ d ih =>
    intro k i acc h1 h2 h3
    obtain ⟨k, rfl⟩ : ∃ m, k = m + 1 := ⟨k - 1, by omega⟩
    have e1 : wrap64 ((i : Int) + 1) = ((i + 1 : Nat) : Int) := by rw [w64 (by omega) (by omega)]; omega
    have ed : p.drop i = p[i] :: p.drop (i + 1) := by rw [List.drop_eq_getElem_cons (by omega)]
    have hs := cellsOf_small (p[i]).f0 (p[i]).f1 (-1)
    simp only [dactylref07_Of.l0]
    rw [if_pos (by omega), if_pos (by omega), rd_sign p i (by omega), ref_Cells_f _ _ _ k (by omega), Option.bind_some, if_pos (by omega), e1, ih k (i + 1) _ (by omega) (by omega) (by rw [List.length_append]; omega), ed, promptCells_cons]
    simp only [List.append_assoc]
theorem ref_Of7_f (p l : List S45) (hl : l.length ≤ 100000) (hp : p.length ≤ 100000) (k : Nat) (hk : p.length + l.length + 80 < k) : dactylref07_Of.f k p l = some (viewC p l) := by
  have h0 := RefOf_l0 l p hl hp p.length k 0 [] (by omega) (by omega) (by simp)
  unfold dactylref07_Of.f viewC
  rw [show ((0 : Int)) = ((0 : Nat) : Int) from rfl, h0]
  simp
def sumCols (l : List S45) : Int := (l.map fun s => colsV s.f0).sum
theorem colsV_range (v : Int) : 0 ≤ colsV v ∧ colsV v ≤ 25 := by
  have := cellsOf_len v 0 0
  have := cellsOf_small v 0 0
  omega
theorem sumCols_cons (s : S45) (l : List S45) : sumCols (s :: l) = colsV s.f0 + sumCols l := by simp [sumCols]
theorem sumCols_range (l : List S45) : 0 ≤ sumCols l ∧ sumCols l ≤ 25 * l.length := by
  induction l with
  | nil => simp [sumCols]
  | cons s l ih =>
    have := colsV_range s.f0
    rw [sumCols_cons, List.length_cons]
    omega
theorem promptCells_len (l : List S45) : ((promptCells l).length : Int) = sumCols l := by
  induction l with
  | nil => rfl
  | cons s l ih => rw [promptCells_cons, List.length_append, sumCols_cons, ← ih, ← cellsOf_len s.f0 s.f1 (-1)]; omega
theorem lineCells_len (l : List S45) : ∀ i, ((lineCells i l).length : Int) = sumCols l := by
  induction l with
  | nil => intro i; rfl
  | cons s l ih => intro i; rw [lineCells, List.length_append, sumCols_cons, ← ih (i + 1), ← cellsOf_len s.f0 s.f1 i]; omega
theorem viewC_len (p l : List S45) : ((viewC p l).length : Int) = sumCols p + sumCols l := by
  unfold viewC
  rw [List.length_append, ← promptCells_len, ← lineCells_len l 0]; omega
theorem Cols_l0 (l : List S45) (hl : l.length ≤ 100000) : ∀ (d k i : Nat) (acc : Int), d + i = l.length → d + 61 < k → 0 ≤ acc → acc ≤ 25 * i → view_Cols.l0 k acc l (l.length : Int) (i : Int) = some (acc + sumCols (l.drop i)) := by
  intro d
  induction d with
  | zero =>
    intro k i acc h1 h2 h3 h4
    obtain ⟨k, rfl⟩ : ∃ m, k = m + 1 := ⟨k - 1, by omega⟩
    simp only [view_Cols.l0]
    rw [if_neg (by omega), List.drop_of_length_le (by omega)]
    simp [sumCols]
  | succ d ih =>
    intro k i acc h1 h2 h3 h4
    obtain ⟨k, rfl⟩ : ∃ m, k = m + 1 := ⟨k - 1, by omega⟩
    have e1 : wrap64 ((i : Int) + 1) = ((i + 1 : Nat) : Int) := by rw [w64 (by omega) (by omega)]; omega
    have ed : l.drop i = l[i] :: l.drop (i + 1) := by rw [List.drop_eq_getElem_cons (by omega)]
    have hs := colsV_range (l[i]).f0
    simp only [view_Cols.l0]
    rw [if_pos (by omega), if_pos (by omega), if_pos (by omega), rd_sign l i (by omega), show_Cols_f _ k (by omega), Option.bind_some, w64 (by omega) (by omega), e1, ih k (i + 1) _ (by omega) (by omega) (by omega) (by omega), ed, sumCols_cons]
    congr 1; omega
theorem view_Cols_f (l : List S45) (hl : l.length ≤ 100000) (k : Nat) (hk : l.length + 61 < k) : view_Cols.f k l = some (sumCols l) := by
  have := Cols_l0 l hl l.length k 0 0 (by omega) (by omega) (by omega) (by omega)
  simpa [view_Cols.f] using this

end Go.Proofs.Ytemoocoedibbpaa.X

namespace Go.Proofs.Ytemoocoedibbpaa.X
open Go.RowKit Go.Proofs.YtemoocoedibbpaaW.PrintWords Go.Proofs.YtemoocoedibbpaaW.PrintLast Go.Proofs.YtemoocoedibbpaaW.PrintMore
attribute [local go_sem] max2_int min2_int max_two min_two max_three min_three max_four min_four
set_option linter.unusedVariables false
set_option linter.unusedSimpArgs false

theorem Pure_ViewOf : dactyllaw07_ViewOf.Pure := by
  intro p l _ _
  refine ⟨p.length + l.length + 3000, ?_⟩
  have aw : dactyllaw07_awake.f = some true := rfl
  unfold dactyllaw07_ViewOf.f
  obtain ⟨k, hk⟩ : ∃ k, p.length + l.length + 3000 = k + 2 := ⟨p.length + l.length + 2998, by omega⟩
  rw [hk]
  simp only [dactyllaw07_ViewOf.j0, dactyllaw07_ViewOf.j1, aw, Option.bind_some, if_true]
  by_cases c1 : (p.length : Int) > 40
  · rw [if_pos c1]
  · rw [if_neg c1]
    by_cases c2 : (l.length : Int) > 60
    · rw [decide_eq_true c2]; rfl
    · rw [decide_eq_false c2]
      have hv := promptCells_small p
      have hv2 := lineCells_small l 0
      have hlen : (viewC p l).length ≤ 2500 := by unfold viewC; rw [List.length_append]; omega
      rw [if_neg (show ¬ (false = true) by decide), view_Of_f p l (by omega) (by omega) _ (by omega), Option.bind_some, ref_AllS_f p (by omega) _ (by omega), Option.bind_some, ref_AllS_f l (by omega) _ (by omega), Option.bind_some]
      cases hp : allB p
      · simp
      · cases hl : allB l
        · simp
        · have h1 := viewC_len p l
          have s1 := sumCols_range p
          have s2 := sumCols_range l
          simp only [and_self, if_true, Bool.not_true, Bool.false_eq_true, if_false]
          rw [ref_Of7_f p l (by omega) (by omega) _ (by omega), Option.bind_some, ref_All_self _ (by omega) _ (by omega), Option.bind_some, if_pos rfl, view_Cols_f p (by omega) _ (by omega), Option.bind_some, view_Cols_f l (by omega) _ (by omega), Option.bind_some, w64 (by omega) (by omega), h1, beq_self_eq_true]

end Go.Proofs.Ytemoocoedibbpaa.X
