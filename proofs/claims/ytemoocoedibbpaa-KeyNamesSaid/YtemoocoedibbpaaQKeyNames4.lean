/- Written by a program of this session (wip/tools/hp.py, pack.py) and by this session: what the law KeyNames reaches, function by function: a Lean function with the same answers, and the proof that the machine's call gives them. No condition but the ones the theorems state. -/
import Derived.Test.YtemoocoedibbpaaQKeyNames3
namespace Go.Proofs.Ytemoocoedibbpaa.X
open Go.RowKit Go.Proofs.YtemoocoedibbpaaW.PrintWords Go.Proofs.YtemoocoedibbpaaW.PrintLast Go.Proofs.YtemoocoedibbpaaW.PrintMore
attribute [local go_sem] max2_int min2_int max_two min_two max_three min_three max_four min_four
set_option linter.unusedVariables false
set_option linter.unusedSimpArgs false

theorem w64 {x : Int} (h0 : -9223372036854775808 ≤ x) (h1 : x ≤ 9223372036854775807) : wrap64 x = x := by unfold wrap64; omega
theorem Ev.all {α : Type} {g : Nat → Option α} {r : α} (K : Nat) (h : ∀ k, K ≤ k → g k = some r) : Ev g r := ⟨K, h⟩
theorem Ev.ite {α : Type} {c : Prop} [Decidable c] {g f : Nat → Option α} {r : α} (h1 : c → Ev g r) (h2 : ¬ c → Ev f r) : Ev (fun k => if c then g k else f k) r := by
  by_cases h : c
  · simp only [if_pos h]; exact h1 h
  · simp only [if_neg h]; exact h2 h
theorem Ev.bind1 {α β : Type} {a : α} {o : Option α} {f : Nat → α → Option β} {r : β} (h : o = some a) (k : Ev (fun n => f n a) r) : Ev (fun n => o.bind (f n)) r := by subst h; exact k
def rightB (v : Int) : Bool := decide (0 ≤ v ∧ v < 55296 ∨ 57343 < v ∧ v ≤ 1114111) || decide (1114240 ≤ v ∧ v ≤ 1114367)
theorem utf_point_f (v : Int) : utf_point.f v = some (decide (0 ≤ v ∧ v < 55296 ∨ 57343 < v ∧ v ≤ 1114111)) := by
  unfold utf_point.f
  by_cases h1 : v ≥ 0
  · rw [if_pos h1]
    by_cases h2 : v ≤ 1114111
    · rw [if_pos h2]
      by_cases h3 : v < 55296
      · rw [if_pos h3]; congr 1; exact (decide_eq_true (by omega)).symm
      · rw [if_neg h3]; congr 1; exact decide_eq_decide.mpr (by omega)
    · rw [if_neg h2]; congr 1; exact (decide_eq_false (by omega)).symm
  · rw [if_neg h1]; congr 1; exact (decide_eq_false (by omega)).symm
theorem utf_Right_f (v : Int) : utf_Right.f v = some (rightB v) := by
  unfold utf_Right.f
  rw [utf_point_f, Option.bind_some]
  unfold rightB
  by_cases h : (0 ≤ v ∧ v < 55296 ∨ 57343 < v ∧ v ≤ 1114111)
  · rw [decide_eq_true h]; simp
  · rw [decide_eq_false h]
    simp only [Bool.false_or, if_neg (show ¬ (false = true) by decide)]
    by_cases h2 : v ≥ 1114240
    · rw [if_pos h2]; congr 1; exact decide_eq_decide.mpr (by omega)
    · rw [if_neg h2]; congr 1; exact (decide_eq_false (by omega)).symm
theorem ref_Right_f (v : Int) : dactylref02_Right.f v = some (rightB v) := by
  unfold dactylref02_Right.f rightB
  repeat' split
  all_goals (congr 1; simp only [Bool.or_eq_true, decide_eq_true_eq, eq_comm (a := true), ← Bool.decide_or]; first | omega | (exact decide_eq_decide.mpr (by omega)) | (simp; omega))
/-- The bytes of a value, as numbers. -/
def encL (v : Int) : List Int := if v < 128 then [v] else if v < 2048 then [192 + v / 64, 128 + v % 64] else if v < 65536 then [224 + v / 4096, 128 + v / 64 % 64, 128 + v % 64] else if v ≤ 1114111 then [240 + v / 262144, 128 + v / 4096 % 64, 128 + v / 64 % 64, 128 + v % 64] else [v - 1114112]
theorem encL_len (v : Int) : 1 ≤ (encL v).length ∧ (encL v).length ≤ 4 := by unfold encL; (repeat' split) <;> simp
theorem rightB_iff (v : Int) : rightB v = true ↔ (0 ≤ v ∧ v < 55296 ∨ 57343 < v ∧ v ≤ 1114111) ∨ (1114240 ≤ v ∧ v ≤ 1114367) := by unfold rightB; simp only [Bool.or_eq_true, decide_eq_true_eq]
theorem ref_Bytes_f (v : Int) (h0 : 0 ≤ v) (h1 : v ≤ 1114367) : dactylref02_Bytes.f v = some (strOfNums (encL v)) := by
  have t : ∀ n : Int, Int.tdiv v n = v / n := fun n => Int.tdiv_eq_ediv_of_nonneg h0
  have m : ∀ n : Int, Int.tmod v n = v % n := fun n => Int.tmod_eq_emod_of_nonneg h0
  have e64 : wrap64 (v / 64) = v / 64 := by unfold wrap64; omega
  have e4096 : wrap64 (v / 4096) = v / 4096 := by unfold wrap64; omega
  have e26 : wrap64 (v / 262144) = v / 262144 := by unfold wrap64; omega
  have m64 : Int.tmod (v / 64) 64 = v / 64 % 64 := Int.tmod_eq_emod_of_nonneg (by omega)
  have m4096 : Int.tmod (v / 4096) 64 = v / 4096 % 64 := Int.tmod_eq_emod_of_nonneg (by omega)
  unfold dactylref02_Bytes.f encL
  rw [t, t, t, m, e64, e4096, e26, m64, m4096]
  by_cases c1 : v < 128
  · rw [if_pos c1, if_pos c1, show v % 256 = v by omega]
  · rw [if_neg c1, if_neg c1]
    by_cases c2 : v < 2048
    · rw [if_pos c2, if_pos c2, show wrap64 (192 + v / 64) % 256 = 192 + v / 64 by unfold wrap64; omega, show wrap64 (128 + v % 64) % 256 = 128 + v % 64 by unfold wrap64; omega]
    · rw [if_neg c2, if_neg c2]
      by_cases c3 : v < 65536
      · rw [if_pos c3, if_pos c3, show wrap64 (224 + v / 4096) % 256 = 224 + v / 4096 by unfold wrap64; omega, show wrap64 (128 + v / 64 % 64) % 256 = 128 + v / 64 % 64 by unfold wrap64; omega, show wrap64 (128 + v % 64) % 256 = 128 + v % 64 by unfold wrap64; omega]
      · rw [if_neg c3, if_neg c3]
        by_cases c4 : v ≤ 1114111
        · rw [if_pos c4, if_pos c4, show wrap64 (240 + v / 262144) % 256 = 240 + v / 262144 by unfold wrap64; omega, show wrap64 (128 + v / 4096 % 64) % 256 = 128 + v / 4096 % 64 by unfold wrap64; omega, show wrap64 (128 + v / 64 % 64) % 256 = 128 + v / 64 % 64 by unfold wrap64; omega, show wrap64 (128 + v % 64) % 256 = 128 + v % 64 by unfold wrap64; omega]
        · rw [if_neg c4, if_neg c4, show wrap64 (v - 1114112) % 256 = v - 1114112 by unfold wrap64; omega]
theorem AppendRune_f (l : List Int) (v : Int) (h : 0 ≤ v ∧ v < 55296 ∨ 57343 < v ∧ v ≤ 1114111) (hl : l.length + 4 < 140737488355328) (k : Nat) (hk : 1 ≤ k) : utf8_AppendRune.f k l v = some (l ++ encL v) := by
  obtain ⟨k, rfl⟩ : ∃ m, k = m + 1 := ⟨k - 1, by omega⟩
  have e : v % 4294967296 = v := by omega
  unfold utf8_AppendRune.f utf8_appendRuneNonASCII.f encL
  simp only [utf8_appendRuneNonASCII.j0, e]
  by_cases c1 : v ≤ 127
  · rw [if_pos c1, if_pos (by omega), if_pos (show v < 128 by omega), show v % 256 = v by omega]
  · rw [if_neg c1, if_neg (show ¬ v < 128 by omega)]
    by_cases c2 : v ≤ 2047
    · rw [if_pos c2, if_pos (show v < 2048 by omega), show v / 64 % 256 = v / 64 by omega, u8_or192 _ (by omega) (by omega)]
      simp only [Option.bind_some, List.length_cons, List.length_nil]
      rw [if_pos (by omega)]; rfl
    · rw [if_neg c2, if_neg (show ¬ v < 2048 by omega)]
      have three : ∀ b : Bool, b = true → v < 65536 → ((if b = true then ((some (([Go.bits .or .u8 224 ((v / 4096) % 256), 128 + ((v / 64) % 64), 128 + (v % 64)] : List Int) : List Int)).bind fun y107 => (if l.length + y107.length < 140737488355328 then (some (l ++ y107)) else (none))) else none : Option (List Int)).bind fun t => some t) = some (l ++ [224 + v / 4096, 128 + v / 64 % 64, 128 + v % 64]) := by
        intro b hb hv
        subst hb
        rw [if_pos rfl, show v / 4096 % 256 = v / 4096 by omega, u8_or224 _ (by omega) (by omega)]
        simp only [Option.bind_some, List.length_cons, List.length_nil]
        rw [if_pos (by omega)]; rfl
      by_cases c3 : v < 55296
      · have := three true rfl (by omega)
        rw [if_pos rfl] at this
        rw [if_pos c3, decide_eq_true c3, if_pos rfl, if_pos (show v < 65536 by omega)]
        exact this
      · rw [if_neg c3, if_pos (show 57343 < v by omega)]
        by_cases c4 : v ≤ 65535
        · have := three true rfl (by omega)
          rw [if_pos rfl] at this
          rw [decide_eq_true c4, if_pos rfl, if_pos (show v < 65536 by omega)]
          exact this
        · rw [decide_eq_false c4, if_neg (show ¬ (false = true) by decide), if_pos (show v > 65535 by omega), if_pos (show v ≤ 1114111 by omega), if_neg (show ¬ v < 65536 by omega), if_pos (show v ≤ 1114111 by omega), show v / 262144 % 256 = v / 262144 by omega, u8_or240 _ (by omega) (by omega)]
          simp only [Option.bind_some, List.length_cons, List.length_nil]
          rw [if_pos (by omega)]; rfl
/-- The bytes of values, those that may not be left out. -/
def encAll (l : List Int) : List Int := l.flatMap fun v => if rightB v = true then encL v else []
theorem encAll_len (l : List Int) : (encAll l).length ≤ 4 * l.length := by
  induction l with
  | nil => simp [encAll]
  | cons v l ih =>
    have := (encL_len v).2
    simp only [encAll, List.flatMap_cons, List.length_append, List.length_cons] at ih ⊢
    split <;> simp at * <;> omega
theorem encAll_append (a b : List Int) : encAll (a ++ b) = encAll a ++ encAll b := by simp [encAll]
theorem encAll_cons (v : Int) (l : List Int) : encAll (v :: l) = (if rightB v = true then encL v else []) ++ encAll l := by simp [encAll]
theorem encAll_nil : encAll [] = [] := rfl
theorem Encode_l0 (l : List Int) (hl : 4 * l.length < 140737488350000) : ∀ (d k i : Nat) (acc : List Int), d + i = l.length → d + 1 < k → acc = encAll (l.take i) → utf_Encode.l0 k acc l (l.length : Int) (i : Int) = some (strOfNums (acc ++ encAll (l.drop i))) := by
  intro d
  induction d with
  | zero =>
    intro k i acc h1 h2 ha
    obtain ⟨k, rfl⟩ : ∃ m, k = m + 1 := ⟨k - 1, by omega⟩
    simp only [utf_Encode.l0]
    rw [if_neg (by omega), List.drop_of_length_le (by omega)]
    simp [encAll]
  | succ d ih =>
    intro k i acc h1 h2 ha
    obtain ⟨k, rfl⟩ : ∃ m, k = m + 1 := ⟨k - 1, by omega⟩
    have e1 : wrap64 ((i : Int) + 1) = ((i + 1 : Nat) : Int) := by rw [w64 (by omega) (by omega)]; omega
    have ed : l.drop i = l[i] :: l.drop (i + 1) := by rw [List.drop_eq_getElem_cons (by omega)]
    have et : l.take (i + 1) = l.take i ++ [l[i]] := by rw [List.take_succ_eq_append_getElem (by omega)]
    have r0 : rd l (i : Int) = l[i] := by simp [rd, List.getD, show i < l.length by omega]
    have hal : acc.length ≤ 4 * i := by rw [ha]; have := encAll_len (l.take i); rw [List.length_take] at this; omega
    have step : ∀ acc', acc' = encAll (l.take (i + 1)) → utf_Encode.l0 k acc' l (l.length : Int) ((i + 1 : Nat) : Int) = some (strOfNums (acc' ++ encAll (l.drop (i + 1)))) := fun acc' h => ih k (i + 1) acc' (by omega) (by omega) h
    simp only [utf_Encode.l0]
    rw [if_pos (by omega), if_pos (by omega), if_pos (by omega), r0, utf_point_f, Option.bind_some, e1]
    by_cases c1 : (0 ≤ l[i] ∧ l[i] < 55296 ∨ 57343 < l[i] ∧ l[i] ≤ 1114111)
    · have hr : rightB l[i] = true := (rightB_iff _).2 (.inl c1)
      have ha' : acc ++ encL l[i] = encAll (l.take (i + 1)) := by rw [et, ha, encAll_append, encAll_cons, if_pos hr, encAll_nil, List.append_nil]
      rw [decide_eq_true c1, if_pos rfl, show wrap32 l[i] = l[i] by unfold wrap32; omega, AppendRune_f acc l[i] c1 (by omega) k (by omega), Option.bind_some, step _ ha', ed, encAll_cons, if_pos hr, List.append_assoc]
    · rw [decide_eq_false c1, if_neg (show ¬ (false = true) by decide), utf_Right_f, Option.bind_some]
      by_cases c2 : rightB l[i] = true
      · have hv := (rightB_iff _).1 c2
        have he : encL l[i] = [l[i] - 1114112] := by unfold encL; rw [if_neg (by omega), if_neg (by omega), if_neg (by omega), if_neg (by omega)]
        have ha' : acc ++ [l[i] - 1114112] = encAll (l.take (i + 1)) := by rw [et, ha, ← he, encAll_append, encAll_cons, if_pos c2, encAll_nil, List.append_nil]
        rw [if_pos c2, if_pos (by omega), show wrap64 (l[i] - 1114112) % 256 = l[i] - 1114112 by unfold wrap64; omega, step _ ha', ed, encAll_cons, if_pos c2, he, List.append_assoc]
      · have ha' : acc = encAll (l.take (i + 1)) := by rw [et, ha, encAll_append, encAll_cons, if_neg c2, encAll_nil, List.append_nil, List.append_nil]
        rw [if_neg c2, step _ ha', ed, encAll_cons, if_neg c2, List.nil_append]
theorem utf_Encode_f (l : List Int) (hl : 4 * l.length < 140737488350000) (k : Nat) (hk : l.length + 1 < k) : utf_Encode.f k l = some (strOfNums (encAll l)) := by
  have := Encode_l0 l hl l.length k 0 [] (by omega) hk (by simp [encAll])
  simpa [utf_Encode.f] using this
/-! ### hex digits -/
def digB (x : Int) : ByteArray := digitsB.extract x.toNat (x + 1).toNat
theorem digB_size (x : Int) (h0 : 0 ≤ x) (h1 : x < 16) : (digB x).size = 1 := digit_size x h0 h1
theorem ba_assoc (a b c : ByteArray) : a ++ b ++ c = a ++ (b ++ c) := ByteArray.append_assoc
theorem e0size : (⟨#[]⟩ : ByteArray).size = 0 := rfl
theorem laid_acc (g : Nat) : ∀ (least u : Int) (s : ByteArray), 0 ≤ u → laidF g 16 least u s = laidF g 16 (least - s.size) u ⟨#[]⟩ ++ s := by
  induction g with
  | zero => intro least u s _; exact (ByteArray.empty_append (b := s)).symm
  | succ g ih =>
    intro least u s h0
    have hd := digB_size (u % 16) (by omega) (by omega)
    have hd' : digB (u % 16) = digitsB.extract (u % 16).toNat (u % 16 + 1).toNat := rfl
    simp only [laidF, ← hd', e0size]
    by_cases c : u > 0 ∨ (s.size : Int) < least
    · rw [if_pos c, if_pos (show u > 0 ∨ ((0 : Nat) : Int) < least - s.size by omega), ih least (u / 16) _ (by omega), ih (least - s.size) (u / 16) (digB (u % 16) ++ ⟨#[]⟩) (by omega)]
      rw [ByteArray.size_append, ByteArray.size_append, hd, e0size, ba_assoc, show digB (u % 16) ++ (⟨#[]⟩ : ByteArray) = digB (u % 16) from ByteArray.append_empty, show least - ((1 + s.size : Nat) : Int) = least - (s.size : Int) - ((1 + 0 : Nat) : Int) by omega]
    · rw [if_neg c, if_neg (show ¬ (u > 0 ∨ ((0 : Nat) : Int) < least - s.size) by omega)]
      exact (ByteArray.empty_append (b := s)).symm
theorem laid_size (g : Nat) : ∀ (least u : Int) (s : ByteArray), 0 ≤ u → (laidF g 16 least u s).size ≤ s.size + g := by
  induction g with
  | zero => intro least u s _; simp [laidF]
  | succ g ih =>
    intro least u s h0
    have hd := digB_size (u % 16) (by omega) (by omega)
    have hd' : digB (u % 16) = digitsB.extract (u % 16).toNat (u % 16 + 1).toNat := rfl
    simp only [laidF, ← hd']
    split
    · have := ih least (u / 16) (digB (u % 16) ++ s) (by omega)
      rw [ByteArray.size_append, hd] at this
      omega
    · omega
theorem laid_step (g : Nat) (least u : Int) (h0 : 0 ≤ u) (h : u > 0 ∨ 0 < least) : laidF (g + 1) 16 least u ⟨#[]⟩ = laidF g 16 (least - 1) (u / 16) ⟨#[]⟩ ++ digB (u % 16) := by
  have hd := digB_size (u % 16) (by omega) (by omega)
  have hd' : digB (u % 16) = digitsB.extract (u % 16).toNat (u % 16 + 1).toNat := rfl
  simp only [laidF, ← hd', e0size]
  rw [if_pos (show u > 0 ∨ ((0 : Nat) : Int) < least by omega), laid_acc g least (u / 16) _ (by omega), show digB (u % 16) ++ (⟨#[]⟩ : ByteArray) = digB (u % 16) from ByteArray.append_empty, hd]
  rfl
theorem laid_nil (g : Nat) (least : Int) (h : least ≤ 0) : laidF g 16 least 0 ⟨#[]⟩ = ⟨#[]⟩ := by
  cases g with
  | zero => rfl
  | succ g => simp only [laidF, e0size]; rw [if_neg (show ¬ ((0 : Int) > 0 ∨ ((0 : Nat) : Int) < least) by omega)]
theorem laid_01 (g : Nat) (u : Int) (h : 0 < u) : laidF g 16 0 u ⟨#[]⟩ = laidF g 16 1 u ⟨#[]⟩ := by
  cases g with
  | zero => rfl
  | succ g =>
    rw [laid_step g 0 u (by omega) (.inl h), laid_step g 1 u (by omega) (.inl h)]
    congr 1
    by_cases c : u / 16 = 0
    · rw [c, laid_nil g _ (by omega), laid_nil g _ (by omega)]
    · -- more digits: the least number counts no more
      have : ∀ (g : Nat) (a b v : Int), a ≤ 0 → b ≤ 0 → 0 ≤ v → laidF g 16 a v ⟨#[]⟩ = laidF g 16 b v ⟨#[]⟩ := by
        intro g
        induction g with
        | zero => intro a b v _ _ _; rfl
        | succ g ih =>
          intro a b v ha hb hv
          by_cases hz : v = 0
          · rw [hz, laid_nil _ _ ha, laid_nil _ _ hb]
          · rw [laid_step g a v hv (by omega), laid_step g b v hv (by omega), ih (a - 1) (b - 1) (v / 16) (by omega) (by omega) (by omega)]
      exact this g _ _ _ (by omega) (by omega) (by omega)
theorem Digit_f (x : Int) (h0 : 0 ≤ x) (h1 : x < 16) : dactylref01_Digit.f x = some (digB x) := by
  unfold dactylref01_Digit.f
  rw [show wrap64 (x + 1) = x + 1 by unfold wrap64; omega, if_pos h0, if_pos (by omega), if_pos (by omega)]
  rfl
/-- The reference's hex digits are the program's. -/
theorem ref_Hex_f : ∀ (g : Nat), g ≤ 16 → ∀ (k : Nat) (n least : Int), 0 ≤ n → n < 16 ^ g → least ≤ g → (g : Int) - 100 ≤ least → n ≤ 9223372036854775807 → 1 ≤ g → 2 * g ≤ k → dactylref01_Hex.f k n least = some (laidF g 16 (max least 1) n ⟨#[]⟩) := by
  intro g
  induction g with
  | zero => intro _ k n least _ _ _ _ _ h _; omega
  | succ g ih =>
    intro hg k n least h0 h1 h2 h2' h3 _ hk
    obtain ⟨k, rfl⟩ : ∃ m, k = m + 2 := ⟨k - 2, by omega⟩
    by_cases c : n < 16 ∧ least ≤ 1
    · simp only [dactylref01_Hex.f, dactylref01_Hex.j0]
      rw [if_pos c.1, decide_eq_true c.2, if_pos rfl, Digit_f n h0 c.1, Option.bind_some, show max least 1 = 1 by omega, laid_step g 1 n h0 (.inr (by omega)), show n / 16 = 0 by omega, show n % 16 = n by omega, laid_nil _ _ (by omega)]
      rfl
    · have hj : dactylref01_Hex.f (k + 2) n least = dactylref01_Hex.j0 (k + 1) n least false := by
        simp only [dactylref01_Hex.f]
        by_cases c1 : n < 16
        · rw [if_pos c1, decide_eq_false (show ¬ least ≤ 1 by omega)]
        · rw [if_neg c1]
      rw [hj]
      simp only [dactylref01_Hex.j0]
      rw [if_neg (show ¬ (false = true) by decide), Int.tdiv_eq_ediv_of_nonneg h0, Int.tmod_eq_emod_of_nonneg h0, show wrap64 (n / 16) = n / 16 by unfold wrap64; omega, show wrap64 (least - 1) = least - 1 by unfold wrap64; omega]
      rw [Int.pow_succ] at h1
      have hlt : n / 16 < 16 ^ g := Int.ediv_lt_of_lt_mul (by decide) h1
      have hg1 : 1 ≤ g := by
        rcases Nat.eq_zero_or_pos g with hz | hz
        · subst hz; simp at h1; omega
        · exact hz
      rw [ih (by omega) k (n / 16) (least - 1) (by omega) hlt (by omega) (by omega) (by omega) hg1 (by omega), Option.bind_some, Digit_f (n % 16) (by omega) (by omega), Option.bind_some]
      have hs := laid_size g (max (least - 1) 1) (n / 16) ⟨#[]⟩ (by omega)
      have hd := digB_size (n % 16) (by omega) (by omega)
      rw [e0size] at hs
      rw [if_pos (show (laidF g 16 (max (least - 1) 1) (n / 16) ⟨#[]⟩).size + (digB (n % 16)).size ≤ 9223372036854775807 by omega), laid_step g (max least 1) n h0 (.inr (by omega))]
      congr 2
      by_cases c2 : 2 ≤ least
      · rw [show max (least - 1) 1 = max least 1 - 1 by omega]
      · rw [show max (least - 1) 1 = 1 by omega, show max least 1 - 1 = 0 by omega]
        exact (laid_01 g (n / 16) (by omega)).symm
theorem laid_more (g : Nat) : ∀ (d : Nat) (least u : Int), 0 ≤ u → u < 16 ^ g → least ≤ g → laidF (g + d) 16 least u ⟨#[]⟩ = laidF g 16 least u ⟨#[]⟩ := by
  induction g with
  | zero =>
    intro d least u h0 h1 h2
    simp at h1 h2
    rw [show u = 0 by omega, laid_nil _ _ h2, laid_nil _ _ h2]
  | succ g ih =>
    intro d least u h0 h1 h2
    by_cases c : u > 0 ∨ 0 < least
    · rw [Int.pow_succ] at h1
      rw [show g + 1 + d = (g + d) + 1 by omega, laid_step _ least u h0 c, laid_step _ least u h0 c, ih d _ _ (by omega) (Int.ediv_lt_of_lt_mul (by decide) h1) (by omega)]
    · rw [show u = 0 by omega, laid_nil _ _ (by omega), laid_nil _ _ (by omega)]
theorem num_Hex_f (n least : Int) (h0 : 0 ≤ n) (h1 : n ≤ 9223372036854775807) (h2 : 1 ≤ least) (h3 : least ≤ 16) : num_Hex.f n least = some (laidF 16 16 least n ⟨#[]⟩) := by
  unfold num_Hex.f
  rw [if_neg (by omega), show mn (mx least 1) 16 = least by unfold mn mx; split <;> split <;> omega, IntWalk.u64_in _ (by omega)]
theorem ref_Hex (n least : Int) (h0 : 0 ≤ n) (h1 : n ≤ 9223372036854775807) (h2 : 1 ≤ least) (h3 : least ≤ 16) (k : Nat) (hk : 32 ≤ k) : dactylref01_Hex.f k n least = some (laidF 16 16 least n ⟨#[]⟩) := by
  rw [ref_Hex_f 16 (by omega) k n least h0 (by omega) (by omega) (by omega) h1 (by omega) (by omega), show max least 1 = least by omega]
/-! ### shown texts -/
theorem strOfNums_size (l : List Int) : (strOfNums l).size = l.length := by simp [strOfNums, ByteArray.size]
theorem Encode_one (v : Int) (h : rightB v = true) (k : Nat) (hk : 3 ≤ k) : utf_Encode.f k [v] = some (strOfNums (encL v)) := by
  rw [utf_Encode_f [v] (by simp) k (by simp; omega), encAll_cons, if_pos h, encAll_nil, List.append_nil]
theorem str_append (a b : List Int) : strOfNums (a ++ b) = strOfNums a ++ strOfNums b := by
  apply ByteArray.ext
  rw [ByteArray.data_append]
  simp [strOfNums]
def digV (x : Int) : Int := if x < 10 then x + 48 else x + 55
theorem digB_list (x : Int) (h0 : 0 ≤ x) (h1 : x < 16) : digB x = strOfNums [digV x] := by
  obtain ⟨n, rfl⟩ : ∃ n : Nat, x = n := ⟨x.toNat, by omega⟩
  have hn : n < 16 := by omega
  have : ∀ n : Nat, n < 16 → (digB (n : Int)).data.toList = (strOfNums [digV (n : Int)]).data.toList := by decide +kernel
  apply ByteArray.ext
  exact Array.toList_inj.1 (this n hn)
def hexL : Nat → Int → Int → List Int
  | 0, _, _ => []
  | g + 1, least, u => if u > 0 ∨ 0 < least then hexL g (least - 1) (u / 16) ++ [digV (u % 16)] else []
theorem laid_list (g : Nat) : ∀ (least u : Int), 0 ≤ u → laidF g 16 least u ⟨#[]⟩ = strOfNums (hexL g least u) := by
  induction g with
  | zero => intro least u _; rfl
  | succ g ih =>
    intro least u h0
    unfold hexL
    by_cases c : u > 0 ∨ 0 < least
    · rw [if_pos c, laid_step g least u h0 c, ih _ _ (by omega), digB_list _ (by omega) (by omega), str_append]
    · rw [if_neg c, show u = 0 by omega, laid_nil _ _ (by omega)]
      rfl
theorem hexL_bytes (g : Nat) : ∀ (least u : Int), 0 ≤ u → ∀ x ∈ hexL g least u, (48 ≤ x ∧ x ≤ 57) ∨ (65 ≤ x ∧ x ≤ 70) := by
  induction g with
  | zero => intro least u _ x hx; simp [hexL] at hx
  | succ g ih =>
    intro least u h0 x hx
    unfold hexL at hx
    split at hx
    · rw [List.mem_append] at hx
      rcases hx with h | h
      · exact ih _ _ (by omega) x h
      · rw [List.mem_singleton] at h
        subst h
        unfold digV
        split <;> omega
    · simp at hx
def unV (x : Int) : Int := if x < 58 then x - 48 else x - 55
def unhexL (l : List Int) : Int := l.foldl (fun a x => 16 * a + unV x) 0
theorem unhex_hex (g : Nat) : ∀ (least u : Int), 0 ≤ u → u < 16 ^ g → unhexL (hexL g least u) = u := by
  induction g with
  | zero => intro least u h0 h1; simp at h1; simp [hexL, unhexL]; omega
  | succ g ih =>
    intro least u h0 h1
    unfold hexL
    split
    · have h2 : u / 16 < 16 ^ g := by rw [Int.pow_succ] at h1; omega
      have := ih (least - 1) (u / 16) (by omega) h2
      unfold unhexL at this ⊢
      rw [List.foldl_append, this]
      have : unV (digV (u % 16)) = u % 16 := by unfold unV digV; (repeat' split) <;> omega
      simp only [List.foldl_cons, List.foldl_nil, this]
      omega
    · simp [unhexL]; omega
theorem bt_str (l : List Int) (i : Nat) (hi : i < l.length) (h : ∀ x ∈ l, 0 ≤ x ∧ x ≤ 255) : bt (strOfNums l) (i : Int) = l[i] := by
  have hx := h _ (List.getElem_mem hi)
  unfold bt
  rw [dif_pos (by rw [strOfNums_size]; simpa using hi)]
  show (((strOfNums l).data[i]'(by simpa [strOfNums] using hi)).toNat : Int) = l[i]
  simp only [strOfNums]
  rw [List.getElem_toArray, List.getElem_map, UInt8.toNat_ofNat']
  omega

end Go.Proofs.Ytemoocoedibbpaa.X

namespace Go.Proofs.Ytemoocoedibbpaa.X
open Go.RowKit Go.Proofs.YtemoocoedibbpaaW.PrintWords Go.Proofs.YtemoocoedibbpaaW.PrintLast Go.Proofs.YtemoocoedibbpaaW.PrintMore
attribute [local go_sem] max2_int min2_int max_two min_two max_three min_three max_four min_four
set_option linter.unusedVariables false
set_option linter.unusedSimpArgs false

/-- A text out of its bytes. -/
def BA (l : List UInt8) : ByteArray := ⟨l.toArray⟩
theorem BA_data (s : ByteArray) : BA s.data.toList = s := Go.Lib.mk_data s
theorem BA_toList (l : List UInt8) : (BA l).toList = l := by rw [Go.Lib.toList_data]; rfl
theorem BA_size (l : List UInt8) : (BA l).size = l.length := by simp [BA, ByteArray.size]
theorem BA_inj {a b : List UInt8} (h : BA a = BA b) : a = b := by rw [← BA_toList a, h, BA_toList]
theorem BA_append (a b : List UInt8) : BA a ++ BA b = BA (a ++ b) := by
  apply ByteArray.ext
  rw [ByteArray.data_append]
  simp [BA]
theorem toList_inj {a b : ByteArray} (h : a.toList = b.toList) : a = b := by
  rw [Go.Lib.toList_data, Go.Lib.toList_data] at h
  rw [← BA_data a, ← BA_data b, h]
theorem BA_extract (l : List UInt8) (a b : Nat) : (BA l).extract a b = BA ((l.drop a).take (b - a)) := by rw [Go.Lib.extract_eq]; rfl
theorem bt_BA (l : List UInt8) (i : Nat) (h : i < l.length) : bt (BA l) (i : Int) = (l[i].toNat : Int) := by
  unfold bt
  rw [dif_pos (by rw [BA_size]; simpa using h)]
  rfl
theorem HasPrefix_f (s p : List UInt8) : stringslite_HasPrefix.f (BA s) (BA p) = some (p.isPrefixOf s) := by
  have h := Go.Lib.hasPrefix_of_take s p
  unfold Go.Lib.hasPrefix at h
  unfold stringslite_HasPrefix.f
  rw [BA_size, BA_size]
  by_cases c : (s.length : Int) ≥ p.length
  · rw [if_pos c, if_pos (by omega), if_pos (by omega), BA_extract, BA_toList, BA_toList, ← h, decide_eq_true (show p.length ≤ s.length by omega), Bool.true_and, List.drop_zero, Int.toNat_natCast, Nat.sub_zero]
  · rw [if_neg c, ← h, decide_eq_false (show ¬ p.length ≤ s.length by omega), Bool.false_and]
theorem CutPrefix_f (s p : List UInt8) : strings_CutPrefix.f (BA s) (BA p) = some (if p.isPrefixOf s = true then (BA (s.drop p.length), true) else (BA s, false)) := by
  unfold strings_CutPrefix.f stringslite_CutPrefix.f
  rw [HasPrefix_f, Option.bind_some]
  cases h : p.isPrefixOf s
  · rfl
  · have := (List.isPrefixOf_iff_prefix.1 h).length_le
    rw [if_pos rfl, if_pos rfl, BA_size, BA_size, if_pos (by omega), if_pos (by omega), BA_extract, Option.bind_some, Int.toNat_natCast, List.take_of_length_le (by rw [List.length_drop]; omega)]
theorem HasSuffix_f (s p : List UInt8) (hs : s.length ≤ 4611686018427387904) (hp : p.length ≤ 4611686018427387904) : stringslite_HasSuffix.f (BA s) (BA p) = some (p.isSuffixOf s) := by
  have h := Go.Lib.hasSuffix_of_drop s p
  unfold Go.Lib.hasSuffix at h
  unfold stringslite_HasSuffix.f
  rw [BA_size, BA_size, w64 (by omega) (by omega)]
  by_cases c : (s.length : Int) ≥ p.length
  · rw [if_pos c, if_pos (by omega), if_pos (by omega), BA_extract, BA_toList, BA_toList, ← h, decide_eq_true (show p.length ≤ s.length by omega), Bool.true_and, show ((s.length : Int) - p.length).toNat = s.length - p.length by omega, List.take_of_length_le (by rw [List.length_drop]; omega)]
  · rw [if_neg c, ← h, decide_eq_false (show ¬ p.length ≤ s.length by omega), Bool.false_and]
theorem CutSuffix_f (s p : List UInt8) (hs : s.length ≤ 4611686018427387904) (hp : p.length ≤ 4611686018427387904) : strings_CutSuffix.f (BA s) (BA p) = some (if p.isSuffixOf s = true then (BA (s.take (s.length - p.length)), true) else (BA s, false)) := by
  unfold strings_CutSuffix.f stringslite_CutSuffix.f
  rw [HasSuffix_f s p hs hp, Option.bind_some]
  cases h : p.isSuffixOf s
  · rfl
  · have := (List.isSuffixOf_iff_suffix.1 h).length_le
    rw [if_pos rfl, if_pos rfl, BA_size, BA_size, w64 (by omega) (by omega), if_pos (by omega), if_pos (by omega), BA_extract, Option.bind_some, List.drop_zero, show ((s.length : Int) - p.length).toNat - 0 = s.length - p.length by omega]
theorem strHasSuffix_f (s p : List UInt8) (hs : s.length ≤ 4611686018427387904) (hp : p.length ≤ 4611686018427387904) : strings_HasSuffix.f (BA s) (BA p) = some (p.isSuffixOf s) := by
  unfold strings_HasSuffix.f
  rw [HasSuffix_f s p hs hp, Option.bind_some]
theorem strOfNums_BA (l : List Int) : strOfNums l = BA (l.map fun n => UInt8.ofNat n.toNat) := rfl
/-! ### hex digits are read back -/
def digU : List UInt8 := [48, 49, 50, 51, 52, 53, 54, 55, 56, 57, 65, 66, 67, 68, 69, 70]
def ixD (b : Int) : Int := Go.Lib.indexByte digU b.toNat.toUInt8
theorem IndexByte_f (b : Int) : strings_IndexByte.f (⟨#[48, 49, 50, 51, 52, 53, 54, 55, 56, 57, 65, 66, 67, 68, 69, 70]⟩ : ByteArray) b = some (ixD b) := rfl
theorem ixD_dig (x : Int) (h0 : 0 ≤ x) (h1 : x < 16) : ixD (digV x) = x := by
  obtain ⟨n, rfl⟩ : ∃ n : Nat, x = n := ⟨x.toNat, by omega⟩
  have : ∀ n : Nat, n < 16 → ixD (digV (n : Int)) = n := by decide +kernel
  exact this n (by omega)

end Go.Proofs.Ytemoocoedibbpaa.X

namespace Go.Proofs.Ytemoocoedibbpaa.X
open Go.RowKit Go.Proofs.YtemoocoedibbpaaW.PrintWords Go.Proofs.YtemoocoedibbpaaW.PrintLast Go.Proofs.YtemoocoedibbpaaW.PrintMore
attribute [local go_sem] max2_int min2_int max_two min_two max_three min_three max_four min_four
set_option linter.unusedVariables false
set_option linter.unusedSimpArgs false

theorem findR_list (p : S112 → Bool) (l : List S112) : (if idxP p l < 0 then (nameless, false) else (rd_T112 l (idxP p l), true)) = (match l.find? p with | some x => (x, true) | none => (nameless, false)) := by
  induction l with
  | nil => rfl
  | cons x l ih =>
    have hg := idxP_ge p l
    rw [List.find?_cons]
    cases h : p x
    · simp only [idxP, h, Bool.false_eq_true, if_false]
      by_cases c : idxP p l < 0
      · rw [if_pos c] at ih
        rw [if_pos c, if_pos (by decide)]
        exact ih
      · rw [if_neg c] at ih
        rw [if_neg c, if_neg (by omega), ← ih]
        obtain ⟨n, hn⟩ : ∃ n : Nat, idxP p l = n := ⟨(idxP p l).toNat, by omega⟩
        rw [hn, show ((n : Int) + 1) = ((n + 1 : Nat) : Int) by omega]
        simp [rd_T112, List.getD]
    · simp only [idxP, h, if_true]
      rw [if_neg (by decide)]
      simp [rd_T112, List.getD]
theorem findR_find (p : S112 → Bool) : findR p = (match namedL.find? p with | some x => (x, true) | none => (nameless, false)) := findR_list p namedL
theorem findR_none (p : S112 → Bool) (h : ∀ x ∈ namedL, p x = false) : findR p = (nameless, false) := by
  rw [findR_find, List.find?_eq_none.2 (fun x hx => by simp [h x hx])]
def namedB (kk vv : Int) : Bool := (decide (kk = 4) && (decide (vv = 10) || decide (vv = 13))) || (decide (kk = 14) && (decide (vv = 0) || decide (vv = 1))) || (decide (5 ≤ kk ∧ kk ≤ 13) && decide (vv = 0))
theorem namedL_eq : namedL = [(⟨4, 13, (⟨#[82, 69, 84]⟩ : ByteArray), (⟨#[13]⟩ : ByteArray)⟩), (⟨4, 10, (⟨#[76, 70, 68]⟩ : ByteArray), (⟨#[10]⟩ : ByteArray)⟩), (⟨5, 0, (⟨#[69, 83, 67]⟩ : ByteArray), (⟨#[27]⟩ : ByteArray)⟩), (⟨6, 0, (⟨#[68, 69, 76]⟩ : ByteArray), (⟨#[127]⟩ : ByteArray)⟩), (⟨7, 0, (⟨#[85, 80]⟩ : ByteArray), (⟨#[27, 91, 65]⟩ : ByteArray)⟩), (⟨8, 0, (⟨#[68, 79, 87, 78]⟩ : ByteArray), (⟨#[27, 91, 66]⟩ : ByteArray)⟩), (⟨9, 0, (⟨#[82, 73, 71, 72, 84]⟩ : ByteArray), (⟨#[27, 91, 67]⟩ : ByteArray)⟩), (⟨10, 0, (⟨#[76, 69, 70, 84]⟩ : ByteArray), (⟨#[27, 91, 68]⟩ : ByteArray)⟩), (⟨11, 0, (⟨#[72, 79, 77, 69]⟩ : ByteArray), (⟨#[27, 91, 72]⟩ : ByteArray)⟩), (⟨12, 0, (⟨#[69, 78, 68]⟩ : ByteArray), (⟨#[27, 91, 70]⟩ : ByteArray)⟩), (⟨13, 0, (⟨#[68, 69, 76, 69, 84, 69]⟩ : ByteArray), (⟨#[27, 91, 51, 126]⟩ : ByteArray)⟩), (⟨14, 0, (⟨#[80, 71, 85, 80]⟩ : ByteArray), (⟨#[27, 91, 53, 126]⟩ : ByteArray)⟩), (⟨14, 1, (⟨#[80, 71, 68, 78]⟩ : ByteArray), (⟨#[27, 91, 54, 126]⟩ : ByteArray)⟩)] := rfl
theorem ofP_eq (kk vv : Int) (x : S112) : ofP kk vv x = (decide (x.f0 = kk) && decide (x.f1 = vv)) := by
  unfold ofP
  by_cases h : x.f0 = kk
  · rw [Bool.eq_iff_iff]; simp [h]
  · simp [h]
theorem of_no (kk vv : Int) (h : namedB kk vv = false) : findR (ofP kk vv) = (nameless, false) := by
  apply findR_none
  intro x hx
  rw [ofP_eq]
  unfold namedB at h
  simp only [Bool.or_eq_false_iff, Bool.and_eq_false_iff, decide_eq_false_iff_not, namedL_eq, List.mem_cons, List.not_mem_nil, or_false] at *
  rcases hx with rfl | rfl | rfl | rfl | rfl | rfl | rfl | rfl | rfl | rfl | rfl | rfl | rfl <;> dsimp only <;> omega
/-- What is said of a key that has a row. -/
theorem of_all (P : Int → Int → Prop) (h : P 4 13 ∧ P 4 10 ∧ P 5 0 ∧ P 6 0 ∧ P 7 0 ∧ P 8 0 ∧ P 9 0 ∧ P 10 0 ∧ P 11 0 ∧ P 12 0 ∧ P 13 0 ∧ P 14 0 ∧ P 14 1) (kk vv : Int) (hn : namedB kk vv = true) : P kk vv := by
  obtain ⟨p1, p2, p3, p4, p5, p6, p7, p8, p9, p10, p11, p12, p13⟩ := h
  unfold namedB at hn
  simp only [Bool.or_eq_true, Bool.and_eq_true, decide_eq_true_eq] at hn
  rcases hn with (⟨rfl, rfl | rfl⟩ | ⟨rfl, rfl | rfl⟩) | ⟨h1, rfl⟩
  · exact p2
  · exact p1
  · exact p12
  · exact p13
  · have h2 : kk = 5 ∨ kk = 6 ∨ kk = 7 ∨ kk = 8 ∨ kk = 9 ∨ kk = 10 ∨ kk = 11 ∨ kk = 12 ∨ kk = 13 := by omega
    rcases h2 with rfl | rfl | rfl | rfl | rfl | rfl | rfl | rfl | rfl <;> assumption
theorem of_yes (kk vv : Int) (h : namedB kk vv = true) : (findR (ofP kk vv)).2 = true :=
  of_all (fun kk vv => (findR (ofP kk vv)).2 = true) (by refine ⟨?_, ?_, ?_, ?_, ?_, ?_, ?_, ?_, ?_, ?_, ?_, ?_, ?_⟩ <;> decide +kernel) kk vv h
theorem of_snd (kk vv : Int) : (findR (ofP kk vv)).2 = namedB kk vv := by
  cases h : namedB kk vv
  · rw [of_no kk vv h]
  · exact of_yes kk vv h
/-! ### may a key be? -/
def ctlB (v : Int) : Bool := decide (0 ≤ v ∧ v < 32 ∧ v ≠ 10 ∧ v ≠ 13 ∧ v ≠ 27)
theorem key_control_f (v : Int) : key_control.f v = some (ctlB v) := by
  unfold key_control.f ctlB
  repeat' split
  all_goals (congr 1; first | (simp; omega) | (symm; simp only [decide_eq_false_iff_not]; omega) | (rw [bne_eq_decide]; exact decide_eq_decide.mpr (by omega)) | (rw [Bool.eq_iff_iff]; simp; omega))
theorem ref_Control_f (v : Int) : dactylref13_Control.f v = some (ctlB v) := by
  unfold dactylref13_Control.f ctlB
  repeat' split
  all_goals (congr 1; first | (simp; omega) | (symm; simp only [decide_eq_false_iff_not]; omega) | (rw [bne_eq_decide]; exact decide_eq_decide.mpr (by omega)) | (rw [Bool.eq_iff_iff]; simp; omega))
def emptyB (t : ByteArray) : Bool := decide (t.toList = [])
def mayV (kk vv : Int) : Bool := if kk = 1 then decide (32 ≤ vv ∧ vv ≠ 127) && rightB vv else if kk = 2 then ctlB vv else if kk = 3 then ctlB vv || decide (32 ≤ vv ∧ vv ≤ 127) else namedB kk vv
def mayB (kk vv : Int) (t : ByteArray) (c : Bool) : Bool := if kk = 15 then decide (vv = 0 ∧ t.size ≤ 65536) else emptyB t && (!c && mayV kk vv)
theorem key_Check_f (kk vv : Int) (t : ByteArray) (c : Bool) (k : Nat) (hk : 2 ≤ k) : key_Check.f k kk vv t c = some (if mayB kk vv t c = true then 0 else 2) := by
  obtain ⟨k, rfl⟩ : ∃ m, k = m + 1 := ⟨k - 1, by omega⟩
  unfold key_Check.f mayB mayV
  simp only [key_Check.j0]
  rw [utf_Right_f, key_control_f, show key_of.f kk vv t c = some ((findR (ofP kk vv)).1.f0, (findR (ofP kk vv)).1.f1, (findR (ofP kk vv)).1.f2, (findR (ofP kk vv)).1.f3, (findR (ofP kk vv)).2) from rfl]
  simp only [Option.bind_some, of_snd]
  have he : emptyB t = true ↔ t.toList = [] := by unfold emptyB; exact decide_eq_true_iff
  by_cases h15 : kk = 15
  · subst h15
    simp only [show ¬ (15 : Int) = 1 by decide, show ¬ (15 : Int) = 2 by decide, show ¬ (15 : Int) = 3 by decide, if_false, if_true, decide_eq_true_eq]
    by_cases hv : vv = 0
    · by_cases hs : (t.size : Int) > 65536
      · simp [hv, hs]; omega
      · simp [hv, hs]; omega
    · simp [hv]
  · rw [if_neg h15, if_neg h15]
    by_cases ht : t.toList = []
    · rw [he.2 ht]
      simp only [ht, if_true, Bool.true_and]
      cases c <;> cases hr : rightB vv <;> cases hc : ctlB vv <;> cases hn : namedB kk vv <;> simp <;> (repeat' split) <;> first | rfl | (exfalso; omega) | simp_all | (simp_all; omega)
    · rw [show emptyB t = false from Bool.eq_false_iff.2 (fun h => ht (he.1 h))]
      simp only [ht, if_false, Bool.false_and, Bool.false_eq_true]
      (repeat' split) <;> rfl
theorem ref_May_f (kk vv : Int) (t : ByteArray) (c : Bool) (k : Nat) (hk : 2 ≤ k) : dactylref13_May.f k kk vv t c = some (mayB kk vv t c) := by
  obtain ⟨k, rfl⟩ : ∃ m, k = m + 1 := ⟨k - 1, by omega⟩
  unfold dactylref13_May.f mayB mayV
  simp only [dactylref13_May.j0]
  rw [ref_Right_f, ref_Control_f]
  simp only [Option.bind_some]
  have he : emptyB t = true ↔ t.toList = [] := by unfold emptyB; exact decide_eq_true_iff
  by_cases h15 : kk = 15
  · subst h15
    simp only [if_true]
    by_cases hv : vv = 0
    · simp [hv]; omega
    · simp [hv]
  · rw [if_neg h15, if_neg h15]
    by_cases ht : t.toList = []
    · rw [he.2 ht]
      simp only [ht, if_true, Bool.true_and]
      cases c
      · unfold namedB
        (repeat' split) <;> first | (exfalso; omega) | (congr 1; simp_all; done) | (congr 1; rw [Bool.eq_iff_iff]; simp; omega) | (congr 1; rw [Bool.eq_iff_iff]; simp_all; omega) | simp_all
      · simp
    · rw [show emptyB t = false from Bool.eq_false_iff.2 (fun h => ht (he.1 h))]
      simp only [ht, if_false, if_true, Bool.false_and]

end Go.Proofs.Ytemoocoedibbpaa.X

namespace Go.Proofs.Ytemoocoedibbpaa.X
open Go.RowKit Go.Proofs.YtemoocoedibbpaaW.PrintWords Go.Proofs.YtemoocoedibbpaaW.PrintLast Go.Proofs.YtemoocoedibbpaaW.PrintMore
attribute [local go_sem] max2_int min2_int max_two min_two max_three min_three max_four min_four
set_option linter.unusedVariables false
set_option linter.unusedSimpArgs false

def signK (v : Int) : List Int := if 33 ≤ v ∧ v ≤ 126 ∧ v ≠ 60 then [v] else if 32 ≤ v then [60] ++ hexL 16 1 v ++ [62] else if 1 ≤ v ∧ v ≤ 26 then [67, 45, v + 96] else [67, 45, v + 64]
theorem Encode_low (x : Int) (h0 : 0 ≤ x) (h1 : x < 128) (k : Nat) (hk : 3 ≤ k) : utf_Encode.f k [x] = some (strOfNums [x]) := by
  rw [Encode_one x ((rightB_iff x).2 (by omega)) k hk]
  unfold encL
  rw [if_pos h1]
theorem hexL_len (g : Nat) : ∀ (n : Nat) (least u : Int), 0 ≤ u → u < 16 ^ n → least ≤ n → (hexL g least u).length ≤ n := by
  induction g with
  | zero => intro n least u _ _ _; simp [hexL]
  | succ g ih =>
    intro n least u h0 h1 h2
    unfold hexL
    split
    · rename_i hc
      cases n with
      | zero => simp at h1 h2; omega
      | succ n =>
        have := ih n (least - 1) (u / 16) (by omega) (by rw [Int.pow_succ] at h1; omega) (by omega)
        simp only [List.length_append, List.length_cons, List.length_nil]
        omega
    · simp
theorem hex1_len (v : Int) (h0 : 0 ≤ v) (h1 : v ≤ 1114367) : (hexL 16 1 v).length ≤ 6 := by
  have e : (16 : Int) ^ 6 = 16777216 := by decide
  exact hexL_len 16 6 1 v h0 (by rw [e]; omega) (by decide)
theorem strS (l : List Int) : (strOfNums l).size = l.length := strOfNums_size l
theorem b1 (x : UInt8) : (⟨#[x]⟩ : ByteArray) = strOfNums [(x.toNat : Int)] := by simp [strOfNums]
theorem b2 (x y : UInt8) : (⟨#[x, y]⟩ : ByteArray) = strOfNums [(x.toNat : Int), (y.toNat : Int)] := by simp [strOfNums]
theorem key_sign_f (v : Int) (h0 : 0 ≤ v) (h1 : v ≤ 1114367) (k : Nat) (hk : 10 ≤ k) : key_sign.f k v = some (strOfNums (signK v)) := by
  obtain ⟨k, rfl⟩ : ∃ m, k = m + 2 := ⟨k - 2, by omega⟩
  have hl := hex1_len v h0 h1
  unfold key_sign.f signK
  simp only [key_sign.j0, key_sign.j1]
  rw [num_Hex_f v 1 h0 (by omega) (by decide) (by decide), laid_list 16 1 v h0]
  simp only [Option.bind_some, strS, bne_iff_ne, ne_eq, decide_eq_true_eq, Bool.false_eq_true, if_false]
  by_cases c1 : 33 ≤ v ∧ v ≤ 126 ∧ v ≠ 60
  · rw [if_pos c1, if_pos (by omega), if_pos (by omega), if_pos (by omega), Encode_low v (by omega) (by omega) _ (by omega)]
    rfl
  · rw [if_neg c1]
    by_cases c2 : 32 ≤ v
    · have e : (⟨#[60]⟩ : ByteArray) ++ strOfNums (hexL 16 1 v) ++ (⟨#[62]⟩ : ByteArray) = strOfNums ([60] ++ hexL 16 1 v ++ [62]) := by rw [str_append, str_append]; rfl
      rw [if_pos c2]
      rw [if_pos (show v ≥ 32 from c2), if_pos (show 1 + (hexL 16 1 v).length ≤ 9223372036854775807 by omega), if_pos (show 1 + (hexL 16 1 v).length + 1 ≤ 9223372036854775807 by omega), e]
      by_cases c3 : v > 32
      · rw [if_pos c3]
        by_cases c4 : v < 127
        · rw [if_pos c4, if_neg (by omega)]
        · rw [if_neg c4]
      · rw [if_neg c3]
    · rw [if_neg c2, if_neg (show ¬ v > 32 by omega), if_neg (show ¬ v ≥ 32 by omega)]
      by_cases c3 : 1 ≤ v ∧ v ≤ 26
      · rw [if_pos c3, if_pos (by omega), if_pos (by omega), w64 (by omega) (by omega), Encode_low (v + 96) (by omega) (by omega) _ (by omega), Option.bind_some, strS, if_pos (by simp)]
        rw [show (⟨#[67, 45]⟩ : ByteArray) = strOfNums [67, 45] from rfl, ← str_append]
        rfl
      · rw [if_neg c3]
        have hE := Encode_low (v + 64) (by omega) (by omega) k (by omega)
        have hE' : wrap64 (v + 64) = v + 64 := w64 (by omega) (by omega)
        have hres : (if 2 + (strOfNums [v + 64]).size ≤ 9223372036854775807 then some ((⟨#[67, 45]⟩ : ByteArray) ++ strOfNums [v + 64]) else none) = some (strOfNums [67, 45, v + 64]) := by
          rw [strS, if_pos (by simp), show (⟨#[67, 45]⟩ : ByteArray) = strOfNums [67, 45] from rfl, ← str_append]; rfl
        by_cases c4 : v ≥ 1
        · rw [if_pos c4, if_neg (by omega), hE', hE, Option.bind_some]
          exact hres
        · rw [if_neg c4, hE', hE, Option.bind_some]
          exact hres
theorem ref_sign_f (v : Int) (h0 : 0 ≤ v) (h1 : v ≤ 1114367) (k : Nat) (hk : 60 ≤ k) : dactylref13_sign.f k v = some (strOfNums (signK v)) := by
  obtain ⟨k, rfl⟩ : ∃ m, k = m + 2 := ⟨k - 2, by omega⟩
  have hl := hex1_len v h0 h1
  unfold dactylref13_sign.f signK
  simp only [dactylref13_sign.j0]
  rw [ref_Hex v 1 h0 (by omega) (by decide) (by decide) _ (by omega), laid_list 16 1 v h0]
  simp only [Option.bind_some, strS, bne_iff_ne, ne_eq, decide_eq_true_eq, Bool.false_eq_true, if_false, List.length_cons, List.length_nil]
  by_cases c1 : 33 ≤ v ∧ v ≤ 126 ∧ v ≠ 60
  · rw [if_pos c1, if_pos (by omega), if_pos (by omega), if_pos (by omega), show v % 256 = v by omega]
  · rw [if_neg c1]
    by_cases c2 : 32 ≤ v
    · have e : (⟨#[60]⟩ : ByteArray) ++ strOfNums (hexL 16 1 v) ++ (⟨#[62]⟩ : ByteArray) = strOfNums ([60] ++ hexL 16 1 v ++ [62]) := by rw [str_append, str_append]; rfl
      rw [if_pos c2]
      rw [if_pos (show v ≥ 32 from c2), if_pos (show 1 + (hexL 16 1 v).length ≤ 9223372036854775807 by omega), if_pos (show 1 + (hexL 16 1 v).length + 1 ≤ 9223372036854775807 by omega), e]
      by_cases c3 : v ≥ 33
      · rw [if_pos c3]
        by_cases c4 : v ≤ 126
        · rw [if_pos c4, if_neg (by omega)]
        · rw [if_neg c4]
      · rw [if_neg c3]
    · rw [if_neg c2, if_neg (show ¬ v ≥ 33 by omega), if_neg (show ¬ v ≥ 32 by omega), show wrap64 (v + 64) % 256 = v + 64 by unfold wrap64; omega]
      have e64 : (⟨#[67, 45]⟩ : ByteArray) ++ strOfNums [v + 64] = strOfNums [67, 45, v + 64] := by rw [show (⟨#[67, 45]⟩ : ByteArray) = strOfNums [67, 45] from rfl, ← str_append]; rfl
      by_cases c3 : 1 ≤ v ∧ v ≤ 26
      · rw [if_pos c3, if_pos (by omega), if_pos (by omega), if_pos (by omega), show wrap64 (v + 96) % 256 = v + 96 by unfold wrap64; omega]
        rw [show (⟨#[67, 45]⟩ : ByteArray) = strOfNums [67, 45] from rfl, ← str_append]
        rfl
      · rw [if_neg c3]
        by_cases c4 : v ≥ 1
        · rw [if_pos c4, if_neg (by omega), if_pos (by omega), e64]
        · rw [if_neg c4, if_pos (by omega), e64]
/-! ### a paste's name -/
def hexes (l : List UInt8) : List Int := l.flatMap fun b => [digV ((b.toNat : Int) / 16), digV ((b.toNat : Int) % 16)]
theorem hexes_cons (b : UInt8) (l : List UInt8) : hexes (b :: l) = [digV ((b.toNat : Int) / 16), digV ((b.toNat : Int) % 16)] ++ hexes l := by simp [hexes]
theorem hexes_len (l : List UInt8) : (hexes l).length = 2 * l.length := by
  induction l with
  | nil => rfl
  | cons b l ih => rw [hexes_cons, List.length_append, ih]; simp; omega
theorem hex2_small (n : Int) (h0 : 0 ≤ n) (h1 : n ≤ 255) : hexL 16 2 n = [digV (n / 16), digV (n % 16)] := by
  have a : hexL 16 2 n = hexL 15 1 (n / 16) ++ [digV (n % 16)] := by rw [hexL, if_pos (by omega)]; rfl
  have b : hexL 15 1 (n / 16) = hexL 14 0 (n / 16 / 16) ++ [digV (n / 16 % 16)] := by rw [hexL, if_pos (by omega)]; rfl
  have c : hexL 14 0 (n / 16 / 16) = [] := by rw [hexL, if_neg (by omega)]
  rw [a, b, c, show n / 16 % 16 = n / 16 by omega]
  rfl
theorem u8_range (b : UInt8) : b.toNat ≤ 255 := by have := b.toNat_lt; omega
theorem key_paste_l0 (l : List UInt8) (hl : l.length ≤ 65536) (kk vv : Int) (c : Bool) : ∀ (d k i : Nat) (acc : ByteArray), d + i = l.length → d < k → acc.size ≤ 2 + 2 * i → key_paste.l0 k acc (l.length : Int) (i : Int) kk vv (BA l) c = some (acc ++ strOfNums (hexes (l.drop i)) ++ (if c = true then (⟨#[33]⟩ : ByteArray) else ⟨#[]⟩)) := by
  intro d
  induction d with
  | zero =>
    intro k i acc h1 h2 h3
    obtain ⟨k, rfl⟩ : ∃ m, k = m + 1 := ⟨k - 1, by omega⟩
    simp only [key_paste.l0]
    rw [if_neg (by omega), List.drop_of_length_le (by omega), show strOfNums (hexes []) = (⟨#[]⟩ : ByteArray) from rfl, show acc ++ (⟨#[]⟩ : ByteArray) = acc from ByteArray.append_empty]
    cases c
    · rw [if_neg (by decide), if_neg (by decide)]
      exact congrArg some (ByteArray.append_empty (b := acc)).symm
    · rw [if_pos rfl, if_pos rfl, if_pos (by omega)]
  | succ d ih =>
    intro k i acc h1 h2 h3
    obtain ⟨k, rfl⟩ : ∃ m, k = m + 1 := ⟨k - 1, by omega⟩
    have e1 : wrap64 ((i : Int) + 1) = ((i + 1 : Nat) : Int) := by rw [w64 (by omega) (by omega)]; omega
    have ed : l.drop i = l[i] :: l.drop (i + 1) := by rw [List.drop_eq_getElem_cons (by omega)]
    have hu := u8_range l[i]
    simp only [key_paste.l0]
    rw [if_pos (by omega), if_pos (by omega), BA_size, if_pos (by omega), bt_BA l i (by omega), w64 (by omega) (by omega), num_Hex_f _ 2 (by omega) (by omega) (by decide) (by decide), laid_list 16 2 _ (by omega), hex2_small _ (by omega) (by omega), Option.bind_some, strS, if_pos (by simp; omega), e1, ih k (i + 1) _ (by omega) (by omega) (by rw [ByteArray.size_append, strS]; simp; omega), ed, hexes_cons, str_append]
    simp only [ByteArray.append_assoc]
theorem ref_paste_l0 (l : List UInt8) (hl : l.length ≤ 65536) (kk vv : Int) (c : Bool) : ∀ (d k i : Nat) (acc : ByteArray), d + i = l.length → d + 60 < k → acc.size ≤ 2 + 2 * i → dactylref13_Name.l0 k acc (i : Int) kk vv (BA l) c = some (acc ++ strOfNums (hexes (l.drop i)) ++ (if c = true then (⟨#[33]⟩ : ByteArray) else ⟨#[]⟩)) := by
  intro d
  induction d with
  | zero =>
    intro k i acc h1 h2 h3
    obtain ⟨k, rfl⟩ : ∃ m, k = m + 1 := ⟨k - 1, by omega⟩
    simp only [dactylref13_Name.l0]
    rw [BA_size, if_neg (by omega), List.drop_of_length_le (by omega), show strOfNums (hexes []) = (⟨#[]⟩ : ByteArray) from rfl, show acc ++ (⟨#[]⟩ : ByteArray) = acc from ByteArray.append_empty]
    cases c
    · rw [if_neg (by decide), if_neg (by decide)]
      exact congrArg some (ByteArray.append_empty (b := acc)).symm
    · rw [if_pos rfl, if_pos rfl, if_pos (by omega)]
  | succ d ih =>
    intro k i acc h1 h2 h3
    obtain ⟨k, rfl⟩ : ∃ m, k = m + 1 := ⟨k - 1, by omega⟩
    have e1 : wrap64 ((i : Int) + 1) = ((i + 1 : Nat) : Int) := by rw [w64 (by omega) (by omega)]; omega
    have ed : l.drop i = l[i] :: l.drop (i + 1) := by rw [List.drop_eq_getElem_cons (by omega)]
    have hu := u8_range l[i]
    simp only [dactylref13_Name.l0]
    rw [BA_size, if_pos (by omega), if_pos (by omega), bt_BA l i (by omega), w64 (by omega) (by omega), ref_Hex _ 2 (by omega) (by omega) (by decide) (by decide) _ (by omega), laid_list 16 2 _ (by omega), hex2_small _ (by omega) (by omega), Option.bind_some, strS, if_pos (by simp; omega), e1, ih k (i + 1) _ (by omega) (by omega) (by rw [ByteArray.size_append, strS]; simp; omega), ed, hexes_cons, str_append]
    simp only [ByteArray.append_assoc]
def pasteK (l : List UInt8) (c : Bool) : ByteArray := (⟨#[80, 45]⟩ : ByteArray) ++ strOfNums (hexes l) ++ (if c = true then (⟨#[33]⟩ : ByteArray) else ⟨#[]⟩)
def nameK (kk vv : Int) (l : List UInt8) (c : Bool) : ByteArray := if kk ≤ 2 then strOfNums (signK vv) else if kk = 3 then strOfNums ([77, 45] ++ signK vv) else if kk = 15 then pasteK l c else (findR (ofP kk vv)).1.f2
theorem signK_len (v : Int) (h0 : 0 ≤ v) (h1 : v ≤ 1114367) : (signK v).length ≤ 8 := by
  have := hex1_len v h0 h1
  unfold signK
  (repeat' split) <;> simp <;> omega
/-- What kinds of keys may be. -/
theorem may_cases (kk vv : Int) (t : ByteArray) (c : Bool) (h : mayB kk vv t c = true) :
    (t = ⟨#[]⟩ ∧ c = false ∧ ((kk = 1 ∧ 32 ≤ vv ∧ vv ≠ 127 ∧ rightB vv = true) ∨ (kk = 2 ∧ ctlB vv = true) ∨ (kk = 3 ∧ (ctlB vv = true ∨ 32 ≤ vv ∧ vv ≤ 127)) ∨ (namedB kk vv = true ∧ 4 ≤ kk ∧ kk ≤ 14))) ∨ (kk = 15 ∧ vv = 0 ∧ t.size ≤ 65536) := by
  unfold mayB at h
  by_cases h15 : kk = 15
  · rw [if_pos h15, decide_eq_true_eq] at h
    exact .inr ⟨h15, h.1, h.2⟩
  · rw [if_neg h15] at h
    simp only [Bool.and_eq_true, Bool.not_eq_true', emptyB, decide_eq_true_eq] at h
    obtain ⟨ht, hc, hm⟩ := h
    refine .inl ⟨toList_inj (ht.trans (BA_toList []).symm), hc, ?_⟩
    unfold mayV at hm
    split at hm
    · rename_i e
      simp only [Bool.and_eq_true, decide_eq_true_eq] at hm
      exact .inl ⟨e, hm.1.1, hm.1.2, hm.2⟩
    · split at hm
      · rename_i e
        exact .inr (.inl ⟨e, hm⟩)
      · split at hm
        · rename_i e
          simp only [Bool.or_eq_true, decide_eq_true_eq] at hm
          exact .inr (.inr (.inl ⟨e, hm⟩))
        · refine .inr (.inr (.inr ⟨hm, ?_⟩))
          unfold namedB at hm
          simp only [Bool.or_eq_true, Bool.and_eq_true, decide_eq_true_eq] at hm
          omega
theorem ctl_range (v : Int) (h : ctlB v = true) : 0 ≤ v ∧ v < 32 := by
  unfold ctlB at h
  rw [decide_eq_true_eq] at h
  omega

end Go.Proofs.Ytemoocoedibbpaa.X

namespace Go.Proofs.Ytemoocoedibbpaa.X
open Go.RowKit Go.Proofs.YtemoocoedibbpaaW.PrintWords Go.Proofs.YtemoocoedibbpaaW.PrintLast Go.Proofs.YtemoocoedibbpaaW.PrintMore
attribute [local go_sem] max2_int min2_int max_two min_two max_three min_three max_four min_four
set_option linter.unusedVariables false
set_option linter.unusedSimpArgs false

theorem key_of_eq (kk vv : Int) (t : ByteArray) (c : Bool) : key_of.f kk vv t c = some ((findR (ofP kk vv)).1.f0, (findR (ofP kk vv)).1.f1, (findR (ofP kk vv)).1.f2, (findR (ofP kk vv)).1.f3, (findR (ofP kk vv)).2) := rfl
theorem key_Name_f (kk vv : Int) (l : List UInt8) (c : Bool) (h : mayB kk vv (BA l) c = true) (k : Nat) (hk : l.length + 100 ≤ k) : key_Name.f k kk vv (BA l) c = some (nameK kk vv l c, 0) := by
  obtain ⟨k, rfl⟩ : ∃ m, k = m + 1 := ⟨k - 1, by omega⟩
  unfold key_Name.f
  rw [key_Check_f _ _ _ _ _ (by omega), Option.bind_some, if_pos h, if_pos rfl]
  unfold nameK
  simp only [key_Name.j0]
  rw [key_of_eq]
  rcases may_cases kk vv (BA l) c h with ⟨_, _, hm⟩ | ⟨rfl, rfl, hs⟩
  · rcases hm with ⟨rfl, h1, h2, h3⟩ | ⟨rfl, h1⟩ | ⟨rfl, h1⟩ | ⟨h1, h2, h3⟩
    · have := (rightB_iff vv).1 h3
      rw [if_pos rfl, if_pos (by decide), if_pos (by decide), key_sign_f vv (by omega) (by omega) k (by omega)]
      rfl
    · have := ctl_range vv h1
      rw [if_neg (by decide), if_pos (by decide), if_pos (by decide), key_sign_f vv (by omega) (by omega) k (by omega)]
      rfl
    · have : 0 ≤ vv ∧ vv ≤ 127 := by
        rcases h1 with h1 | h1
        · have := ctl_range vv h1; omega
        · omega
      have hl := signK_len vv (by omega) (by omega)
      simp only [show ¬ (3 : Int) = 1 by decide, show ((3 : Int) == 2) = false by decide, Bool.false_eq_true, if_false, if_true, show ¬ (3 : Int) ≤ 2 by decide]
      rw [key_sign_f vv (by omega) (by omega) k (by omega), Option.bind_some, strS, if_pos (by omega), str_append]
      rfl
    · rw [if_neg (by omega), if_neg (by simp; omega), if_neg (by omega), if_neg (by omega), if_neg (by omega), if_neg (by omega), if_neg (by omega)]
      rfl
  · rw [BA_size] at hs
    have := key_paste_l0 l hs 15 0 c l.length k 0 (⟨#[80, 45]⟩ : ByteArray) (by omega) (by omega) (by decide)
    rw [if_neg (by decide), if_neg (by decide), if_neg (by decide), if_pos rfl, if_neg (by decide), if_neg (by decide), if_pos rfl]
    unfold key_paste.f pasteK
    rw [BA_size, show key_paste.l0 k (⟨#[80, 45]⟩ : ByteArray) (l.length : Int) 0 15 0 (BA l) c = _ from this, Option.bind_some, List.drop_zero]
theorem ref_Name_f (kk vv : Int) (l : List UInt8) (c : Bool) (h : mayB kk vv (BA l) c = true) (k : Nat) (hk : l.length + 100 ≤ k) : dactylref13_Name.f k kk vv (BA l) c = some (nameK kk vv l c) := by
  obtain ⟨k, rfl⟩ : ∃ m, k = m + 3 := ⟨k - 3, by omega⟩
  rcases may_cases kk vv (BA l) c h with ⟨_, _, hm⟩ | ⟨rfl, rfl, hs⟩
  · rcases hm with ⟨rfl, h1, h2, h3⟩ | ⟨rfl, h1⟩ | ⟨rfl, h1⟩ | ⟨h1, h2, h3⟩
    · have := (rightB_iff vv).1 h3
      unfold dactylref13_Name.f nameK
      rw [if_pos (by decide), if_pos (by decide), ref_sign_f vv (by omega) (by omega) _ (by omega)]
      rfl
    · have := ctl_range vv h1
      unfold dactylref13_Name.f nameK
      rw [if_pos (by decide), if_pos (by decide), ref_sign_f vv (by omega) (by omega) _ (by omega)]
      rfl
    · have : 0 ≤ vv ∧ vv ≤ 127 := by
        rcases h1 with h1 | h1
        · have := ctl_range vv h1; omega
        · omega
      have hl := signK_len vv (by omega) (by omega)
      unfold dactylref13_Name.f nameK
      rw [if_neg (by decide), if_pos rfl, if_neg (by decide), if_pos rfl, ref_sign_f vv (by omega) (by omega) _ (by omega), Option.bind_some, strS, if_pos (by omega), str_append]
      rfl
    · exact of_all (fun kk vv => dactylref13_Name.f (k + 3) kk vv (BA l) c = some (nameK kk vv l c)) (by refine ⟨?_, ?_, ?_, ?_, ?_, ?_, ?_, ?_, ?_, ?_, ?_, ?_, ?_⟩ <;> rfl) kk vv h1
  · rw [BA_size] at hs
    have := ref_paste_l0 l hs 15 0 c l.length (k + 1) 0 (⟨#[80, 45]⟩ : ByteArray) (by omega) (by omega) (by decide)
    unfold dactylref13_Name.f nameK pasteK
    simp only [dactylref13_Name.j0, dactylref13_Name.j1]
    rw [List.drop_zero] at this
    exact this
theorem ref_Bytes_named (kk vv : Int) (t : ByteArray) (c : Bool) (k : Nat) (h : namedB kk vv = true) : dactylref13_Bytes.f (k + 1) kk vv t c = some (findR (ofP kk vv)).1.f3 :=
  of_all (fun kk vv => dactylref13_Bytes.f (k + 1) kk vv t c = some (findR (ofP kk vv)).1.f3) (by refine ⟨?_, ?_, ?_, ?_, ?_, ?_, ?_, ?_, ?_, ?_, ?_, ?_, ?_⟩ <;> rfl) kk vv h
theorem key_Bytes_f (kk vv : Int) (l : List UInt8) (c : Bool) (h : mayB kk vv (BA l) c = true) (k : Nat) (hk : 10 ≤ k) : ∃ r, key_Bytes.f k kk vv (BA l) c = some r ∧ dactylref13_Bytes.f k kk vv (BA l) c = some r := by
  obtain ⟨k, rfl⟩ : ∃ m, k = m + 1 := ⟨k - 1, by omega⟩
  have hN := ref_Bytes_named kk vv (BA l) c k
  unfold key_Bytes.f
  unfold dactylref13_Bytes.f at hN ⊢
  rw [key_Check_f _ _ _ _ _ (by omega), Option.bind_some, if_pos h, if_pos rfl]
  simp only [key_Bytes.j0, dactylref13_Bytes.j0] at hN ⊢
  rcases may_cases kk vv (BA l) c h with ⟨_, _, hm⟩ | ⟨rfl, rfl, hs⟩
  · rcases hm with ⟨rfl, h1, h2, h3⟩ | ⟨rfl, h1⟩ | ⟨rfl, h1⟩ | ⟨h1, h2, h3⟩
    · have := (rightB_iff vv).1 h3
      refine ⟨strOfNums (encL vv), ?_, ?_⟩
      · rw [if_pos rfl, if_pos (by decide), Encode_one vv h3 k (by omega)]; rfl
      · rw [if_pos rfl, ref_Bytes_f vv (by omega) (by omega)]; rfl
    · have := ctl_range vv h1
      refine ⟨strOfNums [vv], ?_, ?_⟩
      · rw [if_neg (by decide), if_pos (by decide), Encode_low vv (by omega) (by omega) k (by omega)]; rfl
      · rw [if_neg (by decide), if_pos rfl, if_pos (by decide), show vv % 256 = vv by omega]
    · have : 0 ≤ vv ∧ vv ≤ 127 := by
        rcases h1 with h1 | h1
        · have := ctl_range vv h1; omega
        · omega
      refine ⟨strOfNums [27, vv], ?_, ?_⟩
      · rw [if_neg (by decide), if_neg (by decide), if_pos rfl, Encode_low vv (by omega) (by omega) k (by omega), Option.bind_some, strS, if_pos (by simp), show (⟨#[27]⟩ : ByteArray) = strOfNums [27] from rfl, ← str_append]; rfl
      · rw [if_neg (by decide), if_neg (by decide), if_neg (by decide), if_pos rfl, show vv % 256 = vv by omega]
    · refine ⟨(findR (ofP kk vv)).1.f3, ?_, ?_⟩
      · rw [if_neg (by omega), if_neg (by simp; omega), if_neg (by omega), if_neg (by omega), key_of_eq]; rfl
      · exact hN h1
  · rw [BA_size] at hs
    refine ⟨((⟨#[27, 91, 50, 48, 48, 126]⟩ : ByteArray) ++ BA l) ++ (⟨#[27, 91, 50, 48, 49, 126]⟩ : ByteArray), ?_, ?_⟩
    · rw [if_neg (by decide), if_neg (by decide), if_neg (by decide), if_pos rfl, BA_size, if_pos (by omega), if_pos (by omega)]
    · rw [if_neg (by decide), if_neg (by decide), if_neg (by decide), if_neg (by decide), if_pos rfl, BA_size, if_pos (by omega), if_pos (by omega)]
theorem key_Value_f (kk vv : Int) (t : ByteArray) (c : Bool) (h : mayB kk vv t c = true) (k : Nat) (hk : 10 ≤ k) : ∃ v b want, key_Value.f k kk vv t c = some (v, b) ∧ dactylref13_Value.f k kk vv t c = some want ∧ b = decide (want ≥ 0) ∧ dactylref01_High.f want 0 = some v := by
  obtain ⟨k, rfl⟩ : ∃ m, k = m + 1 := ⟨k - 1, by omega⟩
  have hh : ∀ w : Int, dactylref01_High.f w 0 = some (if w > 0 then w else 0) := by intro w; unfold dactylref01_High.f; split <;> rfl
  unfold key_Value.f dactylref13_Value.f
  rw [key_Check_f _ _ _ _ _ (by omega), Option.bind_some, if_pos h, if_pos rfl]
  simp only [key_Value.j0, dactylref13_Value.j0]
  have base : kk = 1 ∨ kk = 2 ∨ kk = 4 → 0 ≤ vv := by
    intro hk
    rcases may_cases kk vv t c h with ⟨_, _, hm⟩ | ⟨h1, _, _⟩
    · rcases hm with ⟨_, h1, _, _⟩ | ⟨_, h1⟩ | ⟨h1, _⟩ | ⟨h1, _, _⟩
      · omega
      · have := ctl_range vv h1; omega
      · omega
      · unfold namedB at h1
        simp only [Bool.or_eq_true, Bool.and_eq_true, decide_eq_true_eq] at h1
        omega
    · omega
  by_cases c1 : kk = 1
  · have := base (.inl c1)
    refine ⟨vv, true, vv, by simp [c1], by simp [c1], (decide_eq_true this).symm, ?_⟩
    rw [hh]; congr 1; split <;> omega
  · by_cases c2 : kk = 2
    · have := base (.inr (.inl c2))
      refine ⟨vv, true, vv, by simp [c2], by simp [c2], (decide_eq_true this).symm, ?_⟩
      rw [hh]; congr 1; split <;> omega
    · by_cases c4 : kk = 4
      · have := base (.inr (.inr c4))
        refine ⟨vv, true, vv, by simp [c4], by simp [c4], (decide_eq_true this).symm, ?_⟩
        rw [hh]; congr 1; split <;> omega
      · by_cases c5 : kk = 5
        · exact ⟨27, true, 27, by simp [c5], by simp [c5], by decide, by rw [hh]; rfl⟩
        · by_cases c6 : kk = 6
          · exact ⟨127, true, 127, by simp [c6], by simp [c6], by decide, by rw [hh]; rfl⟩
          · exact ⟨0, false, -1, by simp [c1, c2, c4, c5, c6], by simp [c1, c2, c4, c5, c6], by decide, by rw [hh]; rfl⟩

end Go.Proofs.Ytemoocoedibbpaa.X

namespace Go.Proofs.Ytemoocoedibbpaa.X
open Go.RowKit Go.Proofs.YtemoocoedibbpaaW.PrintWords Go.Proofs.YtemoocoedibbpaaW.PrintLast Go.Proofs.YtemoocoedibbpaaW.PrintMore
attribute [local go_sem] max2_int min2_int max_two min_two max_three min_three max_four min_four
set_option linter.unusedVariables false
set_option linter.unusedSimpArgs false

/-! ### reading hex digits -/
def unhexU (l : List UInt8) (n : Int) : Option Int := l.foldl (fun a b => a.bind fun n => if ixD (b.toNat : Int) < 0 then none else some (wrap64 (wrap64 (16 * n) + ixD (b.toNat : Int)))) (some n)
theorem unhexU_none (l : List UInt8) : l.foldl (fun (a : Option Int) b => a.bind fun n => if ixD (b.toNat : Int) < 0 then none else some (wrap64 (wrap64 (16 * n) + ixD (b.toNat : Int)))) none = none := by
  induction l with
  | nil => rfl
  | cons b l ih => rw [List.foldl_cons, Option.bind_none, ih]
theorem Unhex_l0 (l : List UInt8) (hl : l.length ≤ 100000) : ∀ (d k i : Nat) (n : Int), d + i = l.length → d < k → num_Unhex.l0 k (BA l) n (l.length : Int) (i : Int) = some (match unhexU (l.drop i) n with | some m => (m, 0) | none => (0, 6)) := by
  intro d
  induction d with
  | zero =>
    intro k i n h1 h2
    obtain ⟨k, rfl⟩ : ∃ m, k = m + 1 := ⟨k - 1, by omega⟩
    simp only [num_Unhex.l0]
    rw [if_neg (by omega), List.drop_of_length_le (by omega)]
    rfl
  | succ d ih =>
    intro k i n h1 h2
    obtain ⟨k, rfl⟩ : ∃ m, k = m + 1 := ⟨k - 1, by omega⟩
    have e1 : wrap64 ((i : Int) + 1) = ((i + 1 : Nat) : Int) := by rw [w64 (by omega) (by omega)]; omega
    have ed : l.drop i = l[i] :: l.drop (i + 1) := by rw [List.drop_eq_getElem_cons (by omega)]
    simp only [num_Unhex.l0]
    rw [if_pos (by omega), if_pos (by omega), BA_size, if_pos (by omega), IndexByte_f, Option.bind_some, bt_BA l i (by omega), e1, ed]
    unfold unhexU
    rw [List.foldl_cons, Option.bind_some]
    by_cases c : ixD ((l[i].toNat : Nat) : Int) < 0
    · rw [if_pos c, if_pos c, unhexU_none]
    · rw [if_neg c, if_neg c, ih k (i + 1) _ (by omega) (by omega)]
      rfl
theorem Unhex_f (l : List UInt8) (hl : l.length ≤ 100000) (k : Nat) (hk : l.length + 10 ≤ k) : ∃ m e, num_Unhex.f k (BA l) = some (m, e) ∧ (∀ x, l ≠ [] → l.length ≤ 15 → unhexU l 0 = some x → m = x) := by
  obtain ⟨k, rfl⟩ : ∃ m, k = m + 1 := ⟨k - 1, by omega⟩
  unfold num_Unhex.f
  simp only [num_Unhex.j0]
  rw [BA_toList, BA_size]
  by_cases c : l = []
  · rw [if_pos c]
    exact ⟨_, _, rfl, fun x h => absurd c h⟩
  · rw [if_neg c]
    by_cases c2 : (l.length : Int) > 15
    · rw [decide_eq_true c2]
      exact ⟨_, _, rfl, fun x _ h => by omega⟩
    · have := Unhex_l0 l hl l.length k 0 0 (by omega) (by omega)
      rw [decide_eq_false c2, if_neg (by decide), show num_Unhex.l0 k (BA l) 0 (l.length : Int) 0 = _ from this, List.drop_zero]
      refine ⟨_, _, rfl, fun x _ _ hx => ?_⟩
      rw [hx]
def bytesOfL (l : List Int) : List UInt8 := l.map fun n => UInt8.ofNat n.toNat
theorem digV_range (x : Int) (h0 : 0 ≤ x) (h1 : x < 16) : 48 ≤ digV x ∧ digV x ≤ 70 := by unfold digV; split <;> omega
theorem unhexU_dig (x : Int) (h0 : 0 ≤ x) (h1 : x < 16) : ixD ((UInt8.ofNat (digV x).toNat).toNat : Int) = x := by
  have := digV_range x h0 h1
  rw [UInt8.toNat_ofNat', show (((digV x).toNat % 2 ^ 8 : Nat) : Int) = digV x by omega, ixD_dig x h0 h1]
theorem unhexU_hex (g : Nat) : ∀ (least u : Int), 0 ≤ u → u < 16 ^ g → u < 1152921504606846976 → unhexU (bytesOfL (hexL g least u)) 0 = some u := by
  induction g with
  | zero => intro least u h0 h1 _; simp at h1; simp [hexL, unhexU, bytesOfL]; omega
  | succ g ih =>
    intro least u h0 h1 h2
    unfold hexL
    split
    · have h3 : u / 16 < 16 ^ g := by rw [Int.pow_succ] at h1; omega
      have := ih (least - 1) (u / 16) (by omega) h3 (by omega)
      unfold unhexU bytesOfL at this ⊢
      rw [List.map_append, List.foldl_append, this]
      simp only [List.map_cons, List.map_nil, List.foldl_cons, List.foldl_nil, Option.bind_some]
      rw [unhexU_dig _ (by omega) (by omega), if_neg (by omega), show wrap64 (16 * (u / 16)) = 16 * (u / 16) from w64 (by omega) (by omega), w64 (by omega) (by omega)]
      congr 1; omega
    · simp [unhexU, bytesOfL]; omega
theorem Unhex_hex1 (v : Int) (h0 : 0 ≤ v) (h1 : v ≤ 1114367) (k : Nat) (hk : 100 ≤ k) : ∃ e, num_Unhex.f k (BA (bytesOfL (hexL 16 1 v))) = some (v, e) := by
  have hl := hex1_len v h0 h1
  have hb : (bytesOfL (hexL 16 1 v)).length = (hexL 16 1 v).length := by simp [bytesOfL]
  obtain ⟨m, e, h, hm⟩ := Unhex_f (bytesOfL (hexL 16 1 v)) (by omega) k (by omega)
  have hu := unhexU_hex 16 1 v h0 (by have : (16 : Int) ^ 16 = 18446744073709551616 := by decide
                                      omega) (by omega)
  have hne : bytesOfL (hexL 16 1 v) ≠ [] := by
    rw [hexL, if_pos (.inr (by decide))]
    simp [bytesOfL]
  exact ⟨e, by rw [h, hm v hne (by omega) hu]⟩
/-! ### names of none -/
theorem nameP_no (s : List UInt8) (h : s.length ≤ 1 ∨ (∃ a b r, s = a :: b :: r ∧ (a = 60 ∨ a = 67 ∨ a = 77 ∨ (a = 80 ∧ b = 45)))) : findR (nameP (BA s)) = (nameless, false) := by
  apply findR_none
  intro x hx
  unfold nameP
  rw [BA_toList, beq_eq_false_iff_ne]
  intro e
  subst e
  have t : ∀ a, (⟨a⟩ : ByteArray).toList = a.toList := fun a => Go.Lib.toList_data _
  rw [namedL_eq] at hx
  simp only [List.mem_cons, List.not_mem_nil, or_false] at hx
  rcases h with h | ⟨a, b, r, e, h⟩
  · rcases hx with rfl | rfl | rfl | rfl | rfl | rfl | rfl | rfl | rfl | rfl | rfl | rfl | rfl <;> simp [t] at h
  · rcases hx with rfl | rfl | rfl | rfl | rfl | rfl | rfl | rfl | rfl | rfl | rfl | rfl | rfl <;> simp only [t, List.cons.injEq] at e <;> obtain ⟨rfl, rfl, _⟩ := e <;> revert h <;> decide
/-! ### one value at a text's beginning -/
theorem One_total (l : List UInt8) : ∃ v n, utf_One.f (BA l) = some (v, n) := by
  unfold utf_One.f
  split
  · exact ⟨_, _, rfl⟩
  · rename_i h
    have hv : ∃ v, utf_value.f (BA l) ((Utf8.decode (BA l) 0).1 : Int) = some v := by
      unfold utf_value.f
      split
      · unfold strings_HasPrefix.f
        rw [show (⟨#[239, 191, 189]⟩ : ByteArray) = BA [239, 191, 189] from rfl, HasPrefix_f, Option.bind_some, Option.bind_some]
        split
        · exact ⟨_, rfl⟩
        · rw [if_pos (by omega)]; exact ⟨_, rfl⟩
      · exact ⟨_, rfl⟩
    obtain ⟨v, hv⟩ := hv
    rw [hv]
    exact ⟨_, _, rfl⟩
theorem One_low (x : UInt8) (h : x.toNat < 128) : ∃ n, utf_One.f (BA [x]) = some ((x.toNat : Int), n) := by
  have hs : 0 < (BA [x]).size := by rw [BA_size]; exact Nat.one_pos
  have hd := decode_ascii (BA [x]) 0 hs h
  unfold utf_One.f
  rw [if_neg (by rw [BA_size]; exact Nat.one_ne_zero), hd]
  dsimp only
  rw [show (((BA [x])[0]'hs).toNat) = x.toNat from rfl]
  unfold utf_value.f
  rw [if_neg (by omega), w64 (by omega) (by omega), Option.bind_some]
  exact ⟨_, rfl⟩

end Go.Proofs.Ytemoocoedibbpaa.X

namespace Go.Proofs.Ytemoocoedibbpaa.X
open Go.RowKit Go.Proofs.YtemoocoedibbpaaW.PrintWords Go.Proofs.YtemoocoedibbpaaW.PrintLast Go.Proofs.YtemoocoedibbpaaW.PrintMore
attribute [local go_sem] max2_int min2_int max_two min_two max_three min_three max_four min_four
set_option linter.unusedVariables false
set_option linter.unusedSimpArgs false

theorem value_j0 (l t : List UInt8) (b : Bool) (hl : l.length ≤ 200000) (ht : t.length ≤ 90000) (hb : b = true → 1 ≤ t.length) (k : Nat) (hk : t.length + 100 ≤ k) : ∃ a c, key_value.j0 k (BA l) (BA t) b = some (a, c) := by
  obtain ⟨k, rfl⟩ : ∃ m, k = m + 1 := ⟨k - 1, by omega⟩
  simp only [key_value.j0]
  cases b
  · rw [if_neg (by decide), show (⟨#[67, 45]⟩ : ByteArray) = BA [67, 45] from rfl, CutPrefix_f, Option.bind_some]
    obtain ⟨v, n, h1⟩ := One_total l
    cases hp : ([67, 45] : List UInt8).isPrefixOf l
    · simp only [Bool.false_eq_true, if_false]
      rw [h1]; exact ⟨_, _, rfl⟩
    · simp only [if_true]
      rw [BA_toList, BA_size]
      by_cases hn : l.drop ([67, 45] : List UInt8).length = []
      · rw [if_pos hn, h1]; exact ⟨_, _, rfl⟩
      · have : 0 < (l.drop ([67, 45] : List UInt8).length).length := List.length_pos_iff.2 hn
        rw [if_neg hn, if_pos (by omega)]
        exact ⟨_, _, rfl⟩
  · have h1 := hb rfl
    obtain ⟨m, e, hm, _⟩ := Unhex_f (t.take (t.length - 1)) (by rw [List.length_take]; omega) k (by rw [List.length_take]; omega)
    rw [if_pos rfl, BA_size, w64 (by omega) (by omega), if_pos (by omega), if_pos (by omega), BA_extract, List.drop_zero, show ((t.length : Int) - 1).toNat - 0 = t.length - 1 by omega, hm]
    exact ⟨_, _, rfl⟩
theorem value_total (l : List UInt8) (hl : l.length ≤ 90000) (k : Nat) (hk : l.length + 100 ≤ k) : ∃ a c, key_value.f k (BA l) = some (a, c) := by
  unfold key_value.f
  rw [show (⟨#[60]⟩ : ByteArray) = BA [60] from rfl, CutPrefix_f, Option.bind_some]
  cases hp : ([60] : List UInt8).isPrefixOf l
  · simp only [Bool.false_eq_true, if_false]
    exact value_j0 l l false (by omega) hl (fun h => by cases h) k hk
  · simp only [if_true]
    have hd : (l.drop ([60] : List UInt8).length).length ≤ l.length := by rw [List.length_drop]; omega
    rw [show (⟨#[62]⟩ : ByteArray) = BA [62] from rfl, strHasSuffix_f _ _ (by omega) (by decide), Option.bind_some]
    refine value_j0 l _ _ (by omega) (by omega) (fun h => ?_) k (by omega)
    have := (List.isSuffixOf_iff_suffix.1 h).length_le
    simpa using this
theorem bytes_l0 (l : List UInt8) (hl : l.length ≤ 90000) : ∀ (d k i : Nat) (acc : List Int), l.length ≤ 2 * d + i → i ≤ l.length → d + 100 ≤ k → acc.length ≤ i → ∃ r, key_bytes.l0 k (BA l) acc (i : Int) = some (strOfNums r) ∧ r.length ≤ l.length := by
  intro d
  induction d with
  | zero =>
    intro k i acc h1 h2 h3 h4
    obtain ⟨k, rfl⟩ : ∃ m, k = m + 1 := ⟨k - 1, by omega⟩
    simp only [key_bytes.l0]
    rw [BA_size, w64 (by omega) (by omega), if_neg (by omega)]
    exact ⟨acc, rfl, by omega⟩
  | succ d ih =>
    intro k i acc h1 h2 h3 h4
    obtain ⟨k, rfl⟩ : ∃ m, k = m + 1 := ⟨k - 1, by omega⟩
    simp only [key_bytes.l0]
    rw [BA_size, show wrap64 ((i : Int) + 1) = (i : Int) + 1 from w64 (by omega) (by omega), show wrap64 ((i : Int) + 2) = ((i + 2 : Nat) : Int) by rw [w64 (by omega) (by omega)]; omega]
    by_cases c : (i : Int) + 1 < l.length
    · obtain ⟨m, e, hm, _⟩ := Unhex_f ((l.drop i).take (i + 2 - i)) (by rw [List.length_take]; omega) k (by rw [List.length_take]; omega)
      rw [if_pos c, if_pos (by omega), if_pos (by omega), if_pos (by omega), BA_extract, Int.toNat_natCast, Int.toNat_natCast, hm, Option.bind_some, if_pos (by omega)]
      exact ih k (i + 2) _ (by omega) (by omega) (by omega) (by simp; omega)
    · rw [if_neg c]
      exact ⟨acc, rfl, by omega⟩
theorem bytes_total (l : List UInt8) (hl : l.length ≤ 90000) (k : Nat) (hk : l.length + 200 ≤ k) : ∃ r, key_bytes.f k (BA l) = some (strOfNums r) ∧ r.length ≤ l.length :=
  bytes_l0 l hl l.length k 0 [] (by omega) (by omega) (by omega) (by simp)
theorem guess_total (l : List UInt8) (hl : l.length ≤ 80000) (k : Nat) (hk : l.length + 300 ≤ k) : ∃ kk vv t c, key_guess.f k (BA l) = some (kk, vv, BA t, c) ∧ t.length ≤ l.length := by
  unfold key_guess.f
  split
  · exact ⟨_, _, [], _, rfl, by simp⟩
  · rw [show (⟨#[80, 45]⟩ : ByteArray) = BA [80, 45] from rfl, show (⟨#[77, 45]⟩ : ByteArray) = BA [77, 45] from rfl, CutPrefix_f, CutPrefix_f, Option.bind_some]
    cases hp : ([80, 45] : List UInt8).isPrefixOf l
    · simp only [Bool.false_eq_true, if_false, Option.bind_some]
      cases hm : ([77, 45] : List UInt8).isPrefixOf l
      · simp only [Bool.false_eq_true, if_false]
        obtain ⟨a, c, h⟩ := value_total l (by omega) k (by omega)
        rw [h]
        exact ⟨_, _, [], _, rfl, by simp⟩
      · simp only [if_true]
        have hd : (l.drop ([77, 45] : List UInt8).length).length ≤ l.length := by rw [List.length_drop]; omega
        obtain ⟨a, c, h⟩ := value_total (l.drop ([77, 45] : List UInt8).length) (by omega) k (by omega)
        rw [h]
        exact ⟨_, _, [], _, rfl, by simp⟩
    · simp only [if_true]
      have hd : (l.drop ([80, 45] : List UInt8).length).length ≤ l.length := by rw [List.length_drop]; omega
      rw [show (⟨#[33]⟩ : ByteArray) = BA [33] from rfl, CutSuffix_f _ _ (by omega) (by decide), Option.bind_some]
      cases hs : ([33] : List UInt8).isSuffixOf (l.drop ([80, 45] : List UInt8).length)
      · simp only [Bool.false_eq_true, if_false]
        obtain ⟨r, h, hr⟩ := bytes_total (l.drop ([80, 45] : List UInt8).length) (by omega) k (by omega)
        rw [h]
        exact ⟨_, _, bytesOfL r, _, rfl, by simp [bytesOfL]; simp at hr; omega⟩
      · simp only [if_true]
        have hd2 : ((l.drop ([80, 45] : List UInt8).length).take ((l.drop ([80, 45] : List UInt8).length).length - ([33] : List UInt8).length)).length ≤ l.length := by rw [List.length_take]; omega
        obtain ⟨r, h, hr⟩ := bytes_total _ (show ((l.drop ([80, 45] : List UInt8).length).take ((l.drop ([80, 45] : List UInt8).length).length - ([33] : List UInt8).length)).length ≤ 90000 by omega) k (by omega)
        rw [h]
        exact ⟨_, _, bytesOfL r, _, rfl, by simp only [bytesOfL, List.length_map]; omega⟩

end Go.Proofs.Ytemoocoedibbpaa.X

namespace Go.Proofs.Ytemoocoedibbpaa.X
open Go.RowKit Go.Proofs.YtemoocoedibbpaaW.PrintWords Go.Proofs.YtemoocoedibbpaaW.PrintLast Go.Proofs.YtemoocoedibbpaaW.PrintMore
attribute [local go_sem] max2_int min2_int max_two min_two max_three min_three max_four min_four
set_option linter.unusedVariables false
set_option linter.unusedSimpArgs false

theorem and31 (n : Nat) (h : n < 128) : Go.bits .and .i64 (wrap64 (n : Int)) 31 = ((n % 32 : Nat) : Int) := by
  have : ∀ n : Nat, n < 128 → Go.bits .and .i64 (wrap64 (n : Int)) 31 = ((n % 32 : Nat) : Int) := by decide +kernel
  exact this n h
/-- The bytes of a value's name. -/
def signU (v : Int) : List UInt8 := bytesOfL (signK v)
theorem signU_BA (v : Int) : strOfNums (signK v) = BA (signU v) := rfl
theorem u8n (x : Int) (h0 : 0 ≤ x) (h1 : x < 256) : ((UInt8.ofNat x.toNat).toNat : Int) = x := by
  rw [UInt8.toNat_ofNat']; omega
theorem u8ne (x : Int) (n : Nat) (hn : n < 256) (h0 : 0 ≤ x) (h1 : x < 256) (h : x ≠ n) : UInt8.ofNat x.toNat ≠ UInt8.ofNat n := by
  intro e
  have := congrArg UInt8.toNat e
  rw [UInt8.toNat_ofNat', UInt8.toNat_ofNat'] at this
  omega
theorem sign_cases (v : Int) (h0 : 0 ≤ v) : (33 ≤ v ∧ v ≤ 126 ∧ v ≠ 60 ∧ signU v = [UInt8.ofNat v.toNat]) ∨ (32 ≤ v ∧ signU v = 60 :: (bytesOfL (hexL 16 1 v) ++ [62])) ∨ (v < 32 ∧ ∃ x : Int, 64 ≤ x ∧ x < 128 ∧ x % 32 = v ∧ signU v = [67, 45, UInt8.ofNat x.toNat]) := by
  unfold signU signK
  split
  · rename_i h; exact .inl ⟨h.1, h.2.1, h.2.2, rfl⟩
  · split
    · rename_i h; exact .inr (.inl ⟨h, by simp [bytesOfL]⟩)
    · split
      · exact .inr (.inr ⟨by omega, v + 96, by omega, by omega, by omega, rfl⟩)
      · exact .inr (.inr ⟨by omega, v + 64, by omega, by omega, by omega, rfl⟩)
theorem bytesOfL_len (l : List Int) : (bytesOfL l).length = l.length := by simp [bytesOfL]
theorem value_sign (v : Int) (h0 : 0 ≤ v) (h1 : v ≤ 1114367) (k : Nat) (hk : 200 ≤ k) : key_value.f k (BA (signU v)) = some (if 32 ≤ v then 1 else 2, v) := by
  obtain ⟨k, rfl⟩ : ∃ m, k = m + 1 := ⟨k - 1, by omega⟩
  unfold key_value.f
  rw [show (⟨#[60]⟩ : ByteArray) = BA [60] from rfl, CutPrefix_f, Option.bind_some]
  rcases sign_cases v h0 with ⟨a, b, c, e⟩ | ⟨a, e⟩ | ⟨a, x, x0, x1, x2, e⟩
  · rw [e]
    have n1 := u8ne v 60 (by decide) (by omega) (by omega) (by omega)
    have hp : ([60] : List UInt8).isPrefixOf [UInt8.ofNat v.toNat] = false := by
      simp only [List.isPrefixOf, Bool.and_true, beq_eq_false_iff_ne]
      exact fun h => n1 h.symm
    rw [hp]
    simp only [Bool.false_eq_true, if_false, key_value.j0]
    rw [show (⟨#[67, 45]⟩ : ByteArray) = BA [67, 45] from rfl, CutPrefix_f, Option.bind_some]
    have hp2 : ([67, 45] : List UInt8).isPrefixOf [UInt8.ofNat v.toNat] = false := by simp [List.isPrefixOf]
    rw [hp2]
    simp only [Bool.false_eq_true, if_false]
    have hv := u8n v (by omega) (by omega)
    obtain ⟨n, hn⟩ := One_low (UInt8.ofNat v.toNat) (by omega)
    rw [hn, hv, if_pos (by omega)]
    rfl
  · rw [e]
    have hp : ([60] : List UInt8).isPrefixOf (60 :: (bytesOfL (hexL 16 1 v) ++ [62])) = true := by simp [List.isPrefixOf]
    have hl := hex1_len v h0 h1
    have hb := bytesOfL_len (hexL 16 1 v)
    rw [hp]
    simp only [if_true, List.length_cons, List.length_nil, List.drop_succ_cons, List.drop_zero]
    rw [show (⟨#[62]⟩ : ByteArray) = BA [62] from rfl, strHasSuffix_f _ _ (by rw [List.length_append]; simp; omega) (by decide), Option.bind_some]
    have hs : ([62] : List UInt8).isSuffixOf (bytesOfL (hexL 16 1 v) ++ [62]) = true := List.isSuffixOf_iff_suffix.2 (List.suffix_append _ _)
    rw [hs]
    simp only [key_value.j0, if_true]
    rw [BA_size, List.length_append, List.length_cons, List.length_nil, w64 (by omega) (by omega), if_pos (by omega), if_pos (by omega), BA_extract, List.drop_zero]
    obtain ⟨e', he⟩ := Unhex_hex1 v h0 h1 k (by omega)
    rw [List.take_append_of_le_length (by omega), List.take_of_length_le (by omega), he, if_pos a]
    rfl
  · rw [e]
    have hp : ([60] : List UInt8).isPrefixOf [67, 45, UInt8.ofNat x.toNat] = false := by simp [List.isPrefixOf]
    rw [hp]
    simp only [Bool.false_eq_true, if_false, key_value.j0]
    rw [show (⟨#[67, 45]⟩ : ByteArray) = BA [67, 45] from rfl, CutPrefix_f, Option.bind_some]
    have hp2 : ([67, 45] : List UInt8).isPrefixOf [67, 45, UInt8.ofNat x.toNat] = true := by simp [List.isPrefixOf]
    rw [hp2]
    simp only [if_true, List.length_cons, List.length_nil, List.drop_succ_cons, List.drop_zero]
    have hb : bt (BA [UInt8.ofNat x.toNat]) 0 = x := by
      have := bt_BA [UInt8.ofNat x.toNat] 0 (by simp)
      exact this.trans (u8n x (by omega) (by omega))
    rw [BA_toList, if_neg (by simp), BA_size, if_pos (by simp), hb]
    obtain ⟨n, rfl⟩ : ∃ n : Nat, x = n := ⟨x.toNat, by omega⟩
    rw [and31 n (by omega), if_neg (by omega), show ((n % 32 : Nat) : Int) = v by omega]
theorem sign_head (v : Int) (h0 : 0 ≤ v) : (signU v).length ≤ 1 ∨ (∃ a b r, signU v = a :: b :: r ∧ (a = 60 ∨ a = 67 ∨ a = 77 ∨ (a = 80 ∧ b = 45))) := by
  rcases sign_cases v h0 with ⟨a, b, c, e⟩ | ⟨a, e⟩ | ⟨a, x, x0, x1, x2, e⟩
  · rw [e]; exact .inl (by simp)
  · rw [e]
    cases h : bytesOfL (hexL 16 1 v) ++ [62] with
    | nil => exact .inl (by simp)
    | cons y r => exact .inr ⟨60, y, r, rfl, .inl rfl⟩
  · exact .inr ⟨67, 45, _, e, .inr (.inl rfl)⟩
theorem sign_noPre (v : Int) (h0 : 0 ≤ v) (p : UInt8) (h : p = 80 ∨ p = 77) : ([p, 45] : List UInt8).isPrefixOf (signU v) = false := by
  rcases sign_cases v h0 with ⟨a, b, c, e⟩ | ⟨a, e⟩ | ⟨a, x, x0, x1, x2, e⟩
  · rw [e]; simp [List.isPrefixOf]
  · rw [e]; rcases h with rfl | rfl <;> simp [List.isPrefixOf]
  · rw [e]; rcases h with rfl | rfl <;> simp [List.isPrefixOf]
theorem guess_sign (v : Int) (h0 : 0 ≤ v) (h1 : v ≤ 1114367) (k : Nat) (hk : 200 ≤ k) : key_guess.f k (BA (signU v)) = some (if 32 ≤ v then 1 else 2, v, ⟨#[]⟩, false) := by
  unfold key_guess.f
  rw [nameP_no _ (sign_head v h0), if_neg (by simp), show (⟨#[80, 45]⟩ : ByteArray) = BA [80, 45] from rfl, show (⟨#[77, 45]⟩ : ByteArray) = BA [77, 45] from rfl, CutPrefix_f, CutPrefix_f, sign_noPre v h0 80 (.inl rfl), sign_noPre v h0 77 (.inr rfl)]
  simp only [Bool.false_eq_true, if_false, Option.bind_some]
  rw [value_sign v h0 h1 k hk]
  rfl
theorem guess_meta (v : Int) (h0 : 0 ≤ v) (h1 : v ≤ 1114367) (k : Nat) (hk : 200 ≤ k) : key_guess.f k (BA (77 :: 45 :: signU v)) = some (3, v, ⟨#[]⟩, false) := by
  unfold key_guess.f
  have p1 : ([80, 45] : List UInt8).isPrefixOf (77 :: 45 :: signU v) = false := by simp [List.isPrefixOf]
  have p2 : ([77, 45] : List UInt8).isPrefixOf (77 :: 45 :: signU v) = true := by simp [List.isPrefixOf]
  rw [nameP_no _ (.inr ⟨77, 45, _, rfl, .inr (.inr (.inl rfl))⟩), if_neg (by simp), show (⟨#[80, 45]⟩ : ByteArray) = BA [80, 45] from rfl, show (⟨#[77, 45]⟩ : ByteArray) = BA [77, 45] from rfl, CutPrefix_f, CutPrefix_f, p1, p2]
  simp only [Bool.false_eq_true, if_false, if_true, Option.bind_some, List.length_cons, List.length_nil, List.drop_succ_cons, List.drop_zero]
  rw [value_sign v h0 h1 k hk]
  rfl
theorem guess_named (kk vv : Int) (k : Nat) (h : namedB kk vv = true) : key_guess.f k (findR (ofP kk vv)).1.f2 = some (kk, vv, ⟨#[]⟩, false) := by
  have t : ∀ a, (⟨a⟩ : ByteArray).toList = a.toList := fun a => Go.Lib.toList_data _
  refine of_all (fun kk vv => key_guess.f k (findR (ofP kk vv)).1.f2 = some (kk, vv, ⟨#[]⟩, false)) ?_ kk vv h
  unfold key_guess.f
  refine ⟨?_, ?_, ?_, ?_, ?_, ?_, ?_, ?_, ?_, ?_, ?_, ?_, ?_⟩ <;> simp [findR_find, namedL_eq, List.find?, ofP, nameP, t]
/-! ### a paste -/
theorem hexes_append (a b : List UInt8) : hexes (a ++ b) = hexes a ++ hexes b := by simp [hexes]
theorem bytes_hexes (L : List UInt8) (hL : L.length ≤ 40000) : ∀ (d k i : Nat) (acc : List Int), d + i = L.length → d + 200 ≤ k → acc.length = i → key_bytes.l0 k (BA (bytesOfL (hexes L))) acc ((2 * i : Nat) : Int) = some (strOfNums (acc ++ (L.drop i).map fun b => (b.toNat : Int))) := by
  have hlen : (bytesOfL (hexes L)).length = 2 * L.length := by rw [bytesOfL_len, hexes_len]
  intro d
  induction d with
  | zero =>
    intro k i acc h1 h2 h3
    obtain ⟨k, rfl⟩ : ∃ m, k = m + 1 := ⟨k - 1, by omega⟩
    simp only [key_bytes.l0]
    rw [BA_size, hlen, w64 (by omega) (by omega), if_neg (by omega), List.drop_of_length_le (by omega), List.map_nil, List.append_nil]
  | succ d ih =>
    intro k i acc h1 h2 h3
    obtain ⟨k, rfl⟩ : ∃ m, k = m + 1 := ⟨k - 1, by omega⟩
    have hsplit : hexes L = hexes (L.take i) ++ ([digV ((L[i].toNat : Int) / 16), digV ((L[i].toNat : Int) % 16)] ++ hexes (L.drop (i + 1))) := by
      rw [← hexes_cons, ← List.drop_eq_getElem_cons (by omega)]
      rw [← hexes_append, List.take_append_drop]
    have hu := u8_range L[i]
    have hw : ((bytesOfL (hexes L)).drop (2 * i)).take (2 * i + 2 - 2 * i) = bytesOfL [digV ((L[i].toNat : Int) / 16), digV ((L[i].toNat : Int) % 16)] := by
      have hl : (bytesOfL (hexes (L.take i))).length = 2 * i := by rw [bytesOfL_len, hexes_len, List.length_take]; omega
      rw [hsplit, show ∀ a b : List Int, bytesOfL (a ++ b) = bytesOfL a ++ bytesOfL b from fun a b => by simp [bytesOfL], List.drop_append_of_le_length (by omega), List.drop_of_length_le (by omega), show 2 * i + 2 - 2 * i = 2 by omega]
      simp [bytesOfL]
    have hv : unhexU (bytesOfL [digV ((L[i].toNat : Int) / 16), digV ((L[i].toNat : Int) % 16)]) 0 = some (L[i].toNat : Int) := by
      have := unhexU_hex 16 2 (L[i].toNat : Int) (by omega) (by have : (16 : Int) ^ 16 = 18446744073709551616 := by decide
                                                                omega) (by omega)
      rwa [hex2_small _ (by omega) (by omega)] at this
    obtain ⟨m, e, hm, hx⟩ := Unhex_f (bytesOfL [digV ((L[i].toNat : Int) / 16), digV ((L[i].toNat : Int) % 16)]) (by simp [bytesOfL]) k (by simp [bytesOfL]; omega)
    have hmm := hx _ (by simp [bytesOfL]) (by simp [bytesOfL]) hv
    simp only [key_bytes.l0]
    rw [BA_size, hlen, show wrap64 (((2 * i : Nat) : Int) + 1) = ((2 * i : Nat) : Int) + 1 from w64 (by omega) (by omega), show wrap64 (((2 * i : Nat) : Int) + 2) = ((2 * i + 2 : Nat) : Int) by rw [w64 (by omega) (by omega)]; omega]
    rw [if_pos (by omega), if_pos (by omega), if_pos (by omega), if_pos (by omega), BA_extract, Int.toNat_natCast, Int.toNat_natCast, hw, hm, Option.bind_some, if_pos (by omega), hmm]
    dsimp only
    rw [show (L[i].toNat : Int) % 256 = (L[i].toNat : Int) by omega, show 2 * i + 2 = 2 * (i + 1) by omega, ih k (i + 1) _ (by omega) (by omega) (by simp [h3])]
    conv => rhs; rw [List.drop_eq_getElem_cons (show i < L.length by omega)]
    rw [List.map_cons, List.append_assoc]
    rfl
theorem bytes_back (L : List UInt8) (hL : L.length ≤ 40000) (k : Nat) (hk : L.length + 300 ≤ k) : key_bytes.f k (BA (bytesOfL (hexes L))) = some (BA L) := by
  have := bytes_hexes L hL L.length k 0 [] (by omega) (by omega) rfl
  unfold key_bytes.f
  refine Eq.trans this ?_
  rw [List.drop_zero, List.nil_append, strOfNums_BA, List.map_map]
  congr 2
  simp [Function.comp_def]
theorem hexes_no33 (L : List UInt8) : (33 : UInt8) ∉ bytesOfL (hexes L) := by
  intro h
  unfold bytesOfL hexes at h
  obtain ⟨x, hx, e⟩ := List.mem_map.1 h
  obtain ⟨b, _, hb⟩ := List.mem_flatMap.1 hx
  have hu := u8_range b
  have r1 := digV_range ((b.toNat : Int) / 16) (by omega) (by omega)
  have r2 := digV_range ((b.toNat : Int) % 16) (by omega) (by omega)
  have hx2 : 48 ≤ x ∧ x ≤ 70 := by
    simp only [List.mem_cons, List.not_mem_nil, or_false] at hb
    rcases hb with rfl | rfl <;> assumption
  have := congrArg UInt8.toNat e
  rw [UInt8.toNat_ofNat'] at this
  have h33 : (33 : UInt8).toNat = 33 := rfl
  omega
theorem pasteK_BA (L : List UInt8) (c : Bool) : pasteK L c = BA (80 :: 45 :: (bytesOfL (hexes L) ++ if c = true then [33] else [])) := by
  unfold pasteK
  rw [show (⟨#[80, 45]⟩ : ByteArray) = BA [80, 45] from rfl, strOfNums_BA, BA_append]
  cases c
  · rw [if_neg (by decide), if_neg (by decide), show (⟨#[]⟩ : ByteArray) = BA [] from rfl, BA_append]; rfl
  · rw [if_pos rfl, if_pos rfl, show (⟨#[33]⟩ : ByteArray) = BA [33] from rfl, BA_append]; rfl
theorem guess_paste (L : List UInt8) (hL : L.length ≤ 40000) (c : Bool) (k : Nat) (hk : L.length + 300 ≤ k) : key_guess.f k (pasteK L c) = some (15, 0, BA L, c) := by
  rw [pasteK_BA]
  unfold key_guess.f
  have hlen : (bytesOfL (hexes L)).length = 2 * L.length := by rw [bytesOfL_len, hexes_len]
  have p1 : ∀ r : List UInt8, ([80, 45] : List UInt8).isPrefixOf (80 :: 45 :: r) = true := fun r => by simp [List.isPrefixOf]
  rw [nameP_no _ (.inr ⟨80, 45, _, rfl, .inr (.inr (.inr ⟨rfl, rfl⟩))⟩), if_neg (by simp), show (⟨#[80, 45]⟩ : ByteArray) = BA [80, 45] from rfl, CutPrefix_f, p1]
  simp only [if_true, Option.bind_some, List.length_cons, List.length_nil, List.drop_succ_cons, List.drop_zero]
  rw [show (⟨#[33]⟩ : ByteArray) = BA [33] from rfl, CutSuffix_f _ _ (by rw [List.length_append]; split <;> simp <;> omega) (by decide), Option.bind_some]
  cases c
  · have hs : ([33] : List UInt8).isSuffixOf (bytesOfL (hexes L) ++ if false = true then [33] else []) = false := by
      rw [if_neg (by decide), List.append_nil]
      rw [Bool.eq_false_iff]
      intro h
      exact hexes_no33 L ((List.isSuffixOf_iff_suffix.1 h).subset (by simp))
    rw [hs]
    simp only [Bool.false_eq_true, if_false, List.append_nil]
    rw [bytes_back L hL k hk]
    rfl
  · have hs : ([33] : List UInt8).isSuffixOf (bytesOfL (hexes L) ++ if true = true then [33] else []) = true := List.isSuffixOf_iff_suffix.2 (List.suffix_append _ _)
    rw [hs]
    simp only [if_true]
    rw [List.length_append, List.length_cons, List.length_nil, List.take_append_of_le_length (by omega), List.take_of_length_le (by omega), bytes_back L hL k hk]
    rfl
theorem guess_name (kk vv : Int) (L : List UInt8) (c : Bool) (hL : L.length ≤ 40000) (h : mayB kk vv (BA L) c = true) (k : Nat) (hk : L.length + 300 ≤ k) : key_guess.f k (nameK kk vv L c) = some (kk, vv, BA L, c) := by
  unfold nameK
  rcases may_cases kk vv (BA L) c h with ⟨ht, hc, hm⟩ | ⟨rfl, rfl, hs⟩
  · rw [ht, hc]
    rcases hm with ⟨rfl, h1, h2, h3⟩ | ⟨rfl, h1⟩ | ⟨rfl, h1⟩ | ⟨h1, h2, h3⟩
    · have := (rightB_iff vv).1 h3
      rw [if_pos (by decide), signU_BA, guess_sign vv (by omega) (by omega) k (by omega), if_pos h1]
    · have := ctl_range vv h1
      rw [if_pos (by decide), signU_BA, guess_sign vv (by omega) (by omega) k (by omega), if_neg (by omega)]
    · have : 0 ≤ vv ∧ vv ≤ 127 := by
        rcases h1 with h1 | h1
        · have := ctl_range vv h1; omega
        · omega
      rw [if_neg (by decide), if_pos rfl, show strOfNums ([77, 45] ++ signK vv) = BA (77 :: 45 :: signU vv) from rfl, guess_meta vv (by omega) (by omega) k (by omega)]
    · rw [if_neg (by omega), if_neg (by omega), if_neg (by omega), guess_named kk vv k h1]
  · rw [if_neg (by decide), if_neg (by decide), if_pos rfl, guess_paste L hL c k hk]
theorem Pure_KeyNames : dactyllaw13_KeyNames.Pure := by
  intro kk vv t c _
  refine ⟨t.size + 3000, ?_⟩
  have aw : dactyllaw13_awake.f = some true := rfl
  unfold dactyllaw13_KeyNames.f
  rw [aw]
  simp only [Option.bind_some, if_true]
  by_cases c1 : (t.size : Int) > 300
  · rw [if_pos c1]
  · rw [if_neg c1]
    obtain ⟨l, rfl⟩ : ∃ l, t = BA l := ⟨t.data.toList, (BA_data t).symm⟩
    rw [BA_size] at c1 ⊢
    have hC := key_Check_f kk vv (BA l) c (l.length + 3000) (by omega)
    have hM := ref_May_f kk vv (BA l) c (l.length + 3000) (by omega)
    cases hm : mayB kk vv (BA l) c
    · rw [hm] at hC hM
      have hN : key_Name.f (l.length + 3000) kk vv (BA l) c = some (⟨#[]⟩, 2) := by
        unfold key_Name.f
        rw [hC]
        rfl
      have hV : key_Value.f (l.length + 3000) kk vv (BA l) c = some (0, false) := by
        unfold key_Value.f
        rw [hC]
        rfl
      have hB : key_Bytes.f (l.length + 3000) kk vv (BA l) c = some ⟨#[]⟩ := by
        unfold key_Bytes.f
        rw [hC]
        rfl
      have e0 : (⟨#[]⟩ : ByteArray).toList = [] := BA_toList []
      rw [hN, hV, hM, hC, hB]
      simp [e0]
    · have hN := key_Name_f kk vv l c hm (l.length + 3000) (by omega)
      have hR := ref_Name_f kk vv l c hm (l.length + 3000) (by omega)
      obtain ⟨b, hB1, hB2⟩ := key_Bytes_f kk vv l c hm (l.length + 3000) (by omega)
      obtain ⟨v, y, want, hV, hW, hy, hH⟩ := key_Value_f kk vv (BA l) c hm (l.length + 3000) (by omega)
      have hP : key_Parse.f (l.length + 3000) (nameK kk vv l c) = some (kk, vv, BA l, c, 0) := by
        unfold key_Parse.f
        rw [guess_name kk vv l c (by omega) hm _ (by omega), Option.bind_some, hN, Option.bind_some, if_pos rfl, if_pos rfl]
      rw [hm] at hC hM
      rw [if_pos rfl] at hC
      rw [hN, hV, hM]
      simp only [Option.bind_some, if_true]
      rw [hP, hW]
      simp only [Option.bind_some, if_true]
      rw [hC, hR, hB1, hB2]
      simp only [Option.bind_some, if_true]
      rw [hH]
      simp [hy]

end Go.Proofs.Ytemoocoedibbpaa.X
