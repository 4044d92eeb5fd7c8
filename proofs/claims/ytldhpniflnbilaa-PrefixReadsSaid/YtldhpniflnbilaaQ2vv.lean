/- The canonical codes: the closed form of prefix.Codes and of its reference. -/
import Derived.Test.YtldhpniflnbilaaQ1vv
import Derived.Test.YtldhpniflnbilaaP33x6vv
import Derived.Test.YtldhpniflnbilaaP33x20vv
set_option linter.unusedVariables false
set_option linter.unusedSimpArgs false
set_option linter.unusedSectionVars false
namespace Go.Proofs.Ytldhpniflnbilaa.Pure
open Go.RowKit Go.Proofs.Ytldhpniflnbilaa.P33 Go.Proofs.YtldhpniflnbilaaW.PrintWords Go.Proofs.YtldhpniflnbilaaW.PrintLast Go.Proofs.YtldhpniflnbilaaW.PrintMore

/-- The first code behind all those of length n. -/
def firstN (l : List Int) : Nat → Nat
  | 0 => 0
  | n + 1 => 2 * firstN l n + l.count ((n + 1 : Nat) : Int)
def codeAt (l : List Int) (i : Nat) : Int := 2 * (firstN l ((l.getD i 0).toNat - 1) : Int) + ((l.take i).count (l.getD i 0) : Int)
/-- What is entered in the list when length n is at work, at symbol i. -/
def codesP (l : List Int) (n i : Nat) : List Int := (List.range l.length).map fun j => if 0 < l.getD j 0 ∧ (l.getD j 0 < n ∨ l.getD j 0 = n ∧ j < i) then codeAt l j else 0
def codesL (l : List Int) : List Int := (List.range l.length).map fun j => if 0 < l.getD j 0 then codeAt l j else 0
theorem codesP_length (l : List Int) (n i : Nat) : (codesP l n i).length = l.length := by simp [codesP]
theorem codesL_length (l : List Int) : (codesL l).length = l.length := by simp [codesL]

theorem kraft_ge (l : List Int) (n : Nat) (h1 : 1 ≤ n) (hn : n ≤ 30) : (l.count (n : Int) : Int) * 2 ^ (30 - n) ≤ kraftS l := by
  induction l with
  | nil => simp [kraftS]
  | cons x r ih =>
    rw [kraftS, List.count_cons]
    by_cases h : x = (n : Int)
    · subst h
      have e : (30 - (n : Int)).toNat = 30 - n := by omega
      simp only [beq_self_eq_true, if_true, if_pos (show (0 : Int) < (n : Int) by omega), e]
      push_cast
      rw [Int.add_mul]
      omega
    · simp only [beq_iff_eq, if_neg h, Nat.add_zero]
      by_cases h0 : 0 < x
      · rw [if_pos h0]; have := pow30 (30 - x).toNat (by omega); omega
      · rw [if_neg h0]; omega
/-- The part of the Kraft sum of the lengths up to n. -/
def kraftP (n : Nat) : List Int → Int
  | [] => 0
  | x :: r => (if 0 < x ∧ x ≤ n then 2 ^ (30 - x).toNat else 0) + kraftP n r
theorem kraftP_le (n : Nat) : ∀ l : List Int, kraftP n l ≤ kraftS l
  | [] => by simp [kraftP, kraftS]
  | x :: r => by
    have := kraftP_le n r
    rw [kraftP, kraftS]
    by_cases h : 0 < x
    · have hp := pow30 (30 - x).toNat (by omega)
      rw [if_pos h]
      split <;> omega
    · rw [if_neg h, if_neg (by omega)]; omega
theorem kraftP_zero : ∀ l : List Int, kraftP 0 l = 0
  | [] => rfl
  | x :: r => by rw [kraftP, kraftP_zero r, if_neg (by omega)]; rfl
theorem kraftP_succ (n : Nat) (hn : n + 1 ≤ 30) : ∀ l : List Int, kraftP (n + 1) l = kraftP n l + (l.count ((n + 1 : Nat) : Int) : Int) * 2 ^ (30 - (n + 1))
  | [] => by simp [kraftP]
  | x :: r => by
    rw [kraftP, kraftP, kraftP_succ n hn r, List.count_cons]
    by_cases h : x = ((n + 1 : Nat) : Int)
    · subst h
      have e : (30 - ((n + 1 : Nat) : Int)).toNat = 30 - (n + 1) := by omega
      rw [if_pos (by omega), if_neg (by omega), e]
      simp only [beq_self_eq_true, if_true]
      push_cast
      rw [Int.add_mul]
      omega
    · simp only [beq_iff_eq, if_neg h, Nat.add_zero]
      by_cases h0 : 0 < x ∧ x ≤ (n : Int)
      · rw [if_pos (by omega), if_pos h0]; omega
      · rw [if_neg (by omega), if_neg h0]; omega
theorem firstN_kraft (l : List Int) : ∀ n, n ≤ 30 → (firstN l n : Int) * 2 ^ (30 - n) = kraftP n l := by
  intro n
  induction n with
  | zero => intro _; rw [kraftP_zero]; simp [firstN]
  | succ n ih =>
    intro hn
    rw [kraftP_succ n hn, ← ih (by omega), firstN]
    have e : (2 : Int) ^ (30 - n) = 2 * 2 ^ (30 - (n + 1)) := by
      rw [show 30 - n = (30 - (n + 1)) + 1 by omega, Int.pow_succ]; omega
    rw [e]
    generalize (2 : Int) ^ (30 - (n + 1)) = z
    push_cast
    rw [Int.add_mul, Int.mul_comm 2 (firstN l n : Int), Int.mul_assoc]
theorem firstN_le (l : List Int) (h : kraftS l ≤ 1073741824) (n : Nat) (hn : n ≤ 30) : firstN l n ≤ 2 ^ n := by
  have h1 := firstN_kraft l n hn
  have h2 := kraftP_le n l
  have h3 : (firstN l n : Int) * 2 ^ (30 - n) ≤ 2 ^ n * 2 ^ (30 - n) := by
    rw [← Int.pow_add, show n + (30 - n) = 30 by omega]
    have : (2 : Int) ^ 30 = 1073741824 := by decide
    omega
  have h4 := Int.le_of_mul_le_mul_right h3 (by have := (pow30 (30 - n) (by omega)).1; omega)
  have e : ((2 : Int) ^ n) = ((2 ^ n : Nat) : Int) := by simp
  omega
theorem firstN_small (l : List Int) (h : kraftS l ≤ 1073741824) (n : Nat) (hn : n ≤ 30) : firstN l n ≤ 1073741824 := by
  have h1 := firstN_le l h n hn
  have h2 : 2 ^ n ≤ 2 ^ 30 := Nat.pow_le_pow_right (by decide) hn
  omega
theorem count_take_succ (l : List Int) (i : Nat) (hi : i < l.length) (x : Int) : (l.take (i + 1)).count x = (l.take i).count x + (if l[i] = x then 1 else 0) := by
  rw [List.take_succ_eq_append_getElem hi, List.count_append, List.count_singleton]
  simp only [beq_iff_eq]
theorem getD_at (l : List Int) (i : Nat) (h : i < l.length) : l.getD i 0 = l[i] := by simp [List.getD_eq_getElem?_getD, List.getElem?_eq_getElem h]

theorem codesP_start (l : List Int) : List.replicate l.length 0 = codesP l 1 0 := by
  apply List.ext_getElem
  · simp [codesP]
  · intro j h1 h2
    simp only [codesP, List.getElem_replicate, List.getElem_map, List.getElem_range]
    rw [if_neg (by omega)]
theorem codesP_next (l : List Int) (n : Nat) : codesP l n l.length = codesP l (n + 1) 0 := by
  apply List.ext_getElem
  · simp [codesP]
  · intro j h1 h2
    simp only [codesP, List.getElem_map, List.getElem_range]
    have hj : j < l.length := by rw [codesP_length] at h1; exact h1
    by_cases h : 0 < l.getD j 0 ∧ (l.getD j 0 < n ∨ l.getD j 0 = n)
    · rw [if_pos (by omega), if_pos (by omega)]
    · rw [if_neg (by omega), if_neg (by omega)]
theorem codesP_end (l : List Int) (hw : withinL l 30 = true) : codesP l 31 0 = codesL l := by
  apply List.ext_getElem
  · simp [codesP, codesL]
  · intro j h1 h2
    simp only [codesP, codesL, List.getElem_map, List.getElem_range]
    have hj : j < l.length := by rw [codesP_length] at h1; exact h1
    have := withinL_mem hw j hj
    rw [getD_at l j hj]
    by_cases h : 0 < l[j]
    · rw [if_pos (by omega), if_pos h]
    · rw [if_neg (by omega), if_neg h]
theorem codesP_skip (l : List Int) (n i : Nat) (hi : i < l.length) (h : l[i] ≠ n) : codesP l n (i + 1) = codesP l n i := by
  apply List.ext_getElem
  · simp [codesP]
  · intro j h1 h2
    simp only [codesP, List.getElem_map, List.getElem_range]
    have hj : j < l.length := by rw [codesP_length] at h1; exact h1
    by_cases e : j = i
    · subst e
      rw [getD_at l j hj]
      by_cases hc : 0 < l[j] ∧ l[j] < n
      · rw [if_pos (by omega), if_pos (by omega)]
      · rw [if_neg (by omega), if_neg (by omega)]
    · by_cases hc : 0 < l.getD j 0 ∧ (l.getD j 0 < n ∨ l.getD j 0 = n ∧ j < i)
      · rw [if_pos (by omega), if_pos hc]
      · rw [if_neg (by omega), if_neg hc]
theorem codesP_set (l : List Int) (n i : Nat) (hn : 1 ≤ n) (hi : i < l.length) (h : l[i] = n) : (codesP l n i).set i (2 * (firstN l (n - 1) : Int) + ((l.take i).count (n : Int) : Int)) = codesP l n (i + 1) := by
  apply List.ext_getElem
  · simp [codesP]
  · intro j h1 h2
    have hj : j < l.length := by rw [codesP_length] at h2; exact h2
    rw [List.getElem_set]
    by_cases e : i = j
    · subst e
      rw [if_pos rfl]
      simp only [codesP, List.getElem_map, List.getElem_range]
      rw [if_pos (by rw [getD_at l i hi]; omega), codeAt, getD_at l i hi, h]
      simp
    · rw [if_neg e]
      simp only [codesP, List.getElem_map, List.getElem_range]
      by_cases hc : 0 < l.getD j 0 ∧ (l.getD j 0 < n ∨ l.getD j 0 = n ∧ j < i)
      · rw [if_pos hc, if_pos (by omega)]
      · rw [if_neg hc, if_neg (by omega)]
theorem count_le (l : List Int) (i : Nat) (x : Int) : (l.take i).count x ≤ l.length := Nat.le_trans List.count_le_length (by simp [List.length_take]; omega)

theorem codes_in (l : List Int) (hl : l.length ≤ 4096) (hk : kraftS l ≤ 1073741824) (n : Nat) (h1 : 1 ≤ n) (h2 : n ≤ 30) (R : List Int × Int)
    (hR : Ev (fun k => prefix_Codes.l0 k l (codesP l (n + 1) 0) (firstN l n : Int) ((n + 1 : Nat) : Int)) R) :
    ∀ d i, d + i = l.length → Ev (fun k => prefix_Codes.l1 k l (codesP l n i) (2 * (firstN l (n - 1) : Int) + ((l.take i).count (n : Int) : Int)) (n : Int) l (l.length : Int) (i : Int)) R := by
  intro d
  induction d with
  | zero =>
    intro i h
    refine Ev.step (fun k => ?_) hR
    rw [prefix_Codes.l1, if_neg (by omega), wsucc n (by omega), show i = l.length by omega, codesP_next, List.take_length]
    congr 1
    obtain ⟨q, rfl⟩ : ∃ q, n = q + 1 := ⟨n - 1, by omega⟩
    rw [firstN, Nat.add_sub_cancel]
    push_cast
    rfl
  | succ d ih =>
    intro i h
    have hi : i < l.length := by omega
    have hb := firstN_small l hk (n - 1) (by omega)
    have hc := count_le l i (n : Int)
    refine Ev.step (fun k => ?_) (ih (i + 1) (by omega))
    rw [prefix_Codes.l1, if_pos (by omega), if_pos (by omega), if_pos (by omega), rd_at l i hi, wsucc i (by omega), count_take_succ l i hi]
    by_cases he : l[i] = (n : Int)
    · rw [if_pos he, if_pos (by rw [codesP_length]; omega), wr _ (by omega) (by omega), Int.toNat_natCast, codesP_set l n i h1 hi he, if_pos he]
      congr 1
    · rw [if_neg he, if_neg he, codesP_skip l n i hi he]
      rfl
theorem codes_out (l : List Int) (hl : l.length ≤ 4096) (hw : withinL l 30 = true) (hk : kraftS l ≤ 1073741824) : ∀ d n, d + n = 30 → Ev (fun k => prefix_Codes.l0 k l (codesP l (n + 1) 0) (firstN l n : Int) ((n + 1 : Nat) : Int)) (codesL l, 0) := by
  intro d
  induction d with
  | zero =>
    intro n h
    obtain rfl : n = 30 := by omega
    rw [codesP_end l hw]
    exact Ev.step (f := fun _ => some (codesL l, 0)) (fun k => by rw [prefix_Codes.l0, if_neg (by omega)]) (Ev.now _)
  | succ d ih =>
    intro n h
    have hb := firstN_small l hk n (by omega)
    have := codes_in l hl hk (n + 1) (by omega) (by omega) _ (ih (n + 1) (by omega)) l.length 0 rfl
    refine Ev.step (fun k => ?_) this
    rw [prefix_Codes.l0, if_pos (by omega), wr _ (by omega) (by omega), Nat.add_sub_cancel]
    congr 1
    simp [Int.mul_comm]
theorem codesR_in (l : List Int) (hl : l.length ≤ 4096) (hk : kraftS l ≤ 1073741824) (n : Nat) (h1 : 1 ≤ n) (h2 : n ≤ 30) (R : List Int × Int)
    (hR : Ev (fun k => barscanref33_Codes.l0 k l (codesP l (n + 1) 0) (firstN l n : Int) ((n + 1 : Nat) : Int)) R) :
    ∀ d i, d + i = l.length → Ev (fun k => barscanref33_Codes.l1 k l (codesP l n i) (2 * (firstN l (n - 1) : Int) + ((l.take i).count (n : Int) : Int)) (n : Int) (i : Int)) R := by
  intro d
  induction d with
  | zero =>
    intro i h
    refine Ev.step (fun k => ?_) hR
    rw [barscanref33_Codes.l1, if_neg (by omega), wsucc n (by omega), show i = l.length by omega, codesP_next, List.take_length]
    congr 1
    obtain ⟨q, rfl⟩ : ∃ q, n = q + 1 := ⟨n - 1, by omega⟩
    rw [firstN, Nat.add_sub_cancel]
    push_cast
    rfl
  | succ d ih =>
    intro i h
    have hi : i < l.length := by omega
    have hb := firstN_small l hk (n - 1) (by omega)
    have hc := count_le l i (n : Int)
    refine Ev.step (fun k => ?_) (ih (i + 1) (by omega))
    rw [barscanref33_Codes.l1, if_pos (by omega), if_pos (by omega), rd_at l i hi, wsucc i (by omega), count_take_succ l i hi]
    by_cases he : l[i] = (n : Int)
    · rw [if_pos he, if_pos (by rw [codesP_length]; omega), wr _ (by omega) (by omega), Int.toNat_natCast, codesP_set l n i h1 hi he, if_pos he]
      congr 1
    · rw [if_neg he, if_neg he, codesP_skip l n i hi he]
      rfl
theorem codesR_out (l : List Int) (hl : l.length ≤ 4096) (hw : withinL l 30 = true) (hk : kraftS l ≤ 1073741824) : ∀ d n, d + n = 30 → Ev (fun k => barscanref33_Codes.l0 k l (codesP l (n + 1) 0) (firstN l n : Int) ((n + 1 : Nat) : Int)) (codesL l, 0) := by
  intro d
  induction d with
  | zero =>
    intro n h
    obtain rfl : n = 30 := by omega
    rw [codesP_end l hw]
    exact Ev.step (f := fun _ => some (codesL l, 0)) (fun k => by rw [barscanref33_Codes.l0, if_neg (by omega)]) (Ev.now _)
  | succ d ih =>
    intro n h
    have hb := firstN_small l hk n (by omega)
    have := codesR_in l hl hk (n + 1) (by omega) (by omega) _ (ih (n + 1) (by omega)) l.length 0 rfl
    refine Ev.step (fun k => ?_) this
    rw [barscanref33_Codes.l0, if_pos (by omega), wr _ (by omega) (by omega), Nat.add_sub_cancel]
    congr 1
def CodesL (l : List Int) : List Int × Int := if checkL l = 0 then (if 1073741824 < kraftS l then ([], 27) else (codesL l, 0)) else ([], checkL l)
theorem Codes_ev (l : List Int) : Ev (fun k => prefix_Codes.f k l) (CodesL l) := by
  refine Ev.bind (check_ev l) ?_
  unfold CodesL
  by_cases h : checkL l = 0
  · simp only [if_pos h]
    obtain ⟨h1, h2⟩ := checkL_zero h
    refine Ev.bind (kraft_ev l h1 h2) ?_
    by_cases hk : 1073741824 < kraftS l
    · rw [if_pos hk]
      exact Ev.congr (f := fun _ => some ([], 27)) (fun k => by rw [if_pos (by omega)]) (Ev.now _)
    · rw [if_neg hk]
      have := codes_out l h1 h2 (by omega) 30 0 rfl
      refine Ev.congr (fun k => ?_) this
      rw [if_neg (by omega), if_pos (by omega), if_pos (by omega), Int.toNat_natCast, codesP_start]
      rfl
  · simp only [if_neg h]
    exact Ev.now _
theorem CodesR_ev (l : List Int) : Ev (fun k => barscanref33_Codes.f k l) (CodesL l) := by
  refine Ev.bind (checkR_ev l) ?_
  unfold CodesL
  by_cases h : checkL l = 0
  · simp only [if_pos h]
    obtain ⟨h1, h2⟩ := checkL_zero h
    refine Ev.bind (kraftR_ev l h1 h2) ?_
    by_cases hk : 1073741824 < kraftS l
    · rw [if_pos hk]
      exact Ev.congr (f := fun _ => some ([], 27)) (fun k => by rw [if_pos (by omega)]) (Ev.now _)
    · rw [if_neg hk]
      have := codesR_out l h1 h2 (by omega) 30 0 rfl
      refine Ev.congr (fun k => ?_) this
      rw [if_neg (by omega), if_pos (by omega), if_pos (by omega), Int.toNat_natCast, codesP_start]
      rfl
  · simp only [if_neg h]
    exact Ev.now _
theorem CodesL_small (l : List Int) : (CodesL l).1.length ≤ 4096 := by
  unfold CodesL
  split
  · split
    · simp
    · have := (checkL_zero (by assumption)).1
      simpa [codesL_length] using this
  · simp
end Go.Proofs.Ytldhpniflnbilaa.Pure
