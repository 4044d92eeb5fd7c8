/- The closed forms of the printed functions of chapter 33: within, right, Ints, check, Kraft, Check, Cost, Codes. -/
import Derived.Test.YtldhpniflnbilaaP33x3vv
import Derived.Test.YtldhpniflnbilaaP33x7vv
import Derived.Test.YtldhpniflnbilaaP33x8vv
import Derived.Test.YtldhpniflnbilaaP33x18vv
import Derived.Test.YtldhpniflnbilaaP33x21vv
import Derived.Test.YtldhpniflnbilaaP33x22vv
set_option linter.unusedVariables false
set_option linter.unusedSimpArgs false
set_option linter.unusedSectionVars false
namespace Go.Proofs.Ytldhpniflnbilaa.Pure
open Go.RowKit Go.Proofs.Ytldhpniflnbilaa.P33 Go.Proofs.YtldhpniflnbilaaW.PrintWords Go.Proofs.YtldhpniflnbilaaW.PrintLast Go.Proofs.YtldhpniflnbilaaW.PrintMore

theorem wr (x : Int) (h0 : -9223372036854775808 ≤ x) (h1 : x ≤ 9223372036854775807) : wrap64 x = x := by unfold wrap64; omega
theorem wsucc (i : Nat) (h : i ≤ 4611686018427387904) : wrap64 ((i : Int) + 1) = ((i + 1 : Nat) : Int) := by rw [wr _ (by omega) (by omega)]; omega
theorem u64_nonneg (x : Int) : 0 ≤ IntKind.u64.wrap x := by simp only [IntKind.wrap, IntKind.bits, IntKind.signed]; simp; omega
theorem u64_small (x : Int) (h0 : 0 ≤ x) (h1 : x ≤ 9223372036854775807) : IntKind.u64.wrap x = x := by simp only [IntKind.wrap, IntKind.bits, IntKind.signed]; simp; omega
theorem rd_at (l : List Int) (i : Nat) (h : i < l.length) : rd l (i : Int) = l[i] := by simp [rd, List.getD_eq_getElem?_getD, List.getElem?_eq_getElem h]
theorem rdOf_at (l : List Bool) (i : Nat) (h : i < l.length) : rdOf false l (i : Int) = l[i] := by simp [rdOf, List.getD_eq_getElem?_getD, List.getElem?_eq_getElem h]
theorem shl_one (x : Int) (h0 : 0 ≤ x) (h1 : x ≤ 30) : shl .i64 1 (IntKind.u64.wrap x) = 2 ^ x.toNat := by
  obtain ⟨n, rfl⟩ : ∃ n : Nat, x = (n : Int) := ⟨x.toNat, by omega⟩
  have hn : n < 31 := by omega
  have : ∀ n : Fin 31, shl .i64 1 (IntKind.u64.wrap ((n.val : Nat) : Int)) = 2 ^ ((n.val : Nat) : Int).toNat := by decide +kernel
  exact this ⟨n, hn⟩
theorem shr_nat (v x : Int) (h0 : 0 ≤ x) (h1 : x ≤ 62) : shr .i64 v (IntKind.u64.wrap x) = v / 2 ^ x.toNat := by
  rw [u64_small x h0 (by omega)]
  show v / 2 ^ min x.toNat 64 = _
  rw [Nat.min_eq_left (by omega)]
theorem pow30 (n : Nat) (h : n ≤ 30) : (1 : Int) ≤ 2 ^ n ∧ (2 : Int) ^ n ≤ 1073741824 := by
  have h1 : 2 ^ n ≤ 2 ^ 30 := Nat.pow_le_pow_right (by decide) h
  have h2 : 0 < 2 ^ n := Nat.two_pow_pos n
  have e : ((2 : Int) ^ n) = ((2 ^ n : Nat) : Int) := by simp
  rw [e]
  omega

/-! ### within, right, Ints -/
theorem withinL_drop (l : List Int) (m : Int) (i : Nat) (hi : i < l.length) : withinL (l.drop i) m = ((decide (0 ≤ l[i]) && decide (l[i] ≤ m)) && withinL (l.drop (i + 1)) m) := by
  rw [List.drop_eq_getElem_cons hi]
  show ((l[i] :: l.drop (i + 1)).all fun x => decide (0 ≤ x) && decide (x ≤ m)) = _
  rw [List.all_cons]
  rfl
theorem withinL_nil (l : List Int) (m : Int) (i : Nat) (hi : l.length ≤ i) : withinL (l.drop i) m = true := by rw [List.drop_eq_nil_of_le hi]; rfl
theorem withinL_mem {l : List Int} {m : Int} (h : withinL l m = true) (i : Nat) (hi : i < l.length) : 0 ≤ l[i] ∧ l[i] ≤ m := by
  have := List.all_eq_true.1 h l[i] (List.getElem_mem hi)
  simp only [Bool.and_eq_true, decide_eq_true_eq] at this
  exact this
theorem within_loop (m : Int) (l : List Int) (hl : l.length ≤ 2000000) : ∀ n i, n + i = l.length → Ev (fun k => prefix_within.l0 k m l (l.length : Int) (i : Int)) (withinL (l.drop i) m) := by
  intro n
  induction n with
  | zero =>
    intro i h
    rw [withinL_nil l m i (by omega)]
    exact Ev.step (f := fun _ => some true) (fun k => by rw [prefix_within.l0, if_neg (by omega)]) (Ev.now _)
  | succ n ih =>
    intro i h
    have hi : i < l.length := by omega
    rw [withinL_drop l m i hi]
    by_cases h1 : l[i] < 0
    · have e : (decide (0 ≤ l[i]) && decide (l[i] ≤ m) && withinL (l.drop (i + 1)) m) = false := by simp [show ¬ (0 ≤ l[i]) by omega]
      rw [e]
      exact Ev.step (f := fun _ => some false) (fun k => by rw [prefix_within.l0, if_pos (by omega), if_pos (by omega), if_pos (by omega), rd_at l i hi, if_pos h1]) (Ev.now _)
    · by_cases h2 : l[i] > m
      · have e : (decide (0 ≤ l[i]) && decide (l[i] ≤ m) && withinL (l.drop (i + 1)) m) = false := by simp [show ¬ (l[i] ≤ m) by omega]
        rw [e]
        exact Ev.step (f := fun _ => some false) (fun k => by rw [prefix_within.l0, if_pos (by omega), if_pos (by omega), if_pos (by omega), rd_at l i hi, if_neg h1, if_pos h2]) (Ev.now _)
      · have e : (decide (0 ≤ l[i]) && decide (l[i] ≤ m) && withinL (l.drop (i + 1)) m) = withinL (l.drop (i + 1)) m := by simp [show l[i] ≤ m by omega, show 0 ≤ l[i] by omega]
        rw [e]
        exact Ev.step (fun k => by rw [prefix_within.l0, if_pos (by omega), if_pos (by omega), if_pos (by omega), rd_at l i hi, if_neg h1, if_neg h2, wsucc i (by omega)]) (ih (i + 1) (by omega))
theorem within_ev (m : Int) (l : List Int) (hl : l.length ≤ 2000000) : Ev (fun k => prefix_within.f k l m) (withinL l m) := within_loop m l hl l.length 0 rfl
theorem right_loop (m : Int) (l : List Int) (hl : l.length ≤ 2000000) : ∀ n i, n + i = l.length → Ev (fun k => barscanref33_right.l0 k l m (i : Int)) (if withinL (l.drop i) m = true then 0 else 3) := by
  intro n
  induction n with
  | zero =>
    intro i h
    rw [withinL_nil l m i (by omega)]
    exact Ev.step (f := fun _ => some 0) (fun k => by rw [barscanref33_right.l0, if_neg (by omega)]) (Ev.now _)
  | succ n ih =>
    intro i h
    have hi : i < l.length := by omega
    rw [withinL_drop l m i hi]
    by_cases h1 : l[i] < 0
    · have e : (decide (0 ≤ l[i]) && decide (l[i] ≤ m) && withinL (l.drop (i + 1)) m) = false := by simp [show ¬ (0 ≤ l[i]) by omega]
      rw [e]
      exact Ev.step (f := fun _ => some 3) (fun k => by rw [barscanref33_right.l0, if_pos (by omega), if_pos (by omega), rd_at l i hi, if_pos h1]) (Ev.now _)
    · by_cases h2 : l[i] > m
      · have e : (decide (0 ≤ l[i]) && decide (l[i] ≤ m) && withinL (l.drop (i + 1)) m) = false := by simp [show ¬ (l[i] ≤ m) by omega]
        rw [e]
        exact Ev.step (f := fun _ => some 3) (fun k => by rw [barscanref33_right.l0, if_pos (by omega), if_pos (by omega), rd_at l i hi, if_neg h1, if_pos h2]) (Ev.now _)
      · have e : (decide (0 ≤ l[i]) && decide (l[i] ≤ m) && withinL (l.drop (i + 1)) m) = withinL (l.drop (i + 1)) m := by simp [show l[i] ≤ m by omega, show 0 ≤ l[i] by omega]
        rw [e]
        exact Ev.step (fun k => by rw [barscanref33_right.l0, if_pos (by omega), if_pos (by omega), rd_at l i hi, if_neg h1, if_neg h2, wsucc i (by omega)]) (ih (i + 1) (by omega))
theorem right_ev (m : Int) (l : List Int) (hl : l.length ≤ 2000000) : Ev (fun k => barscanref33_right.f k l m) (if withinL l m = true then 0 else 3) := right_loop m l hl l.length 0 rfl
theorem ints_loop (a b : List Int) (hl : a.length ≤ 2000000) (he : a.length = b.length) : ∀ n i, n + i = a.length → Ev (fun k => barscanref01_Ints.l0 k a b (i : Int)) (decide (a.drop i = b.drop i)) := by
  intro n
  induction n with
  | zero =>
    intro i h
    rw [List.drop_eq_nil_of_le (by omega), List.drop_eq_nil_of_le (by omega)]
    exact Ev.step (f := fun _ => some true) (fun k => by rw [barscanref01_Ints.l0, if_neg (by omega)]) (Ev.now _)
  | succ n ih =>
    intro i h
    have hi : i < a.length := by omega
    have hj : i < b.length := by omega
    have da := List.drop_eq_getElem_cons hi
    have db := List.drop_eq_getElem_cons hj
    rw [da, db]
    clear da db
    by_cases h1 : a[i] = b[i]
    · have e : decide (a[i] :: a.drop (i + 1) = b[i] :: b.drop (i + 1)) = decide (a.drop (i + 1) = b.drop (i + 1)) := by apply decide_eq_decide.2; rw [List.cons.injEq]; exact ⟨fun h => h.2, fun h => ⟨h1, h⟩⟩
      rw [e]
      exact Ev.step (fun k => by rw [barscanref01_Ints.l0, if_pos (by omega), if_pos (by omega), if_pos (by omega), rd_at a i hi, rd_at b i hj, if_pos h1, wsucc i (by omega)]) (ih (i + 1) (by omega))
    · have e : decide (a[i] :: a.drop (i + 1) = b[i] :: b.drop (i + 1)) = false := decide_eq_false (by rw [List.cons.injEq]; exact fun h => h1 h.1)
      rw [e]
      exact Ev.step (f := fun _ => some false) (fun k => by rw [barscanref01_Ints.l0, if_pos (by omega), if_pos (by omega), if_pos (by omega), rd_at a i hi, rd_at b i hj, if_neg h1]) (Ev.now _)
theorem ints_ev (a b : List Int) (hl : a.length ≤ 2000000) : Ev (fun k => barscanref01_Ints.f k a b) (decide (a = b)) := by
  by_cases he : a.length = b.length
  · exact Ev.congr (fun k => by rw [barscanref01_Ints.f, if_pos (by omega)]; rfl) (ints_loop a b hl he a.length 0 rfl)
  · have e : decide (a = b) = false := decide_eq_false (fun h => he (by rw [h]))
    rw [e]
    exact Ev.congr (f := fun _ => some false) (fun k => by rw [barscanref01_Ints.f, if_neg (by omega)]) (Ev.now _)
theorem ints_same (a : List Int) (hl : a.length ≤ 2000000) : Ev (fun k => barscanref01_Ints.f k a a) true := by
  have := ints_ev a a hl
  simpa using this

/-! ### check, Kraft, Check -/
def checkL (l : List Int) : Int := if 4096 < l.length then 4 else if withinL l 30 = true then 0 else 3
theorem long_eq (l : List Int) : prefix_long.f l = some (decide (4096 < l.length)) := by
  show some (decide ((l.length : Int) > 4096)) = _
  congr 1
  apply decide_eq_decide.2
  omega
theorem check_ev (l : List Int) : Ev (fun k => prefix_check.f k l) (checkL l) := by
  unfold checkL
  by_cases h : 4096 < l.length
  · rw [if_pos h]
    exact Ev.congr (f := fun _ => some 4) (fun k => by simp [prefix_check.f, long_eq, h]) (Ev.now _)
  · rw [if_neg h]
    refine Ev.congr (f := fun k => (prefix_within.f k l 30).bind fun t105 => (if t105 = true then (some 0) else (some 3))) (fun k => by simp [prefix_check.f, long_eq, h]) ?_
    refine Ev.bind (within_ev 30 l (by omega)) ?_
    by_cases h2 : withinL l 30 = true
    · rw [h2]; exact Ev.now _
    · rw [Bool.not_eq_true] at h2; rw [h2]; exact Ev.now _
theorem checkR_ev (l : List Int) : Ev (fun k => barscanref33_check.f k l) (checkL l) := by
  unfold checkL
  by_cases h : 4096 < l.length
  · rw [if_pos h]
    exact Ev.congr (f := fun _ => some 4) (fun k => by rw [barscanref33_check.f, if_pos (by omega)]) (Ev.now _)
  · rw [if_neg h]
    refine Ev.congr (f := fun k => (barscanref33_right.f k l 30).bind fun t => some t) (fun k => by rw [barscanref33_check.f, if_neg (by omega)]) ?_
    exact Ev.bind (right_ev 30 l (by omega)) (Ev.now _)
/-- The Kraft sum times 2^30. -/
def kraftS : List Int → Int
  | [] => 0
  | x :: r => (if 0 < x then 2 ^ (30 - x).toNat else 0) + kraftS r
theorem kraftS_bound : ∀ l : List Int, 0 ≤ kraftS l ∧ kraftS l ≤ l.length * 1073741824 := by
  intro l
  induction l with
  | nil => simp [kraftS]
  | cons x r ih =>
    rw [kraftS, List.length_cons]
    have : (0 : Int) ≤ (if 0 < x then 2 ^ (30 - x).toNat else 0) ∧ (if 0 < x then (2 : Int) ^ (30 - x).toNat else 0) ≤ 1073741824 := by
      by_cases h : 0 < x
      · rw [if_pos h]; have := pow30 (30 - x).toNat (by omega); omega
      · rw [if_neg h]; omega
    generalize (if 0 < x then (2 : Int) ^ (30 - x).toNat else 0) = y at *
    push_cast
    omega
theorem kraft_loop (l : List Int) (hl : l.length ≤ 4096) (hw : withinL l 30 = true) : ∀ (n i : Nat) (a : Int), n + i = l.length → 0 ≤ a → a ≤ i * 1073741824 → Ev (fun k => prefix_kraft.l0 k a l (l.length : Int) (i : Int)) (a + kraftS (l.drop i)) := by
  intro n
  induction n with
  | zero =>
    intro i a h h0 h1
    rw [List.drop_eq_nil_of_le (by omega), kraftS, Int.add_zero]
    exact Ev.step (f := fun _ => some a) (fun k => by rw [prefix_kraft.l0, if_neg (by omega)]) (Ev.now _)
  | succ n ih =>
    intro i a h h0 h1
    have hi : i < l.length := by omega
    obtain ⟨p, q⟩ := withinL_mem hw i hi
    rw [List.drop_eq_getElem_cons hi, kraftS]
    by_cases h2 : 0 < l[i]
    · rw [if_pos h2, ← Int.add_assoc]
      have hp := pow30 (30 - l[i]).toNat (by omega)
      refine Ev.step (fun k => ?_) (ih (i + 1) (a + 2 ^ (30 - l[i]).toNat) (by omega) (by omega) (by omega))
      rw [prefix_kraft.l0, if_pos (by omega), if_pos (by omega), if_pos (by omega), rd_at l i hi, if_pos h2, if_pos (u64_nonneg _), wsucc i (by omega), wr (30 - l[i]) (by omega) (by omega), shl_one _ (by omega) (by omega), wr _ (by omega) (by omega)]
    · rw [if_neg h2, Int.zero_add]
      refine Ev.step (fun k => ?_) (ih (i + 1) a (by omega) (by omega) (by omega))
      rw [prefix_kraft.l0, if_pos (by omega), if_pos (by omega), if_pos (by omega), rd_at l i hi, if_neg h2, wsucc i (by omega)]
theorem kraft_ev (l : List Int) (hl : l.length ≤ 4096) (hw : withinL l 30 = true) : Ev (fun k => prefix_kraft.f k l) (kraftS l) := by
  have := kraft_loop l hl hw l.length 0 0 rfl (by omega) (by omega)
  rw [Int.zero_add] at this
  exact this
theorem kraftR_loop (l : List Int) (hl : l.length ≤ 4096) (hw : withinL l 30 = true) : ∀ (n i : Nat) (a : Int), n + i = l.length → 0 ≤ a → a ≤ i * 1073741824 → Ev (fun k => barscanref33_Kraft.l0 k l a (i : Int)) (a + kraftS (l.drop i)) := by
  intro n
  induction n with
  | zero =>
    intro i a h h0 h1
    rw [List.drop_eq_nil_of_le (by omega), kraftS, Int.add_zero]
    exact Ev.step (f := fun _ => some a) (fun k => by rw [barscanref33_Kraft.l0, if_neg (by omega)]) (Ev.now _)
  | succ n ih =>
    intro i a h h0 h1
    have hi : i < l.length := by omega
    obtain ⟨p, q⟩ := withinL_mem hw i hi
    rw [List.drop_eq_getElem_cons hi, kraftS]
    by_cases h2 : 0 < l[i]
    · rw [if_pos h2, ← Int.add_assoc]
      have hp := pow30 (30 - l[i]).toNat (by omega)
      refine Ev.step (fun k => ?_) (ih (i + 1) (a + 2 ^ (30 - l[i]).toNat) (by omega) (by omega) (by omega))
      rw [barscanref33_Kraft.l0, if_pos (by omega), if_pos (by omega), rd_at l i hi, if_pos h2, if_pos (u64_nonneg _), wsucc i (by omega), wr (30 - l[i]) (by omega) (by omega), shl_one _ (by omega) (by omega), wr _ (by omega) (by omega)]
    · rw [if_neg h2, Int.zero_add]
      refine Ev.step (fun k => ?_) (ih (i + 1) a (by omega) (by omega) (by omega))
      rw [barscanref33_Kraft.l0, if_pos (by omega), if_pos (by omega), rd_at l i hi, if_neg h2, wsucc i (by omega)]
theorem kraftR_ev (l : List Int) (hl : l.length ≤ 4096) (hw : withinL l 30 = true) : Ev (fun k => barscanref33_Kraft.f k l) (kraftS l) := by
  have := kraftR_loop l hl hw l.length 0 0 rfl (by omega) (by omega)
  rw [Int.zero_add] at this
  exact this
theorem checkL_zero {l : List Int} (h : checkL l = 0) : l.length ≤ 4096 ∧ withinL l 30 = true := by
  unfold checkL at h
  split at h
  · omega
  · split at h
    · exact ⟨by omega, by assumption⟩
    · omega
def CheckL (l : List Int) : Int := if checkL l = 0 then (if kraftS l = 0 then 5 else if kraftS l = 1073741824 then 0 else 27) else checkL l
theorem ite_some {α : Type} {c : Prop} [Decidable c] (a b : α) : (if c then some a else some b) = some (if c then a else b) := by split <;> rfl
theorem Check_ev (l : List Int) : Ev (fun k => prefix_Check.f k l) (CheckL l) := by
  refine Ev.bind (check_ev l) ?_
  unfold CheckL
  by_cases h : checkL l = 0
  · simp only [if_pos h]
    obtain ⟨h1, h2⟩ := checkL_zero h
    refine Ev.bind (kraft_ev l h1 h2) ?_
    simp only [ite_some]
    exact Ev.now _
  · simp only [if_neg h]
    exact Ev.now _
theorem CheckR_ev (l : List Int) : Ev (fun k => barscanref33_Check.f k l) (CheckL l) := by
  refine Ev.bind (checkR_ev l) ?_
  unfold CheckL
  by_cases h : checkL l = 0
  · simp only [if_pos h]
    obtain ⟨h1, h2⟩ := checkL_zero h
    refine Ev.bind (kraftR_ev l h1 h2) ?_
    simp only [ite_some]
    exact Ev.now _
  · simp only [if_neg h]
    exact Ev.now _

/-! ### Cost -/
def costS : List Int → List Int → Int
  | x :: r, y :: s => x * y + costS r s
  | _, _ => 0
def costL (f l : List Int) : Int × Int :=
  if 4096 < f.length ∨ 4096 < l.length then (0, 4)
  else if withinL f 1099511627776 = false ∨ withinL l 30 = false then (0, 3)
  else if f.length ≠ l.length then (0, 7)
  else (costS f l, 0)
theorem mul_bound (x y : Int) (h0 : 0 ≤ x) (h1 : x ≤ 1099511627776) (h2 : 0 ≤ y) (h3 : y ≤ 30) : 0 ≤ x * y ∧ x * y ≤ 32985348833280 := by
  refine ⟨Int.mul_nonneg h0 h2, ?_⟩
  have := Int.mul_le_mul h1 h3 h2 (by decide)
  omega
theorem cost_loop (f l : List Int) (hl : f.length ≤ 4096) (he : f.length = l.length) (hf : withinL f 1099511627776 = true) (hw : withinL l 30 = true) : ∀ (n i : Nat) (a : Int), n + i = f.length → 0 ≤ a → a ≤ i * 32985348833280 → Ev (fun k => prefix_Cost.l0 k l a f (f.length : Int) (i : Int)) (a + costS (f.drop i) (l.drop i), 0) := by
  intro n
  induction n with
  | zero =>
    intro i a h h0 h1
    rw [List.drop_eq_nil_of_le (by omega), costS, Int.add_zero]
    · exact Ev.step (f := fun _ => some (a, 0)) (fun k => by rw [prefix_Cost.l0, if_neg (by omega)]) (Ev.now _)
    · intros; simp_all
  | succ n ih =>
    intro i a h h0 h1
    have hi : i < f.length := by omega
    have hj : i < l.length := by omega
    obtain ⟨p, q⟩ := withinL_mem hf i hi
    obtain ⟨p', q'⟩ := withinL_mem hw i hj
    obtain ⟨b0, b1⟩ := mul_bound _ _ p q p' q'
    rw [List.drop_eq_getElem_cons hi, List.drop_eq_getElem_cons hj, costS, ← Int.add_assoc]
    refine Ev.step (fun k => ?_) (ih (i + 1) (a + f[i] * l[i]) (by omega) (by omega) (by omega))
    rw [prefix_Cost.l0, if_pos (by omega), if_pos (by omega), if_pos (by omega), if_pos (by omega), rd_at f i hi, rd_at l i hj, wsucc i (by omega), wr (f[i] * l[i]) (by omega) (by omega), wr _ (by omega) (by omega)]
theorem costR_loop (f l : List Int) (hl : f.length ≤ 4096) (he : f.length = l.length) (hf : withinL f 1099511627776 = true) (hw : withinL l 30 = true) : ∀ (n i : Nat) (a : Int), n + i = f.length → 0 ≤ a → a ≤ i * 32985348833280 → Ev (fun k => barscanref33_Cost.l0 k f l a (i : Int)) (a + costS (f.drop i) (l.drop i), 0) := by
  intro n
  induction n with
  | zero =>
    intro i a h h0 h1
    rw [List.drop_eq_nil_of_le (by omega), costS, Int.add_zero]
    · exact Ev.step (f := fun _ => some (a, 0)) (fun k => by rw [barscanref33_Cost.l0, if_neg (by omega)]) (Ev.now _)
    · intros; simp_all
  | succ n ih =>
    intro i a h h0 h1
    have hi : i < f.length := by omega
    have hj : i < l.length := by omega
    obtain ⟨p, q⟩ := withinL_mem hf i hi
    obtain ⟨p', q'⟩ := withinL_mem hw i hj
    obtain ⟨b0, b1⟩ := mul_bound _ _ p q p' q'
    rw [List.drop_eq_getElem_cons hi, List.drop_eq_getElem_cons hj, costS, ← Int.add_assoc]
    refine Ev.step (fun k => ?_) (ih (i + 1) (a + f[i] * l[i]) (by omega) (by omega) (by omega))
    rw [barscanref33_Cost.l0, if_pos (by omega), if_pos (by omega), if_pos (by omega), rd_at f i hi, rd_at l i hj, wsucc i (by omega), wr (f[i] * l[i]) (by omega) (by omega), wr _ (by omega) (by omega)]
theorem cost_j1 (f l : List Int) (h1 : f.length ≤ 4096) (h2 : l.length ≤ 4096) (hf : withinL f 1099511627776 = true) (hw : withinL l 30 = true) : Ev (fun k => prefix_Cost.j1 k f l false) (costL f l) := by
  unfold costL
  rw [if_neg (by omega), if_neg (by rw [hf, hw]; simp)]
  by_cases he : f.length = l.length
  · rw [if_neg (by omega)]
    have := cost_loop f l h1 he hf hw f.length 0 0 rfl (by omega) (by omega)
    rw [Int.zero_add] at this
    exact Ev.step (fun k => by rw [prefix_Cost.j1, if_neg (by decide), if_pos (by omega)]; rfl) this
  · rw [if_pos he]
    exact Ev.step (f := fun _ => some (0, 7)) (fun k => by rw [prefix_Cost.j1, if_neg (by decide), if_neg (by omega)]) (Ev.now _)
theorem costR_j1 (f l : List Int) (h1 : f.length ≤ 4096) (h2 : l.length ≤ 4096) (hf : withinL f 1099511627776 = true) (hw : withinL l 30 = true) : Ev (fun k => barscanref33_Cost.j1 k f l false) (costL f l) := by
  unfold costL
  rw [if_neg (by omega), if_neg (by rw [hf, hw]; simp)]
  by_cases he : f.length = l.length
  · rw [if_neg (by omega)]
    have := costR_loop f l h1 he hf hw f.length 0 0 rfl (by omega) (by omega)
    rw [Int.zero_add] at this
    exact Ev.step (fun k => by rw [barscanref33_Cost.j1, if_neg (by decide), if_pos (by omega)]; rfl) this
  · rw [if_pos he]
    exact Ev.step (f := fun _ => some (0, 7)) (fun k => by rw [barscanref33_Cost.j1, if_neg (by decide), if_neg (by omega)]) (Ev.now _)
theorem cost_ev (f l : List Int) : Ev (fun k => prefix_Cost.f k f l) (costL f l) := by
  by_cases h : 4096 < f.length ∨ 4096 < l.length
  · have e : costL f l = (0, 4) := by unfold costL; rw [if_pos h]
    rw [e]
    have hj : Ev (fun k => prefix_Cost.j0 k f l true) (0, 4) := Ev.step (f := fun _ => some (0, 4)) (fun k => by rw [prefix_Cost.j0, if_pos rfl]) (Ev.now _)
    refine Ev.congr (fun k => ?_) hj
    by_cases h1 : 4096 < f.length
    · simp [prefix_Cost.f, long_eq, h1]
    · have h2 : 4096 < l.length := by omega
      simp [prefix_Cost.f, long_eq, h1, h2]
  · have h1 : ¬ 4096 < f.length := fun x => h (.inl x)
    have h2 : ¬ 4096 < l.length := fun x => h (.inr x)
    refine Ev.congr (f := fun k => prefix_Cost.j0 k f l false) (fun k => by simp [prefix_Cost.f, long_eq, h1, h2]) ?_
    refine Ev.step (fun k => by rw [prefix_Cost.j0, if_neg (by decide)]) ?_
    refine Ev.bind (within_ev _ f (by omega)) ?_
    have no (hn : withinL f 1099511627776 = false ∨ withinL l 30 = false) : Ev (fun k => prefix_Cost.j1 k f l true) (costL f l) := by
      have e : costL f l = (0, 3) := by unfold costL; rw [if_neg h, if_pos hn]
      rw [e]
      exact Ev.step (f := fun _ => some (0, 3)) (fun k => by rw [prefix_Cost.j1, if_pos rfl]) (Ev.now _)
    by_cases hf : withinL f 1099511627776 = true
    · simp only [hf, if_pos]
      refine Ev.bind (within_ev _ l (by omega)) ?_
      by_cases hw : withinL l 30 = true
      · rw [hw]; exact cost_j1 f l (by omega) (by omega) hf hw
      · rw [Bool.not_eq_true] at hw
        rw [hw]; exact no (.inr hw)
    · rw [Bool.not_eq_true] at hf
      simp only [hf]
      exact no (.inl hf)
theorem costR_ev (f l : List Int) : Ev (fun k => barscanref33_Cost.f k f l) (costL f l) := by
  by_cases h : 4096 < f.length ∨ 4096 < l.length
  · have e : costL f l = (0, 4) := by unfold costL; rw [if_pos h]
    rw [e]
    have hj : Ev (fun k => barscanref33_Cost.j0 k f l true) (0, 4) := Ev.step (f := fun _ => some (0, 4)) (fun k => by rw [barscanref33_Cost.j0, if_pos rfl]) (Ev.now _)
    refine Ev.congr (fun k => ?_) hj
    by_cases h1 : 4096 < f.length
    · rw [barscanref33_Cost.f, if_pos (by omega)]
    · have h2 : 4096 < l.length := by omega
      rw [barscanref33_Cost.f, if_neg (by omega), decide_eq_true (by omega)]
  · have h1 : ¬ 4096 < f.length := fun x => h (.inl x)
    have h2 : ¬ 4096 < l.length := fun x => h (.inr x)
    refine Ev.congr (f := fun k => barscanref33_Cost.j0 k f l false) (fun k => by rw [barscanref33_Cost.f, if_neg (by omega), decide_eq_false (by omega)]) ?_
    refine Ev.step (fun k => by rw [barscanref33_Cost.j0, if_neg (by decide)]) ?_
    refine Ev.bind (right_ev _ f (by omega)) ?_
    have no (hn : withinL f 1099511627776 = false ∨ withinL l 30 = false) : Ev (fun k => barscanref33_Cost.j1 k f l true) (costL f l) := by
      have e : costL f l = (0, 3) := by unfold costL; rw [if_neg h, if_pos hn]
      rw [e]
      exact Ev.step (f := fun _ => some (0, 3)) (fun k => by rw [barscanref33_Cost.j1, if_pos rfl]) (Ev.now _)
    by_cases hf : withinL f 1099511627776 = true
    · simp only [hf, if_pos]
      refine Ev.bind (right_ev _ l (by omega)) ?_
      by_cases hw : withinL l 30 = true
      · rw [hw]; exact costR_j1 f l (by omega) (by omega) hf hw
      · rw [Bool.not_eq_true] at hw
        rw [hw]; exact no (.inr hw)
    · rw [Bool.not_eq_true] at hf
      simp only [hf]
      exact no (.inl hf)
end Go.Proofs.Ytldhpniflnbilaa.Pure
