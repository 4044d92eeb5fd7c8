/- No canonical code is the beginning of another one, and they ascend: plain facts. -/
import Derived.Test.YtldhpniflnbilaaQ3
set_option linter.unusedVariables false
set_option linter.unusedSimpArgs false
set_option linter.unusedSectionVars false
namespace Go.Proofs.Ytldhpniflnbilaa.Pure
open Go.RowKit Go.Proofs.Ytldhpniflnbilaa.P33 Go.Proofs.YtldhpniflnbilaaW.PrintWords Go.Proofs.YtldhpniflnbilaaW.PrintLast Go.Proofs.YtldhpniflnbilaaW.PrintMore

theorem codesL_at (l : List Int) (i : Nat) (h : i < l.length) : rd (codesL l) (i : Int) = if 0 < l[i] then codeAt l i else 0 := by
  rw [rd_at _ i (by rw [codesL_length]; exact h)]
  simp only [codesL, List.getElem_map, List.getElem_range, getD_at l i h]
theorem codeAt_eq (l : List Int) (i n : Nat) (h : i < l.length) (hn : l[i] = ((n + 1 : Nat) : Int)) : codeAt l i = 2 * (firstN l n : Int) + ((l.take i).count ((n + 1 : Nat) : Int) : Int) := by
  unfold codeAt
  rw [getD_at l i h, hn, Int.toNat_natCast, Nat.add_sub_cancel]
theorem codeAt_lt (l : List Int) (i n : Nat) (h : i < l.length) (hn : l[i] = ((n + 1 : Nat) : Int)) : codeAt l i + 1 ≤ (firstN l (n + 1) : Int) := by
  rw [codeAt_eq l i n h hn, firstN]
  have h1 := count_take_succ l i h ((n + 1 : Nat) : Int)
  rw [if_pos hn] at h1
  have h2 : (l.take (i + 1)).count ((n + 1 : Nat) : Int) ≤ l.count ((n + 1 : Nat) : Int) := (List.take_sublist _ _).count_le _
  generalize hx : ((n + 1 : Nat) : Int) = x at *
  push_cast
  omega
theorem codeAt_nonneg (l : List Int) (i : Nat) : 0 ≤ codeAt l i := by unfold codeAt; omega
theorem firstN_grow (l : List Int) (n d : Nat) : firstN l n * 2 ^ d ≤ firstN l (n + d) := by
  induction d with
  | zero => simp
  | succ d ih =>
    rw [← Nat.add_assoc, firstN, Nat.pow_succ, ← Nat.mul_assoc]
    omega
theorem codeAt_same (l : List Int) (i j : Nat) (hij : i < j) (hj : j < l.length) (hp : 0 < l[i]) (h : l[i] = l[j]) : codeAt l i < codeAt l j := by
  obtain ⟨n, hn⟩ : ∃ n : Nat, l[i] = ((n + 1 : Nat) : Int) := ⟨l[i].toNat - 1, by omega⟩
  rw [codeAt_eq l i n (by omega) hn, codeAt_eq l j n hj (h ▸ hn)]
  have h1 := count_take_succ l i (by omega) ((n + 1 : Nat) : Int)
  rw [if_pos hn] at h1
  have h2 : (l.take (i + 1)).count ((n + 1 : Nat) : Int) ≤ (l.take j).count ((n + 1 : Nat) : Int) := by
    apply List.Sublist.count_le
    rw [show l.take (i + 1) = (l.take j).take (i + 1) by rw [List.take_take, Nat.min_eq_left (by omega)]]
    exact List.take_sublist _ _
  omega
theorem codeAt_less (l : List Int) (i j : Nat) (hi : i < l.length) (hj : j < l.length) (hp : 0 < l[i]) (h : l[i] < l[j]) : (codeAt l i + 1) * 2 ^ (l[j] - l[i]).toNat ≤ codeAt l j := by
  obtain ⟨n, hn⟩ : ∃ n : Nat, l[i] = ((n + 1 : Nat) : Int) := ⟨l[i].toNat - 1, by omega⟩
  obtain ⟨d, hd⟩ : ∃ d : Nat, l[j] = ((n + 1 + d + 1 : Nat) : Int) := ⟨(l[j] - l[i]).toNat - 1, by omega⟩
  have e : (l[j] - l[i]).toNat = d + 1 := by omega
  rw [e, codeAt_eq l j (n + 1 + d) hj hd]
  have h1 := codeAt_lt l i n hi hn
  have h2 := firstN_grow l (n + 1) d
  have h3 : ((firstN l (n + 1) * 2 ^ d : Nat) : Int) ≤ (firstN l (n + 1 + d) : Int) := by exact_mod_cast h2
  have h4 : (codeAt l i + 1) * 2 ^ (d + 1) ≤ (firstN l (n + 1) : Int) * 2 ^ (d + 1) := Int.mul_le_mul_of_nonneg_right h1 (by have : (0 : Int) ≤ ((2 ^ (d + 1) : Nat) : Int) := Int.natCast_nonneg _; simpa using this)
  have h5 : (firstN l (n + 1) : Int) * 2 ^ (d + 1) = 2 * ((firstN l (n + 1) * 2 ^ d : Nat) : Int) := by
    rw [Int.pow_succ]; push_cast; rw [← Int.mul_assoc]; omega
  rw [h5] at h4
  omega
/-- What the front of a code is to another code. -/
theorem front_facts (l : List Int) (i j : Nat) (hi : i < l.length) (hj : j < l.length) (hij : i ≠ j) (hp : 0 < l[i]) (h : l[i] ≤ l[j]) :
    codeAt l j / 2 ^ (l[j] - l[i]).toNat ≠ codeAt l i ∧ (codeAt l j / 2 ^ (l[j] - l[i]).toNat < codeAt l i ↔ l[j] = l[i] ∧ j < i) := by
  by_cases he : l[j] = l[i]
  · have e : (l[j] - l[i]).toNat = 0 := by omega
    rw [e, Int.pow_zero, Int.ediv_one]
    rcases Nat.lt_or_gt_of_ne hij with hlt | hlt
    · have := codeAt_same l i j hlt hj hp he.symm
      omega
    · have := codeAt_same l j i hlt hi (by omega) he
      omega
  · have h1 := codeAt_less l i j hi hj hp (by omega)
    have hpos : (0 : Int) < 2 ^ (l[j] - l[i]).toNat := by have : (0 : Int) < ((2 ^ (l[j] - l[i]).toNat : Nat) : Int) := by exact_mod_cast Nat.two_pow_pos _
                                                          simpa using this
    have h2 := (Int.le_ediv_iff_mul_le hpos).2 h1
    omega
theorem codeAt_pow (l : List Int) (hk : kraftS l ≤ 1073741824) (hw : withinL l 30 = true) (i : Nat) (hi : i < l.length) (hp : 0 < l[i]) : codeAt l i < 2 ^ l[i].toNat := by
  obtain ⟨n, hn⟩ : ∃ n : Nat, l[i] = ((n + 1 : Nat) : Int) := ⟨l[i].toNat - 1, by omega⟩
  have h1 := codeAt_lt l i n hi hn
  have h2 := withinL_mem hw i hi
  have h3 := firstN_le l hk (n + 1) (by omega)
  have e : l[i].toNat = n + 1 := by omega
  rw [e]
  have h4 : (firstN l (n + 1) : Int) ≤ ((2 ^ (n + 1) : Nat) : Int) := by exact_mod_cast h3
  simp only [Int.natCast_pow] at h4
  have e2 : ((2 : Nat) : Int) = 2 := rfl
  rw [e2] at h4
  omega
end Go.Proofs.Ytldhpniflnbilaa.Pure
