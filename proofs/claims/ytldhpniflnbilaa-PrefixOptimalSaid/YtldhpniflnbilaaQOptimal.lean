/- PrefixOptimal: no other prefix code within the bound costs less than that of prefix.Lengths. -/
import Derived.Test.YtldhpniflnbilaaQ8
import Derived.Test.YtldhpniflnbilaaP33x31
set_option linter.unusedVariables false
set_option linter.unusedSimpArgs false
set_option linter.unusedSectionVars false
namespace Go.Proofs.Ytldhpniflnbilaa.Pure
open Go.RowKit Go.Proofs.Ytldhpniflnbilaa.P33 Go.Proofs.Ytldhpniflnbilaa Go.Proofs.YtldhpniflnbilaaW.PrintWords Go.Proofs.YtldhpniflnbilaaW.PrintLast Go.Proofs.YtldhpniflnbilaaW.PrintMore

theorem withinL_of {l : List Int} {m : Int} (h : ∀ i (hi : i < l.length), 0 ≤ l[i] ∧ l[i] ≤ m) : withinL l m = true := by
  refine List.all_eq_true.2 fun x hx => ?_
  obtain ⟨i, hi, rfl⟩ := List.getElem_of_mem hx
  have := h i hi
  simp only [Bool.and_eq_true, decide_eq_true_eq]
  exact this
section
variable (l : List Int) (m : Nat) (q : List Int) (hl : l.length ≤ 200) (hw : withinL l 1099511627776 = true) (hm1 : 1 ≤ m) (hm2 : m ≤ 30) (hg : Good l m q)
include hl hw hm2 hg
theorem opt_within : withinL q 30 = true := withinL_of fun i hi => by
  have := hg.bound i (by have := hg.len; omega)
  rw [wOf_at q i hi] at this
  omega
theorem opt_l1 (o : List Int) (ho : o.length = l.length) : ∀ d i, d + i = l.length → (∀ j (hj : j < l.length), j < i → 0 ≤ wOf o (j : Int) ∧ wOf o (j : Int) ≤ m ∧ (0 < l[j] → 0 < wOf o (j : Int))) →
    Ev (fun k => barscanlaw33_PrefixOptimal.l1 k l (m : Int) o (costS l q) (o.length : Int) (i : Int)) true := by
  intro d
  induction d with
  | zero =>
    intro i hd hgood
    have ow : withinL o 30 = true := withinL_of fun j hj => by
      have := hgood j (by omega) (by omega)
      rw [wOf_at o j hj] at this
      omega
    refine Ev.step (fun k => by rw [barscanlaw33_PrefixOptimal.l1, if_neg (by omega)]) ?_
    refine Ev.bind (cost_ev l o) ?_
    refine Ev.bind (kraftR_ev o (by omega) ow) ?_
    have hc : costL l o = (costS l o, 0) := by
      unfold costL
      rw [if_neg (by omega), if_neg (by rw [hw, ow]; simp), if_neg (by omega)]
    rw [hc]
    by_cases hk : kraftS o > 1073741824
    · simp only [if_pos hk]
      exact alive_end
    · have := hg.best o ho (fun j hj => hgood j hj (by omega)) (by omega)
      simp only [if_neg hk, if_pos, if_pos this]
      exact alive_end
  | succ d ih =>
    intro i hd hgood
    have hi : i < l.length := by omega
    have hj : i < o.length := by omega
    have er := rd_at o i hj
    have el := rd_at l i hi
    by_cases h1 : o[i] < 0
    · exact Ev.step (fun k => by rw [barscanlaw33_PrefixOptimal.l1, if_pos (by omega), if_pos (by omega), if_pos (by omega), er, if_pos h1]) alive_end
    by_cases h2 : o[i] > (m : Int)
    · exact Ev.step (fun k => by rw [barscanlaw33_PrefixOptimal.l1, if_pos (by omega), if_pos (by omega), if_pos (by omega), er, if_neg h1, if_pos h2]) alive_end
    by_cases h3 : l[i] > 0
    · by_cases h4 : o[i] = 0
      · exact Ev.step (fun k => by rw [barscanlaw33_PrefixOptimal.l1, if_pos (by omega), if_pos (by omega), if_pos (by omega), er, if_neg h1, if_neg h2, if_pos (by omega), el, if_pos h3, if_pos h4]) alive_end
      · refine Ev.step (fun k => by rw [barscanlaw33_PrefixOptimal.l1, if_pos (by omega), if_pos (by omega), if_pos (by omega), er, if_neg h1, if_neg h2, if_pos (by omega), el, if_pos h3, if_neg h4, wsucc i (by omega)]) (ih (i + 1) (by omega) (fun j hj' hji => ?_))
        by_cases e : j = i
        · subst e; rw [wOf_at o j hj]; omega
        · exact hgood j hj' (by omega)
    · refine Ev.step (fun k => by rw [barscanlaw33_PrefixOptimal.l1, if_pos (by omega), if_pos (by omega), if_pos (by omega), er, if_neg h1, if_neg h2, if_pos (by omega), el, if_neg h3, wsucc i (by omega)]) (ih (i + 1) (by omega) (fun j hj' hji => ?_))
      by_cases e : j = i
      · subst e; rw [wOf_at o j hj]; omega
      · exact hgood j hj' (by omega)
theorem opt_j2 (o : List Int) : Ev (fun k => barscanlaw33_PrefixOptimal.j2 k l (m : Int) o q false) true := by
  have hlen := hg.len
  have qw := opt_within l m q hl hw hm2 hg
  refine Ev.step (fun k => by rw [barscanlaw33_PrefixOptimal.j2, if_neg (by decide)]) ?_
  refine Ev.bind (cost_ev l q) ?_
  have hc : costL l q = (costS l q, 0) := by
    unfold costL
    rw [if_neg (by omega), if_neg (by rw [hw, qw]; simp), if_neg (by omega)]
  rw [hc]
  simp only [if_pos]
  by_cases ho : o.length = l.length
  · have := opt_l1 l m q hl hw hm2 hg o ho l.length 0 rfl (fun j _ h => absurd h (by omega))
    exact Ev.congr (fun k => by rw [if_pos (by omega)]; rfl) this
  · exact Ev.congr (fun k => by rw [if_neg (by omega)]) alive_end
theorem opt_end (o : List Int) (u : Nat) (hu : u = (sing l).length) : Ev (fun k => (barscanref33_Kraft.f k q).bind fun t401 => (if (u : Int) ≥ 2 then (if t401 = 1073741824 then ((prefix_Check.f k q).bind fun t402 => (if t402 = 0 then (if (u : Int) = 1 then (barscanlaw33_PrefixOptimal.j2 k l (m : Int) o q (t401 != 536870912)) else (barscanlaw33_PrefixOptimal.j2 k l (m : Int) o q false)) else (barscanlaw33_PrefixOptimal.j2 k l (m : Int) o q true))) else (barscanlaw33_PrefixOptimal.j2 k l (m : Int) o q true)) else (if (u : Int) = 1 then (barscanlaw33_PrefixOptimal.j2 k l (m : Int) o q (t401 != 536870912)) else (barscanlaw33_PrefixOptimal.j2 k l (m : Int) o q false)))) true := by
  have hlen := hg.len
  have qw := opt_within l m q hl hw hm2 hg
  have j2 := opt_j2 l m q hl hw hm2 hg o
  refine Ev.bind (kraftR_ev q (by omega) qw) ?_
  by_cases h2 : (u : Int) ≥ 2
  · have hk := hg.kraft2 (by omega)
    simp only [if_pos h2, hk, if_pos]
    refine Ev.bind (Check_ev q) ?_
    have hC : CheckL q = 0 := by
      have hc : checkL q = 0 := by unfold checkL; rw [if_neg (by omega), if_pos qw]
      unfold CheckL
      rw [if_pos hc, hk, if_neg (by decide), if_pos rfl]
    rw [hC]
    exact Ev.congr (fun k => by rw [if_pos rfl, if_neg (by omega)]) j2
  · by_cases h1 : (u : Int) = 1
    · have hk := hg.kraft1 (by omega)
      rw [hk]
      exact Ev.congr (fun k => by rw [if_neg h2, if_pos h1]; rfl) j2
    · exact Ev.congr (fun k => by rw [if_neg h2, if_neg h1]) j2
theorem opt_l0 (o : List Int) : ∀ d i u, d + i = l.length → u + (leafs (l.drop i) i).length = (sing l).length → u ≤ i → Ev (fun k => barscanlaw33_PrefixOptimal.l0 k l (m : Int) o q (u : Int) (q.length : Int) (i : Int)) true := by
  have hlen := hg.len
  intro d
  induction d with
  | zero =>
    intro i u hd hu _
    rw [List.drop_eq_nil_of_le (by omega), leafs] at hu
    exact Ev.step (fun k => by rw [barscanlaw33_PrefixOptimal.l0, if_neg (by omega)]) (opt_end l m q hl hw hm2 hg o u (by simpa using hu))
  | succ d ih =>
    intro i u hd hu hui
    have hi : i < l.length := by omega
    have hj : i < q.length := by omega
    have er := rd_at q i hj
    have el := rd_at l i hi
    have hs := hg.sign i hi
    have hb := hg.bound i hi
    rw [wOf_at q i hj] at hs hb
    rw [leafs_step l i i hi, el] at hu
    have same : (decide (q[i] > 0) != decide (l[i] > 0)) = false := by
      rw [bne_eq_false_iff_eq]
      exact decide_eq_decide.2 ⟨fun h => hs.2 h, fun h => hs.1 h⟩
    have no (k : Nat) : barscanlaw33_PrefixOptimal.l0 (k + 1) l (m : Int) o q (u : Int) (q.length : Int) (i : Int) = barscanlaw33_PrefixOptimal.j1 k l (m : Int) o q (u : Int) (i : Int) (q.length : Int) (i : Int) false := by
      rw [barscanlaw33_PrefixOptimal.l0, if_pos (by omega), if_pos (by omega), if_pos (by omega), if_pos (by omega), er, el, same, if_neg (by decide), if_neg (by omega), decide_eq_false (by omega)]
    refine Ev.step no ?_
    by_cases hp : 0 < l[i]
    · rw [if_pos hp, List.length_cons] at hu
      refine Ev.step (fun k => ?_) (ih (i + 1) (u + 1) (by omega) (by omega) (by omega))
      rw [barscanlaw33_PrefixOptimal.j1, if_neg (by decide), if_pos (by omega), if_pos (by omega), er, if_pos (by omega), wsucc u (by omega), wsucc i (by omega)]
    · rw [if_neg hp] at hu
      refine Ev.step (fun k => ?_) (ih (i + 1) u (by omega) (by omega) (by omega))
      rw [barscanlaw33_PrefixOptimal.j1, if_neg (by decide), if_pos (by omega), if_pos (by omega), er, if_neg (by omega), wsucc i (by omega)]
end
theorem PrefixOptimal : barscanlaw33_PrefixOptimal.Pure := by
  intro l m o _ _ _ _ _ _ _
  apply Ev.rounds
  by_cases h1 : (l.length : Int) > 200
  · exact Ev.congr (fun k => by rw [barscanlaw33_PrefixOptimal.f, if_pos h1]) alive_end
  refine Ev.congr (fun k => by rw [barscanlaw33_PrefixOptimal.f, if_neg h1]) ?_
  refine Ev.bind (a := lengthsF l m) (Ev.now _) ?_
  have err (c : Int) (hc : c ≠ 0) (he : lengthsF l m = ([], c)) : Ev (fun n => if (lengthsF l m).2 = 0 then (if ((lengthsF l m).1.length : Int) = (l.length : Int) then (barscanlaw33_PrefixOptimal.l0 n l m o (lengthsF l m).1 0 ((lengthsF l m).1.length : Int) 0) else (some false)) else (if ((lengthsF l m).1.length : Int) = 0 then ((barscanlaw33_alive.f n).bind fun t395 => (some t395)) else (some false))) true := by
    rw [he]
    simp only [if_neg hc]
    exact alive_end
  by_cases hl : 4096 < l.length
  · omega
  by_cases hw : withinL l 1099511627776 = false ∨ m < 1 ∨ 30 < m
  · exact err 3 (by decide) (by unfold lengthsF; rw [if_neg hl, if_pos hw])
  by_cases hk : 2 ^ m.toNat < (isT (leafs l 0)).length
  · exact err 16 (by decide) (by unfold lengthsF; rw [if_neg hl, if_neg hw, if_pos hk])
  have he : lengthsF l m = (lengthsS l m.toNat, 0) := by unfold lengthsF; rw [if_neg hl, if_neg hw, if_neg hk]
  rw [he]
  have hw1 : withinL l 1099511627776 = true := by cases h : withinL l 1099511627776 <;> simp_all
  obtain ⟨n, rfl⟩ : ∃ n : Nat, m = (n : Int) := ⟨m.toNat, by omega⟩
  rw [Int.toNat_natCast] at hk ⊢
  have hg := lengths_good l n (by omega) hw1 (by omega) (by omega) (by rw [sing_length]; omega)
  have := opt_l0 l n (lengthsS l n) (by omega) hw1 (by omega) hg o l.length 0 0 rfl (by rw [List.drop_zero, sing_length, isT_length]; omega) (by omega)
  refine Ev.congr (fun k => ?_) this
  rw [if_pos rfl, if_pos (by rw [hg.len])]
  rfl
end Go.Proofs.Ytldhpniflnbilaa.Pure
