/- PrefixFree: no code is the beginning of another one, and they ascend. -/
import Derived.Test.YtldhpniflnbilaaQ4
import Derived.Test.YtldhpniflnbilaaP33x33
set_option linter.unusedVariables false
set_option linter.unusedSimpArgs false
set_option linter.unusedSectionVars false
namespace Go.Proofs.Ytldhpniflnbilaa.Pure
open Go.RowKit Go.Proofs.Ytldhpniflnbilaa.P33 Go.Proofs.Ytldhpniflnbilaa Go.Proofs.YtldhpniflnbilaaW.PrintWords Go.Proofs.YtldhpniflnbilaaW.PrintLast Go.Proofs.YtldhpniflnbilaaW.PrintMore
theorem free_in (l : List Int) (hl : l.length ≤ 150) (hw : withinL l 30 = true) (hk : kraftS l ≤ 1073741824) (i : Nat) (hi : i < l.length) (L : Int)
    (hR : Ev (fun k => barscanlaw33_PrefixFree.l0 k l (codesL l) L ((i + 1 : Nat) : Int)) true) :
    ∀ d j, d + j = l.length → Ev (fun k => barscanlaw33_PrefixFree.l1 k l (codesL l) (i : Int) L (i : Int) ((codesL l).length : Int) (j : Int)) true := by
  intro d
  have hcl := codesL_length l
  induction d with
  | zero =>
    intro j h
    refine Ev.step (fun k => ?_) hR
    rw [barscanlaw33_PrefixFree.l1, if_neg (by omega), wsucc i (by omega)]
  | succ d ih =>
    intro j h
    have hj : j < l.length := by omega
    have next := ih (j + 1) (by omega)
    have yes : Ev (fun k => barscanlaw33_PrefixFree.j3 k l (codesL l) (i : Int) (j : Int) L (i : Int) ((codesL l).length : Int) (j : Int) true) true :=
      Ev.step (fun k => by rw [barscanlaw33_PrefixFree.j3, if_pos rfl, wsucc j (by omega)]) next
    by_cases hij : i = j
    · refine Ev.step (fun k => ?_) yes
      rw [barscanlaw33_PrefixFree.l1, if_pos (by omega), if_pos (by omega)]
    · by_cases h0 : l[i] = 0
      · refine Ev.step (fun k => ?_) yes
        rw [barscanlaw33_PrefixFree.l1, if_pos (by omega), if_neg (by omega), if_pos (by omega), if_pos (by omega), rd_at l i hi, if_pos h0]
      · obtain ⟨p, q⟩ := withinL_mem hw i hi
        obtain ⟨p', q'⟩ := withinL_mem hw j hj
        by_cases hlt : l[j] < l[i]
        · refine Ev.step (fun k => ?_) yes
          rw [barscanlaw33_PrefixFree.l1, if_pos (by omega), if_neg (by omega), if_pos (by omega), if_pos (by omega), rd_at l i hi, if_neg h0, if_pos (by omega), if_pos (by omega), rd_at l j hj, decide_eq_true hlt]
        · refine Ev.step (f := fun k => barscanlaw33_PrefixFree.j3 k l (codesL l) (i : Int) (j : Int) L (i : Int) ((codesL l).length : Int) (j : Int) false) (fun k => ?_) ?_
          · rw [barscanlaw33_PrefixFree.l1, if_pos (by omega), if_neg (by omega), if_pos (by omega), if_pos (by omega), rd_at l i hi, if_neg h0, if_pos (by omega), if_pos (by omega), rd_at l j hj, decide_eq_false hlt]
          · have hf := front_facts l i j hi hj hij (by omega) (by omega)
            refine Ev.step (fun k => ?_) next
            rw [barscanlaw33_PrefixFree.j3, if_neg (by decide), if_pos (by omega), if_pos (by omega), if_pos (by omega), if_pos (by omega), if_pos (by omega), if_pos (u64_nonneg _), if_pos (by omega),
              codesL_at l i hi, codesL_at l j hj, rd_at l i hi, rd_at l j hj, if_pos (show 0 < l[i] by omega), if_pos (show 0 < l[j] by omega), wr _ (by omega) (by omega), shr_nat _ _ (by omega) (by omega), if_neg hf.1, wsucc j (by omega)]
            by_cases he : l[j] = l[i]
            · rw [if_pos he, if_neg]
              by_cases hji : j < i
              · rw [decide_eq_true (hf.2.2 ⟨he, hji⟩), decide_eq_true (by omega)]; decide
              · rw [decide_eq_false (fun x => hji (hf.2.1 x).2), decide_eq_false (by omega)]; decide
            · rw [if_neg he, if_neg]
              rw [decide_eq_false (fun x => he (hf.2.1 x).1)]; decide
theorem free_out (l : List Int) (hl : l.length ≤ 150) (hw : withinL l 30 = true) (hk : kraftS l ≤ 1073741824) :
    ∀ d i, d + i = l.length → Ev (fun k => barscanlaw33_PrefixFree.l0 k l (codesL l) ((codesL l).length : Int) (i : Int)) true := by
  intro d
  have hcl := codesL_length l
  induction d with
  | zero =>
    intro i h
    refine Ev.step (fun k => ?_) alive_end
    rw [barscanlaw33_PrefixFree.l0, if_neg (by omega)]
  | succ d ih =>
    intro i h
    have hi : i < l.length := by omega
    have this := free_in l hl hw hk i hi ((codesL l).length : Int) (ih (i + 1) (by omega)) l.length 0 rfl
    have no : Ev (fun k => barscanlaw33_PrefixFree.j1 k l (codesL l) (i : Int) ((codesL l).length : Int) (i : Int) false) true :=
      Ev.step (fun k => by rw [barscanlaw33_PrefixFree.j1, if_neg (by decide)]; rfl) this
    obtain ⟨p, q⟩ := withinL_mem hw i hi
    refine Ev.step (fun k => ?_) no
    by_cases h0 : l[i] = 0
    · have e : rd (codesL l) (i : Int) = 0 := by rw [codesL_at l i hi, if_neg (by omega)]
      rw [barscanlaw33_PrefixFree.l0, if_pos (by omega), if_pos (by omega), if_pos (by omega), rd_at l i hi, if_pos h0, if_pos (by omega), e, if_pos rfl, if_neg (by decide), if_pos (u64_nonneg _), h0]
      rfl
    · have h1 := codeAt_pow l hk hw i hi (by omega)
      have h2 := codeAt_nonneg l i
      have e : rd (codesL l) (i : Int) = codeAt l i := by rw [codesL_at l i hi, if_pos (by omega)]
      rw [barscanlaw33_PrefixFree.l0, if_pos (by omega), if_pos (by omega), if_pos (by omega), rd_at l i hi, if_neg h0, if_pos (by omega), e, if_neg (by omega), if_pos (u64_nonneg _), shl_one _ p q, decide_eq_false (by omega)]
theorem PrefixFree : barscanlaw33_PrefixFree.Pure := by
  intro l _ _ _
  apply Ev.rounds
  by_cases h1 : (l.length : Int) > 150
  · exact Ev.congr (fun k => by rw [barscanlaw33_PrefixFree.f, if_pos h1]) alive_end
  refine Ev.congr (fun k => by rw [barscanlaw33_PrefixFree.f, if_neg h1]) ?_
  refine Ev.bind (Codes_ev l) ?_
  unfold CodesL
  by_cases hc : checkL l = 0
  · obtain ⟨_, hw⟩ := checkL_zero hc
    rw [if_pos hc]
    by_cases hk : 1073741824 < kraftS l
    · rw [if_pos hk]
      exact alive_end
    · rw [if_neg hk]
      have := free_out l (by omega) hw (by omega) l.length 0 rfl
      refine Ev.congr (fun k => ?_) this
      rw [if_pos rfl, if_pos (by rw [codesL_length])]
      rfl
  · rw [if_neg hc]
    refine Ev.congr (fun k => ?_) alive_end
    rw [if_neg hc]
    rfl
end Go.Proofs.Ytldhpniflnbilaa.Pure
