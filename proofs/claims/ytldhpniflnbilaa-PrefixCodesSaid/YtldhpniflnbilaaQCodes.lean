/- PrefixCodes: the codes, the costs and the checks are those of the reference. -/
import Derived.Test.YtldhpniflnbilaaQ3
import Derived.Test.YtldhpniflnbilaaP33x23
set_option linter.unusedVariables false
set_option linter.unusedSimpArgs false
set_option linter.unusedSectionVars false
namespace Go.Proofs.Ytldhpniflnbilaa.Pure
open Go.RowKit Go.Proofs.Ytldhpniflnbilaa.P33 Go.Proofs.Ytldhpniflnbilaa Go.Proofs.YtldhpniflnbilaaW.PrintWords Go.Proofs.YtldhpniflnbilaaW.PrintLast Go.Proofs.YtldhpniflnbilaaW.PrintMore
theorem PrefixCodes : barscanlaw33_PrefixCodes.Pure := by
  intro l0 l1 _ _ _ _ _ _
  apply Ev.rounds
  have yes : Ev (fun k => barscanlaw33_PrefixCodes.j0 k l0 l1 true) true := Ev.step (fun k => by rw [barscanlaw33_PrefixCodes.j0, if_pos rfl]) alive_end
  by_cases h1 : (l0.length : Int) > 200
  · exact Ev.congr (fun k => by rw [barscanlaw33_PrefixCodes.f, if_pos h1]) yes
  by_cases h2 : (l1.length : Int) > 200
  · exact Ev.congr (fun k => by rw [barscanlaw33_PrefixCodes.f, if_neg h1, decide_eq_true h2]) yes
  refine Ev.congr (fun k => by rw [barscanlaw33_PrefixCodes.f, if_neg h1, decide_eq_false h2]) ?_
  refine Ev.step (fun k => by rw [barscanlaw33_PrefixCodes.j0, if_neg (by decide)]) ?_
  refine Ev.bind (Codes_ev l1) ?_
  refine Ev.bind (CodesR_ev l1) ?_
  refine Ev.bind (cost_ev l0 l1) ?_
  refine Ev.bind (costR_ev l0 l1) ?_
  refine Ev.bind (ints_same _ (by have := CodesL_small l1; omega)) ?_
  simp only [if_pos]
  refine Ev.bind (Check_ev l1) ?_
  refine Ev.bind (CheckR_ev l1) ?_
  simp only [if_pos]
  exact alive_end
end Go.Proofs.Ytldhpniflnbilaa.Pure
