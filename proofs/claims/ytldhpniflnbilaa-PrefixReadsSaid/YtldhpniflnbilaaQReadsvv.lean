/- PrefixReads, of the parameters one by one: Encode and Decode agree with the reference. -/
import Derived.Test.YtldhpniflnbilaaQ6Rvv
import Derived.Test.YtldhpniflnbilaaP33x30vv
set_option linter.unusedVariables false
set_option linter.unusedSimpArgs false
set_option linter.unusedSectionVars false
namespace Go.Proofs.Ytldhpniflnbilaa.Pure
open Go.RowKit Go.Proofs.Ytldhpniflnbilaa.P33 Go.Proofs.Ytldhpniflnbilaa Go.Proofs.YtldhpniflnbilaaW.PrintWords Go.Proofs.YtldhpniflnbilaaW.PrintLast Go.Proofs.YtldhpniflnbilaaW.PrintMore
theorem reads_ev (l0 l1 : List Int) (b : List Bool) (a : Int) : Ev (fun k => barscanlaw33_PrefixReads.f k l0 l1 b a) true := by
  have yes : Ev (fun k => barscanlaw33_PrefixReads.j0 k l0 l1 true b a) true := Ev.step (fun k => by rw [barscanlaw33_PrefixReads.j0, if_pos rfl]) alive_end
  by_cases h1 : (l0.length : Int) > 100
  · exact Ev.congr (fun k => by rw [barscanlaw33_PrefixReads.f, if_pos h1]) yes
  by_cases h2 : (l1.length : Int) > 100
  · exact Ev.congr (fun k => by rw [barscanlaw33_PrefixReads.f, if_neg h1, if_pos h2]) yes
  by_cases h3 : (b.length : Int) > 2000
  · exact Ev.congr (fun k => by rw [barscanlaw33_PrefixReads.f, if_neg h1, if_neg h2, decide_eq_true h3]) yes
  refine Ev.congr (fun k => by rw [barscanlaw33_PrefixReads.f, if_neg h1, if_neg h2, decide_eq_false h3]) ?_
  refine Ev.step (fun k => by rw [barscanlaw33_PrefixReads.j0, if_neg (by decide)]) ?_
  refine Ev.bind (Encode_ev l0 l1 (by omega)) ?_
  refine Ev.bind (EncodeR_ev l0 l1 (by omega)) ?_
  refine Ev.bind (Decode_ev l0 b a (by omega)) ?_
  refine Ev.bind (DecodeR_ev l0 b a (by omega)) ?_
  refine Ev.bind (same_ev _ (EncodeL_length l0 l1)) ?_
  simp only [if_pos]
  exact alive_end

end Go.Proofs.Ytldhpniflnbilaa.Pure
