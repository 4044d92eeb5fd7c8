/- The examples of chapter 33 hold. -/
import Derived.Test.YtldhpniflnbilaaQ2vv
import Derived.Test.YtldhpniflnbilaaP33x12vv
set_option linter.unusedVariables false
set_option linter.unusedSimpArgs false
set_option linter.unusedSectionVars false
namespace Go.Proofs.Ytldhpniflnbilaa.Pure
open Go.RowKit Go.Proofs.Ytldhpniflnbilaa.P33 Go.Proofs.Ytldhpniflnbilaa Go.Proofs.YtldhpniflnbilaaW.PrintWords Go.Proofs.YtldhpniflnbilaaW.PrintLast Go.Proofs.YtldhpniflnbilaaW.PrintMore

theorem alive_ev : Ev (fun k => barscanlaw33_alive.f k) true := Ev.of barscanlaw33_alive.mono (k := 200) (by decide +kernel)
theorem alive_end : Ev (fun k => (barscanlaw33_alive.f k).bind fun t => some t) true := Ev.bind alive_ev (Ev.now _)
theorem pack_syms (m : Nat) : ∀ L : List Tr, (∀ t ∈ L, t.syms.length ≤ m) → ∀ t ∈ packT L, t.syms.length ≤ 2 * m
  | [], _, t, h => by simp [packT] at h
  | [_], _, t, h => by simp [packT] at h
  | x :: y :: r, hm, t, h => by
    simp only [packT, List.mem_cons] at h
    rcases h with rfl | h
    · have h1 := hm x (by simp)
      have h2 := hm y (by simp)
      simp only [Tr.syms, List.length_append]
      omega
    · exact pack_syms m r (fun t ht => hm t (by simp [ht])) t h
theorem lists_syms (S : List Tr) (h : ∀ t ∈ S, t.syms.length = 1) : ∀ n, ∀ t ∈ treeLists S n, t.syms.length ≤ 2 ^ n := by
  intro n
  induction n with
  | zero => intro t ht; have := h t ht; simp; omega
  | succ n ih =>
    intro t ht
    rw [treeLists] at ht
    rcases (mem_mergeT _ _ _).1 ht with ht | ht
    · have := h t ht; have := Nat.two_pow_pos (n + 1); omega
    · have := pack_syms (2 ^ n) _ ih t ht; rw [Nat.pow_succ]; omega

theorem leafs_one (l : List Int) : ∀ t ∈ isT (leafs l 0), t.syms.length = 1 := by
  intro t ht
  obtain ⟨s, f, rfl, _, _⟩ := leafs_in l 0 t (mem_isT _ _ ht)
  rfl
end Go.Proofs.Ytldhpniflnbilaa.Pure
