/- Compress and tokens, in the form in which the printed callers use them. -/
import Derived.Test.YtldhpniflnbilaaProg
import Derived.Below
import Derived.Deep.Draws
import Derived.Deep.AppendLies
import Derived.Maps.AppendAt
import Derived.OwnWalk
import Derived.Laws.BytesArg
import Derived.Laws.MakeOwn
import Derived.Laws.OwnMore
import Derived.Deep.OwnRows
import Derived.Tactics
import Derived.Lib.ConvBytes
import Derived.Laws.Slices
import Derived.WalkKit
import Derived.KernelRfl
import Derived.RowKit3
import Derived.Deep.LoopGhost
import Derived.Deep.QuietTactic
import Derived.BigQuiet
import Derived.WideLaws
import Derived.Deep.DeepCutAuto
import Derived.Deep.CutBlock
import Derived.Deep.RegionHeld3
import Derived.Laws.Rows
import Derived.Lib.AppendStr
import Derived.ArgAppend
import Derived.Laws.IdiomCopy
import Derived.OrdersHeld
import Derived.Laws.BitsLemmas
import Derived.RowKit
import Derived.Outline
import Derived.Test.YtldhpniflnbilaaV34s
import Derived.Test.YtldhpniflnbilaaD19vv
set_option linter.unusedVariables false
set_option linter.unusedSimpArgs false
namespace Go.Proofs.Ytldhpniflnbilaa
open Go.RowKit Go.Proofs.YtldhpniflnbilaaW.PrintWords Go.Proofs.YtldhpniflnbilaaW.PrintLast Go.Proofs.YtldhpniflnbilaaW.PrintMore

def deflate_tokens.f (l0 : List Int) : Option (List Int) := if l0.length ≤ 65535 ∧ isBytes l0 = true then some (tokL l0) else none
theorem deflate_tokens.calls (A0 : Option Addr) (c0 : Nat) (l0 : List Int) (r : List Int) (w : World) (hr0 : Kd.C (Kd.int .u8) w A0 l0.length l0) (hc0 : l0.length ≤ c0) (h : deflate_tokens.f l0 = some r) :
    Calls Try.prog 64 #[.slice A0 l0.length c0] w fun e w' => ∃ v0_ : Value, e = .returned (v0_) ∧ Kd.R (Kd.int .i64) 3 w' w.heap.size (fun _ => True) v0_ r ∧ Below w.heap.size w w' := by
  unfold deflate_tokens.f at h
  by_cases hc : l0.length ≤ 65535 ∧ isBytes l0 = true
  · rw [if_pos hc] at h
    injection h with h
    subst h
    exact tokens_calls w A0 _ c0 l0 hr0 (isBytes_rd hc.2) rfl hc0 (by have := hc.1; omega)
  · rw [if_neg hc] at h
    cases h
theorem deflate_Compress.calls (A0 : Option Addr) (c0 : Nat) (l0 : List Int) (a1 : Int) (r1 : List Int) (r2 : Int) (w : World) (hr0 : Kd.C (Kd.int .u8) w A0 l0.length l0) (hc0 : l0.length ≤ c0) (h : deflate_Compress.f l0 a1 = some (r1, r2)) :
    Calls Try.prog 33 #[.slice A0 l0.length c0, .int .i64 a1] w fun e w' => ∃ v0_ : Value, e = .returned (.tuple #[v0_, .int .i64 r2]) ∧ Kd.R (Kd.int .u8) 5 w' w.heap.size (fun _ => True) v0_ r1 ∧ Below w.heap.size w w' := by
  unfold deflate_Compress.f at h
  by_cases h1 : a1 < 0 ∨ 2 < a1
  · rw [if_pos h1] at h
    cases h
    refine (comp_range w A0 _ c0 a1 h1).mono ?_
    rintro e w' ⟨rfl, rfl⟩
    exact ⟨_, rfl, Kd.R_nil _ _ _ _ _, Below.refl _ _⟩
  rw [if_neg h1] at h
  by_cases h2 : 4194304 < l0.length
  · rw [if_pos h2] at h
    cases h
    refine (comp_long w A0 _ c0 a1 (by omega) (by omega) h2).mono ?_
    rintro e w' ⟨rfl, rfl⟩
    exact ⟨_, rfl, Kd.R_nil _ _ _ _ _, Below.refl _ _⟩
  rw [if_neg h2] at h
  by_cases h3 : l0.length ≤ 65535 ∧ isBytes l0 = true
  · rw [if_pos h3] at h
    by_cases h4 : a1 = 0
    · rw [if_pos h4] at h
      cases h
      subst h4
      exact comp_stored w A0 _ c0 l0 hr0 rfl hc0 h3.1
    · rw [if_neg h4] at h
      by_cases h5 : a1 = 1
      · rw [if_pos h5] at h
        cases h
        subst h5
        exact comp_fixed w A0 _ c0 l0 hr0 rfl hc0 h3.1 (isBytes_rd h3.2)
      · rw [if_neg h5] at h
        cases h
  · rw [if_neg h3] at h
    cases h
end Go.Proofs.Ytldhpniflnbilaa
