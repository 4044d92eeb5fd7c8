/- slices.Grow and slices.Concat over rows of int. -/
import Derived.Test.YtldhpniflnbilaaProg
import Derived.Below
import Derived.Deep.Draws
import Derived.Deep.AppendLies
import Derived.Maps.AppendAt
import Derived.OwnWalk
import Derived.Laws.BytesArg
import Derived.Laws.MakeOwn
import Derived.Laws.OwnMore
import Derived.Deep.OwnRows
import Derived.Tactics
import Derived.Lib.ConvBytes
import Derived.Laws.Slices
import Derived.WalkKit
import Derived.KernelRfl
import Derived.RowKit3
import Derived.Deep.LoopGhost
import Derived.Deep.QuietTactic
import Derived.BigQuiet
import Derived.WideLaws
import Derived.Deep.DeepCutAuto
import Derived.Deep.CutBlock
import Derived.Deep.RegionHeld3
import Derived.Laws.Rows
import Derived.Lib.AppendStr
import Derived.ArgAppend
import Derived.Laws.IdiomCopy
import Derived.OrdersHeld
import Derived.Laws.BitsLemmas
import Derived.RowKit
import Derived.Outline
import Derived.Test.YtldhpniflnbilaaV34s
import Derived.Lib.AppendZeros
import Derived.Test.YtldhpniflnbilaaD5vv
set_option linter.unusedVariables false
set_option linter.unusedSimpArgs false
namespace Go.Proofs.Ytldhpniflnbilaa
open Go.RowKit Go.Proofs.YtldhpniflnbilaaW.PrintWords Go.Proofs.YtldhpniflnbilaaW.PrintLast Go.Proofs.YtldhpniflnbilaaW.PrintMore

open PD
set_option maxHeartbeats 1000000 in
set_option maxRecDepth 100000 in
theorem grow_calls (w : World) (n : Nat) (h0 : 0 < n) (hn : n ≤ 1000000000) :
    Calls Try.prog 89 #[.slice none 0 0, .int .i64 (n : Int)] w fun e w' => ∃ v, e = .returned v ∧ Nrow w' w.heap.size v [] ∧ Below w.heap.size w w' := by
  obtain ⟨i0, hi, hzz⟩ := Option.map_eq_some_iff.1 infoInt
  simp only [Prod.mk.injEq] at hzz
  obtain ⟨hz0, hz1, hz2⟩ := hzz
  have h := fun W => Lib.run_append_nil_zeros W 22 3 22 3 i0 (.int .i64 0) .i64 .i64 Try.underlying22 Try.underlying3 hi hz0 n h0 (by omega) (by omega) (by rw [hz2]; omega)
  have hcap : n ≤ grownCap w n 0 3 := grownCap_ge w n 0 _
  have hcap2 := grownCap_le_maxLen w n 0 3 (by unfold maxLen; omega)
  have HR := Aside0.mk (h w)
  have h1 : (0 : Int) < (n : Int) := by omega
  have h2 : (n : Int) ≤ 1000000000 := by omega
  generalize grownCap w n 0 3 = G at *
  have HG := Aside0.mk hcap2
  have h4 : G ≤ 9223372036854775807 := by unfold maxLen at hcap2; omega
  clear h hi hcap2
  go_enter Try.func89, Try.ntmps89
  go_wp2_with (at_builtin; refine Lib.wpList_append_run _ rfl _ _ _ _ rfl _ _ rfl rfl _ _ HR.out ?_)
  go_ret
  refine ⟨_, rfl, Kd.R_drew (Kd.R_of_own ⟨rfl, .inr ⟨w.heap.size, G, _, rfl, Nat.le_refl _, blk_new w _, Nat.zero_le _, HG.out, ?_, by simp [encs]⟩⟩ (fun _ _ => trivial)), below_drew1 (below_alloc (Below.refl _ _) _)⟩
  simp [size_zeroCells]
  omega
theorem take_flat (xss : List (List Int)) (i : Nat) (hi : i < xss.length) : (xss.take (i + 1)).flatten = (xss.take i).flatten ++ xss[i] := by
  rw [List.take_succ_eq_append_getElem hi, List.flatten_append]
  simp
def sumLen (xss : List (List Int)) : Nat := (xss.map List.length).sum
theorem sumLen_take (xss : List (List Int)) (i : Nat) (hi : i < xss.length) : sumLen (xss.take (i + 1)) = sumLen (xss.take i) + xss[i].length := by
  rw [sumLen, List.take_succ_eq_append_getElem hi, List.map_append, List.sum_append]
  simp [sumLen]
theorem sumLen_flat (xss : List (List Int)) : xss.flatten.length = sumLen xss := by simp [sumLen, List.length_flatten]
theorem sumLen_le (xss : List (List Int)) (i : Nat) : sumLen (xss.take i) ≤ sumLen xss := by
  conv => rhs; rw [← List.take_append_drop i xss]
  rw [sumLen, sumLen, List.map_append, List.sum_append]
  omega
set_option maxHeartbeats 1000000 in
set_option maxRecDepth 100000 in
theorem concat_calls (w : World) (gs : Nat) (vs : Array Value) (xss : List (List Int)) (hb : w.heap[gs]? = some (.cells vs 22 (0, 0))) (hx : ∀ (i : Nat) (ys : List Int), xss[i]? = some ys → ∃ A c, vs[i]? = some (.slice A ys.length c) ∧ (Kd.int .i64).C w A ys.length ys)
    (h0 : 0 < sumLen xss) (h1 : sumLen xss ≤ 1000000000) (hm : xss.length ≤ 1000) :
    Calls Try.prog 65 #[.slice (some ⟨gs, 0, none⟩) xss.length xss.length] w fun e w' => ∃ v, e = .returned v ∧ Nrow w' w.heap.size v xss.flatten ∧ Below w.heap.size w w' := by
  obtain ⟨n, hn⟩ : ∃ n, xss.length = n := ⟨_, rfl⟩
  obtain ⟨s, hs⟩ : ∃ n, sumLen xss = n := ⟨_, rfl⟩
  have HB := Aside0.mk hb
  have HX := Aside0.mk hx
  have HS := Aside0.mk hs
  have HN := Aside0.mk hn
  rw [hs] at h0 h1
  rw [hn] at hm ⊢
  have HI := Aside0.mk (And.intro h0 (And.intro h1 hm))
  have hm2 : (n : Int) ≤ 1000 := by omega
  clear hb hx hs hn h0 h1 hm
  go_enter Try.func65, Try.ntmps65
  go_wp2
  go_loopg [11, 3] (n + 1) (fun q v11 v3 w' => ∃ i : Nat, v11 = .int .i64 (i : Int) ∧ v3 = .int .i64 (sumLen (xss.take i) : Int) ∧ Aside0 (q + i = n + 1 ∧ i ≤ n) ∧ w = w')
  case atStart => exact ⟨0, rfl, rfl, ⟨by omega, by omega⟩, rfl⟩
  case round =>
    obtain ⟨i, rfl, rfl, HK, rfl⟩ := hrel
    by_cases hlt : i < n
    · have hl : i < xss.length := by rw [HN.out]; exact hlt
      obtain ⟨ys, hys⟩ : ∃ ys, xss[i] = ys := ⟨_, rfl⟩
      obtain ⟨A, c, hv, -⟩ := HX.out i ys (by rw [List.getElem?_eq_getElem hl, hys])
      have hcell : w.cell? ⟨gs, i, none⟩ = some (.slice A ys.length c) := (blk_cell HB.out i).trans hv
      have hst := sumLen_take xss i hl
      rw [hys] at hst
      have HST := Aside0.mk hst
      have hle := sumLen_le xss (i + 1)
      have hs1 : ((sumLen (xss.take i) : Nat) : Int) ≤ 1000000000 := by have := HI.out; have := HS.out; omega
      have hs2 : (ys.length : Int) ≤ 1000000000 := by have := HI.out; have := HS.out; omega
      have hi0 : (0 : Int) ≤ (i : Int) := by omega
      have hlt2 : (i : Int) < (n : Int) := by omega
      clear hv hst hle hys hl
      obtain ⟨S, hS⟩ : ∃ S : Int, ((sumLen (xss.take i) : Nat) : Int) = S := ⟨_, rfl⟩
      have hS0 : 0 ≤ S := by omega
      rw [hS] at hs1 ⊢
      have HSS := Aside0.mk hS
      clear hS
      go_wp2
      go_roundg (gk - 1)
      case measure => have := HK.out; omega
      case rel => exact ⟨i + 1, (by go_num), (by rw [HST.out, ← HSS.out]; go_num), ⟨by have := HK.out; omega, by omega⟩, rfl⟩
    · have hin : i = n := by have := HK.out; omega
      subst hin
      have HSX := Aside0.mk (show sumLen (xss.take i) = s by rw [← HN.out, List.take_length]; exact HS.out)
      rw [HSX.out]
      have hs2 : (s : Int) ≤ 1000000000 := by have := HI.out; omega
      go_wp2_with (go_at_call 89; refine (grow_calls w s (by have := HI.out; omega) (by have := HI.out; omega)).mono ?_; rintro e' w1 ⟨v, rfl, hr, hbb⟩; have HR := Aside0.mk hr; have HBB := Aside0.mk hbb; clear hr hbb)
      go_loopg [27, 6] (i + 1) (fun q v27 v6 w' => ∃ j : Nat, v27 = .int .i64 (j : Int) ∧ Aside0 (q + j = i + 1 ∧ j ≤ i) ∧ Aside0 (Nrow w' w.heap.size v6 (xss.take j).flatten) ∧ Aside0 (Below w.heap.size w w'))
      case atStart => exact ⟨0, rfl, ⟨by omega, by omega⟩, HR, HBB⟩
      case round =>
        clear HR HBB HK
        obtain ⟨j, rfl, HK, HR, HBB⟩ := hrel
        by_cases hlt2 : j < i
        · have hl : j < xss.length := by rw [HN.out]; exact hlt2
          obtain ⟨ys, hys⟩ : ∃ ys, xss[j] = ys := ⟨_, rfl⟩
          obtain ⟨A, c, hv, hc⟩ := HX.out j ys (by rw [List.getElem?_eq_getElem hl, hys])
          have HC := Aside0.mk (Kd.C_below hc HBB.out)
          have hcell : wr.cell? ⟨gs, j, none⟩ = some (.slice A ys.length c) := (blk_cell (blk_below HB.out HBB.out) j).trans hv
          have hfl := take_flat xss j hl
          rw [hys] at hfl
          have HFL := Aside0.mk hfl
          have HSZ := Aside0.mk (show (xss.take j).flatten.length + ys.length ≤ 1000000000 by
            have h1 := sumLen_flat (xss.take (j + 1))
            rw [hfl, List.length_append] at h1
            have h2 := sumLen_le xss (j + 1)
            have := HI.out; have := HS.out; omega)
          obtain ⟨rows, hrows⟩ : ∃ rows, (xss.take j).flatten = rows := ⟨_, rfl⟩
          rw [hrows] at HR HFL HSZ
          have hj0 : (0 : Int) ≤ (j : Int) := by omega
          have hlt3 : (j : Int) < (i : Int) := by omega
          clear hv hc hys hfl hl hrows hlt2 hlt
          go_wp2_with (((with_reducible refine gate_builtin (b := .append) (xs := #[.tmp 31, .tmp 32]) rfl ?_); at_builtin; refine Kd.R_append_row (Value.int .i64) (0) (h1 := fun _ => rfl) (w0 := w) w.heap.size rfl (.tmp 31) (.tmp 32) 22 3 (.int .i64 0) 8 rfl Try.underlying22 infoInt rfl (by omega) u6 rows ys A ys.length c (fun _ => True) rfl rfl (fun _ _ => trivial) ?aO ?aR ?aB ?aS ?aL ?_; (case aO => (with_reducible repeat (first | apply Kd.R_alloc | apply Kd.R_drewN | apply Kd.R_drew)); exact HR.out); (case aR => exact HC.out); (case aB => repeat (first | exact HBB.out | apply below_alloc | apply pw_below_drewN | apply below_drew1)); (case aS => refine below_size ?_; repeat (first | exact HBB.out | apply below_alloc | apply pw_below_drewN | apply below_drew1)); (case aL => have := HSZ.out; omega); intro v1 w1 ho hb hg hat; have HO2 := Aside0.mk ho; have HB2 := Aside0.mk hb; clear ho hb hg hat))
          go_roundg (gk - 1)
          case measure => have := HK.out; omega
          case rel => exact ⟨j + 1, (by go_num), ⟨by have := HK.out; omega, by omega⟩, ⟨by rw [HFL.out]; exact HO2.out⟩, HB2⟩
        · have hji : j = i := by have := HK.out; omega
          subst hji
          have HF := Aside0.mk (show (xss.take j).flatten = xss.flatten by rw [← HN.out, List.take_length])
          go_wp2
          go_ret
          exact ⟨_, rfl, by rw [← HF.out]; exact HR.out, HBB.out⟩
end Go.Proofs.Ytldhpniflnbilaa
