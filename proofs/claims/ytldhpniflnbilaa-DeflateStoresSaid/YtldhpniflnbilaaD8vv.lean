/- slices.Repeat over rows of int. -/
import Derived.Test.YtldhpniflnbilaaProg
import Derived.Below
import Derived.Deep.Draws
import Derived.Deep.AppendLies
import Derived.Maps.AppendAt
import Derived.OwnWalk
import Derived.Laws.BytesArg
import Derived.Laws.MakeOwn
import Derived.Laws.OwnMore
import Derived.Deep.OwnRows
import Derived.Tactics
import Derived.Lib.ConvBytes
import Derived.Laws.Slices
import Derived.WalkKit
import Derived.KernelRfl
import Derived.RowKit3
import Derived.Deep.LoopGhost
import Derived.Deep.QuietTactic
import Derived.BigQuiet
import Derived.WideLaws
import Derived.Deep.DeepCutAuto
import Derived.Deep.CutBlock
import Derived.Deep.RegionHeld3
import Derived.Laws.Rows
import Derived.Lib.AppendStr
import Derived.ArgAppend
import Derived.Laws.IdiomCopy
import Derived.OrdersHeld
import Derived.Laws.BitsLemmas
import Derived.RowKit
import Derived.Outline
import Derived.Test.YtldhpniflnbilaaV34s
import Derived.Laws.CopyOwn
import Derived.Test.YtldhpniflnbilaaD7vv
import Derived.Test.YtldhpniflnbilaaPDx32vv
set_option linter.unusedVariables false
set_option linter.unusedSimpArgs false
namespace Go.Proofs.Ytldhpniflnbilaa
open Go.RowKit Go.Proofs.YtldhpniflnbilaaW.PrintWords Go.Proofs.YtldhpniflnbilaaW.PrintLast Go.Proofs.YtldhpniflnbilaaW.PrintMore

open PD
theorem mul_one (n : Nat) (hn : n ≤ 1000000) : bits_Mul.f 1 (n : Int) = some (0, (n : Int)) := by
  have e1 : Go.bits .and .u64 (n : Int) 4294967295 = (n : Int) := by
    have := bits_mask .u64 64 (by decide) (fun n h0 h1 => by rw [IntKind.wrap_u64]; omega) 32 (by decide) (n : Int) (by omega) (by simpa using (by omega : (n : Int) < 18446744073709551616))
    have e : Go.bits .and .u64 (n : Int) 4294967295 = (n : Int) % 4294967296 := by simpa using this
    rw [e]; omega
  have e2 : Go.bits .and .u64 1 4294967295 = 1 := by decide
  have e3 : (n : Int) / 4294967296 = 0 := by omega
  have e4 : (1 : Int) / 4294967296 = 0 := by omega
  unfold bits_Mul.f bits_Mul64.f
  rw [e1, e2, e3, e4]
  have e5 : Go.bits .and .u64 0 4294967295 = 0 := by decide
  have e6 : IntKind.u64.wrap (1 * (n : Int)) = n := by rw [IntKind.wrap_u64]; omega
  have e7 : IntKind.u64.wrap ((0 : Int)) = 0 := by decide
  simp only [Int.zero_mul, Int.mul_zero, e6, e7, e3, Int.add_zero, Int.zero_add, Option.bind_some]
  rw [e5]
  simp [e7]
/-- The first k cells bear x, the others 0. -/
def half (x : Int) (k n : Nat) : List Value := List.replicate k (.int .i64 x) ++ List.replicate (n - k) (.int .i64 0)
theorem half_length (x : Int) (k n : Nat) (h : k ≤ n) : (half x k n).length = n := by simp [half]; omega
theorem half_splice (x : Int) (k n m : Nat) (h : k + m ≤ n) : splice (half x k n) k (List.replicate m (.int .i64 x)) = half x (k + m) n := by
  unfold splice half
  rw [List.take_append_of_le_length (by simp), List.take_of_length_le (by simp), List.length_replicate, List.drop_append, List.drop_of_length_le (by simp)]
  simp only [List.length_replicate, List.nil_append, List.drop_replicate]
  rw [← List.append_assoc, List.replicate_append_replicate, show n - k - (k + m - k) = n - (k + m) by omega]
theorem half_cell {w : World} {g t : Nat} {x : Int} {k n m : Nat} (h : w.heap[g]? = some (.cells (half x k n).toArray t (0, 0))) (hm : m ≤ k) {j : Nat} {v : Value} (hj : (List.replicate m (Value.int .i64 x))[j]? = some v) : w.cell? ⟨g, j, none⟩ = some v := by
  rw [List.getElem?_replicate] at hj
  by_cases h1 : j < m
  · rw [if_pos h1] at hj
    rw [blk_cell h j]
    simp only [half, List.getElem?_toArray]
    rw [List.getElem?_append_left (by simp; omega), List.getElem?_replicate, if_pos (by omega)]
    exact hj
  · rw [if_neg h1] at hj
    cases hj
set_option maxHeartbeats 1000000 in
set_option maxRecDepth 100000 in
theorem repeat_calls (w : World) (A : Option Addr) (c n : Nat) (x : Int) (hC : (Kd.int .i64).C w A 1 [x]) (h0 : 0 < n) (hn : n ≤ 1000000) :
    Calls Try.prog 66 #[.slice A 1 c, .int .i64 (n : Int)] w fun e w' => ∃ v, e = .returned v ∧ Nrow w' w.heap.size v (List.replicate n x) ∧ Below w.heap.size w w' := by
  obtain ⟨ad, rfl, hcell⟩ := Kd.at_int hC 0 (by omega) (by omega)
  have HCELL := Aside0.mk (show w.cell? (ad.add 0) = some (.int .i64 x) from hcell)
  clear hcell
  have hmk := run_make_row' (P := Try.prog) 22 3 (.int .i64 0) 8 Try.underlying22 infoInt rfl .i64 .i64 n (by omega) (by omega)
  have HM := Aside0.mk (mul_one n hn)
  have hn0 : (0 : Int) < (n : Int) := by omega
  have hn1 : (n : Int) ≤ 1000000 := by omega
  have HN := Aside0.mk hn
  clear hC hn
  go_enter Try.func66, Try.ntmps66
  have HMD := Aside0.mk (show madeCells #[.int .i64 0] n = (half x 0 n).toArray by
    rw [← Array.toList_inj, toList_madeCells_one]; simp [half])
  go_wp2_with (first | (go_at_call 90; refine (bits_Mul.calls _ _ _ _ _ HM.out).mono ?_; rintro e' w1 ⟨rfl, ⟨n1, rfl⟩⟩) | ((with_reducible refine gate_builtin (b := .copy) (xs := #[.tmp 31, .tmp 32]) rfl ?_); refine Go.wpList_copy_splice rfl (.tmp 31) (.tmp 32) 22 22 rfl 3 Try.underlying22 (by kernel_rfl) (some ⟨w.heap.size, 0, none⟩) (some ad) n n 1 c rfl rfl w.heap.size 0 (half x 0 n) 3 ?hg [.int .i64 x] ?hn ?hpos ?hfit ?h1 w.heap.size w ?hb (Nat.le_refl _) ?_; (case hg => rw [HMD.out]; exact blk_new (w.drewN n1) _); (case hn => simp [Nat.min_def]; omega); (case hpos => exact fun _ => ⟨rfl, ad, rfl, fun j v hj => by cases j with | zero => simp at hj; subst hj; exact pw_cell_below (below_alloc (pw_below_drewN (Below.refl _ _) _) _) HCELL.out | succ j => simp at hj⟩); (case hfit => rw [half_length x 0 n (Nat.zero_le _)]; show 0 + 1 ≤ n; omega); (case h1 => intro u hu; simp at hu; subst hu; rfl); (case hb => exact below_alloc (pw_below_drewN (Below.refl _ _) _) _); intro w2 hblk hbl; have HBK := Aside0.mk hblk.out; have HBL := Aside0.mk hbl; clear hblk hbl))
  clear hmk
  go_loopg [8] (n + 1) (fun q v8 w' => ∃ k : Nat, v8 = .int .i64 (k : Int) ∧ Aside0 (n + 1 ≤ q + k ∧ 1 ≤ k ∧ k ≤ n) ∧ Aside0 (w'.heap[w.heap.size]? = some (.cells (half x k n).toArray 3 (0, 0))) ∧ Aside0 (Below w.heap.size w w'))
  case atStart => exact ⟨1, rfl, ⟨by omega, by omega, by omega⟩, ⟨by have := HBK.out; rwa [show splice (half x 0 n) 0 [.int .i64 x] = half x 1 n from half_splice x 0 n 1 (by omega)] at this⟩, HBL⟩
  case round =>
    clear HBK HBL
    obtain ⟨k, rfl, HK, HBK, HBL⟩ := hrel
    by_cases hlt : k < n
    · have hk0 : (0 : Int) ≤ (k : Int) := by omega
      have hk1 : (k : Int) ≤ (n : Int) := by omega
      have hk2 : (k : Int) < (n : Int) := by omega
      obtain ⟨m, hm⟩ : ∃ m, min k (n - k) = m := ⟨_, rfl⟩
      have HMM := Aside0.mk hm
      have hm1 : ((min (k : Int) ((n : Int) - (k : Int))) : Int) = (m : Int) := by omega
      have hm2 : m ≤ k ∧ k + m ≤ n := by omega
      clear hm
      have hnk : ¬ (n = k) := by omega
      have hm3 : (k : Int) + (m : Int) ≤ 1000000 := by omega
      have hm4 : (0 : Int) ≤ (m : Int) := by omega
      go_wp2
      go_region_held3 (fun _ => True) (trivial) (first | ((try rw [if_neg hnk]); (try rw [if_neg hnk]); refine Go.step_copy_splice rfl (.tmp 41) (.tmp 44) 22 22 rfl 3 Try.underlying22 (by kernel_rfl) (some ⟨w.heap.size, k, none⟩) (some ⟨w.heap.size, 0, none⟩) (n - k) (n - k) k n rfl rfl w.heap.size k (half x k n) 3 ?hg (List.replicate m (.int .i64 x)) ?hn ?hpos ?hfit ?h1 w.heap.size w ?hb (Nat.le_refl _) ?_; (case hg => exact HBK.out); (case hn => rw [List.length_replicate]; exact HMM.out.symm); (case hpos => exact fun _ => ⟨rfl, _, rfl, fun j v hj => by rw [add_plain]; exact half_cell HBK.out hm2.1 hj⟩); (case hfit => rw [half_length x k n (by omega), List.length_replicate]; omega); (case h1 => intro u hu; rw [List.eq_of_mem_replicate hu]; rfl); (case hb => exact below_drew1 HBL.out); intro w2 hblk hbl; have HBK2 := Aside0.mk hblk.out; have HBL2 := Aside0.mk hbl; clear hblk hbl; rw [List.length_replicate]))
      go_wp2
      go_roundg (gk - 1)
      case measure => have := HK.out; omega
      case rel => exact ⟨k + m, (by rw [show IntKind.i64.wrap ((k : Int) + (m : Int)) = ((k + m : Nat) : Int) by rw [i64_w]; unfold wrap64; omega]), ⟨by have := HK.out; have := HMM.out; omega, by have := HK.out; omega, hm2.2⟩, ⟨by have := HBK2.out; rwa [half_splice x k n m hm2.2] at this⟩, HBL2⟩
    · have hkn : k = n := by have := HK.out; omega
      subst hkn
      go_wp2
      go_ret
      have e : (half x k k).toArray.toList = encs (Value.int .i64) (List.replicate k x) := by simp [half, encs]
      refine ⟨_, rfl, Kd.R_of_own ⟨by simp [encs], .inr ⟨w.heap.size, k, _, by simp, Nat.le_refl _, HBK.out, by simp, by unfold maxLen; have := HN.out; omega, by simp [half], ?_⟩⟩ (fun _ _ => trivial), HBL.out⟩
      rw [e]
      simp [encs]
end Go.Proofs.Ytldhpniflnbilaa
