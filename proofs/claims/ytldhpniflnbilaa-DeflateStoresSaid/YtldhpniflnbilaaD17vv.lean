/- stored blocks of package deflate. -/
import Derived.Test.YtldhpniflnbilaaProg
import Derived.Below
import Derived.Deep.Draws
import Derived.Deep.AppendLies
import Derived.Maps.AppendAt
import Derived.OwnWalk
import Derived.Laws.BytesArg
import Derived.Laws.MakeOwn
import Derived.Laws.OwnMore
import Derived.Deep.OwnRows
import Derived.Tactics
import Derived.Lib.ConvBytes
import Derived.Laws.Slices
import Derived.WalkKit
import Derived.KernelRfl
import Derived.RowKit3
import Derived.Deep.LoopGhost
import Derived.Deep.QuietTactic
import Derived.BigQuiet
import Derived.WideLaws
import Derived.Deep.DeepCutAuto
import Derived.Deep.CutBlock
import Derived.Deep.RegionHeld3
import Derived.Laws.Rows
import Derived.Lib.AppendStr
import Derived.ArgAppend
import Derived.Laws.IdiomCopy
import Derived.OrdersHeld
import Derived.Laws.BitsLemmas
import Derived.RowKit
import Derived.Outline
import Derived.Test.YtldhpniflnbilaaV34s
import Derived.Laws.DeepNot64
import Derived.Test.YtldhpniflnbilaaD16vv
set_option linter.unusedVariables false
set_option linter.unusedSimpArgs false
namespace Go.Proofs.Ytldhpniflnbilaa
open Go.RowKit Go.Proofs.YtldhpniflnbilaaW.PrintWords Go.Proofs.YtldhpniflnbilaaW.PrintLast Go.Proofs.YtldhpniflnbilaaW.PrintMore

def storedL (p : List Int) : List Int := [1, (p.length : Int) % 256, (p.length : Int) / 256, (-1 - (p.length : Int)) % 256, (-1 - (p.length : Int)) / 256 % 256] ++ p
set_option maxHeartbeats 1000000 in
set_option maxRecDepth 100000 in
theorem stored_calls (w : World) (A : Option Addr) (n c : Nat) (p : List Int) (hC : (Kd.int .u8).C w A n p) (hn : p.length = n) (hnc : n ≤ c) (hl : n ≤ 65535) :
    Calls Try.prog 60 #[.slice A n c] w fun e w' => ∃ v, e = .returned v ∧ (Kd.int .u8).R 5 w' w.heap.size (fun _ => True) v (storedL p) ∧ Below w.heap.size w w' := by
  obtain ⟨b1, h1⟩ : ∃ b, (n : Int) % 256 = b := ⟨_, rfl⟩
  obtain ⟨b2, h2⟩ : ∃ b, (n : Int) / 256 = b := ⟨_, rfl⟩
  obtain ⟨b3, h3⟩ : ∃ b, (-1 - (n : Int)) % 256 = b := ⟨_, rfl⟩
  obtain ⟨b4, h4⟩ : ∃ b, (-1 - (n : Int)) / 256 % 256 = b := ⟨_, rfl⟩
  have HS := Aside0.mk (show [1, b1, b2, b3, b4] ++ p = storedL p by rw [storedL, hn, h1, h2, h3, h4])
  have HC := Aside0.mk hC
  have HN := Aside0.mk hn
  have hnot := i64_not n (by omega)
  have HLIT := Aside0.mk (show (Kd.int .u8).C (w.alloc (.cells #[.int .u8 1, .int .u8 b1, .int .u8 b2, .int .u8 b3, .int .u8 b4] 5)) (some ⟨w.heap.size, 0, none⟩) 5 [1, b1, b2, b3, b4] from
    (Kd.R_reads' (Kd.R_of_own (h1 := fun _ => rfl) (own_lit w w.heap.size 5 .u8 [1, b1, b2, b3, b4] (Nat.le_refl _) (by simp)) (ok := fun _ => True) (fun _ _ => trivial) : (Kd.int .u8).R 5 _ _ _ _ _)).2.2)
  have hl2 : (n : Int) ≤ 65535 := by omega
  have hl3 : (n : Int) ≤ (c : Int) := by omega
  have hl4 : (0 : Int) ≤ (n : Int) := by omega
  have HB := Aside0.mk (Below.refl w.heap.size w)
  have HO := Aside0.mk (Kd.R_nil (Kd.int .u8) 5 w w.heap.size (fun _ => True))
  clear hC hn
  go_enter Try.func60, Try.ntmps60
  go_wp2
  go_loopg [0, 3] 1 (fun q v0 v3 w' => v0 = .slice A n c ∧ v3 = .slice none 0 0 ∧ w = w')
  case atStart => exact ⟨rfl, rfl, rfl⟩
  case round =>
    obtain ⟨rfl, rfl, rfl⟩ := hrel
    go_wp2_with (first | ((with_reducible refine gate_builtin (b := .append) (xs := #[.tmp 13, .tmp 27]) rfl ?_); at_builtin; refine Kd.R_append_row (Value.int .u8) (0) (h1 := fun _ => rfl) (w0 := w) w.heap.size rfl (.tmp 13) (.tmp 27) 46 5 (.int .u8 0) 1 rfl Try.underlying46 infoU8 rfl (by omega) (.slice none 0 0) ([] : List Int) [1, b1, b2, b3, b4] (some ⟨w.heap.size, 0, none⟩) 5 5 (fun _ => True) rfl rfl (fun _ _ => trivial) ?aO ?aR ?aB ?aS ?aL ?_; (case aO => (with_reducible repeat (first | apply Kd.R_alloc | apply Kd.R_drewN | apply Kd.R_drew)); exact HO.out); (case aR => rw [show (if IntKind.i64.signed = true then (-1 : Int) else 9223372036854775807) = -1 from rfl, hnot, h3, h4]; exact HLIT.out); (case aB => repeat (first | exact HB.out | apply below_alloc | apply pw_below_drewN | apply below_drew1)); (case aS => refine below_size ?_; repeat (first | exact HB.out | apply below_alloc | apply pw_below_drewN | apply below_drew1)); (case aL => first | decide | (simp; omega) | (simp; done) | omega); intro v1 w1 ho hb hg hat; obtain ⟨k1, cap1, rfl, hk1, hk2, -⟩ := Kd.R_form ho (by simp); have HO1 := Aside0.mk ho; have HB1 := Aside0.mk hb; clear ho hb hg hat hk1 hk2) | ((with_reducible refine gate_builtin (b := .append) (xs := #[.tmp 29, .tmp 32]) rfl ?_); at_builtin; refine Kd.R_append_row (Value.int .u8) (0) (h1 := fun _ => rfl) (w0 := w) w.heap.size rfl (.tmp 29) (.tmp 32) 46 5 (.int .u8 0) 1 rfl Try.underlying46 infoU8 rfl (by omega) (.slice (some ⟨k1, 0, none⟩) 5 cap1) [1, b1, b2, b3, b4] p A n c (fun _ => True) rfl rfl (fun _ _ => trivial) ?aO ?aR ?aB ?aS ?aL ?_; (case aO => (with_reducible repeat (first | apply Kd.R_alloc | apply Kd.R_drewN | apply Kd.R_drew)); exact HO1.out); (case aR => exact Kd.C_below HC.out HB1.out); (case aB => repeat (first | exact HB1.out | apply below_alloc | apply pw_below_drewN | apply below_drew1)); (case aS => refine below_size ?_; repeat (first | exact HB1.out | apply below_alloc | apply pw_below_drewN | apply below_drew1)); (case aL => first | decide | (simp; omega) | (simp; done) | omega); intro v2 w2 ho hb hg hat; have HO2 := Aside0.mk ho; have HB2 := Aside0.mk hb; clear ho hb hg hat))
    all_goals (go_ret; exact ⟨_, rfl, by rw [← HS.out]; exact HO2.out, HB2.out⟩)
end Go.Proofs.Ytldhpniflnbilaa
