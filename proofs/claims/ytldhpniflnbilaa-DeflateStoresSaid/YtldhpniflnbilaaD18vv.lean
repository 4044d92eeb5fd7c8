/- bookOf of package deflate; slices.Repeat of a literal. -/
import Derived.Test.YtldhpniflnbilaaProg
import Derived.Below
import Derived.Deep.Draws
import Derived.Deep.AppendLies
import Derived.Maps.AppendAt
import Derived.OwnWalk
import Derived.Laws.BytesArg
import Derived.Laws.MakeOwn
import Derived.Laws.OwnMore
import Derived.Deep.OwnRows
import Derived.Tactics
import Derived.Lib.ConvBytes
import Derived.Laws.Slices
import Derived.WalkKit
import Derived.KernelRfl
import Derived.RowKit3
import Derived.Deep.LoopGhost
import Derived.Deep.QuietTactic
import Derived.BigQuiet
import Derived.WideLaws
import Derived.Deep.DeepCutAuto
import Derived.Deep.CutBlock
import Derived.Deep.RegionHeld3
import Derived.Laws.Rows
import Derived.Lib.AppendStr
import Derived.ArgAppend
import Derived.Laws.IdiomCopy
import Derived.OrdersHeld
import Derived.Laws.BitsLemmas
import Derived.RowKit
import Derived.Outline
import Derived.Test.YtldhpniflnbilaaV34s
import Derived.Test.YtldhpniflnbilaaD17vv
import Derived.Test.YtldhpniflnbilaaPDx16vv
set_option linter.unusedVariables false
set_option linter.unusedSimpArgs false
namespace Go.Proofs.Ytldhpniflnbilaa
open Go.RowKit Go.Proofs.YtldhpniflnbilaaW.PrintWords Go.Proofs.YtldhpniflnbilaaW.PrintLast Go.Proofs.YtldhpniflnbilaaW.PrintMore

open PD
theorem store2 {w : World} {g t : Nat} {x0 x1 : Value} (h : w.heap[g]? = some (.cells #[x0, x1] t (0, 0))) (y0 y1 : Value) : ∃ w1 w2, w.setCell ⟨g, 0, none⟩ y0 = w1 ∧ w1.setCell ⟨g, 1, none⟩ y1 = w2 ∧
    w.cell? ⟨g, 0, none⟩ = some x0 ∧ w1.cell? ⟨g, 1, none⟩ = some x1 ∧ w.frozen? ⟨g, 0, none⟩ = false ∧ w1.frozen? ⟨g, 1, none⟩ = false ∧
    w2.heap[g]? = some (.cells #[y0, y1] t (0, 0)) ∧ (∀ b, b ≠ g → w2.heap[b]? = w.heap[b]?) ∧ (∀ w0 : World, Below w0.heap.size w0 w → w0.heap.size ≤ g → Below w0.heap.size w0 w2) := by
  have h1 := blk_set h 0 y0
  have h2 := blk_set h1 1 y1
  exact ⟨_, _, rfl, rfl, (blk_cell h 0).trans rfl, (blk_cell h1 1).trans rfl, blk_frozen h 0, blk_frozen h1 1, h2.trans rfl,
    fun b hb => (Below.heap_setCell _ _ _ b hb).trans (Below.heap_setCell _ _ _ b hb), fun w0 hB hg => below_setg (below_setg hB hg 0 _) hg 1 _⟩
/-- A row of the call's own stays where one block that is not its own is written, and all below. -/
theorem Nrow.keep {w w1 : World} {base : Nat} {v : Value} {xs : List Int} (h : Nrow w base v xs) (hk : ∀ b, b < w.heap.size → v.ownBlock = some b → w1.heap[b]? = w.heap[b]?) : Nrow w1 base v xs :=
  Kd.R_mono (ok := fun b => v.ownBlock = some b) (Kd.R_step (w := w) (show (Kd.int .i64).R 3 w base (fun b => v.ownBlock = some b) v xs from ⟨fun k hk2 => hk2, h.2.imp_ (fun _ _ hp => hp)⟩) (fun k ho hlt => hk k hlt ho)) (fun _ _ => trivial)
set_option maxHeartbeats 1000000 in
set_option maxRecDepth 100000 in
theorem bookOf_calls (w : World) (A : Option Addr) (n c k : Nat) (l cs : List Int) (hC : (Kd.int .i64).C w A n l) (hn : l.length = n) (hnc : n ≤ c) (hk : prefix_Codes.f k l = some (cs, 0)) :
    Calls Try.prog 68 #[.slice A n c] w fun e w' => ∃ v, e = .returned (.agg #[.slice A n c, v]) ∧ Nrow w' w.heap.size v cs ∧ Below w.heap.size w w' := by
  obtain ⟨W, hW⟩ : ∃ W, w.alloc (.cells #[.slice none 0 0, .slice none 0 0] 89) = W := ⟨_, rfl⟩
  obtain ⟨gb, hgb⟩ : ∃ gb, w.heap.size = gb := ⟨_, rfl⟩
  have hbw : Below w.heap.size w W := by rw [← hW]; exact below_alloc (Below.refl _ _) _
  have H1 := Aside0.mk (show W.heap[gb]? = some (.cells #[.slice none 0 0, .slice none 0 0] 89 (0, 0)) by rw [← hW, ← hgb]; exact blk_new w _)
  have hCW := Kd.C_below hC hbw
  subst hn
  have HCO := Aside0.mk (prefix_Codes.calls k A c l cs 0 W hCW hnc hk)
  have HBW := Aside0.mk hbw
  clear hC hCW hbw hk
  go_enter Try.func68, Try.ntmps68
  go_upto_region 2 with (go_at_call 20; refine HCO.out.mono ?_; rintro e' w1 ⟨v1, rfl, hr1, hb1⟩; obtain ⟨B, d, rfl⟩ := Kd.R_slice hr1; obtain ⟨X1, X2, hX1, hX2, q1, q2, q4, q5, k1, k2, k3⟩ := store2 (blk_below H1.out hb1) (.slice A l.length c) (.slice B cs.length d); have HR1 := Aside0.mk hr1; have HBX := Aside0.mk (k3 w (below_then HBW.out HBW.out.size hb1) (by omega)); have HX := Aside0.mk k1; have HKK := Aside0.mk k2; have HW1 := Aside0.mk hb1; clear hr1 hb1 k1 k2 k3)
  clear hW
  go_wp2
  refine bodyPost_ret (results_cell_row rfl _ _ gb 89 #[.slice A l.length c, .slice B cs.length d] (0, 0) _ rfl HX.out Try.underlying89 rfl (by kernel_rfl)) rfl ?_
  refine ⟨_, rfl, Kd.R_lower (Nrow.keep HR1.out (fun b hlt hb => HKK.out b ?_)) HBW.out.size, HBX.out⟩
  have h1 := own_base (Kd.own_of_R HR1.out) b hb
  have h2 := blk_lt H1.out
  omega
theorem lit1 (w : World) (x : Int) : (Kd.int .i64).C (w.alloc (.cells #[.int .i64 x] 3)) (some ⟨w.heap.size, 0, none⟩) 1 [x] :=
  (Kd.R_reads' (Kd.R_of_own (h1 := fun _ => rfl) (own_lit w w.heap.size 3 .i64 [x] (Nat.le_refl _) (by simp)) (ok := fun _ => True) (fun _ _ => trivial) : (Kd.int .i64).R 3 _ _ _ _ _)).2.2
def repL (n : Nat) (x : Int) : List Int := List.replicate n x
theorem repL_length (n : Nat) (x : Int) : (repL n x).length = n := List.length_replicate
theorem repeat_lit (w : World) (x : Int) (n : Nat) (h0 : 0 < n) (hn : n ≤ 1000000) :
    Calls Try.prog 66 #[.slice (some ⟨w.heap.size, 0, none⟩) 1 1, .int .i64 (n : Int)] (w.alloc (.cells #[.int .i64 x] 3)) fun e w' => ∃ B d, e = .returned (.slice B n d) ∧ Nrow w' w.heap.size (.slice B n d) (repL n x) ∧ Below w.heap.size w w' := by
  refine (repeat_calls _ _ 1 n x (lit1 w x) h0 hn).mono ?_
  rintro e w' ⟨v, rfl, hr, hb⟩
  obtain ⟨B, d, rfl⟩ := Kd.R_slice hr
  rw [List.length_replicate] at hr ⊢
  exact ⟨B, d, rfl, Kd.R_lower hr (by simp), below_then (below_alloc (Below.refl _ _) _) (by simp) hb⟩
end Go.Proofs.Ytldhpniflnbilaa
