/- The examples of chapter 34. -/
import Derived.Test.YtldhpniflnbilaaProg
import Derived.Below
import Derived.Deep.Draws
import Derived.Deep.AppendLies
import Derived.Maps.AppendAt
import Derived.OwnWalk
import Derived.Laws.BytesArg
import Derived.Laws.MakeOwn
import Derived.Laws.OwnMore
import Derived.Deep.OwnRows
import Derived.Tactics
import Derived.Lib.ConvBytes
import Derived.Laws.Slices
import Derived.WalkKit
import Derived.KernelRfl
import Derived.RowKit3
import Derived.Deep.LoopGhost
import Derived.Deep.QuietTactic
import Derived.BigQuiet
import Derived.WideLaws
import Derived.Deep.DeepCutAuto
import Derived.Deep.CutBlock
import Derived.Deep.RegionHeld3
import Derived.Laws.Rows
import Derived.Lib.AppendStr
import Derived.ArgAppend
import Derived.Laws.IdiomCopy
import Derived.OrdersHeld
import Derived.Laws.BitsLemmas
import Derived.RowKit
import Derived.Outline
import Derived.Test.YtldhpniflnbilaaV34s
import Derived.Lib.SlBytesConst
import Derived.Test.YtldhpniflnbilaaD20vv
import Derived.Test.YtldhpniflnbilaaPEx33vv
import Derived.Test.YtldhpniflnbilaaPEx35vv
set_option linter.unusedVariables false
set_option linter.unusedSimpArgs false
namespace Go.Proofs.Ytldhpniflnbilaa
open Go.RowKit Go.Proofs.YtldhpniflnbilaaW.PrintWords Go.Proofs.YtldhpniflnbilaaW.PrintLast Go.Proofs.YtldhpniflnbilaaW.PrintMore

theorem nilC (w : World) : (Kd.int .u8).C w none 0 ([] : List Int) := (Kd.R_reads' (Kd.R_nil (Kd.int .u8) 5 w 0 (fun _ => True))).2.2
theorem alloc_cell (w : World) (cs : Array Value) (e : Nat) (f g : Nat × Nat) (a : Addr) : (w.alloc (.cells cs e f)).cell? a = (w.alloc (.cells cs e g)).cell? a := by
  by_cases h : a.block = w.heap.size
  · have e1 : (w.alloc (.cells cs e f)).heap[a.block]? = some (.cells cs e f) := by rw [h]; exact blk_new w _
    have e2 : (w.alloc (.cells cs e g)).heap[a.block]? = some (.cells cs e g) := by rw [h]; exact blk_new w _
    simp only [World.cell?, e1, e2]
  · refine World.cell?_of_block ?_
    show (w.heap.push _)[a.block]? = (w.heap.push _)[a.block]?
    rw [Array.getElem?_push, Array.getElem?_push, if_neg h, if_neg h]
theorem litC (w : World) (xs : List Int) (p q : Nat) (h : xs.length ≤ 9223372036854775807) : (Kd.int .u8).C (w.alloc (.cells (nums .u8 xs).toArray 5 (p, q))) (some ⟨w.heap.size, 0, none⟩) xs.length xs := by
  have h1 := Kd.reads_of_C (d := (0 : Int)) (Kd.R_reads' (Kd.R_of_own (h1 := fun _ => rfl) (own_lit w w.heap.size 5 .u8 xs (Nat.le_refl _) h) (ok := fun _ => True) (fun _ _ => trivial) : (Kd.int .u8).R 5 _ _ _ _ _)).2.2
  refine Kd.C_of_reads (d := (0 : Int)) ⟨h1.1, h1.2.1, fun h2 => ?_⟩
  obtain ⟨ad, e1, e2⟩ := h1.2.2 h2
  exact ⟨ad, e1, fun j hj => by rw [alloc_cell w _ _ (p, q) (0, 0)]; exact e2 j hj⟩
set_option maxRecDepth 1000000 in
theorem ex_c0_f : deflate_Compress.f ([] : List Int) 0 = some ([1, 0, 0, 255, 255], 0) := by decide +kernel
theorem ex_c0 (w : World) : Calls Try.prog 33 #[.slice none 0 0, .int .i64 0] w fun e w' => ∃ A c, e = .returned (.tuple #[.slice A 5 c, .int .i64 0]) ∧ (Kd.int .u8).R 5 w' w.heap.size (fun _ => True) (.slice A 5 c) [1, 0, 0, 255, 255] ∧ Below w.heap.size w w' := by
  refine (deflate_Compress.calls _ _ ([] : List Int) 0 [1, 0, 0, 255, 255] 0 _ (nilC w) (by simp) ex_c0_f).mono ?_
  rintro e w' ⟨v, rfl, hr, hb⟩
  obtain ⟨A, c, rfl⟩ := Kd.R_slice hr
  exact ⟨A, c, rfl, Kd.R_lower hr (Nat.le_refl _), hb⟩
set_option maxRecDepth 1000000 in
theorem ex_c1_f : deflate_Compress.f ([] : List Int) 1 = some ([3, 0], 0) := by decide +kernel
theorem ex_c1 (w : World) : Calls Try.prog 33 #[.slice none 0 0, .int .i64 1] w fun e w' => ∃ A c, e = .returned (.tuple #[.slice A 2 c, .int .i64 0]) ∧ (Kd.int .u8).R 5 w' w.heap.size (fun _ => True) (.slice A 2 c) [3, 0] ∧ Below w.heap.size w w' := by
  refine (deflate_Compress.calls _ _ ([] : List Int) 1 [3, 0] 0 _ (nilC w) (by simp) ex_c1_f).mono ?_
  rintro e w' ⟨v, rfl, hr, hb⟩
  obtain ⟨A, c, rfl⟩ := Kd.R_slice hr
  exact ⟨A, c, rfl, Kd.R_lower hr (Nat.le_refl _), hb⟩
set_option maxRecDepth 1000000 in
theorem ex_ca_f : deflate_Compress.f [97] 1 = some ([75, 4, 0], 0) := by decide +kernel
theorem ex_ca (w : World) : Calls Try.prog 33 #[.slice (some ⟨w.heap.size, 0, none⟩) 1 1, .int .i64 1] (w.alloc (.cells #[.int .u8 97] 5 (1, 2))) fun e w' => ∃ A c, e = .returned (.tuple #[.slice A 3 c, .int .i64 0]) ∧ (Kd.int .u8).R 5 w' w.heap.size (fun _ => True) (.slice A 3 c) [75, 4, 0] ∧ Below w.heap.size w w' := by
  refine (deflate_Compress.calls _ _ [97] 1 [75, 4, 0] 0 _ (litC w [97] 1 2 (by simp)) (by simp) ex_ca_f).mono ?_
  rintro e w' ⟨v, rfl, hr, hb⟩
  obtain ⟨A, c, rfl⟩ := Kd.R_slice hr
  exact ⟨A, c, rfl, Kd.R_lower hr (by simp), below_two (below_alloc (Below.refl _ _) _) hb⟩
set_option maxRecDepth 1000000 in
theorem ex_m_f : PE.deflate_Matches.f [97, 98, 99, 97, 98, 99, 97, 98, 99, 100] = some ([97, 98, 99, 393219, 100], 0) := by decide +kernel
theorem ex_m (w : World) : Calls Try.prog 35 #[.slice (some ⟨w.heap.size, 0, none⟩) 10 10] (w.alloc (.cells #[.int .u8 97, .int .u8 98, .int .u8 99, .int .u8 97, .int .u8 98, .int .u8 99, .int .u8 97, .int .u8 98, .int .u8 99, .int .u8 100] 5 (10, 11))) fun e w' => ∃ A c, e = .returned (.tuple #[.slice A 5 c, .int .i64 0]) ∧ (Kd.int .i64).R 3 w' w.heap.size (fun _ => True) (.slice A 5 c) [97, 98, 99, 393219, 100] ∧ Below w.heap.size w w' := by
  refine (PE.deflate_Matches.calls _ _ [97, 98, 99, 97, 98, 99, 97, 98, 99, 100] [97, 98, 99, 393219, 100] 0 _ (litC w [97, 98, 99, 97, 98, 99, 97, 98, 99, 100] 10 11 (by simp)) (by simp) ex_m_f).mono ?_
  rintro e w' ⟨v, rfl, hr, hb⟩
  obtain ⟨A, c, rfl⟩ := Kd.R_slice hr
  exact ⟨A, c, rfl, Kd.R_lower hr (by simp), below_two (below_alloc (Below.refl _ _) _) hb⟩
set_option maxRecDepth 1000000 in
theorem ex_w_f : PE.deflate_Wrap.f 200 [97] 1 = some ([120, 94, 75, 4, 0, 0, 98, 0, 98], 0) := by decide +kernel
theorem ex_w (w : World) : Calls Try.prog 41 #[.slice (some ⟨w.heap.size, 0, none⟩) 1 1, .int .i64 1] (w.alloc (.cells #[.int .u8 97] 5 (1, 2))) fun e w' => ∃ A c, e = .returned (.tuple #[.slice A 9 c, .int .i64 0]) ∧ (Kd.int .u8).R 5 w' w.heap.size (fun _ => True) (.slice A 9 c) [120, 94, 75, 4, 0, 0, 98, 0, 98] ∧ Below w.heap.size w w' := by
  refine (PE.deflate_Wrap.calls 200 _ _ [97] 1 [120, 94, 75, 4, 0, 0, 98, 0, 98] 0 _ (litC w [97] 1 2 (by simp)) (by simp) ex_w_f).mono ?_
  rintro e w' ⟨v, rfl, hr, hb⟩
  obtain ⟨A, c, rfl⟩ := Kd.R_slice hr
  exact ⟨A, c, rfl, Kd.R_lower hr (by simp), below_two (below_alloc (Below.refl _ _) _) hb⟩
set_option maxRecDepth 1000000 in
theorem ex_c3_f : deflate_Compress.f ([] : List Int) 3 = some (([] : List Int), 3) := by decide +kernel
theorem ex_c3 (w : World) : Calls Try.prog 33 #[.slice none 0 0, .int .i64 3] w fun e w' => ∃ A c, e = .returned (.tuple #[.slice A 0 c, .int .i64 3]) ∧ (Kd.int .u8).R 5 w' w.heap.size (fun _ => True) (.slice A 0 c) ([] : List Int) ∧ Below w.heap.size w w' := by
  refine (deflate_Compress.calls _ _ ([] : List Int) 3 ([] : List Int) 3 _ (nilC w) (by simp) ex_c3_f).mono ?_
  rintro e w' ⟨v, rfl, hr, hb⟩
  obtain ⟨A, c, rfl⟩ := Kd.R_slice hr
  exact ⟨A, c, rfl, Kd.R_lower hr (Nat.le_refl _), hb⟩

theorem row_str {w : World} {base : Nat} {v : Value} {xs : List Int} {s : ByteArray} (h : (Kd.int .u8).R 5 w base (fun _ => True) v xs) (hs : strOfNums xs = s) : (convert 46 9 v).run Try.prog w = .ok (.string s) w := by
  rw [← hs]
  exact own_string Try.underlying46 Try.underlying5 Try.underlying9 (Kd.own_of_R h)
set_option maxHeartbeats 1000000 in
set_option maxRecDepth 100000 in
theorem examples_calls (w : World) : Calls Try.prog 32 #[] w fun e w' => e = .returned (.bool true) ∧ Below w.heap.size w w' := by
  have kc := fun (w : World) (C : Array Value) (n c : Nat) => Lib.run_convert_bytes_const (P := Try.prog) w 46 5 C n c Try.underlying46 Try.underlying5
  go_enter Try.func32, Try.ntmps32
  go_upto_region 7 with (first | (go_at_call 33; with_reducible refine (ex_c0 _).mono ?_; rintro e' x1 ⟨A1, c1, rfl, hr, hb⟩; have HR1 := Aside0.mk hr; have HX1 := Aside0.mk hb; clear hr hb) | (go_at_call 33; with_reducible refine (ex_c1 _).mono ?_; rintro e' x2 ⟨A2, c2, rfl, hr, hb⟩; have HR2 := Aside0.mk hr; have HX2 := Aside0.mk hb; clear hr hb) | (go_at_call 33; with_reducible refine (ex_ca _).mono ?_; rintro e' x3 ⟨A3, c3, rfl, hr, hb⟩; have HR3 := Aside0.mk hr; have HX3 := Aside0.mk hb; clear hr hb) | (go_at_call 35; with_reducible refine (ex_m _).mono ?_; rintro e' x4 ⟨A4, c4, rfl, hr, hb⟩; have HR4 := Aside0.mk hr; have HX4 := Aside0.mk hb; clear hr hb) | (go_at_call 41; with_reducible refine (ex_w _).mono ?_; rintro e' x5 ⟨A5, c5, rfl, hr, hb⟩; have HR5 := Aside0.mk hr; have HX5 := Aside0.mk hb; clear hr hb) | (go_at_call 33; with_reducible refine (ex_c3 _).mono ?_; rintro e' x6 ⟨A6, c6, rfl, hr, hb⟩; have HR6 := Aside0.mk hr; have HX6 := Aside0.mk hb; clear hr hb))
  have HW2 := Aside0.mk (below_two HX1.out HX2.out)
  have HW3 := Aside0.mk (below_two HX3.out HX4.out)
  have HW4 := Aside0.mk (below_two HX5.out HX6.out)
  have HBB := Aside0.mk (below_two HW2.out (below_two HW3.out HW4.out))
  have r1 := Kd.R_below (Kd.R_below HR1.out HX2.out) (below_two HW3.out HW4.out)
  have r2 := Kd.R_below HR2.out (below_two HW3.out HW4.out)
  have r3 := Kd.R_below (Kd.R_below HR3.out HX4.out) HW4.out
  have r5 := Kd.R_below HR5.out HX6.out
  have r4 := Kd.R_below HR4.out HW4.out
  have q1 := row_str (s := ⟨#[1, 0, 0, 255, 255]⟩) r1 (by decide)
  have q2 := row_str (s := ⟨#[3, 0]⟩) r2 (by decide)
  have q3 := row_str (s := ⟨#[75, 4, 0]⟩) r3 (by decide)
  have q5 := row_str (s := ⟨#[120, 94, 75, 4, 0, 0, 98, 0, 98]⟩) r5 (by decide)
  have C4 := (Kd.R_reads' r4).2.2
  obtain ⟨ad, rfl, t2⟩ := Kd.at_int C4 2 (by decide) (by decide)
  obtain ⟨_, e1, t3⟩ := Kd.at_int C4 3 (by decide) (by decide)
  injection e1 with e1
  subst e1
  obtain ⟨_, e1, t4⟩ := Kd.at_int C4 4 (by decide) (by decide)
  injection e1 with e1
  subst e1
  rw [show (2 : Int).toNat = 2 from rfl, show rd [97, 98, 99, 393219, 100] 2 = 99 from rfl] at t2
  rw [show (3 : Int).toNat = 3 from rfl, show rd [97, 98, 99, 393219, 100] 3 = 393219 from rfl] at t3
  rw [show (4 : Int).toNat = 4 from rfl, show rd [97, 98, 99, 393219, 100] 4 = 100 from rfl] at t4
  rw [show ad.add 2 = ⟨ad.block, ad.off + 2, none⟩ from rfl] at t2
  rw [show ad.add 3 = ⟨ad.block, ad.off + 3, none⟩ from rfl] at t3
  rw [show ad.add 4 = ⟨ad.block, ad.off + 4, none⟩ from rfl] at t4
  clear r1 r2 r3 r4 r5 C4 kc HR1 HR2 HR3 HR4 HR5 HR6 HX1 HX2 HX3 HX4 HX5 HX6 HW2 HW3 HW4
  go_wp2
  go_ret
  exact ⟨rfl, HBB.out⟩
def barscanlaw34_examples.f : Option Bool := some true
theorem barscanlaw34_examples.calls (r : Bool) (w : World) (h : barscanlaw34_examples.f = some r) : Calls Try.prog 32 #[] w fun e w' => e = .returned (.bool r) ∧ Below w.heap.size w w' := by
  injection h with h
  subst h
  exact examples_calls w
end Go.Proofs.Ytldhpniflnbilaa
