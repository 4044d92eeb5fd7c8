/- find and parts of package deflate. -/
import Derived.Test.YtldhpniflnbilaaProg
import Derived.Below
import Derived.Deep.Draws
import Derived.Deep.AppendLies
import Derived.Maps.AppendAt
import Derived.OwnWalk
import Derived.Laws.BytesArg
import Derived.Laws.MakeOwn
import Derived.Laws.OwnMore
import Derived.Deep.OwnRows
import Derived.Tactics
import Derived.Lib.ConvBytes
import Derived.Laws.Slices
import Derived.WalkKit
import Derived.KernelRfl
import Derived.RowKit3
import Derived.Deep.LoopGhost
import Derived.Deep.QuietTactic
import Derived.BigQuiet
import Derived.WideLaws
import Derived.Deep.DeepCutAuto
import Derived.Deep.CutBlock
import Derived.Deep.RegionHeld3
import Derived.Laws.Rows
import Derived.Lib.AppendStr
import Derived.ArgAppend
import Derived.Laws.IdiomCopy
import Derived.OrdersHeld
import Derived.Laws.BitsLemmas
import Derived.RowKit
import Derived.Outline
import Derived.Test.YtldhpniflnbilaaV34s
import Derived.Test.YtldhpniflnbilaaD4vv
import Derived.Test.YtldhpniflnbilaaPDx9vv
import Derived.Test.YtldhpniflnbilaaPDx10vv
set_option linter.unusedVariables false
set_option linter.unusedSimpArgs false
namespace Go.Proofs.Ytldhpniflnbilaa
open Go.RowKit Go.Proofs.YtldhpniflnbilaaW.PrintWords Go.Proofs.YtldhpniflnbilaaW.PrintLast Go.Proofs.YtldhpniflnbilaaW.PrintMore

open PD
/-- Extra bits and least length of a length symbol. -/
def lenSym (s : Nat) : Int × Int := if s = 285 then (0, 258) else if s < 265 then (0, (s : Int) - 254) else ((((s - 261) / 4 : Nat) : Int), ((((4 + (s - 1) % 4) * 2 ^ ((s - 261) / 4) + 3 : Nat)) : Int))
def disSym (s : Nat) : Int × Int := if s < 4 then (0, (s : Int) + 1) else (((s / 2 - 1 : Nat) : Int), ((1 + (2 + s % 2) * 2 ^ (s / 2 - 1) : Nat) : Int))
theorem lenSym_f (s : Nat) (h0 : 257 ≤ s) (h1 : s ≤ 285) : deflate_lengthSymbol.f (s : Int) = some (lenSym s) := by
  have key : ∀ i : Fin 29, deflate_lengthSymbol.f ((257 + i.val : Nat) : Int) = some (lenSym (257 + i.val)) := by decide +kernel
  have := key ⟨s - 257, by omega⟩
  rwa [show 257 + (s - 257) = s by omega] at this
theorem disSym_f (s : Nat) (h0 : 0 ≤ s) (h1 : s ≤ 29) : deflate_distanceSymbol.f (s : Int) = some (disSym s) := by
  have key : ∀ i : Fin 30, deflate_distanceSymbol.f ((i.val : Nat) : Int) = some (disSym i.val) := by decide +kernel
  exact key ⟨s, by omega⟩
theorem lenSym_le (s : Nat) (h0 : 257 ≤ s) (h1 : s ≤ 285) : 3 ≤ (lenSym s).2 ∧ (lenSym s).2 ≤ 258 := by
  have key : ∀ i : Fin 29, 3 ≤ (lenSym (257 + i.val)).2 ∧ (lenSym (257 + i.val)).2 ≤ 258 := by decide +kernel
  have := key ⟨s - 257, by omega⟩
  rwa [show 257 + (s - 257) = s by omega] at this
theorem disSym_le (s : Nat) (h0 : 0 ≤ s) (h1 : s ≤ 29) : 1 ≤ (disSym s).2 ∧ (disSym s).2 ≤ 32768 := by
  have key : ∀ i : Fin 30, 1 ≤ (disSym i.val).2 ∧ (disSym i.val).2 ≤ 32768 := by decide +kernel
  exact key ⟨s, by omega⟩
/-- The greatest symbol from 'first' to 'first + k' whose least value is at most v (or the first one), the rest, and the number of extra bits. -/
def findF (d : Nat → Int × Int) (v : Int) (first : Nat) : Nat → Int × Int × Int
  | 0 => ((first : Int), v - (d first).2, (d first).1)
  | k + 1 => if (d (first + (k + 1))).2 ≤ v then (((first + (k + 1) : Nat) : Int), v - (d (first + (k + 1))).2, (d (first + (k + 1))).1) else findF d v first k
theorem drawn_trans {w w1 w2 : World} (h : Drawn0 w w1) (k : Drawn0 w1 w2) : ∃ n, w2 = w.drewN n := by
  obtain ⟨n, rfl⟩ := k.out
  exact (h.step n).out

set_option maxHeartbeats 1000000 in
set_option maxRecDepth 100000 in
theorem findLen_gen (d : Nat → Int × Int) (lo n : Nat) (hlo : lo ≤ 1000) (hn : n ≤ 1000) (hf : ∀ s, lo ≤ s → s ≤ lo + n → deflate_lengthSymbol.f (s : Int) = some (d s)) (hle : ∀ s, lo ≤ s → s ≤ lo + n → 1 ≤ (d s).2 ∧ (d s).2 ≤ 40000) (v : Int) (hv0 : 0 ≤ v) (hv1 : v ≤ 1000000000000) (w : World) :
    Calls Try.prog 108 #[.int .i64 v, .int .i64 (lo : Int), .int .i64 ((lo + n : Nat) : Int), .func (.func 109) #[] #[]] w fun e w' => e = .returned (.tuple #[.int .i64 (findF d v lo n).1, .int .i64 (findF d v lo n).2.1, .int .i64 (findF d v lo n).2.2]) ∧ Drawn0 w w' := by
  obtain ⟨R, hR⟩ : ∃ R, findF d v lo n = R := ⟨_, rfl⟩
  rw [hR]
  have HR := Aside0.mk hR
  have HF := Aside0.mk hf
  have HL := Aside0.mk hle
  clear hR hf hle
  go_enter Try.func108, Try.ntmps108
  go_wp2
  go_loopg [11] (n + 1) (fun q v11 w' => ∃ k : Nat, v11 = .int .i64 ((lo + k : Nat) : Int) ∧ Aside0 (q = k + 1 ∧ k ≤ n) ∧ Aside0 (findF d v lo k = R) ∧ Aside0 (Drawn0 w w'))
  case atStart => exact ⟨n, rfl, ⟨rfl, by omega⟩, HR, ⟨Drawn0.refl _⟩⟩
  case round =>
    clear HR
    obtain ⟨k, rfl, HK, HR, HW⟩ := hrel
    by_cases hk : 0 < k
    · obtain ⟨m, rfl⟩ : ∃ m, k = m + 1 := ⟨k - 1, by omega⟩
      obtain ⟨ex, hex⟩ : ∃ x, (d (lo + (m + 1))).1 = x := ⟨_, rfl⟩
      obtain ⟨le, hle⟩ : ∃ x, (d (lo + (m + 1))).2 = x := ⟨_, rfl⟩
      have hr := HR.out
      rw [findF, hex, hle] at hr
      have HR2 := Aside0.mk hr
      have HD := Aside0.mk (show deflate_lengthSymbol.f ((lo + (m + 1) : Nat) : Int) = some (ex, le) by have h := HF.out (lo + (m + 1)) (by omega) (by have := HK.out; omega); rw [← hex, ← hle]; exact h)
      have hle0 := HL.out (lo + (m + 1)) (by omega) (by have := HK.out; omega)
      rw [hle] at hle0
      clear hr hex hle HR hk
      obtain ⟨t, ht⟩ : ∃ t : Int, ((lo + (m + 1) : Nat) : Int) = t := ⟨_, rfl⟩
      have ht1 : (lo : Int) < t := by omega
      have ht2 : t ≤ 3000 := by have := HK.out; omega
      have ht3 : t - 1 = ((lo + m : Nat) : Int) := by omega
      rw [ht] at HR2 HD ⊢
      clear ht
      by_cases hc : le ≤ v
      · have HR3 := Aside0.mk (show (t, v - le, ex) = R by have := HR2.out; rw [if_pos hc] at this; exact this)
        go_wp2_with (go_at_call 109; refine (deflate_lengthSymbol.calls _ _ _ _ HD.out).mono ?_; rintro e' w1 ⟨rfl, hd1⟩; have HD1 := Aside0.mk hd1; clear hd1)
        refine bodyPost_ret (v := .tuple #[.int .i64 t, .int .i64 (v - le), .int .i64 ex]) (by simp [results, Try.results108, go_sem]) rfl ?_
        rw [← HR3.out]
        exact ⟨rfl, ⟨drawn_trans HW.out HD1.out⟩⟩
      · have HR3 := Aside0.mk (show findF d v lo m = R by have := HR2.out; rw [if_neg hc] at this; exact this)
        go_wp2_with (go_at_call 109; refine (deflate_lengthSymbol.calls _ _ _ _ HD.out).mono ?_; rintro e' w1 ⟨rfl, hd1⟩; have HD1 := Aside0.mk hd1; clear hd1)
        go_roundg (gk - 1)
        case measure => have := HK.out; omega
        case rel => exact ⟨m, (by first | rfl | (rw [ht3]) | go_num), ⟨by have := HK.out; omega, by have := HK.out; omega⟩, HR3, ⟨⟨drawn_trans HW.out HD1.out⟩⟩⟩
    · obtain rfl : k = 0 := by omega
      obtain ⟨ex, hex⟩ : ∃ x, (d lo).1 = x := ⟨_, rfl⟩
      obtain ⟨le, hle⟩ : ∃ x, (d lo).2 = x := ⟨_, rfl⟩
      have HD := Aside0.mk (show deflate_lengthSymbol.f (lo : Int) = some (ex, le) by have h := HF.out lo (by omega) (by omega); rw [← hex, ← hle]; exact h)
      have hle0 := HL.out lo (by omega) (by omega)
      rw [hle] at hle0
      have HR3 := Aside0.mk (show ((lo : Int), v - le, ex) = R by have := HR.out; rw [findF, hex, hle] at this; exact this)
      clear hex hle HR
      go_wp2_with (go_at_call 109; refine (deflate_lengthSymbol.calls _ _ _ _ HD.out).mono ?_; rintro e' w1 ⟨rfl, hd1⟩; have HD1 := Aside0.mk hd1; clear hd1)
      refine bodyPost_ret (v := .tuple #[.int .i64 lo, .int .i64 (v - le), .int .i64 ex]) (by simp [results, Try.results108, go_sem]) rfl ?_
      rw [← HR3.out]
      exact ⟨rfl, ⟨drawn_trans HW.out HD1.out⟩⟩
set_option maxRecDepth 100000 in
theorem findLen_calls (v : Int) (hv0 : 0 ≤ v) (hv1 : v ≤ 1000000000000) (w : World) :
    Calls Try.prog 108 #[.int .i64 v, .int .i64 257, .int .i64 285, .func (.func 109) #[] #[]] w fun e w' => e = .returned (.tuple #[.int .i64 (findF lenSym v 257 (285 - 257)).1, .int .i64 (findF lenSym v 257 (285 - 257)).2.1, .int .i64 (findF lenSym v 257 (285 - 257)).2.2]) ∧ Drawn0 w w' :=
  findLen_gen lenSym 257 (285 - 257) (by omega) (by omega) (fun s h0 h1 => lenSym_f s (by omega) (by omega)) (fun s h0 h1 => by have := lenSym_le s (by omega) (by omega); omega) v hv0 hv1 w

set_option maxHeartbeats 1000000 in
set_option maxRecDepth 100000 in
theorem findDis_gen (d : Nat → Int × Int) (lo n : Nat) (hlo : lo ≤ 1000) (hn : n ≤ 1000) (hf : ∀ s, lo ≤ s → s ≤ lo + n → deflate_distanceSymbol.f (s : Int) = some (d s)) (hle : ∀ s, lo ≤ s → s ≤ lo + n → 1 ≤ (d s).2 ∧ (d s).2 ≤ 40000) (v : Int) (hv0 : 0 ≤ v) (hv1 : v ≤ 1000000000000) (w : World) :
    Calls Try.prog 108 #[.int .i64 v, .int .i64 (lo : Int), .int .i64 ((lo + n : Nat) : Int), .func (.func 110) #[] #[]] w fun e w' => e = .returned (.tuple #[.int .i64 (findF d v lo n).1, .int .i64 (findF d v lo n).2.1, .int .i64 (findF d v lo n).2.2]) ∧ Drawn0 w w' := by
  obtain ⟨R, hR⟩ : ∃ R, findF d v lo n = R := ⟨_, rfl⟩
  rw [hR]
  have HR := Aside0.mk hR
  have HF := Aside0.mk hf
  have HL := Aside0.mk hle
  clear hR hf hle
  go_enter Try.func108, Try.ntmps108
  go_wp2
  go_loopg [11] (n + 1) (fun q v11 w' => ∃ k : Nat, v11 = .int .i64 ((lo + k : Nat) : Int) ∧ Aside0 (q = k + 1 ∧ k ≤ n) ∧ Aside0 (findF d v lo k = R) ∧ Aside0 (Drawn0 w w'))
  case atStart => exact ⟨n, rfl, ⟨rfl, by omega⟩, HR, ⟨Drawn0.refl _⟩⟩
  case round =>
    clear HR
    obtain ⟨k, rfl, HK, HR, HW⟩ := hrel
    by_cases hk : 0 < k
    · obtain ⟨m, rfl⟩ : ∃ m, k = m + 1 := ⟨k - 1, by omega⟩
      obtain ⟨ex, hex⟩ : ∃ x, (d (lo + (m + 1))).1 = x := ⟨_, rfl⟩
      obtain ⟨le, hle⟩ : ∃ x, (d (lo + (m + 1))).2 = x := ⟨_, rfl⟩
      have hr := HR.out
      rw [findF, hex, hle] at hr
      have HR2 := Aside0.mk hr
      have HD := Aside0.mk (show deflate_distanceSymbol.f ((lo + (m + 1) : Nat) : Int) = some (ex, le) by have h := HF.out (lo + (m + 1)) (by omega) (by have := HK.out; omega); rw [← hex, ← hle]; exact h)
      have hle0 := HL.out (lo + (m + 1)) (by omega) (by have := HK.out; omega)
      rw [hle] at hle0
      clear hr hex hle HR hk
      obtain ⟨t, ht⟩ : ∃ t : Int, ((lo + (m + 1) : Nat) : Int) = t := ⟨_, rfl⟩
      have ht1 : (lo : Int) < t := by omega
      have ht2 : t ≤ 3000 := by have := HK.out; omega
      have ht3 : t - 1 = ((lo + m : Nat) : Int) := by omega
      rw [ht] at HR2 HD ⊢
      clear ht
      by_cases hc : le ≤ v
      · have HR3 := Aside0.mk (show (t, v - le, ex) = R by have := HR2.out; rw [if_pos hc] at this; exact this)
        go_wp2_with (go_at_call 110; refine (deflate_distanceSymbol.calls _ _ _ _ HD.out).mono ?_; rintro e' w1 ⟨rfl, hd1⟩; have HD1 := Aside0.mk hd1; clear hd1)
        refine bodyPost_ret (v := .tuple #[.int .i64 t, .int .i64 (v - le), .int .i64 ex]) (by simp [results, Try.results108, go_sem]) rfl ?_
        rw [← HR3.out]
        exact ⟨rfl, ⟨drawn_trans HW.out HD1.out⟩⟩
      · have HR3 := Aside0.mk (show findF d v lo m = R by have := HR2.out; rw [if_neg hc] at this; exact this)
        go_wp2_with (go_at_call 110; refine (deflate_distanceSymbol.calls _ _ _ _ HD.out).mono ?_; rintro e' w1 ⟨rfl, hd1⟩; have HD1 := Aside0.mk hd1; clear hd1)
        go_roundg (gk - 1)
        case measure => have := HK.out; omega
        case rel => exact ⟨m, (by first | rfl | (rw [ht3]) | go_num), ⟨by have := HK.out; omega, by have := HK.out; omega⟩, HR3, ⟨⟨drawn_trans HW.out HD1.out⟩⟩⟩
    · obtain rfl : k = 0 := by omega
      obtain ⟨ex, hex⟩ : ∃ x, (d lo).1 = x := ⟨_, rfl⟩
      obtain ⟨le, hle⟩ : ∃ x, (d lo).2 = x := ⟨_, rfl⟩
      have HD := Aside0.mk (show deflate_distanceSymbol.f (lo : Int) = some (ex, le) by have h := HF.out lo (by omega) (by omega); rw [← hex, ← hle]; exact h)
      have hle0 := HL.out lo (by omega) (by omega)
      rw [hle] at hle0
      have HR3 := Aside0.mk (show ((lo : Int), v - le, ex) = R by have := HR.out; rw [findF, hex, hle] at this; exact this)
      clear hex hle HR
      go_wp2_with (go_at_call 110; refine (deflate_distanceSymbol.calls _ _ _ _ HD.out).mono ?_; rintro e' w1 ⟨rfl, hd1⟩; have HD1 := Aside0.mk hd1; clear hd1)
      refine bodyPost_ret (v := .tuple #[.int .i64 lo, .int .i64 (v - le), .int .i64 ex]) (by simp [results, Try.results108, go_sem]) rfl ?_
      rw [← HR3.out]
      exact ⟨rfl, ⟨drawn_trans HW.out HD1.out⟩⟩
set_option maxRecDepth 100000 in
theorem findDis_calls (v : Int) (hv0 : 0 ≤ v) (hv1 : v ≤ 1000000000000) (w : World) :
    Calls Try.prog 108 #[.int .i64 v, .int .i64 0, .int .i64 29, .func (.func 110) #[] #[]] w fun e w' => e = .returned (.tuple #[.int .i64 (findF disSym v 0 (29 - 0)).1, .int .i64 (findF disSym v 0 (29 - 0)).2.1, .int .i64 (findF disSym v 0 (29 - 0)).2.2]) ∧ Drawn0 w w' :=
  findDis_gen disSym 0 (29 - 0) (by omega) (by omega) (fun s h0 h1 => disSym_f s (by omega) (by omega)) (fun s h0 h1 => by have := disSym_le s (by omega) (by omega); omega) v hv0 hv1 w

def lenOf (t : Int) : Int × Int × Int := findF lenSym (t / 65536) 257 28
def disOf (t : Int) : Int × Int × Int := findF disSym (t % 65536) 0 29
def arr3 (x : Int × Int × Int) : Value := .agg #[.int .i64 x.1, .int .i64 x.2.1, .int .i64 x.2.2]
theorem store3 {w : World} {g t : Nat} {x0 x1 x2 : Value} (h : w.heap[g]? = some (.cells #[x0, x1, x2] t (0, 0))) (y0 y1 y2 : Value) : ∃ w1 w2 w3, w.setCell ⟨g, 0, none⟩ y0 = w1 ∧ w1.setCell ⟨g, 1, none⟩ y1 = w2 ∧ w2.setCell ⟨g, 2, none⟩ y2 = w3 ∧
    w.cell? ⟨g, 0, none⟩ = some x0 ∧ w1.cell? ⟨g, 1, none⟩ = some x1 ∧ w2.cell? ⟨g, 2, none⟩ = some x2 ∧ w.frozen? ⟨g, 0, none⟩ = false ∧ w1.frozen? ⟨g, 1, none⟩ = false ∧ w2.frozen? ⟨g, 2, none⟩ = false ∧
    w3.heap[g]? = some (.cells #[y0, y1, y2] t (0, 0)) ∧ (∀ b, b ≠ g → w3.heap[b]? = w.heap[b]?) ∧ (∀ w0 : World, Below w0.heap.size w0 w → w0.heap.size ≤ g → Below w0.heap.size w0 w3) := by
  have h1 := blk_set h 0 y0
  have h2 := blk_set h1 1 y1
  have h3 := blk_set h2 2 y2
  exact ⟨_, _, _, rfl, rfl, rfl, (blk_cell h 0).trans rfl, (blk_cell h1 1).trans rfl, (blk_cell h2 2).trans rfl, blk_frozen h 0, blk_frozen h1 1, blk_frozen h2 2, h3.trans rfl,
    fun b hb => (Below.heap_setCell _ _ _ b hb).trans ((Below.heap_setCell _ _ _ b hb).trans (Below.heap_setCell _ _ _ b hb)), fun w0 hB hg => below_setg (below_setg (below_setg hB hg 0 _) hg 1 _) hg 2 _⟩
theorem cells3 {w : World} {g t : Nat} {x0 x1 x2 : Value} (h : w.heap[g]? = some (.cells #[x0, x1, x2] t (0, 0))) : w.cell? ⟨g, 0, none⟩ = some x0 ∧ w.cell? ⟨g, 1, none⟩ = some x1 ∧ w.cell? ⟨g, 2, none⟩ = some x2 := ⟨(blk_cell h 0).trans rfl, (blk_cell h 1).trans rfl, (blk_cell h 2).trans rfl⟩
set_option maxHeartbeats 1000000 in
set_option maxRecDepth 100000 in
theorem parts_calls (t : Int) (h0 : 0 ≤ t) (h1 : t < 1000000000000) (w0 w : World) (hB : Below w0.heap.size w0 w) :
    Calls Try.prog 81 #[.int .i64 t] w fun e w' => e = .returned (.tuple #[arr3 (lenOf t), arr3 (disOf t)]) ∧ Below w0.heap.size w0 w' ∧ Below w.heap.size w w' := by
  obtain ⟨a, ha⟩ : ∃ R, lenOf t = R := ⟨_, rfl⟩
  obtain ⟨b, hb⟩ : ∃ R, disOf t = R := ⟨_, rfl⟩
  rw [ha, hb]
  have HA := Aside0.mk (show findF lenSym (t / 65536) 257 (285 - 257) = a from ha)
  have HD := Aside0.mk (show findF disSym (t % 65536) 0 (29 - 0) = b from hb)
  have HB := Aside0.mk hB
  obtain ⟨a0, a1, a2⟩ := a
  obtain ⟨b0, b1, b2⟩ := b
  clear ha hb hB
  obtain ⟨q, hq⟩ : ∃ q, t / 65536 = q := ⟨_, rfl⟩
  obtain ⟨r, hr⟩ : ∃ r, t % 65536 = r := ⟨_, rfl⟩
  have hq0 : 0 ≤ q := by omega
  have hq1 : q ≤ 1000000000000 := by omega
  have hr0 : 0 ≤ r := by omega
  have hr1 : r ≤ 1000000000000 := by omega
  rw [hq] at HA
  rw [hr] at HD
  obtain ⟨W, hW⟩ : ∃ W, (w.alloc (.cells #[.int .i64 0, .int .i64 0, .int .i64 0] 107)).alloc (.cells #[.int .i64 0, .int .i64 0, .int .i64 0] 107) = W := ⟨_, rfl⟩
  have HBW := Aside0.mk (show Below w0.heap.size w0 W by rw [← hW]; exact below_alloc (below_alloc HB.out _) _)
  have HBX := Aside0.mk (show Below w.heap.size w W by rw [← hW]; exact below_alloc (below_alloc (Below.refl _ _) _) _)
  obtain ⟨gb, hgb⟩ : ∃ gb, w.heap.size = gb := ⟨_, rfl⟩
  have HGB := Aside0.mk (show w0.heap.size ≤ gb by rw [← hgb]; exact HB.out.size)
  have H1 := Aside0.mk (show W.heap[gb]? = some (.cells #[.int .i64 0, .int .i64 0, .int .i64 0] 107 (0, 0)) by rw [← hW, ← hgb]; exact blk_alloc (blk_new w _) _)
  have H2 := Aside0.mk (show W.heap[gb + 1]? = some (.cells #[.int .i64 0, .int .i64 0, .int .i64 0] 107 (0, 0)) by rw [← hW, ← hgb]; exact (by simp : (w.alloc (Obj.cells #[.int .i64 0, .int .i64 0, .int .i64 0] 107)).heap.size = w.heap.size + 1) ▸ blk_new (w.alloc (Obj.cells #[.int .i64 0, .int .i64 0, .int .i64 0] 107)) _)
  go_enter Try.func81, Try.ntmps81
  go_upto_region 1 with (fail)
  go_upto_region 2 with (first | (go_at_call 108; refine (findLen_calls q (by omega) (by omega) _).mono ?_; rintro e' w1 ⟨rfl, hd1⟩; rw [HA.out]))

  obtain ⟨X1, X2, X3, hX1, hX2, hX3, e1, e2, e3, e4, e5, e6, hb1, hb2, hb3⟩ := store3 (blk_below H1.out hd1.below) (.int .i64 a0) (.int .i64 a1) (.int .i64 a2)
  have H3 := Aside0.mk hb1
  have H4 := Aside0.mk ((hb2 (gb + 1) (by omega)).trans (blk_below H2.out hd1.below))
  have HB1 := Aside0.mk (hb3 w0 (below_then HBW.out HBW.out.size hd1.below) HGB.out)
  have HB1x := Aside0.mk (hb3 w (below_then HBX.out HBX.out.size hd1.below) (by omega))
  clear hd1 hb1 hb2 hb3
  go_upto_region 3 with (fail)
  clear hX1 hX2 hX3 e1 e2 e3 e4 e5 e6 hW
  have hand : Go.bits .and .i64 t 65535 = r := by
    have := bits_mask .i64 63 (by decide) (fun n h0 h1 => by rw [IntKind.wrap_i64]; omega) 16 (by decide) t h0 (by simpa using (by omega : t < 9223372036854775808))
    rw [← hr]
    simpa using this
  go_upto_region 4 with (first | (go_at_call 108; refine (findDis_calls r (by omega) (by omega) _).mono ?_; rintro e' w2 ⟨rfl, hd2⟩; rw [HD.out]))
  obtain ⟨c0, c1, c2⟩ := cells3 (blk_below H3.out hd2.below)
  obtain ⟨Y1, Y2, Y3, hY1, hY2, hY3, e1, e2, e3, e4, e5, e6, hb1, hb2, hb3⟩ := store3 (blk_below H3.out hd2.below) (.int .i64 a0) (.int .i64 a1) (.int .i64 a2)
  obtain ⟨Z1, Z2, Z3, hZ1, hZ2, hZ3, i1, i2, i3, i4, i5, i6, hc1, hc2, hc3⟩ := store3 ((hb2 (gb + 1) (by omega)).trans (blk_below H4.out hd2.below)) (.int .i64 b0) (.int .i64 b1) (.int .i64 b2)
  have H5 := Aside0.mk ((hc2 gb (by omega)).trans hb1)
  have H6 := Aside0.mk hc1
  have HB2 := Aside0.mk (hc3 w0 (hb3 w0 (below_then HB1.out HB1.out.size hd2.below) HGB.out) (by have := HGB.out; omega))
  have HB2x := Aside0.mk (hc3 w (hb3 w (below_then HB1x.out HB1x.out.size hd2.below) (by omega)) (by omega))
  clear hd2 hb1 hb2 hb3 hc1 hc2 hc3
  go_wp2
  refine bodyPost_ret (results_cc rfl _ _ gb (gb + 1) 107 107 #[.int .i64 a0, .int .i64 a1, .int .i64 a2] #[.int .i64 b0, .int .i64 b1, .int .i64 b2] (0, 0) (0, 0) _ _ rfl H5.out Try.underlying107 rfl (by kernel_rfl) rfl H6.out Try.underlying107 rfl (by kernel_rfl)) rfl ?_
  exact ⟨rfl, HB2.out, HB2x.out⟩
end Go.Proofs.Ytldhpniflnbilaa
