/- The matcher of package deflate: same. -/
import Derived.Test.YtldhpniflnbilaaProg
import Derived.Below
import Derived.Deep.Draws
import Derived.Deep.AppendLies
import Derived.Maps.AppendAt
import Derived.OwnWalk
import Derived.Laws.BytesArg
import Derived.Laws.MakeOwn
import Derived.Laws.OwnMore
import Derived.Deep.OwnRows
import Derived.Tactics
import Derived.Lib.ConvBytes
import Derived.Laws.Slices
import Derived.WalkKit
import Derived.KernelRfl
import Derived.RowKit3
import Derived.Deep.LoopGhost
import Derived.Deep.QuietTactic
import Derived.BigQuiet
import Derived.WideLaws
import Derived.Deep.DeepCutAuto
import Derived.Deep.CutBlock
import Derived.Deep.RegionHeld3
import Derived.Laws.Rows
import Derived.Lib.AppendStr
import Derived.ArgAppend
import Derived.Laws.IdiomCopy
import Derived.OrdersHeld
import Derived.Laws.BitsLemmas
import Derived.RowKit
import Derived.Outline
import Derived.Test.YtldhpniflnbilaaV34s
import Derived.Test.YtldhpniflnbilaaD11vv
set_option linter.unusedVariables false
set_option linter.unusedSimpArgs false
namespace Go.Proofs.Ytldhpniflnbilaa
open Go.RowKit Go.Proofs.YtldhpniflnbilaaW.PrintWords Go.Proofs.YtldhpniflnbilaaW.PrintLast Go.Proofs.YtldhpniflnbilaaW.PrintMore

set_option maxHeartbeats 1000000 in
set_option maxRecDepth 100000 in
theorem add_none (w : World) (gm gh i n c : Nat) (A : Option Addr) (hb : w.heap[gm]? = some (.cells #[.slice A n c, .map (some gh)] 118 (0, 0))) (hl : n ≤ 1000000000) (hi : i ≤ 1000000000) (hin : n < i + 3) :
    Calls Try.prog 88 #[.pointer (some ⟨gm, 0, none⟩), .int .i64 (i : Int)] w fun e w' => e = .returned (.tuple #[]) ∧ Below w.heap.size w w' := by
  have HKEY := Aside0.mk (key_none w gm gh i n c A hb hl hi hin)
  clear hb
  go_enter Try.func88, Try.ntmps88
  go_upto_region 1 with (go_at_call 112; refine HKEY.out.mono ?_; rintro e' w1 ⟨rfl, hbl⟩; rw [show kv (0, 0, 0) = .agg #[.int .u8 0, .int .u8 0, .int .u8 0] from rfl]; obtain ⟨W, hW⟩ : ∃ W, w1.alloc (.cells #[.int .u8 0, .int .u8 0, .int .u8 0] 144) = W := ⟨_, rfl⟩; obtain ⟨gb, hgb⟩ : ∃ gb, w1.heap.size = gb := ⟨_, rfl⟩; have hbw : Below w1.heap.size w1 W := (by rw [← hW]; exact below_alloc (Below.refl _ _) _); have hwb : W.heap[gb]? = some (.cells #[.int .u8 0, .int .u8 0, .int .u8 0] 144 (0, 0)) := (by rw [← hW, ← hgb]; exact blk_new w1 _); obtain ⟨X1, X2, X3, hX1, hX2, hX3, q1, q2, q3, q4, q5, q6, hb1, hb2, hb3⟩ := store3 hwb (.int .u8 0) (.int .u8 0) (.int .u8 0); have HBX := Aside0.mk (hb3 w (below_then hbl hbl.size hbw) (by rw [← hgb]; exact hbl.size)); clear hbl hbw hwb hb1 hb2 hb3)
  clear hW hgb hX1 hX2 hX3 q1 q2 q3 q4 q5 q6 HKEY
  go_wp2
  refine bodyPost_ret (results_none rfl _ _ _) rfl ?_
  exact ⟨rfl, HBX.out⟩
/-- How many bytes are equal from a and b on, counted from n. -/
def sameGo (p : List Int) (a b : Nat) : Nat → Nat → Nat
  | 0, n => n
  | f + 1, n => if n < 258 ∧ b + n < p.length ∧ rd p ((a + n : Nat) : Int) = rd p ((b + n : Nat) : Int) then sameGo p a b f (n + 1) else n
def sameN (p : List Int) (a b : Nat) : Nat := sameGo p a b 259 0
theorem sameGo_le (p : List Int) (a b : Nat) : ∀ f n, n ≤ 258 → n ≤ sameGo p a b f n ∧ sameGo p a b f n ≤ 258
  | 0, n, h => ⟨Nat.le_refl _, h⟩
  | f + 1, n, h => by
    unfold sameGo
    split
    · have := sameGo_le p a b f (n + 1) (by omega); omega
    · omega
theorem drawn_drewN {w w1 : World} (h : Drawn0 w w1) (n : Nat) : Drawn0 w (w1.drewN n) := h.step n
set_option maxHeartbeats 1000000 in
set_option maxRecDepth 100000 in
theorem same_calls (w : World) (gm gh a b n c : Nat) (A : Option Addr) (p : List Int) (hb : w.heap[gm]? = some (.cells #[.slice A n c, .map (some gh)] 118 (0, 0))) (hC : (Kd.int .u8).C w A n p) (hn : p.length = n) (hl : n ≤ 1000000000) (hab : a < b) (hbn : b < n) :
    Calls Try.prog 114 #[.pointer (some ⟨gm, 0, none⟩), .int .i64 (a : Int), .int .i64 (b : Int)] w fun e w' => e = .returned (.int .i64 (sameN p a b : Int)) ∧ Drawn0 w w' := by
  have hc0 : w.cell? ⟨gm, 0, none⟩ = some (.slice A n c) := (blk_cell hb 0).trans rfl
  have HC := Aside0.mk hC
  obtain ⟨R, hR⟩ : ∃ R, sameN p a b = R := ⟨_, rfl⟩
  have HR := Aside0.mk (show sameGo p a b 259 0 = R from hR)
  rw [hR]
  have HN := Aside0.mk hn
  have hbn2 : (b : Int) < (n : Int) := by omega
  have hab2 : (a : Int) < (b : Int) := by omega
  have hn3 : (n : Int) ≤ 1000000000 := by omega
  have ha0 : (0 : Int) ≤ (a : Int) := by omega
  clear hb hC hR hn
  go_enter Try.func114, Try.ntmps114
  go_wp2
  go_loopg [7] 259 (fun q v7 w' => ∃ i : Nat, v7 = .int .i64 (i : Int) ∧ Aside0 (q + i = 259 ∧ i ≤ 258) ∧ Aside0 (sameGo p a b q i = R) ∧ Aside0 (Drawn0 w w'))
  case atStart => exact ⟨0, rfl, ⟨by omega, by omega⟩, HR, ⟨Drawn0.refl _⟩⟩
  case round =>
    clear HR
    obtain ⟨i, rfl, HK, HR, HD⟩ := hrel
    obtain ⟨gk', rfl⟩ : ∃ g, gk = g + 1 := ⟨gk - 1, by have := HK.out; omega⟩
    obtain ⟨k, rfl⟩ := HD.out.out
    have hr := HR.out
    rw [sameGo] at hr
    have hi0 : (0 : Int) ≤ (i : Int) := by omega
    have hi3 : (i : Int) ≤ 258 := by have := HK.out; omega
    obtain ⟨x, hx⟩ : ∃ x, a + i = x := ⟨_, rfl⟩
    obtain ⟨y, hy⟩ : ∃ y, b + i = y := ⟨_, rfl⟩
    have hwx : IntKind.i64.wrap ((a : Int) + (i : Int)) = (x : Int) := by rw [i64_w]; unfold wrap64; omega
    have hwy : IntKind.i64.wrap ((b : Int) + (i : Int)) = (y : Int) := by rw [i64_w]; unfold wrap64; omega
    have hx0 : (0 : Int) ≤ (x : Int) := by omega
    have hy0 : (0 : Int) ≤ (y : Int) := by omega
    rw [hx, hy] at hr
    by_cases h1 : i < 258
    · have h1' : (i : Int) < 258 := by omega
      by_cases h2 : y < n
      · obtain ⟨ad, rfl, hca⟩ := Kd.at_int HC.out ((x : Nat) : Int) (by omega) (by omega)
        obtain ⟨_, e1, hcb⟩ := Kd.at_int HC.out ((y : Nat) : Int) (by omega) (by omega)
        injection e1 with e1
        subst e1
        rw [Int.toNat_natCast] at hca hcb
        have h2' : (y : Int) < (n : Int) := by omega
        have h4' : (x : Int) < (n : Int) := by omega
        by_cases h3 : rd p ((x : Nat) : Int) = rd p ((y : Nat) : Int)
        · rw [if_pos ⟨h1, by rw [HN.out]; exact h2, h3⟩] at hr
          have HR2 := Aside0.mk hr
          rw [h3] at hca
          generalize rd p ((y : Nat) : Int) = z at *
          clear hr h3 HR
          go_wp2
          go_quiet (fail)
          go_wp2
          go_roundg gk'
          case measure => omega
          case rel => exact ⟨i + 1, (by go_num), ⟨by have := HK.out; omega, by omega⟩, HR2, ⟨⟨⟨_, rfl⟩⟩⟩⟩
        · rw [if_neg (fun h => h3 h.2.2)] at hr
          have HR2 := Aside0.mk hr
          generalize rd p ((y : Nat) : Int) = z at *
          generalize rd p ((x : Nat) : Int) = z2 at *
          clear hr HR
          go_wp2
          go_quiet (fail)
          go_wp2
          go_ret
          rw [← HR2.out]
          exact ⟨rfl, drawn_drewN (drawn_drewN (Drawn0.refl _) _) _⟩
      · have h2' : (n : Int) ≤ (y : Int) := by omega
        rw [if_neg (fun h => h2 (by have := h.2.1; rw [HN.out] at this; exact this))] at hr
        have HR2 := Aside0.mk hr
        clear hr HR
        go_wp2
        go_quiet (fail)
        go_wp2
        go_ret
        rw [← HR2.out]
        exact ⟨rfl, drawn_drewN (drawn_drewN (Drawn0.refl _) _) _⟩
    · have h1' : ((i : Int) < 258) = False := by simp; omega
      rw [if_neg (fun h => h1 h.1)] at hr
      have HR2 := Aside0.mk hr
      clear hr HR
      go_wp2
      go_quiet (fail)
      go_wp2
      go_ret
      rw [← HR2.out]
      exact ⟨rfl, drawn_drewN (drawn_drewN (Drawn0.refl _) _) _⟩
end Go.Proofs.Ytldhpniflnbilaa
