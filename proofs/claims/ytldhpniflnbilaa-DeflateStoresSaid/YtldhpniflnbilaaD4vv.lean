/- writer.number and writer.symbol of package deflate. -/
import Derived.Test.YtldhpniflnbilaaProg
import Derived.Below
import Derived.Deep.Draws
import Derived.Deep.AppendLies
import Derived.Maps.AppendAt
import Derived.OwnWalk
import Derived.Laws.BytesArg
import Derived.Laws.MakeOwn
import Derived.Laws.OwnMore
import Derived.Deep.OwnRows
import Derived.Tactics
import Derived.Lib.ConvBytes
import Derived.Laws.Slices
import Derived.WalkKit
import Derived.KernelRfl
import Derived.RowKit3
import Derived.Deep.LoopGhost
import Derived.Deep.QuietTactic
import Derived.BigQuiet
import Derived.WideLaws
import Derived.Deep.DeepCutAuto
import Derived.Deep.CutBlock
import Derived.Deep.RegionHeld3
import Derived.Laws.Rows
import Derived.Lib.AppendStr
import Derived.ArgAppend
import Derived.Laws.IdiomCopy
import Derived.OrdersHeld
import Derived.Laws.BitsLemmas
import Derived.RowKit
import Derived.Outline
import Derived.Test.YtldhpniflnbilaaV34s
import Derived.Test.YtldhpniflnbilaaD3vv
set_option linter.unusedVariables false
set_option linter.unusedSimpArgs false
namespace Go.Proofs.Ytldhpniflnbilaa
open Go.RowKit Go.Proofs.YtldhpniflnbilaaW.PrintWords Go.Proofs.YtldhpniflnbilaaW.PrintLast Go.Proofs.YtldhpniflnbilaaW.PrintMore

/-- Bit i of a number. -/
def vbit (v : Int) (i : Nat) : Bool := decide (v / 2 ^ i % 2 = 1)
/-- The first n bits of a number, the lowest one first. -/
def numB (v : Int) : Nat → List Bool
  | 0 => []
  | n + 1 => numB v n ++ [vbit v n]
theorem numB_length (v : Int) : ∀ n, (numB v n).length = n
  | 0 => rfl
  | n + 1 => by rw [numB, List.length_append, numB_length v n]; rfl
theorem and_vbit (v : Int) (i : Nat) (h0 : 0 ≤ v) (h1 : v < 1000000000000) : Go.bits .and .i64 (v / 2 ^ i) 1 = b2i (vbit v i) := by
  have p : 0 ≤ v / 2 ^ i := Int.ediv_nonneg h0 (Int.le_of_lt (by have : (0 : Int) < ((2 ^ i : Nat) : Int) := by exact_mod_cast Nat.two_pow_pos i
                                                                 simpa using this))
  have q := Int.ediv_le_self (2 ^ i) h0
  have := bits_mask .i64 63 (by decide) (fun n h0 h1 => by rw [IntKind.wrap_i64]; omega) 1 (by decide) (v / 2 ^ i) p (by simpa using (by omega : v / 2 ^ i < 9223372036854775808))
  have e : Go.bits .and .i64 (v / 2 ^ i) 1 = v / 2 ^ i % 2 := by simpa using this
  rw [e]
  unfold vbit b2i
  have : v / 2 ^ i % 2 = 0 ∨ v / 2 ^ i % 2 = 1 := by omega
  rcases this with h | h <;> simp [h]
set_option maxHeartbeats 4000000 in
set_option maxRecDepth 100000 in
theorem wnumber_calls (w0 w : World) (g : Nat) (bs : List Bool) (v : Int) (n : Nat) (hv0 : 0 ≤ v) (hv1 : v < 1000000000000) (hn : n ≤ 40) (hs : WB 81 w w0.heap.size g bs) (hB : Below w0.heap.size w0 w) (hl : bs.length ≤ 100000000000) :
    Calls Try.prog 62 #[.pointer (some ⟨g, 0, none⟩), .int .i64 v, .int .i64 (n : Int)] w fun e w' => e = .returned (.tuple #[]) ∧ WB 81 w' w0.heap.size g (bs ++ numB v n) ∧ Oth 81 w w' ∧ Below w0.heap.size w0 w' := by
  have HS := Aside0.mk hs
  have HB := Aside0.mk hB
  have HL := Aside0.mk hl
  clear hs hB hl
  go_enter Try.func62, Try.ntmps62
  go_wp2
  go_loopg [8] (n + 1) (fun q v8 w' => ∃ i : Nat, v8 = .int .i64 (i : Int) ∧ Aside0 (q + i = n + 1 ∧ i ≤ n) ∧ Aside0 (WB 81 w' w0.heap.size g (bs ++ numB v i)) ∧ Aside0 (Oth 81 w w') ∧ Aside0 (Below w0.heap.size w0 w'))
  case atStart => exact ⟨0, rfl, ⟨by omega, by omega⟩, ⟨by rw [numB, List.append_nil]; exact HS.out⟩, ⟨Oth.refl _ _⟩, HB⟩
  case round =>
    clear HS HB
    obtain ⟨i, rfl, HK, HS, HO, HB⟩ := hrel
    by_cases hlt : i < n
    · have hi0 : (0 : Int) ≤ (i : Int) := by omega
      have hlt2 : (i : Int) < (n : Int) := by omega
      have hand := and_vbit v i hv0 hv1
      clear hv0 hv1
      go_wp2_with (go_at_call 61; refine (wbit_calls w0 _ g _ (vbit v i) HS.out HB.out (by rw [List.length_append, numB_length]; have := HL.out; omega)).mono ?_; rintro e' w1 ⟨rfl, hs1, ho1, hb1⟩; have HS1 := Aside0.mk hs1; have HO1 := Aside0.mk ho1; have HB1 := Aside0.mk hb1; clear hs1 ho1 hb1)
      go_roundg (gk - 1)
      case measure => have := HK.out; omega
      case rel => exact ⟨i + 1, (by go_num), ⟨by have := HK.out; omega, by omega⟩, ⟨by rw [numB, ← List.append_assoc]; exact HS1.out⟩, ⟨HO.out.trans HO1.out⟩, HB1⟩
    · have hin : i = n := by have := HK.out; omega
      subst hin
      go_wp2
      go_end0
      exact ⟨rfl, HS.out, HO.out, HB.out⟩
theorem WB.below {TT : Nat} {w w1 : World} {base g : Nat} {bs : List Bool} (h : WB TT w base g bs) (hb : Below w.heap.size w w1) : WB TT w1 base g bs := by
  obtain ⟨v, h⟩ := h
  exact ⟨v, h.below hb⟩
/-- A code of n bits, the highest one first. -/
def symB (c : Int) : Nat → List Bool
  | 0 => []
  | n + 1 => vbit c n :: symB c n
theorem symB_length (c : Int) : ∀ n, (symB c n).length = n
  | 0 => rfl
  | n + 1 => by rw [symB, List.length_cons, symB_length c n]
def Nrow (w : World) (base : Nat) (v : Value) (xs : List Int) : Prop := (Kd.int .i64).R 3 w base (fun _ => True) v xs
theorem Nrow.oth {TT : Nat} {w w1 : World} {base : Nat} {v : Value} {xs : List Int} (h : Nrow w base v xs) (ho : Oth TT w w1) (hT : 3 ≠ TT) : Nrow w1 base v xs :=
  R_oth h ho (by intro q hq; simp only [Kd.int, Kd.scalar, List.mem_cons, List.not_mem_nil, or_false] at hq; subst hq; exact ⟨by decide, hT⟩)
theorem Nrow.below {w w1 : World} {base : Nat} {v : Value} {xs : List Int} (h : Nrow w base v xs) (hb : Below w.heap.size w w1) : Nrow w1 base v xs := Kd.R_below h hb
theorem Nrow.at {w : World} {base n c : Nat} {A : Option Addr} {xs : List Int} (h : Nrow w base (.slice A n c) xs) (i : Nat) (hi : i < xs.length) : n = xs.length ∧ ∃ ad, A = some ad ∧ w.cell? (ad.add i) = some (.int .i64 (rd xs i)) := by
  obtain ⟨e, _, hc⟩ := Kd.R_reads' h
  obtain ⟨ad, h1, h2⟩ := Kd.at_int hc (i : Int) (by omega) (by omega)
  exact ⟨e, ad, h1, h2⟩
set_option maxHeartbeats 4000000 in
set_option maxRecDepth 100000 in
theorem wsymbol_calls (w0 w : World) (g : Nat) (bs : List Bool) (va vb : Value) (ls cs : List Int) (s n : Nat) (c : Int) (hs : WB 81 w w0.heap.size g bs) (hB : Below w0.heap.size w0 w) (ha : Nrow w w0.heap.size va ls) (hb : Nrow w w0.heap.size vb cs)
    (hs1 : s < ls.length) (hs2 : s < cs.length) (hn : rd ls s = n) (hc : rd cs s = c) (hn1 : n ≤ 40) (hc0 : 0 ≤ c) (hc1 : c < 1000000000000) (hl : bs.length ≤ 100000000000) :
    Calls Try.prog 85 #[.pointer (some ⟨g, 0, none⟩), .agg #[va, vb], .int .i64 (s : Int)] w fun e w' => e = .returned (.tuple #[]) ∧ WB 81 w' w0.heap.size g (bs ++ symB c n) ∧ Oth 81 w w' ∧ Below w0.heap.size w0 w' := by
  obtain ⟨A, ca, rfl⟩ := Kd.R_slice ha
  obtain ⟨B, cb, rfl⟩ := Kd.R_slice hb
  obtain ⟨W, hW⟩ : ∃ W, w.alloc (.cells #[.slice A ls.length ca, .slice B cs.length cb] 89) = W := ⟨_, rfl⟩
  have hWb : W.heap[w.heap.size]? = some (.cells #[.slice A ls.length ca, .slice B cs.length cb] 89 (0, 0)) := by rw [← hW]; exact blk_new w _
  have hbel : Below w.heap.size w W := by rw [← hW]; exact below_alloc (Below.refl _ _) _
  have HOW := Aside0.mk (Oth.below (T := 81) hbel)
  have HS := Aside0.mk (hs.below hbel)
  have HB := Aside0.mk (show Below w0.heap.size w0 W by rw [← hW]; exact below_alloc hB _)
  have HL := Aside0.mk hl
  have ha := ha.below hbel
  have hb := hb.below hbel
  have HIA := Aside0.mk ha
  have HIB := Aside0.mk hb
  obtain ⟨-, ad, rfl, had⟩ := ha.at s hs1
  rw [hn] at had
  have HC := Aside0.mk hc
  have HN := Aside0.mk hn1
  have HC0 := Aside0.mk hc0
  have HC1 := Aside0.mk hc1
  obtain ⟨gb, hgb⟩ : ∃ gb, w.heap.size = gb := ⟨_, rfl⟩
  rw [hgb] at hWb
  have hq0 : W.cell? ⟨gb, 0, none⟩ = some (.slice (some ad) ls.length ca) := (blk_cell hWb 0).trans rfl
  have HWB := Aside0.mk hWb
  have hn2 : (n : Int) ≤ 40 := by omega
  have hs3 : (s : Int) < (ls.length : Int) := by omega
  have hs4 : (s : Int) < (cs.length : Int) := by omega
  have hs5 : (0 : Int) ≤ (s : Int) := by omega
  clear hs hB hl ha hb hWb hbel hn hc hn1 hc0 hc1
  go_enter Try.func85, Try.ntmps85
  go_wp2
  go_loopg [6] (n + 1) (fun q v6 w' => ∃ (m : Nat) (ds : List Bool), v6 = .int .i64 ((m : Int) - 1) ∧ Aside0 (q = m + 1) ∧ Aside0 (ds ++ symB c m = symB c n ∧ m ≤ n) ∧ Aside0 (WB 81 w' w0.heap.size g (bs ++ ds)) ∧ Aside0 (Oth 81 w w' ∧ Oth 81 W w') ∧ Aside0 (Below w0.heap.size w0 w'))
  case atStart => exact ⟨n, [], (by go_num), ⟨by omega⟩, ⟨by simp, by omega⟩, ⟨by rw [List.append_nil]; exact HS.out⟩, ⟨HOW.out, Oth.refl _ _⟩, HB⟩
  case round =>
    clear HS HB HOW
    obtain ⟨m, ds, rfl, HK, HD, HS, HO, HB⟩ := hrel
    have hq0 := (blk_cell (HO.out.2 _ _ _ (by decide) (by decide) HWB.out) 0).trans rfl
    have hq1 := (blk_cell (HO.out.2 _ _ _ (by decide) (by decide) HWB.out) 1).trans rfl
    obtain ⟨-, bd, rfl, hbd⟩ := (HIB.out.oth HO.out.2 (by decide)).at s hs2
    rw [HC.out] at hbd
    by_cases hlt : 0 < m
    · obtain ⟨m, rfl⟩ : ∃ k, m = k + 1 := ⟨m - 1, by omega⟩
      have hm : (0 : Int) ≤ (m : Int) := by omega
      have hm2 : (((m + 1 : Nat) : Int) - 1) = (m : Int) := by omega
      have hm3 : (m : Int) ≤ 40 := by have := HD.out.2; omega
      rw [hm2]
      clear hm2 hlt
      have hand := and_vbit c m HC0.out HC1.out
      have HL2 := Aside0.mk (show (bs ++ ds).length ≤ 1000000000000 by
        have h1 := congrArg List.length HD.out.1
        rw [List.length_append, symB_length, symB_length] at h1
        rw [List.length_append]; have := HL.out; omega)
      go_wp2_with (go_at_call 61; refine (wbit_calls w0 _ g _ (vbit c m) HS.out HB.out HL2.out).mono ?_; rintro e' w1 ⟨rfl, hs1, ho1, hb1⟩; have HS1 := Aside0.mk hs1; have HO1 := Aside0.mk ho1; have HB1 := Aside0.mk hb1; clear hs1 ho1 hb1)
      go_roundg (gk - 1)
      case measure => have := HK.out; omega
      case rel => exact ⟨m, ds ++ [vbit c m], (by go_num), ⟨by have := HK.out; omega⟩, ⟨by have := HD.out.1; rw [symB] at this; rw [List.append_assoc]; exact this, by have := HD.out.2; omega⟩, ⟨by rw [← List.append_assoc]; exact HS1.out⟩, ⟨HO.out.1.trans HO1.out, HO.out.2.trans HO1.out⟩, HB1⟩
    · have hin : m = 0 := by omega
      subst hin
      go_wp2
      go_end0
      exact ⟨rfl, by have := HD.out.1; rw [symB, List.append_nil] at this; rw [← this]; exact HS.out, HO.out.1, HB.out⟩
end Go.Proofs.Ytldhpniflnbilaa
