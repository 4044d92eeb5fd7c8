/- The matcher of package deflate: best, at the end of the data. -/
import Derived.Test.YtldhpniflnbilaaProg
import Derived.Below
import Derived.Deep.Draws
import Derived.Deep.AppendLies
import Derived.Maps.AppendAt
import Derived.OwnWalk
import Derived.Laws.BytesArg
import Derived.Laws.MakeOwn
import Derived.Laws.OwnMore
import Derived.Deep.OwnRows
import Derived.Tactics
import Derived.Lib.ConvBytes
import Derived.Laws.Slices
import Derived.WalkKit
import Derived.KernelRfl
import Derived.RowKit3
import Derived.Deep.LoopGhost
import Derived.Deep.QuietTactic
import Derived.BigQuiet
import Derived.WideLaws
import Derived.Deep.DeepCutAuto
import Derived.Deep.CutBlock
import Derived.Deep.RegionHeld3
import Derived.Laws.Rows
import Derived.Lib.AppendStr
import Derived.ArgAppend
import Derived.Laws.IdiomCopy
import Derived.OrdersHeld
import Derived.Laws.BitsLemmas
import Derived.RowKit
import Derived.Outline
import Derived.Test.YtldhpniflnbilaaV34s
import Derived.Test.YtldhpniflnbilaaD14vv
set_option linter.unusedVariables false
set_option linter.unusedSimpArgs false
namespace Go.Proofs.Ytldhpniflnbilaa
open Go.RowKit Go.Proofs.YtldhpniflnbilaaW.PrintWords Go.Proofs.YtldhpniflnbilaaW.PrintLast Go.Proofs.YtldhpniflnbilaaW.PrintMore

set_option maxHeartbeats 1000000 in
set_option maxRecDepth 100000 in
theorem best_none (w : World) (gm gh i n c : Nat) (A : Option Addr) (hb : w.heap[gm]? = some (.cells #[.slice A n c, .map (some gh)] 118 (0, 0))) (hl : n ≤ 1000000000) (hi : i ≤ 1000000000) (hin : n < i + 3) :
    Calls Try.prog 87 #[.pointer (some ⟨gm, 0, none⟩), .int .i64 (i : Int)] w fun e w' => e = .returned (.tuple #[.int .i64 0, .int .i64 0]) ∧ Below w.heap.size w w' := by
  have HKEY := Aside0.mk (fun (W : World) (hW : Below w.heap.size w W) => key_none W gm gh i n c A (blk_below hb hW) hl hi hin)
  obtain ⟨W, hW, hbw, z0, z1, z2, z3⟩ := boxes4 w (.pointer (some ⟨gm, 0, none⟩)) (.int .i64 (i : Int)) (.int .i64 0) (.int .i64 0)
  obtain ⟨gs, hgs⟩ : ∃ gs, w.heap.size = gs := ⟨_, rfl⟩
  rw [hgs] at z0 z1 z2 z3
  have HBW := Aside0.mk hbw
  have c2 := (blk_cell z0 0).trans rfl
  have c3 := (blk_cell z1 0).trans rfl
  have Z := Aside0.mk (And.intro z2 z3)
  clear hb hbw z0 z1 z2 z3
  go_enter Try.func87, Try.ntmps87
  go_upto_region 3 with (go_at_call 112; refine (HKEY.out W HBW.out).mono ?_; rintro e' w1 ⟨rfl, hbl⟩; rw [show kv (0, 0, 0) = .agg #[.int .u8 0, .int .u8 0, .int .u8 0] from rfl]; obtain ⟨V, hV⟩ : ∃ V, w1.alloc (.cells #[.int .u8 0, .int .u8 0, .int .u8 0] 144) = V := ⟨_, rfl⟩; obtain ⟨gb, hgb⟩ : ∃ gb, w1.heap.size = gb := ⟨_, rfl⟩; have hbv : Below w1.heap.size w1 V := (by rw [← hV]; exact below_alloc (Below.refl _ _) _); have hvb : V.heap[gb]? = some (.cells #[.int .u8 0, .int .u8 0, .int .u8 0] 144 (0, 0)) := (by rw [← hV, ← hgb]; exact blk_new w1 _); obtain ⟨X1, X2, X3, hX1, hX2, hX3, q1, q2, q3, q4, q5, q6, hb1, hb2, hb3⟩ := store3 hvb (.int .u8 0) (.int .u8 0) (.int .u8 0); have HBX := Aside0.mk (hb3 W (below_then hbl hbl.size hbv) (by rw [← hgb]; exact hbl.size)); clear hbl hbv hvb hb1 hb2 hb3)
  clear hV hgb hX1 hX2 hX3 q1 q2 q3 q4 q5 q6 HKEY c2 c3 hW
  have x2 := blk_below Z.out.1 HBX.out
  have x3 := blk_below Z.out.2 HBX.out
  have d2 := (blk_cell x2 0).trans rfl
  have d3 := (blk_cell x3 0).trans rfl
  have f2 := blk_frozen x2 0
  have f3 := blk_frozen x3 0
  have HX := Aside0.mk (And.intro x2 x3)
  have HBB := Aside0.mk (below_then HBW.out HBW.out.size HBX.out)
  clear x2 x3
  go_wp2
  have e2 : ((X3.setCell ⟨gs + 1 + 1, 0, none⟩ (.int .i64 0)).setCell ⟨gs + 1 + 1 + 1, 0, none⟩ (.int .i64 0)).cell? ⟨gs + 1 + 1, 0, none⟩ = some (.int .i64 0) := (World.cell?_of_block (Below.heap_setCell _ _ _ _ (by show gs + 1 + 1 ≠ gs + 1 + 1 + 1; omega))).trans (World.cell?_setCell_same' _ _ _ (by rw [d2]; rfl))
  have e3 : ((X3.setCell ⟨gs + 1 + 1, 0, none⟩ (.int .i64 0)).setCell ⟨gs + 1 + 1 + 1, 0, none⟩ (.int .i64 0)).cell? ⟨gs + 1 + 1 + 1, 0, none⟩ = some (.int .i64 0) := World.cell?_setCell_same' _ _ _ (by rw [World.cell?_of_block (w := X3) (Below.heap_setCell X3 ⟨gs + 1 + 1, 0, none⟩ (.int .i64 0) (gs + 1 + 1 + 1) (by show gs + 1 + 1 + 1 ≠ gs + 1 + 1; omega)), d3]; rfl)
  refine bodyPost_ret (v := .tuple #[.int .i64 0, .int .i64 0]) (by simp [results, Try.f87, go_sem, e2, e3]) rfl ⟨rfl, ?_⟩
  exact Below.setCell (Below.setCell HBB.out (p := ⟨gs + 1 + 1, 0, none⟩) (by show w.heap.size ≤ gs + 1 + 1; omega) _) (p := ⟨gs + 1 + 1 + 1, 0, none⟩) (by show w.heap.size ≤ gs + 1 + 1 + 1; omega) _
/-! ### The tokens of data -/
/-- What the matcher remembers when the places before i have been added. -/
def headsN (p : List Int) : Nat → K3 → List Int
  | 0 => fun _ => []
  | i + 1 => if i + 3 ≤ p.length then addH (headsN p i) (keyAt p i) i else headsN p i
theorem headsN_mem (p : List Int) : ∀ (i : Nat) (k : K3) (j : Int), j ∈ headsN p i k → 0 ≤ j ∧ j < (i : Int)
  | 0, _, _, h => by cases h
  | i + 1, k, j, h => by
    unfold headsN at h
    split at h
    · unfold addH at h
      split at h
      · have h2 := List.mem_of_mem_drop h
        rcases List.mem_append.1 h2 with h2 | h2
        · have := headsN_mem p i _ j h2; omega
        · simp at h2; omega
      · have := headsN_mem p i k j h; omega
    · have := headsN_mem p i k j h; omega
def bestAt (p : List Int) (i : Nat) : Int × Int := if i + 3 ≤ p.length then bestF p i (headsN p i (keyAt p i)) else (0, 0)
theorem sameGo_len (p : List Int) (a b : Nat) : ∀ f n, b + n ≤ p.length → b + sameGo p a b f n ≤ p.length
  | 0, n, h => h
  | f + 1, n, h => by
    unfold sameGo
    split
    · exact sameGo_len p a b f (n + 1) (by omega)
    · exact h
theorem bestGo_ok (p : List Int) (i : Nat) (hi : i ≤ p.length) : ∀ (l : List Int) (s : Int × Int), (∀ j ∈ l, 0 ≤ j ∧ j < (i : Int)) → (0 ≤ s.1 ∧ s.1 ≤ 258 ∧ (i : Int) + s.1 ≤ p.length ∧ (s.1 = 0 → s.2 = 0) ∧ (0 < s.1 → 1 ≤ s.2 ∧ s.2 ≤ 32768 ∧ s.2 ≤ i)) →
    (0 ≤ (bestGo p i l s).1 ∧ (bestGo p i l s).1 ≤ 258 ∧ (i : Int) + (bestGo p i l s).1 ≤ p.length ∧ ((bestGo p i l s).1 = 0 → (bestGo p i l s).2 = 0) ∧ (0 < (bestGo p i l s).1 → 1 ≤ (bestGo p i l s).2 ∧ (bestGo p i l s).2 ≤ 32768 ∧ (bestGo p i l s).2 ≤ i))
  | [], s, _, h => h
  | j :: r, s, hl, h => by
    unfold bestGo
    split
    · exact h
    · have hj := hl j (by simp)
      refine bestGo_ok p i hi r _ (fun x hx => hl x (by simp [hx])) ?_
      split
      · have h1 := (sameGo_le p j.toNat i 259 0 (by omega)).2
        have h2 := sameGo_len p j.toNat i 259 0 (by omega)
        have e : sameN p j.toNat i = sameGo p j.toNat i 259 0 := rfl
        simp only
        omega
      · exact h
theorem bestAt_ok (p : List Int) (i : Nat) (hi : i ≤ p.length) : 0 ≤ (bestAt p i).1 ∧ (bestAt p i).1 ≤ 258 ∧ (i : Int) + (bestAt p i).1 ≤ p.length ∧ ((bestAt p i).1 = 0 → (bestAt p i).2 = 0) ∧ (0 < (bestAt p i).1 → 1 ≤ (bestAt p i).2 ∧ (bestAt p i).2 ≤ 32768 ∧ (bestAt p i).2 ≤ i) := by
  unfold bestAt
  split
  · exact bestGo_ok p i hi _ _ (fun j hj => headsN_mem p i _ j (List.mem_reverse.1 hj)) (by simp; omega)
  · simp; omega
/-- The tokens from a place on; 'f' is at least the number of bytes left. -/
def tokGo (p : List Int) : Nat → Nat → List Int
  | 0, _ => []
  | f + 1, i => if i < p.length then (if (bestAt p i).1 = 0 then rd p i :: tokGo p f (i + 1) else ((bestAt p i).1 * 65536 + (bestAt p i).2) :: tokGo p f (i + (bestAt p i).1.toNat)) else []
theorem tokGo_succ (p : List Int) (f i : Nat) : tokGo p (f + 1) i = if i < p.length then (if (bestAt p i).1 = 0 then rd p i :: tokGo p f (i + 1) else ((bestAt p i).1 * 65536 + (bestAt p i).2) :: tokGo p f (i + (bestAt p i).1.toNat)) else [] := rfl
theorem tokGo_more (p : List Int) : ∀ (f i : Nat), p.length ≤ f + i → tokGo p (f + 1) i = tokGo p f i
  | 0, i, h => by rw [tokGo_succ, if_neg (by omega)]; rfl
  | f + 1, i, h => by
    rw [tokGo_succ p (f + 1) i, tokGo_succ p f i]
    by_cases h1 : i < p.length
    · rw [if_pos h1, if_pos h1]
      have hb := bestAt_ok p i (by omega)
      by_cases h2 : (bestAt p i).1 = 0
      · rw [if_pos h2, if_pos h2, tokGo_more p f (i + 1) (by omega)]
      · rw [if_neg h2, if_neg h2, tokGo_more p f _ (by omega)]
    · rw [if_neg h1, if_neg h1]
def tokL (p : List Int) : List Int := tokGo p p.length 0
end Go.Proofs.Ytldhpniflnbilaa
