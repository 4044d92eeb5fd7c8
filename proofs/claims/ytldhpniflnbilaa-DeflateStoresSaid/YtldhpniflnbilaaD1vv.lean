/- Bits in bytes, and the state of a writer of bits. -/
import Derived.Test.YtldhpniflnbilaaProg
import Derived.Below
import Derived.Deep.Draws
import Derived.Deep.AppendLies
import Derived.Maps.AppendAt
import Derived.OwnWalk
import Derived.Laws.BytesArg
import Derived.Laws.MakeOwn
import Derived.Laws.OwnMore
import Derived.Deep.OwnRows
import Derived.Tactics
import Derived.Lib.ConvBytes
import Derived.Laws.Slices
import Derived.WalkKit
import Derived.KernelRfl
import Derived.RowKit3
import Derived.Deep.LoopGhost
import Derived.Deep.QuietTactic
import Derived.BigQuiet
import Derived.WideLaws
import Derived.Deep.DeepCutAuto
import Derived.Deep.CutBlock
import Derived.Deep.RegionHeld3
import Derived.Laws.Rows
import Derived.Lib.AppendStr
import Derived.ArgAppend
import Derived.Laws.IdiomCopy
import Derived.OrdersHeld
import Derived.Laws.BitsLemmas
import Derived.RowKit
import Derived.Outline
import Derived.Test.YtldhpniflnbilaaV34s
set_option linter.unusedVariables false
set_option linter.unusedSimpArgs false
namespace Go.Proofs.Ytldhpniflnbilaa
open Go.RowKit Go.Proofs.YtldhpniflnbilaaW.PrintWords Go.Proofs.YtldhpniflnbilaaW.PrintLast Go.Proofs.YtldhpniflnbilaaW.PrintMore

/-! ### Bits in bytes -/
def b2i (b : Bool) : Int := if b then 1 else 0
/-- Byte i of a list of bits, the first bit in the lowest place. -/
def byteAt (bs : List Bool) (i : Nat) : Int :=
  b2i (bs.getD (8 * i) false) + 2 * b2i (bs.getD (8 * i + 1) false) + 4 * b2i (bs.getD (8 * i + 2) false) + 8 * b2i (bs.getD (8 * i + 3) false)
  + 16 * b2i (bs.getD (8 * i + 4) false) + 32 * b2i (bs.getD (8 * i + 5) false) + 64 * b2i (bs.getD (8 * i + 6) false) + 128 * b2i (bs.getD (8 * i + 7) false)
def packB (bs : List Bool) : List Int := (List.range ((bs.length + 7) / 8)).map (byteAt bs)
theorem packB_length (bs : List Bool) : (packB bs).length = (bs.length + 7) / 8 := by simp [packB]
theorem packB_nil : packB [] = [] := rfl
theorem b2i_range (b : Bool) : 0 ≤ b2i b ∧ b2i b ≤ 1 := by cases b <;> simp [b2i]
theorem getD_snoc (bs : List Bool) (b : Bool) (j : Nat) : (bs ++ [b]).getD j false = if j = bs.length then b else bs.getD j false := by
  rw [List.getD_eq_getElem?_getD, List.getD_eq_getElem?_getD]
  by_cases h : j < bs.length
  · rw [List.getElem?_append_left h, if_neg (by omega)]
  · rw [List.getElem?_append_right (by omega)]
    by_cases h2 : j = bs.length
    · rw [if_pos h2, h2, Nat.sub_self]; rfl
    · rw [if_neg h2, List.getElem?_eq_none (by simp; omega), List.getElem?_eq_none (by omega)]
theorem getD_out (bs : List Bool) (j : Nat) (h : bs.length ≤ j) : bs.getD j false = false := by
  rw [List.getD_eq_getElem?_getD, List.getElem?_eq_none h]; rfl
theorem byteAt_snoc_ne (bs : List Bool) (b : Bool) (i : Nat) (h : i ≠ bs.length / 8) : byteAt (bs ++ [b]) i = byteAt bs i := by
  have h0 := getD_snoc bs b (8 * i)
  have h1 := getD_snoc bs b (8 * i + 1)
  have h2 := getD_snoc bs b (8 * i + 2)
  have h3 := getD_snoc bs b (8 * i + 3)
  have h4 := getD_snoc bs b (8 * i + 4)
  have h5 := getD_snoc bs b (8 * i + 5)
  have h6 := getD_snoc bs b (8 * i + 6)
  have h7 := getD_snoc bs b (8 * i + 7)
  rw [if_neg (by omega)] at h0 h1 h2 h3 h4 h5 h6 h7
  unfold byteAt
  rw [h0, h1, h2, h3, h4, h5, h6, h7]
theorem byteAt_snoc (bs : List Bool) (b : Bool) (i r : Nat) (h : bs.length = 8 * i + r) (hr : r < 8) : byteAt (bs ++ [b]) i = byteAt bs i + b2i b * 2 ^ r ∧ 0 ≤ byteAt bs i ∧ byteAt bs i < 2 ^ r := by
  have h0 := getD_snoc bs b (8 * i)
  have h1 := getD_snoc bs b (8 * i + 1)
  have h2 := getD_snoc bs b (8 * i + 2)
  have h3 := getD_snoc bs b (8 * i + 3)
  have h4 := getD_snoc bs b (8 * i + 4)
  have h5 := getD_snoc bs b (8 * i + 5)
  have h6 := getD_snoc bs b (8 * i + 6)
  have h7 := getD_snoc bs b (8 * i + 7)
  have g0 := getD_out bs (8 * i)
  have g1 := getD_out bs (8 * i + 1)
  have g2 := getD_out bs (8 * i + 2)
  have g3 := getD_out bs (8 * i + 3)
  have g4 := getD_out bs (8 * i + 4)
  have g5 := getD_out bs (8 * i + 5)
  have g6 := getD_out bs (8 * i + 6)
  have g7 := getD_out bs (8 * i + 7)
  have r0 := b2i_range (bs.getD (8 * i) false)
  have r1 := b2i_range (bs.getD (8 * i + 1) false)
  have r2 := b2i_range (bs.getD (8 * i + 2) false)
  have r3 := b2i_range (bs.getD (8 * i + 3) false)
  have r4 := b2i_range (bs.getD (8 * i + 4) false)
  have r5 := b2i_range (bs.getD (8 * i + 5) false)
  have r6 := b2i_range (bs.getD (8 * i + 6) false)
  have e0 : b2i false = 0 := rfl
  unfold byteAt
  rw [h0, h1, h2, h3, h4, h5, h6, h7]
  have c : r = 0 ∨ r = 1 ∨ r = 2 ∨ r = 3 ∨ r = 4 ∨ r = 5 ∨ r = 6 ∨ r = 7 := by omega
  rcases c with rfl | rfl | rfl | rfl | rfl | rfl | rfl | rfl
  · rw [g0 (by omega), g1 (by omega), g2 (by omega), g3 (by omega), g4 (by omega), g5 (by omega), g6 (by omega), g7 (by omega), if_pos (by omega), if_neg (by omega), if_neg (by omega), if_neg (by omega), if_neg (by omega), if_neg (by omega), if_neg (by omega), if_neg (by omega), e0]; omega
  · rw [g1 (by omega), g2 (by omega), g3 (by omega), g4 (by omega), g5 (by omega), g6 (by omega), g7 (by omega), if_neg (by omega), if_pos (by omega), if_neg (by omega), if_neg (by omega), if_neg (by omega), if_neg (by omega), if_neg (by omega), if_neg (by omega), e0]; omega
  · rw [g2 (by omega), g3 (by omega), g4 (by omega), g5 (by omega), g6 (by omega), g7 (by omega), if_neg (by omega), if_neg (by omega), if_pos (by omega), if_neg (by omega), if_neg (by omega), if_neg (by omega), if_neg (by omega), if_neg (by omega), e0]; omega
  · rw [g3 (by omega), g4 (by omega), g5 (by omega), g6 (by omega), g7 (by omega), if_neg (by omega), if_neg (by omega), if_neg (by omega), if_pos (by omega), if_neg (by omega), if_neg (by omega), if_neg (by omega), if_neg (by omega), e0]; omega
  · rw [g4 (by omega), g5 (by omega), g6 (by omega), g7 (by omega), if_neg (by omega), if_neg (by omega), if_neg (by omega), if_neg (by omega), if_pos (by omega), if_neg (by omega), if_neg (by omega), if_neg (by omega), e0]; omega
  · rw [g5 (by omega), g6 (by omega), g7 (by omega), if_neg (by omega), if_neg (by omega), if_neg (by omega), if_neg (by omega), if_neg (by omega), if_pos (by omega), if_neg (by omega), if_neg (by omega), e0]; omega
  · rw [g6 (by omega), g7 (by omega), if_neg (by omega), if_neg (by omega), if_neg (by omega), if_neg (by omega), if_neg (by omega), if_neg (by omega), if_pos (by omega), if_neg (by omega), e0]; omega
  · rw [g7 (by omega), if_neg (by omega), if_neg (by omega), if_neg (by omega), if_neg (by omega), if_neg (by omega), if_neg (by omega), if_neg (by omega), if_pos (by omega), e0]; omega
theorem packB_new (bs : List Bool) (b : Bool) (i : Nat) (h : bs.length = 8 * i) : packB (bs ++ [b]) = (packB bs ++ [0]).set i (b2i b) := by
  have hl : (packB bs).length = i := by rw [packB_length]; omega
  apply List.ext_getElem
  · rw [packB_length, List.length_set, List.length_append, List.length_append, hl]; simp; omega
  · intro j h1 h2
    rw [List.length_set, List.length_append, hl] at h2
    rw [List.getElem_set]
    simp only [packB, List.getElem_map, List.getElem_range]
    by_cases e : i = j
    · subst e
      have h3 := byteAt_snoc bs b i 0 (by omega) (by omega)
      rw [if_pos rfl, h3.1]
      have : byteAt bs i = 0 := by have := h3.2; simp at this; omega
      rw [this]; simp
    · rw [if_neg e, byteAt_snoc_ne bs b j (by omega), List.getElem_append_left (by simp at h2 ⊢; omega)]
      simp
theorem packB_put (bs : List Bool) (b : Bool) (i r : Nat) (h : bs.length = 8 * i + r) (h0 : 0 < r) (hr : r < 8) : packB (bs ++ [b]) = (packB bs).set i (byteAt bs i + b2i b * 2 ^ r) := by
  have hl : (packB bs).length = i + 1 := by rw [packB_length]; omega
  apply List.ext_getElem
  · rw [packB_length, List.length_set, hl, List.length_append]; simp; omega
  · intro j h1 h2
    rw [List.length_set, hl] at h2
    rw [List.getElem_set]
    simp only [packB, List.getElem_map, List.getElem_range]
    by_cases e : i = j
    · subst e
      rw [if_pos rfl, (byteAt_snoc bs b i r h hr).1]
    · rw [if_neg e, byteAt_snoc_ne bs b j (by omega)]

/-! ### The state of a writer -/
/-- Blocks of other types stay. -/
def Oth (T : Nat) (w w1 : World) : Prop := ∀ (b : Nat) (c : Array Value) (t : Nat), t ≠ 5 → t ≠ T → w.heap[b]? = some (Obj.cells c t (0, 0)) → w1.heap[b]? = some (Obj.cells c t (0, 0))
theorem Oth.refl (T : Nat) (w : World) : Oth T w w := fun _ _ _ _ _ h => h
theorem Oth.trans {T : Nat} {w w1 w2 : World} (h : Oth T w w1) (k : Oth T w1 w2) : Oth T w w2 := fun b c t h1 h2 hb => k b c t h1 h2 (h b c t h1 h2 hb)
theorem Oth.below {T : Nat} {w w1 : World} (h : Below w.heap.size w w1) : Oth T w w1 := fun _ _ _ _ _ hb => blk_below hb h
theorem Oth.alloc (T : Nat) (w : World) (o : Obj) : Oth T w (w.alloc o) := fun _ _ _ _ _ hb => blk_alloc hb o
theorem Oth.drewN (T : Nat) (w : World) (n : Nat) : Oth T w (w.drewN n) := fun _ _ _ _ _ hb => hb
theorem Oth.grown {T : Nat} {w w1 : World} {base size n : Nat} {v : Value} {xs : List Value} (ho : w.ownsRow base 5 size v n xs) (hg : w.grownBy w1 v.ownBlock) : Oth T w w1 := by
  intro b c t h1 h2 hb
  refine blk_grown hb hg fun hk => ?_
  obtain ⟨cells, hc⟩ := own_typed ho b hk.symm
  rw [hb] at hc
  injection hc with hc
  injection hc with _ hc
  exact h1 hc
theorem Oth.set {T : Nat} {w : World} {g : Nat} {cells : Array Value} (hb : w.heap[g]? = some (.cells cells T (0, 0))) (j : Nat) (u : Value) : Oth T w (w.setCell ⟨g, j, none⟩ u) := by
  intro b c t h1 h2 hc
  refine blk_far hc ?_ u
  rintro rfl
  rw [hb] at hc
  injection hc with hc
  injection hc with _ hc
  exact h2 hc.symm
def Bro (w : World) (base : Nat) (v : Value) (xs : List Int) : Prop := (Kd.int .u8).R 5 w base (fun _ => True) v xs
structure WSt (T : Nat) (w : World) (base g : Nat) (v : Value) (out : List Int) (n : Int) : Prop where
  blk : w.heap[g]? = some (.cells #[v, .int .i64 n] T (0, 0))
  row : Bro w base v out
  le : base ≤ g
theorem WSt.cell0 {T : Nat} {w : World} {base g : Nat} {v : Value} {out : List Int} {n : Int} (h : WSt T w base g v out n) : w.cell? ⟨g, 0, none⟩ = some v := (blk_cell h.blk 0).trans rfl
theorem WSt.cell1 {T : Nat} {w : World} {base g : Nat} {v : Value} {out : List Int} {n : Int} (h : WSt T w base g v out n) : w.cell? ⟨g, 1, none⟩ = some (.int .i64 n) := (blk_cell h.blk 1).trans rfl
theorem WSt.below {T : Nat} {w w1 : World} {base g : Nat} {v : Value} {out : List Int} {n : Int} (h : WSt T w base g v out n) (hb : Below w.heap.size w w1) : WSt T w1 base g v out n := ⟨blk_below h.blk hb, Kd.R_below h.row hb, h.le⟩
theorem below_setg {w0 w : World} {g : Nat} (h : Below w0.heap.size w0 w) (hg : w0.heap.size ≤ g) (j : Nat) (u : Value) : Below w0.heap.size w0 (w.setCell ⟨g, j, none⟩ u) := below_set h hg
end Go.Proofs.Ytldhpniflnbilaa
