/- writer.tokens of package deflate. -/
import Derived.Test.YtldhpniflnbilaaProg
import Derived.Below
import Derived.Deep.Draws
import Derived.Deep.AppendLies
import Derived.Maps.AppendAt
import Derived.OwnWalk
import Derived.Laws.BytesArg
import Derived.Laws.MakeOwn
import Derived.Laws.OwnMore
import Derived.Deep.OwnRows
import Derived.Tactics
import Derived.Lib.ConvBytes
import Derived.Laws.Slices
import Derived.WalkKit
import Derived.KernelRfl
import Derived.RowKit3
import Derived.Deep.LoopGhost
import Derived.Deep.QuietTactic
import Derived.BigQuiet
import Derived.WideLaws
import Derived.Deep.DeepCutAuto
import Derived.Deep.CutBlock
import Derived.Deep.RegionHeld3
import Derived.Laws.Rows
import Derived.Lib.AppendStr
import Derived.ArgAppend
import Derived.Laws.IdiomCopy
import Derived.OrdersHeld
import Derived.Laws.BitsLemmas
import Derived.RowKit
import Derived.Outline
import Derived.Test.YtldhpniflnbilaaV34s
import Derived.Test.YtldhpniflnbilaaD5vv
set_option linter.unusedVariables false
set_option linter.unusedSimpArgs false
namespace Go.Proofs.Ytldhpniflnbilaa
open Go.RowKit Go.Proofs.YtldhpniflnbilaaW.PrintWords Go.Proofs.YtldhpniflnbilaaW.PrintLast Go.Proofs.YtldhpniflnbilaaW.PrintMore

/-- What a call of a writer's method leaves. -/
structure WPost (w0 w w' : World) (g : Nat) (bs : List Bool) : Prop where
  wb : WB 81 w' w0.heap.size g bs
  oth : Oth 81 w w'
  bel : Below w0.heap.size w0 w'
theorem WPost.step {w0 w w1 w2 : World} {g : Nat} {bs cs : List Bool} (h : WPost w0 w w1 g bs) (k : WPost w0 w1 w2 g cs) : WPost w0 w w2 g cs := ⟨k.wb, h.oth.trans k.oth, k.bel⟩
theorem WPost.under {w0 w w1 w2 : World} {g : Nat} {bs : List Bool} (h : WPost w0 w w1 g bs) (k : Below w1.heap.size w1 w2) : WPost w0 w w2 g bs := ⟨h.wb.below k, h.oth.trans (Oth.below k), below_then h.bel h.bel.size k⟩
/-- A book's lengths and codes. -/
structure BookOk (ls cs : List Int) : Prop where
  len : cs.length = ls.length
  l : ∀ i, 0 ≤ rd ls i ∧ rd ls i ≤ 40
  c : ∀ i, 0 ≤ rd cs i ∧ rd cs i < 1000000000000
def codeB (ls cs : List Int) (s : Int) : List Bool := symB (rd cs s) (rd ls s).toNat
def tokB (ll lc dl dc : List Int) (t : Int) : List Bool :=
  if t < 256 then codeB ll lc t else codeB ll lc (lenOf t).1 ++ numB (lenOf t).2.1 (lenOf t).2.2.toNat ++ codeB dl dc (disOf t).1 ++ numB (disOf t).2.1 (disOf t).2.2.toNat
def toksB (ll lc dl dc : List Int) (l : List Int) : List Bool := (l.map (tokB ll lc dl dc)).flatten
def TokOk (t : Int) : Prop := 0 ≤ t ∧ t < 1000000000 ∧ (256 ≤ t → 3 ≤ t / 65536 ∧ 1 ≤ t % 65536)
theorem findF_some (d : Nat → Int × Int) (v : Int) (first : Nat) : ∀ k, (d first).2 ≤ v → ∃ i, first ≤ i ∧ i ≤ first + k ∧ findF d v first k = ((i : Int), v - (d i).2, (d i).1) ∧ (d i).2 ≤ v
  | 0, h => ⟨first, by omega, by omega, rfl, h⟩
  | k + 1, h => by
    unfold findF
    split
    · exact ⟨first + (k + 1), by omega, by omega, rfl, ‹_›⟩
    · obtain ⟨i, h1, h2, h3⟩ := findF_some d v first k h
      exact ⟨i, h1, by omega, h3⟩
theorem lenSym_bits (s : Nat) (h0 : 257 ≤ s) (h1 : s ≤ 285) : 0 ≤ (lenSym s).1 ∧ (lenSym s).1 ≤ 5 := by
  have key : ∀ i : Fin 29, 0 ≤ (lenSym (257 + i.val)).1 ∧ (lenSym (257 + i.val)).1 ≤ 5 := by decide +kernel
  have := key ⟨s - 257, by omega⟩
  rwa [show 257 + (s - 257) = s by omega] at this
theorem disSym_bits (s : Nat) (h1 : s ≤ 29) : 0 ≤ (disSym s).1 ∧ (disSym s).1 ≤ 13 := by
  have key : ∀ i : Fin 30, 0 ≤ (disSym i.val).1 ∧ (disSym i.val).1 ≤ 13 := by decide +kernel
  exact key ⟨s, by omega⟩
theorem lenOf_ok {t : Int} (h : TokOk t) (h1 : 256 ≤ t) : ∃ s n : Nat, 257 ≤ s ∧ s ≤ 285 ∧ n ≤ 5 ∧ (lenOf t).1 = s ∧ (lenOf t).2.2 = n ∧ 0 ≤ (lenOf t).2.1 ∧ (lenOf t).2.1 < 1000000000000 := by
  obtain ⟨i, h2, h3, h4, h5⟩ := findF_some lenSym (t / 65536) 257 28 (by have := (h.2.2 h1).1; exact this)
  have h6 := lenSym_bits i h2 (by omega)
  have h7 := lenSym_le i h2 (by omega)
  refine ⟨i, (lenSym i).1.toNat, h2, by omega, by omega, ?_, ?_, ?_, ?_⟩
  · rw [lenOf, h4]
  · rw [lenOf, h4]; simp only; omega
  · rw [lenOf, h4]; simp only; omega
  · rw [lenOf, h4]; simp only; have := h.2.1; omega
theorem disOf_ok {t : Int} (h : TokOk t) (h1 : 256 ≤ t) : ∃ s n : Nat, s ≤ 29 ∧ n ≤ 13 ∧ (disOf t).1 = s ∧ (disOf t).2.2 = n ∧ 0 ≤ (disOf t).2.1 ∧ (disOf t).2.1 < 1000000000000 := by
  obtain ⟨i, h2, h3, h4, h5⟩ := findF_some disSym (t % 65536) 0 29 (by have := (h.2.2 h1).2; exact this)
  have h6 := disSym_bits i (by omega)
  have h7 := disSym_le i (by omega) (by omega)
  refine ⟨i, (disSym i).1.toNat, by omega, by omega, ?_, ?_, ?_, ?_⟩
  · rw [disOf, h4]
  · rw [disOf, h4]; simp only; omega
  · rw [disOf, h4]; simp only; omega
  · rw [disOf, h4]; simp only; have := h.2.1; omega
theorem tokB_length (ll lc dl dc : List Int) (hl : BookOk ll lc) (hd : BookOk dl dc) (t : Int) (h : TokOk t) : (tokB ll lc dl dc t).length ≤ 160 := by
  unfold tokB codeB
  split
  · rw [symB_length]; have := (hl.l t).2; omega
  · obtain ⟨s, n, -, -, h3, h4, h5, -⟩ := lenOf_ok h (by omega)
    obtain ⟨s2, n2, -, k3, k4, k5, -⟩ := disOf_ok h (by omega)
    rw [List.length_append, List.length_append, List.length_append, symB_length, symB_length, numB_length, numB_length, h4, h5, k4, k5]
    have := (hl.l s).2; have := (hd.l s2).2
    omega
theorem toksB_length (ll lc dl dc : List Int) (hl : BookOk ll lc) (hd : BookOk dl dc) : ∀ l : List Int, (∀ t ∈ l, TokOk t) → (toksB ll lc dl dc l).length ≤ 160 * l.length
  | [], _ => by simp [toksB]
  | t :: r, h => by
    have h1 := toksB_length ll lc dl dc hl hd r (fun x hx => h x (by simp [hx]))
    have h2 := tokB_length ll lc dl dc hl hd t (h t (by simp))
    rw [toksB] at h1 ⊢
    rw [List.map_cons, List.flatten_cons, List.length_append, List.length_cons]
    omega
theorem toksB_snoc (ll lc dl dc : List Int) (l : List Int) (i : Nat) (hi : i < l.length) : toksB ll lc dl dc (l.take (i + 1)) = toksB ll lc dl dc (l.take i) ++ tokB ll lc dl dc (rd l i) := by
  rw [List.take_succ_eq_append_getElem hi, toksB, List.map_append, List.flatten_append]
  simp [toksB, rd, List.getD_eq_getElem?_getD, List.getElem?_eq_getElem hi]
theorem wsym {w0 w : World} {g : Nat} {bs : List Bool} {va vb : Value} {ls cs : List Int} (s : Nat) (hs : WB 81 w w0.heap.size g bs) (hB : Below w0.heap.size w0 w) (ha : Nrow w w0.heap.size va ls) (hb : Nrow w w0.heap.size vb cs) (hk : BookOk ls cs) (h : s < ls.length) (hl : bs.length ≤ 100000000000) :
    Calls Try.prog 85 #[.pointer (some ⟨g, 0, none⟩), .agg #[va, vb], .int .i64 (s : Int)] w fun e w' => e = .returned (.tuple #[]) ∧ WPost w0 w w' g (bs ++ codeB ls cs s) := by
  refine (wsymbol_calls w0 w g bs va vb ls cs s (rd ls s).toNat (rd cs s) hs hB ha hb h (by rw [hk.len]; exact h) (by have := hk.l s; omega) rfl (by have := hk.l s; omega) (hk.c s).1 (hk.c s).2 hl).mono ?_
  rintro e w' ⟨rfl, h1, h2, h3⟩
  exact ⟨rfl, h1, h2, h3⟩
theorem wnum {w0 w : World} {g : Nat} {bs : List Bool} {v : Int} {n : Nat} (hs : WB 81 w w0.heap.size g bs) (hB : Below w0.heap.size w0 w) (hv0 : 0 ≤ v) (hv1 : v < 1000000000000) (hn : n ≤ 40) (hl : bs.length ≤ 100000000000) :
    Calls Try.prog 62 #[.pointer (some ⟨g, 0, none⟩), .int .i64 v, .int .i64 (n : Int)] w fun e w' => e = .returned (.tuple #[]) ∧ WPost w0 w w' g (bs ++ numB v n) := by
  refine (wnumber_calls w0 w g bs v n hv0 hv1 hn hs hB hl).mono ?_
  rintro e w' ⟨rfl, h1, h2, h3⟩
  exact ⟨rfl, h1, h2, h3⟩
theorem arrays {w : World} (x y : Value) : ∃ W, (w.alloc (.cells #[.int .i64 0, .int .i64 0, .int .i64 0] 107)).alloc (.cells #[.int .i64 0, .int .i64 0, .int .i64 0] 107) = W ∧ Below w.heap.size w W ∧ W.heap[w.heap.size]? = some (.cells #[.int .i64 0, .int .i64 0, .int .i64 0] 107 (0, 0)) ∧ W.heap[w.heap.size + 1]? = some (.cells #[.int .i64 0, .int .i64 0, .int .i64 0] 107 (0, 0)) :=
  ⟨_, rfl, below_alloc (below_alloc (Below.refl _ _) _) _, blk_alloc (blk_new w _) _, (by simp : (w.alloc (Obj.cells #[.int .i64 0, .int .i64 0, .int .i64 0] 107)).heap.size = w.heap.size + 1) ▸ blk_new (w.alloc (Obj.cells #[.int .i64 0, .int .i64 0, .int .i64 0] 107)) _⟩
set_option maxHeartbeats 1000000 in
set_option maxRecDepth 100000 in
theorem wtokens_calls (w0 w : World) (g : Nat) (bs : List Bool) (vl va vb vc vd : Value) (l ll lc dl dc : List Int) (hs : WB 81 w w0.heap.size g bs) (hB : Below w0.heap.size w0 w) (hvl : Nrow w w0.heap.size vl l) (ha : Nrow w w0.heap.size va ll) (hb : Nrow w w0.heap.size vb lc) (hc : Nrow w w0.heap.size vc dl) (hd : Nrow w w0.heap.size vd dc)
    (hk1 : BookOk ll lc) (hk2 : BookOk dl dc) (hn1 : 286 ≤ ll.length) (hn2 : 30 ≤ dl.length) (ht : ∀ t ∈ l, TokOk t) (hl : l.length ≤ 1000000) (hbs : bs.length ≤ 1000000) :
    Calls Try.prog 67 #[.pointer (some ⟨g, 0, none⟩), vl, .agg #[va, vb], .agg #[vc, vd]] w fun e w' => e = .returned (.tuple #[]) ∧ WPost w0 w w' g (bs ++ toksB ll lc dl dc l ++ codeB ll lc 256) := by
  obtain ⟨W, hW⟩ : ∃ W, (w.alloc (.cells #[va, vb] 89)).alloc (.cells #[vc, vd] 89) = W := ⟨_, rfl⟩
  obtain ⟨gb, hgb⟩ : ∃ gb, w.heap.size = gb := ⟨_, rfl⟩
  have hbel : Below w.heap.size w W := by rw [← hW]; exact below_alloc (below_alloc (Below.refl _ _) _) _
  have H1 := Aside0.mk (show W.heap[gb]? = some (.cells #[va, vb] 89 (0, 0)) by rw [← hW, ← hgb]; exact blk_alloc (blk_new w _) _)
  have H2 := Aside0.mk (show W.heap[gb + 1]? = some (.cells #[vc, vd] 89 (0, 0)) by rw [← hW, ← hgb]; exact (by simp : (w.alloc (Obj.cells #[va, vb] 89)).heap.size = w.heap.size + 1) ▸ blk_new (w.alloc (Obj.cells #[va, vb] 89)) _)
  have HP := Aside0.mk (show WPost w0 W W g (bs ++ toksB ll lc dl dc (l.take 0)) from ⟨by simpa [toksB] using hs.below hbel, Oth.refl _ _, below_then hB hB.size hbel⟩)
  have HOW := Aside0.mk (Oth.below (T := 81) hbel)
  have HVL := Aside0.mk (hvl.below hbel)
  have HVA := Aside0.mk (ha.below hbel)
  have HVB := Aside0.mk (hb.below hbel)
  have HVC := Aside0.mk (hc.below hbel)
  have HVD := Aside0.mk (hd.below hbel)
  have HK1 := Aside0.mk hk1
  have HK2 := Aside0.mk hk2
  have HN := Aside0.mk (And.intro hn1 hn2)
  have HT := Aside0.mk ht
  have HL := Aside0.mk (And.intro hl hbs)
  have HTL := Aside0.mk (fun i => toksB_length ll lc dl dc hk1 hk2 (l.take i) (fun t h => ht t (List.mem_of_mem_take h)))
  obtain ⟨L, cl, rfl⟩ := Kd.R_slice hvl
  clear hs hB hvl ha hb hc hd hk1 hk2 hn1 hn2 ht hbs hbel
  go_enter Try.func67, Try.ntmps67
  go_wp2
  go_loopg [14] (l.length + 1) (fun q v14 w' => ∃ i : Nat, v14 = .int .i64 (i : Int) ∧ Aside0 (q + i = l.length + 1 ∧ i ≤ l.length) ∧ Aside0 (WPost w0 W w' g (bs ++ toksB ll lc dl dc (l.take i))))
  case atStart => exact ⟨0, rfl, ⟨by omega, by omega⟩, HP⟩
  case round =>
    clear HP hW
    obtain ⟨i, rfl, HK, HP⟩ := hrel
    have HA := Aside0.mk (HVA.out.oth HP.out.oth (by decide))
    have HB := Aside0.mk (HVB.out.oth HP.out.oth (by decide))
    have h6 := HP.out.oth _ _ _ (by decide) (by decide) H1.out
    have h7 := HP.out.oth _ _ _ (by decide) (by decide) H2.out
    have hc6 := (blk_cell h6 0).trans rfl
    have hc7 := (blk_cell h6 1).trans rfl
    have HBL := Aside0.mk (show (bs ++ toksB ll lc dl dc (l.take i)).length ≤ 1000000000 by have := HTL.out i; rw [List.length_take] at this; have := HL.out; rw [List.length_append]; omega)
    by_cases hlt : i < l.length
    · obtain ⟨-, ad, rfl, hcell⟩ := (HVL.out.oth HP.out.oth (by decide)).at i hlt
      have HTT := Aside0.mk (HT.out (rd l i) (by rw [rd, Int.toNat_natCast, List.getD_eq_getElem?_getD, List.getElem?_eq_getElem hlt]; exact List.getElem_mem hlt))
      have HSN := Aside0.mk (toksB_snoc ll lc dl dc l i hlt)
      have hi0 : (0 : Int) ≤ (i : Int) := by omega
      have hlt2 : (i : Int) < (l.length : Int) := by omega
      generalize rd l i = t at *
      by_cases hc : t < 256
      · obtain ⟨s, rfl⟩ := Int.eq_ofNat_of_zero_le HTT.out.1
        clear h6 h7
        go_wp2_with (go_at_call 85; refine (wsym s HP.out.wb HP.out.bel HA.out HB.out HK1.out (by have := HN.out; omega) (by have := HBL.out; omega)).mono ?_; rintro e' w1 ⟨rfl, hp1⟩; have HP1 := Aside0.mk hp1; clear hp1)
        go_roundg (gk - 1)
        case measure => have := HK.out; omega
        case rel => exact ⟨i + 1, (by go_num), ⟨by have := HK.out; omega, by omega⟩, ⟨by rw [HSN.out, tokB, if_pos hc, ← List.append_assoc]; exact HP.out.step HP1.out⟩⟩
      · obtain ⟨s1, n1, p1, p2, p3, e1, e2, p4, p5⟩ := lenOf_ok HTT.out (by omega)
        obtain ⟨s2, n2, q2, q3, i1, i2, q4, q5⟩ := disOf_ok HTT.out (by omega)
        obtain ⟨a1, ha1⟩ : ∃ x, (lenOf t).2.1 = x := ⟨_, rfl⟩
        obtain ⟨b1, hb1⟩ : ∃ x, (disOf t).2.1 = x := ⟨_, rfl⟩
        have hla : arr3 (lenOf t) = .agg #[.int .i64 s1, .int .i64 a1, .int .i64 n1] := by rw [arr3, e1, e2, ha1]
        have hlb : arr3 (disOf t) = .agg #[.int .i64 s2, .int .i64 b1, .int .i64 n2] := by rw [arr3, i1, i2, hb1]
        have htk : tokB ll lc dl dc t = codeB ll lc s1 ++ numB a1 n1 ++ codeB dl dc s2 ++ numB b1 n2 := by rw [tokB, if_neg hc, e1, e2, ha1, i1, i2, hb1, Int.toNat_natCast, Int.toNat_natCast]
        rw [ha1] at p4 p5
        rw [hb1] at q4 q5
        have HLA := Aside0.mk hla
        have HLB := Aside0.mk hlb
        have HR := Aside0.mk (And.intro (And.intro p4 p5) (And.intro q4 q5))
        have HTK := Aside0.mk htk
        have HC1 := Aside0.mk (show (codeB ll lc s1).length ≤ 40 by rw [codeB, symB_length]; have := HK1.out.l s1; omega)
        have HC2 := Aside0.mk (show (codeB dl dc s2).length ≤ 40 by rw [codeB, symB_length]; have := HK2.out.l s2; omega)
        clear p4 p5 q4 q5 e1 e2 i1 i2 ha1 hb1 hla hlb htk h6 h7 hc6 hc7
        go_upto_region 7 with (go_at_call 81; refine (parts_calls t (by omega) (by have := HTT.out; have := this.2.1; omega) w0 _ HP.out.bel).mono ?_; rintro e' w1 ⟨rfl, -, hbl⟩; rw [HLA.out, HLB.out]; obtain ⟨V, hV, hbV, hv1, hv2⟩ := arrays (w := w1) (.int .i64 0) (.int .i64 0); obtain ⟨gc, hgc⟩ : ∃ gc, w1.heap.size = gc := ⟨_, rfl⟩; obtain ⟨X1, X2, X3, hX1, hX2, hX3, e1, e2, e3, e4, e5, e6, k1, k2, k3⟩ := store3 hv1 (.int .i64 s1) (.int .i64 a1) (.int .i64 n1); rw [hgc] at hX1 hX2 hX3 e1 e2 e3 e4 e5 e6; obtain ⟨Y1, Y2, Y3, hY1, hY2, hY3, f1, f2, f3, f4, f5, f6, l1, l2, l3⟩ := store3 ((k2 (w1.heap.size + 1) (by omega)).trans hv2) (.int .i64 s2) (.int .i64 b1) (.int .i64 n2); rw [hgc] at hY1 hY2 hY3 f1 f2 f3 f4 f5 f6; have A1 := Aside0.mk ((l2 w1.heap.size (by omega)).trans k1); have A2 := Aside0.mk l1; rw [hgc] at A1 A2; have HP2 := Aside0.mk (HP.out.under (l3 wr (k3 wr (below_then hbl hbl.size hbV) hbl.size) (by have := hbl.size; omega))); clear hbl hbV hv1 hv2 k1 k2 k3 l1 l2 l3)
        clear hV hgc hX1 hX2 hX3 hY1 hY2 hY3 e1 e2 e3 e4 e5 e6 f1 f2 f3 f4 f5 f6 HP HA HB hcell
        have HA := Aside0.mk (HVA.out.oth HP2.out.oth (by decide))
        have HB := Aside0.mk (HVB.out.oth HP2.out.oth (by decide))
        have hc6 := (blk_cell (HP2.out.oth _ _ _ (by decide) (by decide) H1.out) 0).trans rfl
        have hc7 := (blk_cell (HP2.out.oth _ _ _ (by decide) (by decide) H1.out) 1).trans rfl
        have hd0 := (blk_cell A1.out 0).trans rfl
        go_upto_region 8 with (go_at_call 85; refine (wsym s1 HP2.out.wb HP2.out.bel HA.out HB.out HK1.out (by have := HN.out; omega) (by have := HBL.out; omega)).mono ?_; rintro e' w2 ⟨rfl, hp1⟩; have HP3 := Aside0.mk hp1; clear hp1)
        clear hc6 hc7 hd0 HA HB
        have HB3 := Aside0.mk (HP3.out.oth _ _ _ (by decide) (by decide) A1.out)
        have hd1 := (blk_cell HB3.out 1).trans rfl
        have hd2 := (blk_cell HB3.out 2).trans rfl
        go_upto_region 9 with (go_at_call 62; refine (wnum HP3.out.wb HP3.out.bel HR.out.1.1 HR.out.1.2 (by omega) (by rw [List.length_append]; have := HBL.out; have := HC1.out; omega)).mono ?_; rintro e' w2 ⟨rfl, hp1⟩; have HP4 := Aside0.mk hp1; clear hp1)
        clear hd1 hd2 HB3
        have HP4b := Aside0.mk (HP3.out.step HP4.out)
        have HA := Aside0.mk (HVC.out.oth (HP2.out.oth.trans HP4b.out.oth) (by decide))
        have HB := Aside0.mk (HVD.out.oth (HP2.out.oth.trans HP4b.out.oth) (by decide))
        have hc6 := (blk_cell ((HP2.out.oth.trans HP4b.out.oth) _ _ _ (by decide) (by decide) H2.out) 0).trans rfl
        have hc7 := (blk_cell ((HP2.out.oth.trans HP4b.out.oth) _ _ _ (by decide) (by decide) H2.out) 1).trans rfl
        have hd0 := (blk_cell (HP4b.out.oth _ _ _ (by decide) (by decide) A2.out) 0).trans rfl
        go_upto_region 10 with (go_at_call 85; refine (wsym s2 HP4.out.wb HP4.out.bel HA.out HB.out HK2.out (by have := HN.out; omega) (by rw [List.length_append, List.length_append, numB_length]; have := HBL.out; have := HC1.out; omega)).mono ?_; rintro e' w2 ⟨rfl, hp1⟩; have HP5 := Aside0.mk hp1; clear hp1)
        clear hc6 hc7 hd0 HA HB
        have HP5b := Aside0.mk (HP4b.out.step HP5.out)
        have hd1 := (blk_cell (HP5b.out.oth _ _ _ (by decide) (by decide) A2.out) 1).trans rfl
        have hd2 := (blk_cell (HP5b.out.oth _ _ _ (by decide) (by decide) A2.out) 2).trans rfl
        go_wp2_with (go_at_call 62; refine (wnum HP5.out.wb HP5.out.bel HR.out.2.1 HR.out.2.2 (by omega) (by rw [List.length_append, List.length_append, List.length_append, numB_length]; have := HBL.out; have := HC1.out; have := HC2.out; omega)).mono ?_; rintro e' w2 ⟨rfl, hp1⟩; have HP6 := Aside0.mk hp1; clear hp1)
        have HP6b := Aside0.mk (HP2.out.step (HP5b.out.step HP6.out))
        go_roundg (gk - 1)
        case measure => have := HK.out; omega
        case rel => exact ⟨i + 1, (by go_num), ⟨by have := HK.out; omega, by omega⟩, ⟨by have h := HP6b.out; rw [HSN.out, HTK.out]; simpa only [List.append_assoc] using h⟩⟩
    · have hin : i = l.length := by have := HK.out; omega
      have HE := Aside0.mk (show l.take i = l by rw [hin]; exact List.take_length)
      clear h6 h7
      go_wp2_with (go_at_call 85; refine (wsym 256 HP.out.wb HP.out.bel HA.out HB.out HK1.out (by have := HN.out; omega) (by have := HBL.out; omega)).mono ?_; rintro e' w2 ⟨rfl, hp1⟩; have HP1 := Aside0.mk hp1; clear hp1)
      go_end0
      have h := HP.out.step HP1.out
      rw [HE.out] at h
      exact ⟨rfl, h.wb, HOW.out.trans h.oth, h.bel⟩
end Go.Proofs.Ytldhpniflnbilaa
