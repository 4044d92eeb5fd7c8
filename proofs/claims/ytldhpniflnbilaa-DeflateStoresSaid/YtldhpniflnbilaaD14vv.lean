/- The matcher of package deflate: best. -/
import Derived.Test.YtldhpniflnbilaaProg
import Derived.Below
import Derived.Deep.Draws
import Derived.Deep.AppendLies
import Derived.Maps.AppendAt
import Derived.OwnWalk
import Derived.Laws.BytesArg
import Derived.Laws.MakeOwn
import Derived.Laws.OwnMore
import Derived.Deep.OwnRows
import Derived.Tactics
import Derived.Lib.ConvBytes
import Derived.Laws.Slices
import Derived.WalkKit
import Derived.KernelRfl
import Derived.RowKit3
import Derived.Deep.LoopGhost
import Derived.Deep.QuietTactic
import Derived.BigQuiet
import Derived.WideLaws
import Derived.Deep.DeepCutAuto
import Derived.Deep.CutBlock
import Derived.Deep.RegionHeld3
import Derived.Laws.Rows
import Derived.Lib.AppendStr
import Derived.ArgAppend
import Derived.Laws.IdiomCopy
import Derived.OrdersHeld
import Derived.Laws.BitsLemmas
import Derived.RowKit
import Derived.Outline
import Derived.Test.YtldhpniflnbilaaV34s
import Derived.Test.YtldhpniflnbilaaD13vv
set_option linter.unusedVariables false
set_option linter.unusedSimpArgs false
namespace Go.Proofs.Ytldhpniflnbilaa
open Go.RowKit Go.Proofs.YtldhpniflnbilaaW.PrintWords Go.Proofs.YtldhpniflnbilaaW.PrintLast Go.Proofs.YtldhpniflnbilaaW.PrintMore

open Go.Shelf
attribute [local go_sem] Oper.semAt_some
def bestGo (p : List Int) (i : Nat) : List Int → Int × Int → Int × Int
  | [], s => s
  | j :: r, s => if 32768 < (i : Int) - j then s else bestGo p i r (if s.1 < (sameN p j.toNat i : Int) then ((sameN p j.toNat i : Int), (i : Int) - j) else s)
def bestF (p : List Int) (i : Nat) (zs : List Int) : Int × Int := bestGo p i zs.reverse (0, 0)
theorem boxes4 (w : World) (v0 v1 v2 v3 : Value) : ∃ W, ((((w.alloc (.cells #[v0] 115)).alloc (.cells #[v1] 3)).alloc (.cells #[v2] 3)).alloc (.cells #[v3] 3)) = W ∧ Below w.heap.size w W ∧ W.heap[w.heap.size]? = some (.cells #[v0] 115 (0, 0)) ∧ W.heap[w.heap.size + 1]? = some (.cells #[v1] 3 (0, 0)) ∧ W.heap[w.heap.size + 1 + 1]? = some (.cells #[v2] 3 (0, 0)) ∧ W.heap[w.heap.size + 1 + 1 + 1]? = some (.cells #[v3] 3 (0, 0)) := by
  have s1 : (w.alloc (.cells #[v0] 115)).heap.size = w.heap.size + 1 := by simp
  have s2 : ((w.alloc (.cells #[v0] 115)).alloc (.cells #[v1] 3)).heap.size = w.heap.size + 1 + 1 := by simp
  have s3 : (((w.alloc (.cells #[v0] 115)).alloc (.cells #[v1] 3)).alloc (.cells #[v2] 3)).heap.size = w.heap.size + 1 + 1 + 1 := by simp
  refine ⟨_, rfl, below_alloc (below_alloc (below_alloc (below_alloc (Below.refl _ _) _) _) _) _, blk_alloc (blk_alloc (blk_alloc (blk_new w _) _) _) _, ?_, ?_, ?_⟩
  · exact blk_alloc (blk_alloc (s1 ▸ blk_new (w.alloc (.cells #[v0] 115)) (.cells #[v1] 3)) _) _
  · exact blk_alloc (s2 ▸ blk_new ((w.alloc (.cells #[v0] 115)).alloc (.cells #[v1] 3)) (.cells #[v2] 3)) _
  · exact s3 ▸ blk_new (((w.alloc (.cells #[v0] 115)).alloc (.cells #[v1] 3)).alloc (.cells #[v2] 3)) (.cells #[v3] 3)
/-- A place ahead of i. -/
def cl (i : Nat) (y : Int) : Int := if 0 ≤ y ∧ y < (i : Int) then y else 0
theorem cl_of {i : Nat} {y : Int} (h0 : 0 ≤ y) (h1 : y < (i : Int)) : cl i y = y := if_pos ⟨h0, h1⟩
theorem cl_range {i : Nat} (h : 0 < i) (y : Int) : 0 ≤ cl i y ∧ cl i y < (i : Int) := by unfold cl; split <;> omega
def stepB (p : List Int) (i : Nat) (s : Int × Int) (x : Nat × Int) : Int × Int := if s.1 < (sameN p (cl i x.2).toNat i : Int) then ((sameN p (cl i x.2).toNat i : Int), (i : Int) - cl i x.2) else s
def foldB (p : List Int) (i : Nat) (pre : List (Nat × Int)) : Int × Int := pre.foldl (stepB p i) (0, 0)
theorem foldB_snoc (p : List Int) (i : Nat) (pre : List (Nat × Int)) (x : Nat × Int) : foldB p i (pre ++ [x]) = stepB p i (foldB p i pre) x := by simp [foldB]
def near (i : Nat) (x : Nat × Int) : Prop := (i : Int) - cl i x.2 ≤ 32768
def IB (p : List Int) (i gs gm : Nat) (w : World) (pre : List (Nat × Int)) (V : World) : Prop :=
  (((V.cell? ⟨gs + 1 + 1, 0, none⟩ = some (.int .i64 (foldB p i pre).1) ∧ V.frozen? ⟨gs + 1 + 1, 0, none⟩ = false) ∧ (V.cell? ⟨gs + 1 + 1 + 1, 0, none⟩ = some (.int .i64 (foldB p i pre).2) ∧ V.frozen? ⟨gs + 1 + 1 + 1, 0, none⟩ = false)) ∧ (V.cell? ⟨gs, 0, none⟩ = some (.pointer (some ⟨gm, 0, none⟩)) ∧ V.cell? ⟨gs + 1, 0, none⟩ = some (.int .i64 (i : Int))) ∧ (∀ x ∈ pre, near i x)) ∧ Below w.heap.size w V
def IX (p : List Int) (i gs : Nat) (w : World) (c : Code) (pre : List (Nat × Int)) (V : World) : Prop :=
  (c = .exit 0 ∧ ∃ ini last, pre = ini ++ [last] ∧ (∀ x ∈ ini, near i x) ∧ ¬ near i last ∧ (V.cell? ⟨gs + 1 + 1, 0, none⟩ = some (.int .i64 (foldB p i ini).1) ∧ V.frozen? ⟨gs + 1 + 1, 0, none⟩ = false) ∧ (V.cell? ⟨gs + 1 + 1 + 1, 0, none⟩ = some (.int .i64 (foldB p i ini).2) ∧ V.frozen? ⟨gs + 1 + 1 + 1, 0, none⟩ = false)) ∧ Below w.heap.size w V
theorem bestGo_upto (p : List Int) (i : Nat) (zs : List Int) (hz : ∀ j ∈ zs, 0 ≤ j ∧ j < (i : Int)) : ∀ k, k ≤ zs.length → (∀ x ∈ upto (bwAt zs) k, near i x) → bestF p i zs = bestGo p i (zs.reverse.drop k) (foldB p i (upto (bwAt zs) k))
  | 0, _, _ => rfl
  | k + 1, hk, hn => by
    have ih := bestGo_upto p i zs hz k (by omega) (fun x hx => hn x (by rw [upto_succ]; exact List.mem_append_left _ hx))
    have hlt : k < zs.reverse.length := by rw [List.length_reverse]; omega
    have e1 : zs.reverse[k] = zs[zs.length - 1 - k] := List.getElem_reverse hlt
    have e2 : (bwAt zs k).2 = zs[zs.length - 1 - k] := by unfold bwAt; rw [List.getElem?_eq_getElem (by omega)]; rfl
    have h1 := hz _ (List.getElem_mem (show zs.length - 1 - k < zs.length by omega))
    have h2 := hn (bwAt zs k) (by rw [upto_succ]; exact List.mem_append_right _ (List.mem_singleton.2 rfl))
    unfold near at h2
    rw [e2, cl_of h1.1 h1.2] at h2
    rw [ih, upto_succ, foldB_snoc, List.drop_eq_getElem_cons hlt, bestGo, e1, if_neg (by omega), stepB, e2, cl_of h1.1 h1.2]
theorem best_done (p : List Int) (i : Nat) (zs : List Int) (hz : ∀ j ∈ zs, 0 ≤ j ∧ j < (i : Int)) (hn : ∀ x ∈ upto (bwAt zs) zs.length, near i x) : foldB p i (upto (bwAt zs) zs.length) = bestF p i zs := by
  rw [bestGo_upto p i zs hz zs.length (Nat.le_refl _) hn, List.drop_of_length_le (by rw [List.length_reverse]; omega), bestGo]
theorem best_stop (p : List Int) (i : Nat) (zs : List Int) (hz : ∀ j ∈ zs, 0 ≤ j ∧ j < (i : Int)) (k : Nat) (hk : k ≤ zs.length) (ini : List (Nat × Int)) (last : Nat × Int) (he : upto (bwAt zs) k = ini ++ [last]) (hn : ∀ x ∈ ini, near i x) (hf : ¬ near i last) : foldB p i ini = bestF p i zs := by
  cases k with
  | zero => simp [upto] at he
  | succ k =>
    rw [upto_succ] at he
    obtain ⟨h1, h2⟩ := List.append_inj' he rfl
    injection h2 with h2
    subst h1
    subst h2
    have hlt : k < zs.reverse.length := by rw [List.length_reverse]; omega
    have e1 : zs.reverse[k] = zs[zs.length - 1 - k] := List.getElem_reverse hlt
    have e2 : (bwAt zs k).2 = zs[zs.length - 1 - k] := by unfold bwAt; rw [List.getElem?_eq_getElem (by omega)]; rfl
    have h3 := hz _ (List.getElem_mem (show zs.length - 1 - k < zs.length by omega))
    unfold near at hf
    rw [e2, cl_of h3.1 h3.2] at hf
    rw [bestGo_upto p i zs hz k (by omega) hn, List.drop_eq_getElem_cons hlt, bestGo, e1, if_pos (by omega)]
theorem best_end {w V : World} {gs D : Nat} {a b : Value} (hc1 : ∃ u, V.cell? ⟨gs + 1 + 1, 0, none⟩ = some u) (hc2 : ∃ u, V.cell? ⟨gs + 1 + 1 + 1, 0, none⟩ = some u) (hD : gs + 1 + 1 + 1 < D) (hK : V.heap[D]? = some (.deferred (some []))) (hw : w.heap.size = gs) (hB : Below w.heap.size w V) (hwd : w.heap.size ≤ D) :
    ((V.setCell ⟨gs + 1 + 1, 0, none⟩ a).setCell ⟨gs + 1 + 1 + 1, 0, none⟩ b).drew.heap[D]? = some (.deferred (some [])) ∧ (((V.setCell ⟨gs + 1 + 1, 0, none⟩ a).setCell ⟨gs + 1 + 1 + 1, 0, none⟩ b).drew.putObj D (.deferred none)).cell? ⟨gs + 1 + 1, 0, none⟩ = some a ∧
    (((V.setCell ⟨gs + 1 + 1, 0, none⟩ a).setCell ⟨gs + 1 + 1 + 1, 0, none⟩ b).drew.putObj D (.deferred none)).cell? ⟨gs + 1 + 1 + 1, 0, none⟩ = some b ∧ Below w.heap.size w (((V.setCell ⟨gs + 1 + 1, 0, none⟩ a).setCell ⟨gs + 1 + 1 + 1, 0, none⟩ b).drew.putObj D (.deferred none)) := by
  have far : ∀ (W : World) (g g' : Nat) (v : Value), g' ≠ g → (W.setCell ⟨g, 0, none⟩ v).cell? ⟨g', 0, none⟩ = W.cell? ⟨g', 0, none⟩ := fun W g g' v hne => World.cell?_of_block (w := W) (Below.heap_setCell W ⟨g, 0, none⟩ v g' hne)
  have far2 : ∀ (W : World) (g' : Nat), g' ≠ D → (W.putObj D (.deferred none)).cell? ⟨g', 0, none⟩ = W.cell? ⟨g', 0, none⟩ := fun W g' hne => World.cell?_of_block (w := W) (World.putObj_heap_other hne)
  obtain ⟨u1, hc1⟩ := hc1
  obtain ⟨u2, hc2⟩ := hc2
  have hK2 : ((V.setCell ⟨gs + 1 + 1, 0, none⟩ a).setCell ⟨gs + 1 + 1 + 1, 0, none⟩ b).drew.heap[D]? = some (.deferred (some [])) := (Below.heap_setCell _ _ _ D (by show D ≠ gs + 1 + 1 + 1; omega)).trans ((Below.heap_setCell _ _ _ D (by show D ≠ gs + 1 + 1; omega)).trans hK)
  have e1 : (V.setCell ⟨gs + 1 + 1, 0, none⟩ a).cell? ⟨gs + 1 + 1, 0, none⟩ = some a := World.cell?_setCell_same' _ _ _ (by rw [hc1]; rfl)
  refine ⟨hK2, ?_, ?_, ?_⟩
  · rw [far2 _ _ (by omega)]
    exact (far _ _ _ _ (by omega)).trans e1
  · rw [far2 _ _ (by omega)]
    exact World.cell?_setCell_same' _ _ _ (by rw [far _ _ _ _ (by omega), hc2]; rfl)
  · have h1 := Below.setCell (Below.setCell hB (p := ⟨gs + 1 + 1, 0, none⟩) (by show w.heap.size ≤ gs + 1 + 1; omega) a) (p := ⟨gs + 1 + 1 + 1, 0, none⟩) (by show w.heap.size ≤ gs + 1 + 1 + 1; omega) b
    exact (below_drew1 h1).trans (belowK_b (w := w) (Nat.le_refl _) _ D _ _ hwd hK2 rfl rfl)
theorem IB.keep {p : List Int} {i gs gm j : Nat} {w V : World} {pre : List (Nat × Int)} {x : Nat × Int} (h : IB p i gs gm w pre V) (hf : foldB p i (pre ++ [x]) = foldB p i pre) (hx : near i x) : IB p i gs gm w (pre ++ [x]) (V.drewN j) := by
  obtain ⟨⟨⟨h1, h2⟩, h3, h4⟩, h5⟩ := h
  refine ⟨⟨⟨?_, ?_⟩, h3, fun y hy => ?_⟩, pw_below_drewN h5 j⟩
  · rw [hf]; exact h1
  · rw [hf]; exact h2
  · rcases List.mem_append.1 hy with hy | hy
    · exact h4 y hy
    · simp at hy; subst hy; exact hx
theorem IB.put {p : List Int} {i gs gm j : Nat} {w V : World} {pre : List (Nat × Int)} {x : Nat × Int} {a b : Int} (h : IB p i gs gm w pre V) (hf : foldB p i (pre ++ [x]) = (a, b)) (hx : near i x) (hg : w.heap.size = gs) : IB p i gs gm w (pre ++ [x]) (((V.drewN j).setCell ⟨gs + 1 + 1, 0, none⟩ (.int .i64 a)).setCell ⟨gs + 1 + 1 + 1, 0, none⟩ (.int .i64 b)) := by
  obtain ⟨⟨⟨⟨c1, f1⟩, c2, f2⟩, ⟨h3, h4⟩, h5⟩, h6⟩ := h
  have far : ∀ (W : World) (g g' : Nat) (v : Value), g' ≠ g → (W.setCell ⟨g, 0, none⟩ v).cell? ⟨g', 0, none⟩ = W.cell? ⟨g', 0, none⟩ := fun W g g' v hne => World.cell?_of_block (w := W) (Below.heap_setCell W ⟨g, 0, none⟩ v g' hne)
  have e1 : ((V.drewN j).setCell ⟨gs + 1 + 1, 0, none⟩ (.int .i64 a)).cell? ⟨gs + 1 + 1, 0, none⟩ = some (.int .i64 a) := World.cell?_setCell_same' _ _ _ (by rw [show (V.drewN j).cell? ⟨gs + 1 + 1, 0, none⟩ = V.cell? ⟨gs + 1 + 1, 0, none⟩ from rfl, c1]; rfl)
  refine ⟨⟨⟨⟨?_, ?_⟩, ⟨?_, ?_⟩⟩, ⟨?_, ?_⟩, fun y hy => ?_⟩, ?_⟩
  · rw [hf, far _ _ _ _ (by omega)]; exact e1
  · rw [World.frozen?_setCell, World.frozen?_setCell]; exact f1
  · rw [hf]; exact World.cell?_setCell_same' _ _ _ (by rw [far _ _ _ _ (by omega), show (V.drewN j).cell? ⟨gs + 1 + 1 + 1, 0, none⟩ = V.cell? ⟨gs + 1 + 1 + 1, 0, none⟩ from rfl, c2]; rfl)
  · rw [World.frozen?_setCell, World.frozen?_setCell]; exact f2
  · rw [far _ _ _ _ (by omega), far _ _ _ _ (by omega)]; exact h3
  · rw [far _ _ _ _ (by omega), far _ _ _ _ (by omega)]; exact h4
  · rcases List.mem_append.1 hy with hy | hy
    · exact h5 y hy
    · simp at hy; subst hy; exact hx
  · exact (Below.setCell (Below.setCell (pw_below_drewN h6 j) (p := ⟨gs + 1 + 1, 0, none⟩) (by show w.heap.size ≤ gs + 1 + 1; omega) _) (p := ⟨gs + 1 + 1 + 1, 0, none⟩) (by show w.heap.size ≤ gs + 1 + 1 + 1; omega) _)
theorem keeps_drewN (V : World) (j : Nat) : KeepsOthers V (V.drewN j) := ⟨Nat.le_refl _, fun _ _ h _ => h⟩
theorem keeps_put {V : World} {j g g' n₀ Bs : Nat} {a b : Value} (h1 : n₀ ≤ g) (h2 : n₀ ≤ g') (h3 : g < Bs) (h4 : g' < Bs) : KeepsOthers V (((V.drewN j).setCell ⟨g, 0, none⟩ a).setCell ⟨g', 0, none⟩ b) ∧ KpB n₀ Bs V (((V.drewN j).setCell ⟨g, 0, none⟩ a).setCell ⟨g', 0, none⟩ b) :=
  ⟨((keeps_drewN V j).trans (KeepsOthers.setCell _ _ _)).trans (KeepsOthers.setCell _ _ _), fun k hk => (Below.heap_setCell _ _ _ k (by show k ≠ g'; omega)).trans (Below.heap_setCell _ _ _ k (by show k ≠ g; omega))⟩
theorem same_in (F : Fence) (n' l : Nat) (w V : World) (gm gh a b n c : Nat) (A : Option Addr) (p : List Int) (hb : V.heap[gm]? = some (.cells #[.slice A n c, .map (some gh)] 118 (0, 0))) (hC : (Kd.int .u8).C V A n p) (hn : p.length = n) (hl : n ≤ 1000000000) (hab : a < b) (hbn : b < n) :
    CallsIn (Fence.wide.inRound l) n' Try.prog 114 #[.pointer (some ⟨gm, 0, none⟩), .int .i64 (a : Int), .int .i64 (b : Int)] V fun e w' => e = .returned (.int .i64 (sameN p a b : Int)) ∧ ∃ k, w' = V.drewN k := by
  refine (CallsIn.inRound l (callsIn_wide.2 (same_calls V gm gh a b n c A p hb hC hn hl hab hbn))).mono ?_
  rintro e w' ⟨rfl, ⟨⟨k, rfl⟩⟩⟩
  exact ⟨rfl, k, rfl⟩
set_option maxRecDepth 100000 in
set_option maxHeartbeats 2000000 in
theorem best_calls (w : World) (base gm gh i n c : Nat) (A : Option Addr) (p : List Int) (S : Nat → Prop) (hd : K3 → List Int) (hm : MSt w base gm gh (.slice A n c) S hd) (hC : (Kd.int .u8).C w A n p) (hp : Bytes p) (hn : p.length = n) (hnc : n ≤ c) (hl : n ≤ 1000000000) (hin : i + 3 ≤ n)
    (hz : ∀ j ∈ hd (keyAt p i), 0 ≤ j ∧ j < (i : Int)) :
    Calls Try.prog 87 #[.pointer (some ⟨gm, 0, none⟩), .int .i64 (i : Int)] w fun e w' => e = .returned (.tuple #[.int .i64 (bestF p i (hd (keyAt p i))).1, .int .i64 (bestF p i (hd (keyAt p i))).2]) ∧ Below w.heap.size w w' := by
  have hok := keyAt_ok hp i
  have HKEY := Aside0.mk (fun (W : World) (hW : Below w.heap.size w W) => key_calls W gm gh i n c A p (blk_below hm.blk hW) (Kd.C_below hC hW) hn hnc hl (by omega) hin)
  have HM := Aside0.mk hm
  have HC := Aside0.mk hC
  generalize keyAt p i = k at *
  obtain ⟨k0, k1, k2⟩ := k
  obtain ⟨zs, hzs⟩ : ∃ zs, hd (k0, k1, k2) = zs := ⟨_, rfl⟩
  rw [hzs] at hz ⊢
  have HZS := Aside0.mk hzs
  have HZ := Aside0.mk hz
  clear hz hzs
  obtain ⟨R, hR⟩ : ∃ R, bestF p i zs = R := ⟨_, rfl⟩
  rw [hR]
  have HR := Aside0.mk hR
  clear hR
  have hi0 : (0 : Int) ≤ (i : Int) := by omega
  have hi1 : (i : Int) ≤ 1000000000 := by omega
  obtain ⟨W, hW, hbw, z0, z1, z2, z3⟩ := boxes4 w (.pointer (some ⟨gm, 0, none⟩)) (.int .i64 (i : Int)) (.int .i64 0) (.int .i64 0)
  obtain ⟨gs, hgs⟩ : ∃ gs, w.heap.size = gs := ⟨_, rfl⟩
  rw [hgs] at z0 z1 z2 z3
  have HBW := Aside0.mk hbw
  have c2 := (blk_cell z0 0).trans rfl
  have c3 := (blk_cell z1 0).trans rfl
  have Z := Aside0.mk (And.intro z0 (And.intro z1 (And.intro z2 z3)))
  clear hm hC hbw z0 z1 z2 z3
  refine (callsIn_wide (n := 5)).1 ?_
  refine callsIn_of_wp_marks Try.func87 rfl trivial ?_ rfl
  simp only [Try.ntmps87, List.size_toArray, List.length_cons, List.length_nil, Nat.reduceAdd, Nat.reduceSub, Array.replicate_succ, Array.replicate_zero, List.push_toArray, List.append_toArray, List.nil_append, List.cons_append]
  refine wpIn_wide.2 ?_
  go_upto_region 4 with (go_at_call 112; refine (HKEY.out W HBW.out).mono ?_; rintro e' w1 ⟨rfl, hbl⟩; rw [show kv (k0, k1, k2) = .agg #[.int .u8 k0, .int .u8 k1, .int .u8 k2] from rfl]; obtain ⟨V, hV⟩ : ∃ V, w1.alloc (.cells #[.int .u8 0, .int .u8 0, .int .u8 0] 144) = V := ⟨_, rfl⟩; obtain ⟨gb, hgb⟩ : ∃ gb, w1.heap.size = gb := ⟨_, rfl⟩; have hbv : Below w1.heap.size w1 V := (by rw [← hV]; exact below_alloc (Below.refl _ _) _); have hvb : V.heap[gb]? = some (.cells #[.int .u8 0, .int .u8 0, .int .u8 0] 144 (0, 0)) := (by rw [← hV, ← hgb]; exact blk_new w1 _); obtain ⟨X1, X2, X3, hX1, hX2, hX3, q1, q2, q3, q4, q5, q6, hb1, hb2, hb3⟩ := store3 hvb (.int .u8 k0) (.int .u8 k1) (.int .u8 k2); have HBX := Aside0.mk (hb3 W (below_then hbl hbl.size hbv) (by rw [← hgb]; exact hbl.size)); have HX := Aside0.mk hb1; clear hbl hbv hvb hb1 hb2 hb3)
  clear hV hgb hX1 hX2 hX3 q1 q2 q3 q4 q5 q6 HKEY c2 c3 hW
  have HBWX := Aside0.mk (below_then HBW.out HBW.out.size HBX.out)
  have HMX := Aside0.mk (HM.out.below HBWX.out)
  obtain ⟨m, hmw, hrowsw, hdis⟩ := HM.out.mp
  have hm := hmw.same (HBWX.out.block gh hmw.lt)
  have hroww := (hrowsw (k0, k1, k2) hok).1
  have hrows : ∀ k, K3ok k → ORow X3 base (orNil (m k)) (hd k) ∧ True := fun k hk => ⟨(hrowsw k hk).1.step (fun b hb => HBWX.out.block b ((hrowsw k hk).1.lt b hb).2.1), trivial⟩
  have hlook := (show HMap X3.drew gh m from hm).lookup hok
  obtain ⟨hrow, -⟩ := hrows (k0, k1, k2) hok
  rw [HZS.out] at hrow hroww
  obtain ⟨va, vl, vc, hv⟩ : ∃ va vl vc, orNil (m (k0, k1, k2)) = .slice va vl vc := by rcases hrow with ⟨h, -⟩ | ⟨g, off, cap, cur, h, -⟩ <;> exact ⟨_, _, _, h⟩
  rw [hv] at hlook hrow hroww
  rw [show kv (k0, k1, k2) = .agg #[.int .u8 k0, .int .u8 k1, .int .u8 k2] from rfl] at hlook
  have hc1 : X3.cell? ⟨gm, 1, none⟩ = some (.map (some gh)) := (blk_cell HMX.out.blk 1).trans rfl
  have hc2 := (blk_cell (blk_below Z.out.1 HBX.out) 0).trans rfl
  obtain ⟨d0, d1, d2⟩ := cells3 HX.out
  have HROW := Aside0.mk hrow
  have HINT := Aside0.mk hroww.ints
  have HZL := Aside0.mk (show zs.length ≤ 32 by rw [← HZS.out]; exact HMX.out.len _)
  clear hrow hrows hdis hm hv hmw hrowsw hroww
  go_cut [25] from 19 (fun v25 wx => v25 = .func (.func 128) #[] #[.pointer (some ⟨X3.heap.size, 0, none⟩)] ∧ (X3.alloc (.cells #[.slice va vl vc] 22)).drew = wx)
  case first =>
    as_aux_lemma =>
      go_region_held3 (fun w' => w'.cell? ⟨gs, 0, none⟩ = some (.pointer (some ⟨gm, 0, none⟩)) ∧ w'.cell? ⟨gm, 1, none⟩ = some (.map (some gh)) ∧ w'.cell? ⟨gb, 0, none⟩ = some (.int .u8 k0) ∧ w'.cell? ⟨gb, 1, none⟩ = some (.int .u8 k1) ∧ w'.cell? ⟨gb, 2, none⟩ = some (.int .u8 k2)) (exact ⟨pw_cell_below (by repeat (first | exact Below.refl _ _ | apply below_alloc | apply pw_below_drewN | apply below_drew1)) hc2, pw_cell_below (by repeat (first | exact Below.refl _ _ | apply below_alloc | apply pw_below_drewN | apply below_drew1)) hc1, pw_cell_below (by repeat (first | exact Below.refl _ _ | apply below_alloc | apply pw_below_drewN | apply below_drew1)) d0, pw_cell_below (by repeat (first | exact Below.refl _ _ | apply below_alloc | apply pw_below_drewN | apply below_drew1)) d1, pw_cell_below (by repeat (first | exact Below.refl _ _ | apply below_alloc | apply pw_below_drewN | apply below_drew1)) d2⟩) (first | (go_at_call 113; refine (callsIn_wide.1 (bw_in Fence.wide 1 trivial rfl va vl vc _)).mono ?_; rintro e' w2 ⟨rfl, rfl⟩))
      all_goals (go_wp2; go_meet; exact ⟨rfl, rfl⟩)
  case rest =>
  obtain ⟨rfl, rfl⟩ := hcut
  go_wp2_with (fail)
  have HY := Aside0.mk (show Below w.heap.size w (X3.alloc (.cells #[.slice va vl vc] 22)).drew from below_drew1 (below_alloc HBWX.out _))
  have HYX := Aside0.mk (show Below X3.heap.size X3 (X3.alloc (.cells #[.slice va vl vc] 22)).drew from below_drew1 (below_alloc (Below.refl _ _) _))
  have hgx := (blk_cell (blk_drew (blk_new X3 (.cells #[.slice va vl vc] 22))) 0).trans rfl
  have hsz : (X3.alloc (.cells #[.slice va vl vc] 22)).drew.heap.size = X3.heap.size + 1 := by simp
  obtain ⟨gx, hgxe⟩ : ∃ gx, X3.heap.size = gx := ⟨_, rfl⟩
  rw [hgxe] at hgx hsz ⊢
  have hgs3 : gs + 1 + 1 + 1 < gx := by rw [← hgxe]; exact blk_lt (blk_below Z.out.2.2.2 HBX.out)
  generalize (X3.alloc (.cells #[.slice va vl vc] 22)).drew = Y at *
  have y0 := blk_below (blk_below Z.out.1 HBX.out) HYX.out
  have y1 := blk_below (blk_below Z.out.2.1 HBX.out) HYX.out
  have y2 := blk_below (blk_below Z.out.2.2.1 HBX.out) HYX.out
  have y3 := blk_below (blk_below Z.out.2.2.2 HBX.out) HYX.out
  have hgw : w.heap.size ≤ Y.heap.size := HY.out.size
  refine (wpIn_wide (n := 5)).1 ?_
  refine wpIn_rangeFunc_ownG rfl (by omega) (gf := 128) (lb := #[.pointer (some ⟨gx, 0, none⟩)]) rfl trivial (enters_of Try.func128 (by kernel_rfl) rfl)
    (bw_stops (fun x : Nat × Int => #[.int .i64 (x.1 : Int), .int .i64 (cl i x.2)]) (bwAt zs) Fence.wide 4 trivial rfl (by omega) gx w.heap.size (.slice va vl vc) zs (by have := HZL.out; omega) Y (by omega) hgw hgx (HINT.out.below HY.out) (fun k hk => ?hf)) (fun h k => h.trans k) (kpB_put hgw (by omega)) (Below.refl _ _) (fun _ => rfl)
    (IB p i gs gm w) (IX p i gs w)
    (OwnFrom.and (Own.from (fun s A B row hs hg hr => ⟨⟨⟨cell_kept hs.1.1.1 hg hr, (frozen_kept hs.1.1.1 hg hr).trans hs.1.1.2⟩, ⟨cell_kept hs.1.2.1 hg hr, (frozen_kept hs.1.2.1 hg hr).trans hs.1.2.2⟩⟩, ⟨cell_kept hs.2.1.1 hg hr, cell_kept hs.2.1.2 hg hr⟩, hs.2.2⟩) _) (ownFrom_below (Nat.le_refl _) hgw))
    (fun c => OwnFrom.and (Own.from (fun s A B row hs hg hr => by obtain ⟨hc, ini, last, e1, e2, e3, e4, e5⟩ := hs; exact ⟨hc, ini, last, e1, e2, e3, ⟨cell_kept e4.1 hg hr, (frozen_kept e4.1 hg hr).trans e4.2⟩, ⟨cell_kept e5.1 hg hr, (frozen_kept e5.1 hg hr).trans e5.2⟩⟩) _) (ownFrom_below (Nat.le_refl _) hgw))
    ⟨⟨⟨⟨(blk_cell y2 0).trans rfl, blk_frozen y2 0⟩, ⟨(blk_cell y3 0).trans rfl, blk_frozen y3 0⟩⟩, ⟨(blk_cell y0 0).trans rfl, (blk_cell y1 0).trans rfl⟩, by simp⟩, HY.out⟩
    (fun x => { tmps := #[.pointer (some ⟨gm, 0, none⟩), .int .i64 (i : Int), .pointer (some ⟨gs, 0, none⟩), .pointer (some ⟨gs + 1, 0, none⟩), .pointer (some ⟨gs + 1 + 1, 0, none⟩), .pointer (some ⟨gs + 1 + 1 + 1, 0, none⟩), .pointer (some ⟨gb, 0, none⟩), .bool true, undef, .int .i64 (cl i x.2), undef,
      .tuple #[.agg #[.int .u8 k0, .int .u8 k1, .int .u8 k2], .bool true], .pointer (some ⟨gm, 0, none⟩), .int .i64 (i : Int), .tuple #[.agg #[.int .u8 k0, .int .u8 k1, .int .u8 k2], .bool true], .agg #[.int .u8 k0, .int .u8 k1, .int .u8 k2], .bool true, .bool true, .bool false, u19, u20, u21, u22, u23, u24,
      .func (.func 128) #[] #[.pointer (some ⟨gx, 0, none⟩)], .int .i64 (x.1 : Int), .int .i64 (cl i x.2), u28, u29, u30, u31, u32, u33, u34, u35, u36, u37, u38, u39, u40, u41, u42, u43, u44], defers := [] }) ?assign ?body ?done ?stop
  case hf =>
    unfold bwAt
    have h1 := HZ.out (zs[zs.length - 1 - k]?.getD 0) (by rw [List.getElem?_eq_getElem (by omega)]; exact List.getElem_mem _)
    simp only [cl_of h1.1 h1.2]
  case assign =>
    intro l x V K hK
    gi_wp2
    exact hK
  case body =>
    rintro l pre x V hI hlen
    have HI := Aside0.mk hI
    obtain ⟨⟨⟨⟨hc1, hf1⟩, ⟨hc2, hf2⟩⟩, ⟨hc3, hc4⟩, hnear⟩, hB⟩ := hI
    have hip : 0 < i := by
      have h1 := HZ.out (zs[0]'(by omega)) (List.getElem_mem _)
      omega
    obtain ⟨hy0, hy1⟩ := cl_range hip x.2
    have HST := Aside0.mk (foldB_snoc p i pre x)
    have HNX := Aside0.mk (show near i x ↔ (i : Int) - cl i x.2 ≤ 32768 from Iff.rfl)
    have HNEAR := Aside0.mk hnear
    have HB := Aside0.mk hB
    obtain ⟨⟨s1, s2⟩, hst⟩ : ∃ s, foldB p i pre = s := ⟨_, rfl⟩
    rw [hst] at hc1 hc2 HST
    dsimp only at hc1 hc2
    obtain ⟨yn, hyn⟩ := Int.eq_ofNat_of_zero_le hy0
    rw [show stepB p i (s1, s2) x = (if s1 < (sameN p yn i : Int) then ((sameN p yn i : Int), (i : Int) - (yn : Int)) else (s1, s2)) by unfold stepB; rw [hyn, Int.toNat_natCast]] at HST
    rw [hyn] at hy0 hy1 HNX ⊢
    have HSTE := Aside0.mk hst
    have hy2 : yn < i := by omega
    clear hnear hB hst hyn
    by_cases hfar : (i : Int) - (yn : Int) ≤ 32768
    · have HBL := Aside0.mk (blk_below HM.out.blk HB.out)
      have HCV := Aside0.mk (Kd.C_below HC.out HB.out)
      obtain ⟨sm, hsm⟩ : ∃ sm, sameN p yn i = sm := ⟨_, rfl⟩
      rw [hsm] at HST
      have HSM := Aside0.mk hsm
      clear hsm
      by_cases hbig : s1 < (sm : Int)
      · rw [if_pos hbig] at HST
        gi_wp2_with (refine ⟨trivial, ?_⟩; gi_at_call 114; refine (same_in Fence.wide _ l w V gm gh yn i n c A p HBL.out HCV.out hn hl hy2 (by omega)).mono ?_; rintro e' w2 ⟨rfl, ⟨k, rfl⟩⟩; rw [HSM.out])
        have HWR := Aside0.mk (show IntKind.i64.wrap ((i : Int) - (yn : Int)) = (i : Int) - (yn : Int) by rw [i64_w]; unfold wrap64; omega)
        have HI2 := Aside0.mk (fun j => HI.out.put (j := j) (x := x) HST.out (HNX.out.2 hfar) hgs)
        have HK2 := Aside0.mk (fun (j : Nat) (u v : Value) => keeps_put (V := V) (j := j) (a := u) (b := v) (n₀ := w.heap.size) (Bs := gx) (g := gs + 1 + 1) (g' := gs + 1 + 1 + 1) (by omega) (by omega) (by omega) (by omega))
        gi_region
        all_goals gi_wp2
        all_goals (rw [HWR.out]; exact ⟨(HK2.out _ _ _).1.from _, (HK2.out _ _ _).2, HI2.out _⟩)
      · rw [if_neg hbig] at HST
        have HI2 := Aside0.mk (fun j => HI.out.keep (j := j) (x := x) (by rw [HST.out, HSTE.out]) (HNX.out.2 hfar))
        gi_wp2_with (refine ⟨trivial, ?_⟩; gi_at_call 114; refine (same_in Fence.wide _ l w V gm gh yn i n c A p HBL.out HCV.out hn hl hy2 (by omega)).mono ?_; rintro e' w2 ⟨rfl, ⟨k, rfl⟩⟩; rw [HSM.out])
        exact ⟨(keeps_drewN _ _).from _, fun _ _ => rfl, HI2.out _⟩
    · have hfar' : 32768 < (i : Int) - (yn : Int) := by omega
      clear HST
      gi_wp2
      exact ⟨KeepsFrom.refl _ _, ⟨rfl, pre, x, rfl, HNEAR.out, fun h => by have := HNX.out.1 h; omega, ⟨by rw [HSTE.out]; exact hc1, hf1⟩, ⟨by rw [HSTE.out]; exact hc2, hf2⟩⟩, HB.out⟩
  case done =>
    rintro D ys V hD rfl ⟨⟨⟨⟨hc1, hf1⟩, ⟨hc2, hf2⟩⟩, -, hnear⟩, hB⟩ hK
    rw [best_done p i zs HZ.out hnear, HR.out] at hc1 hc2
    obtain ⟨R1, R2⟩ := R
    dsimp only at hc1 hc2
    have HBV := Aside0.mk hB
    have HKD := Aside0.mk hK
    have HDD := Aside0.mk hD
    clear hB hK hD hnear
    go_wp2
    go_region
    go_wp2
    obtain ⟨k1, k2, k3, k4⟩ := best_end (w := w) (a := .int .i64 R1) (b := .int .i64 R2) ⟨_, hc1⟩ ⟨_, hc2⟩ (by have := HDD.out; omega) HKD.out hgs HBV.out (by have := HDD.out; omega)
    refine ⟨by simp, .inl ⟨_, _, rfl, run_takeDeferred k1, ?_⟩⟩
    refine ⟨.tuple #[.int .i64 R1, .int .i64 R2], ?_, rfl, hgs ▸ k4⟩
    simp [results, Try.f87, go_sem, k2, k3]
  case stop =>
    rintro D c pre V hD ⟨k, hk, rfl⟩ ⟨⟨rfl, ini, last, e1, e2, e3, ⟨hc1, hf1⟩, ⟨hc2, hf2⟩⟩, hB⟩ hK
    rw [best_stop p i zs HZ.out k hk ini last e1 e2 e3, HR.out] at hc1 hc2
    obtain ⟨R1, R2⟩ := R
    dsimp only at hc1 hc2
    have HBV := Aside0.mk hB
    have HKD := Aside0.mk hK
    have HDD := Aside0.mk hD
    clear hB hK hD e1 e2 e3 hk
    refine (wpIn_wide (n := 5)).2 ?_
    go_wp2
    go_region
    go_wp2
    obtain ⟨k1, k2, k3, k4⟩ := best_end (w := w) (a := .int .i64 R1) (b := .int .i64 R2) ⟨_, hc1⟩ ⟨_, hc2⟩ (by have := HDD.out; omega) HKD.out hgs HBV.out (by have := HDD.out; omega)
    refine ⟨by simp, .inl ⟨_, _, rfl, run_takeDeferred k1, ?_⟩⟩
    refine ⟨.tuple #[.int .i64 R1, .int .i64 R2], ?_, rfl, hgs ▸ k4⟩
    simp [results, Try.f87, go_sem, k2, k3]
end Go.Proofs.Ytldhpniflnbilaa
