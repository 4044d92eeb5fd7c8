/- The matcher of package deflate: key, reset, add, same. -/
import Derived.Test.YtldhpniflnbilaaProg
import Derived.Below
import Derived.Deep.Draws
import Derived.Deep.AppendLies
import Derived.Maps.AppendAt
import Derived.OwnWalk
import Derived.Laws.BytesArg
import Derived.Laws.MakeOwn
import Derived.Laws.OwnMore
import Derived.Deep.OwnRows
import Derived.Tactics
import Derived.Lib.ConvBytes
import Derived.Laws.Slices
import Derived.WalkKit
import Derived.KernelRfl
import Derived.RowKit3
import Derived.Deep.LoopGhost
import Derived.Deep.QuietTactic
import Derived.BigQuiet
import Derived.WideLaws
import Derived.Deep.DeepCutAuto
import Derived.Deep.CutBlock
import Derived.Deep.RegionHeld3
import Derived.Laws.Rows
import Derived.Lib.AppendStr
import Derived.ArgAppend
import Derived.Laws.IdiomCopy
import Derived.OrdersHeld
import Derived.Laws.BitsLemmas
import Derived.RowKit
import Derived.Outline
import Derived.Test.YtldhpniflnbilaaV34s
import Derived.ArgAppend
import Derived.Test.YtldhpniflnbilaaD9vv
set_option linter.unusedVariables false
set_option linter.unusedSimpArgs false
namespace Go.Proofs.Ytldhpniflnbilaa
open Go.RowKit Go.Proofs.YtldhpniflnbilaaW.PrintWords Go.Proofs.YtldhpniflnbilaaW.PrintLast Go.Proofs.YtldhpniflnbilaaW.PrintMore

def keyAt (p : List Int) (i : Nat) : K3 := (rd p i, rd p (i + 1), rd p (i + 2))
def Bytes (p : List Int) : Prop := ∀ i, 0 ≤ rd p i ∧ rd p i < 256
theorem keyAt_ok {p : List Int} (h : Bytes p) (i : Nat) : K3ok (keyAt p i) := ⟨h _, h _, h _⟩
set_option maxHeartbeats 1000000 in
set_option maxRecDepth 100000 in
theorem key_calls (w : World) (gm gh i n c : Nat) (A : Option Addr) (p : List Int) (hb : w.heap[gm]? = some (.cells #[.slice A n c, .map (some gh)] 118 (0, 0))) (hC : (Kd.int .u8).C w A n p) (hn : p.length = n) (hnc : n ≤ c) (hl : n ≤ 1000000000) (hi : i ≤ 1000000000) (hin : i + 3 ≤ n) :
    Calls Try.prog 112 #[.pointer (some ⟨gm, 0, none⟩), .int .i64 (i : Int)] w fun e w' => e = .returned (.tuple #[kv (keyAt p i), .bool true]) ∧ Below w.heap.size w w' := by
  obtain ⟨W, hW⟩ : ∃ W, w.alloc (.cells #[.int .u8 0, .int .u8 0, .int .u8 0] 144) = W := ⟨_, rfl⟩
  obtain ⟨gb, hgb⟩ : ∃ gb, w.heap.size = gb := ⟨_, rfl⟩
  have hbel : Below w.heap.size w W := by rw [← hW]; exact below_alloc (Below.refl _ _) _
  have hWb : W.heap[gb]? = some (.cells #[.int .u8 0, .int .u8 0, .int .u8 0] 144 (0, 0)) := by rw [← hW, ← hgb]; exact blk_new w _
  have hc0 : W.cell? ⟨gm, 0, none⟩ = some (.slice A n c) := (blk_cell (blk_below hb hbel) 0).trans rfl
  have hC2 := Kd.C_below hC hbel
  obtain ⟨ad, rfl, h0⟩ := Kd.at_int hC2 (i : Int) (by omega) (by omega)
  obtain ⟨_, e1, h1⟩ := Kd.at_int hC2 ((i + 1 : Nat) : Int) (by omega) (by omega)
  injection e1 with e1
  subst e1
  obtain ⟨_, e1, h2⟩ := Kd.at_int hC2 ((i + 2 : Nat) : Int) (by omega) (by omega)
  injection e1 with e1
  subst e1
  rw [Int.toNat_natCast] at h0 h1 h2
  obtain ⟨K, hK⟩ : ∃ K, keyAt p i = K := ⟨_, rfl⟩
  have HK := Aside0.mk hK
  obtain ⟨k0, k1, k2⟩ := K
  have e0 : rd p i = k0 := by injection hK
  have e1 : rd p (i + 1 : Nat) = k1 := by unfold keyAt at hK; simp at hK; push_cast; exact hK.2.1
  have e2 : rd p (i + 2 : Nat) = k2 := by unfold keyAt at hK; simp at hK; push_cast; exact hK.2.2
  rw [e0] at h0
  rw [e1] at h1
  rw [e2] at h2
  rw [hK]
  rw [show (i + 1 : Nat) = i + 1 from rfl, ← Addr.add_add] at h1
  rw [show (i + 2 : Nat) = i + 2 from rfl, ← Addr.add_add] at h2
  have harr : (Instr.arrayAt 144 (.slice (some (ad.add i)) 3 (c - i))).run Try.prog W = .ok (.pointer (some (ad.add i))) W := by simp [Instr.arrayAt, run_underlying Try.underlying144, Result.andThen]
  obtain ⟨b, hb0⟩ : ∃ b, ad.add i = b := ⟨_, rfl⟩
  rw [hb0] at h0 h1 h2 harr
  rw [show b.add 1 = ⟨b.block, b.off + 1, none⟩ from rfl] at h1
  rw [show b.add 2 = ⟨b.block, b.off + 2, none⟩ from rfl] at h2
  obtain ⟨X1, X2, X3, hX1, hX2, hX3, q1, q2, q3, q4, q5, q6, hb1, hb2, hb3⟩ := store3 hWb (.int .u8 k0) (.int .u8 k1) (.int .u8 k2)
  have HB3 := Aside0.mk hb1
  have HBEL := Aside0.mk (hb3 w hbel (by omega))
  have hi2 : (i : Int) + 3 ≤ (n : Int) := by omega
  have hi3 : (0 : Int) ≤ (i : Int) := by omega
  have hn3 : (n : Int) ≤ 1000000000 := by omega
  have hn4 : (n : Int) ≤ (c : Int) := by omega
  clear hC hC2 hWb hb hbel hb1 hb2 hb3 hK e0 e1 e2
  go_enter Try.func112, Try.ntmps112
  go_wp2
  refine bodyPost_ret (results_ct rfl _ _ gb 144 #[.int .u8 k0, .int .u8 k1, .int .u8 k2] (0, 0) _ rfl HB3.out Try.underlying144 rfl (by kernel_rfl)) rfl ?_
  exact ⟨rfl, HBEL.out⟩
set_option maxHeartbeats 1000000 in
set_option maxRecDepth 100000 in
theorem key_none (w : World) (gm gh i n c : Nat) (A : Option Addr) (hb : w.heap[gm]? = some (.cells #[.slice A n c, .map (some gh)] 118 (0, 0))) (hl : n ≤ 1000000000) (hi : i ≤ 1000000000) (hin : n < i + 3) :
    Calls Try.prog 112 #[.pointer (some ⟨gm, 0, none⟩), .int .i64 (i : Int)] w fun e w' => e = .returned (.tuple #[kv (0, 0, 0), .bool false]) ∧ Below w.heap.size w w' := by
  obtain ⟨W, hW⟩ : ∃ W, w.alloc (.cells #[.int .u8 0, .int .u8 0, .int .u8 0] 144) = W := ⟨_, rfl⟩
  obtain ⟨gb, hgb⟩ : ∃ gb, w.heap.size = gb := ⟨_, rfl⟩
  have hbel : Below w.heap.size w W := by rw [← hW]; exact below_alloc (Below.refl _ _) _
  have hWb : W.heap[gb]? = some (.cells #[.int .u8 0, .int .u8 0, .int .u8 0] 144 (0, 0)) := by rw [← hW, ← hgb]; exact blk_new w _
  have hc0 : W.cell? ⟨gm, 0, none⟩ = some (.slice A n c) := (blk_cell (blk_below hb hbel) 0).trans rfl
  obtain ⟨X1, X2, X3, hX1, hX2, hX3, q1, q2, q3, q4, q5, q6, hb1, hb2, hb3⟩ := store3 hWb (.int .u8 0) (.int .u8 0) (.int .u8 0)
  have HB3 := Aside0.mk hb1
  have HBEL := Aside0.mk (hb3 w hbel (by omega))
  have hi2 : (n : Int) < (i : Int) + 3 := by omega
  have hi3 : (0 : Int) ≤ (i : Int) := by omega
  have hi4 : (i : Int) ≤ 1000000000 := by omega
  clear hWb hb hbel hb1 hb2 hb3
  go_enter Try.func112, Try.ntmps112
  go_wp2
  refine bodyPost_ret (results_ct rfl _ _ gb 144 #[.int .u8 0, .int .u8 0, .int .u8 0] (0, 0) _ rfl HB3.out Try.underlying144 rfl (by kernel_rfl)) rfl ?_
  exact ⟨rfl, HBEL.out⟩
set_option maxHeartbeats 1000000 in
set_option maxRecDepth 100000 in
theorem reset_calls (w0 w : World) (gm gh : Nat) (v0 : Value) (A : Option Addr) (n c : Nat) (m : K3 → Option Value) (hb : w.heap[gm]? = some (.cells #[v0, .map (some gh)] 118 (0, 0))) (hm : HMap w gh m) (hB : Below w0.heap.size w0 w) (h1 : w0.heap.size ≤ gm) (h2 : w0.heap.size ≤ gh) :
    Calls Try.prog 86 #[.pointer (some ⟨gm, 0, none⟩), .slice A n c] w fun e w' => e = .returned (.tuple #[]) ∧ w'.heap[gm]? = some (.cells #[.slice A n c, .map (some gh)] 118 (0, 0)) ∧ HMap w' gh (fun _ => none) ∧ Below w0.heap.size w0 w' := by
  obtain ⟨W, hrun, hm2, hg⟩ := hm.clear 0
  have hne : gm ≠ gh := by
    rintro rfl
    obtain ⟨es, cl, hb2, -⟩ := hm
    rw [hb] at hb2
    cases hb2
  have hc1 : w.cell? ⟨gm, 1, none⟩ = some (.map (some gh)) := (blk_cell hb 1).trans rfl
  have hb2 := blk_grown hb hg (by intro e; injection e with e; exact hne e)
  have hc0 : W.cell? ⟨gm, 0, none⟩ = some v0 := (blk_cell hb2 0).trans rfl
  have hf0 := blk_frozen hb2 0
  have HBW := Aside0.mk (hB.grown hg hB.size (fun k e => by injection e with e; omega))
  have HM := Aside0.mk hm2
  have HB2 := Aside0.mk hb2
  have HR := Aside0.mk hrun
  clear hm hm2 hb hb2 hg hB hrun
  go_enter Try.func86, Try.ntmps86
  go_wp2
  rw [HR.out]
  go_wp2
  go_end0
  exact ⟨rfl, (blk_set HB2.out 0 _).trans rfl, HM.out.same (Below.heap_setCell _ _ _ _ (fun e => hne e.symm)), below_setg HBW.out h1 0 _⟩
/-! ### Rows at an offset -/
def ORow (w : World) (base : Nat) (v : Value) (xs : List Int) : Prop :=
  (v = .slice none 0 0 ∧ xs = []) ∨ ∃ g off cap cur, v = .slice (some ⟨g, off, none⟩) xs.length cap ∧ base ≤ g ∧ w.heap[g]? = some (.cells cur 3 (0, 0)) ∧ xs.length ≤ cap ∧ cur.size = off + cap ∧ ∀ (j : Nat) (x : Int), xs[j]? = some x → cur[off + j]? = some (.int .i64 x)
theorem ORow.step {w w1 : World} {base : Nat} {v : Value} {xs : List Int} (h : ORow w base v xs) (hs : ∀ b, v.ownBlock = some b → w1.heap[b]? = w.heap[b]?) : ORow w1 base v xs := by
  rcases h with ⟨h1, h2⟩ | ⟨g, off, cap, cur, rfl, h2, h3, h4, h5, h6⟩
  · exact .inl ⟨h1, h2⟩
  · exact .inr ⟨g, off, cap, cur, rfl, h2, (hs g rfl).trans h3, h4, h5, h6⟩
theorem ORow.lt {w : World} {base : Nat} {v : Value} {xs : List Int} (h : ORow w base v xs) (b : Nat) (hb : v.ownBlock = some b) : base ≤ b ∧ b < w.heap.size ∧ ∃ cur, w.heap[b]? = some (.cells cur 3 (0, 0)) := by
  rcases h with ⟨rfl, h2⟩ | ⟨g, off, cap, cur, rfl, h2, h3, h4, h5, h6⟩
  · cases hb
  · cases hb
    exact ⟨h2, blk_lt h3, cur, h3⟩
theorem ORow.append {w : World} {base : Nat} {v : Value} {xs : List Int} (h : ORow w base v xs) (hb : base ≤ w.heap.size) (a : Addr) (c : Nat) (x : Int) (hx : w.cell? a = some (.int .i64 x)) (hl : xs.length ≤ 1000000) (ty : Nat) :
    ∃ v' w', (Builtin.append_ #[22, 22] ty #[v, .slice (some a) 1 c]).run Try.prog w = .ok v' w' ∧ ORow w' base v' (xs ++ [x]) ∧ w.grownBy w' v.ownBlock ∧ (v'.ownBlock = v.ownBlock ∨ v'.ownBlock = some w.heap.size) ∧ ∃ g off cap, v' = .slice (some ⟨g, off, none⟩) (xs.length + 1) cap ∧ xs.length + 1 ≤ cap := by
  obtain ⟨i0, hi, hzz⟩ := Option.map_eq_some_iff.1 infoInt
  simp only [Prod.mk.injEq] at hzz
  obtain ⟨hz0, hz1, hz2⟩ := hzz
  have hnews : ∀ (j : Nat) (u : Value), [Value.int .i64 x][j]? = some u → w.cell? (a.add j) = some u := by
    intro j u hj
    cases j with
    | zero => simp at hj; subst hj; exact hx
    | succ j => simp at hj
  rcases h with ⟨rfl, rfl⟩ | ⟨g, off, cap, cur, rfl, h2, h3, h4, h5, h6⟩
  · have hr := run_append_nil (P := Try.prog) w 22 ty 3 i0 (.int .i64 0) Try.underlying22 hi hz0 a 1 c [.int .i64 x] (by rw [hz1]; rfl) hnews (by omega) (by omega) (by rw [hz2]; omega)
    have hge := grownCap_ge w 1 0 3
    refine ⟨_, _, hr, .inr ⟨w.heap.size, 0, _, _, rfl, hb, blk_new w.drew _, hge, ?_, ?_⟩, ⟨rfl, rfl, rfl, by simp, fun k hk _ => Below.heap_alloc w.drew _ k hk⟩, .inr rfl, ⟨_, _, _, rfl, hge⟩⟩
    · rw [Array.size_append, size_zeroCells, show (Value.int .i64 0).cells.size = 1 from rfl]; simp; omega
    · intro j y hj
      cases j with
      | zero => simp at hj; subst hj; rw [Array.getElem?_append_left (by simp)]; rfl
      | succ j => simp at hj
  · have hlen : xs.length < 1000001 := by omega
    by_cases hroom : xs.length + 1 ≤ cap
    · have hcell : w.cell? ⟨g, off + xs.length, none⟩ = cur[off + xs.length]? := blk_cell h3 _
      have hr := run_append_room_cells (P := Try.prog) w 22 ty 3 i0 Try.underlying22 hi g off xs.length cap a 1 c [.int .i64 x] (by rw [hz1]; rfl) hnews (by intro u hu; simp at hu; subst hu; rfl) hroom
        (fun j hj => by simp at hj; subst hj; rw [hz1, Nat.mul_one, Nat.add_zero, hcell, Array.getElem?_eq_getElem (by omega)]; rfl) (fun j hj => blk_frozen h3 _)
      rw [hz1, Nat.mul_one] at hr
      have hset : w.setCells g (off + xs.length) [.int .i64 x] = w.setCell ⟨g, off + xs.length, none⟩ (.int .i64 x) := rfl
      rw [hset] at hr
      refine ⟨_, _, hr, .inr ⟨g, off, cap, _, by simp, h2, blk_set h3 _ _, by simp; exact hroom, by simp; exact h5, ?_⟩, ⟨rfl, rfl, rfl, by simp [World.setCell], fun k hk hne => Below.heap_setCell _ _ _ k (fun e => hne (by rw [e]; rfl))⟩, .inl rfl, ⟨_, _, _, rfl, hroom⟩⟩
      intro j y hj
      rw [Array.getElem?_setIfInBounds]
      by_cases hj2 : j < xs.length
      · rw [List.getElem?_append_left hj2] at hj
        rw [if_neg (by omega)]
        exact h6 j y hj
      · rw [List.getElem?_append_right (by omega)] at hj
        have : j - xs.length = 0 := by
          cases hq : j - xs.length with
          | zero => rfl
          | succ q => rw [hq] at hj; simp at hj
        rw [this] at hj
        simp at hj
        subst hj
        rw [if_pos (by omega), if_pos (by omega)]
    · have holds : ∀ (j : Nat) (u : Value), (xs.map (Value.int .i64))[j]? = some u → w.cell? ((⟨g, off, none⟩ : Addr).add j) = some u := by
        intro j u hj
        rw [List.getElem?_map, Option.map_eq_some_iff] at hj
        obtain ⟨y, hy, rfl⟩ := hj
        rw [Addr.add_lit, blk_cell h3]
        exact h6 j y hy
      have hcx : cap = xs.length := by omega
      have hr := run_append_grow (P := Try.prog) w 22 ty 3 i0 (.int .i64 0) Try.underlying22 hi hz0 ⟨g, off, none⟩ xs.length cap (xs.map (Value.int .i64)) (by rw [hz1]; simp) holds a 1 c [.int .i64 x] (by rw [hz1]; rfl) hnews (by omega) (by omega) (growslice_fits (by omega) (by rw [hz2]; omega))
      have hge := grownCap_ge w (xs.length + 1) cap 3
      refine ⟨_, _, hr, .inr ⟨w.heap.size, 0, grownCap w (xs.length + 1) cap 3, _, by simp, hb, blk_new w.drew _, by simp; exact hge, ?_, ?_⟩, ⟨rfl, rfl, rfl, by simp, fun k hk _ => Below.heap_alloc w.drew _ k hk⟩, .inr rfl, ⟨_, _, _, rfl, hge⟩⟩
      · rw [Array.size_append, size_zeroCells, show (Value.int .i64 0).cells.size = 1 from rfl]; simp; omega
      · intro j y hj
        rw [Nat.zero_add, Array.getElem?_append_left (by simp; have := (List.getElem?_eq_some_iff.1 hj).1; simpa using this)]
        have : (xs.map (Value.int .i64)).toArray ++ [Value.int .i64 x].toArray = ((xs ++ [x]).map (Value.int .i64)).toArray := by simp
        rw [this, List.getElem?_toArray, List.getElem?_map, hj]
        rfl
theorem ORow.cut {w : World} {base g off n cap : Nat} {xs : List Int} (h : ORow w base (.slice (some ⟨g, off, none⟩) n cap) xs) (low : Nat) (hlow : low ≤ xs.length) : ORow w base (.slice (some ⟨g, off + low, none⟩) (n - low) (cap - low)) (xs.drop low) := by
  rcases h with ⟨h1, _⟩ | ⟨g', off', cap', cur, h1, h2, h3, h4, h5, h6⟩
  · cases h1
  · cases h1
    refine .inr ⟨g, off + low, cap - low, cur, by simp, h2, h3, by simp; omega, by omega, ?_⟩
    intro j x hj
    rw [List.getElem?_drop] at hj
    have := h6 _ x hj
    rwa [show off + low + j = off + (low + j) by omega]
theorem ORow.at {w : World} {base n : Nat} {c : Nat} {A : Option Addr} {xs : List Int} (h : ORow w base (.slice A n c) xs) (hp : 0 < xs.length) : ∃ g off, A = some ⟨g, off, none⟩ ∧ n = xs.length ∧ ∀ (j : Nat) (x : Int), xs[j]? = some x → w.cell? ⟨g, off + j, none⟩ = some (.int .i64 x) := by
  rcases h with ⟨_, h1⟩ | ⟨g', off', cap', cur, h1, h2, h3, h4, h5, h6⟩
  · subst h1; simp at hp
  · cases h1
    exact ⟨g', off', rfl, rfl, fun j x hj => by rw [blk_cell h3]; exact h6 j x hj⟩
end Go.Proofs.Ytldhpniflnbilaa
