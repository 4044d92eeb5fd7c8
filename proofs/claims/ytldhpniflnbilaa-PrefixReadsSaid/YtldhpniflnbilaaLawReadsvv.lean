/- PrefixReads, the row: for any lists and any case, true; what lay in memory lies as it did. -/
import Derived.Test.YtldhpniflnbilaaRows
import Derived.Test.YtldhpniflnbilaaQReadsvv
import Derived.WalkKit
import Derived.ProofKit
import Derived.OpenShut
import Derived.ShutString
import Derived.ChangeOld
import Derived.Below
import Derived.SizedLaws
import Derived.Deep.Grids
import Derived.Test.YtldhpniflnbilaaV33
namespace Go.Proofs.Ytldhpniflnbilaa.prefixReads
open Go.ChangeShapes Go.WideShapes Go.ChangeAt Go.RowKit Go.Proofs.YtldhpniflnbilaaW.PrintWords Go.Proofs.Ytldhpniflnbilaa.P33
open Go.ChangeMaps (open_string shut_string)
set_option linter.unusedVariables false
theorem own : ownKnob Try.prog.godebug = none := by kernel_rfl
theorem laidOut : laidOutB Try.prog = true := by kernel_rfl
def IsRow (k : IntKind) (w : World) (a : Option Addr) (len cap : Nat) (zs : List Int) : Prop :=
  (a = none ∧ len = 0 ∧ cap = 0 ∧ zs = []) ∨
  ∃ x, a = some x ∧ len ≤ cap ∧ cap ≤ maxLen ∧ zs.length = cap ∧ (∀ i, i < zs.length → w.cell? (x.add i) = some (.int k (zs.getD i 0))) ∧ ∀ n ∈ zs, (Lit.int k n).wf = true
theorem bools_row {w : World} {a : Addr} {len cap : Nat} {B : Nat → Bool} (hl : len ≤ cap) (hm : cap ≤ maxLen) (h : ∀ i, i < cap → w.cell? (a.add i) = some (.bool (B i))) :
    ∃ l : List Bool, l.length = len ∧ Kd.C Kd.bool w (some a) l.length l := by
  refine ⟨(List.range len).map B, by simp, ?_⟩
  have hm' : maxLen ≤ 9223372036854775807 := by decide
  have hle : ((List.range len).map B).length ≤ 9223372036854775807 := by rw [List.length_map, List.length_range]; omega
  refine Kd.C_of_reads (d := false) ⟨rfl, hle, fun _ => ⟨a, rfl, fun j hj => ?_⟩⟩
  simp only [List.length_map, List.length_range] at hj
  rw [h j (by omega)]
  simp [List.getD_eq_getElem?_getD, hj]
theorem two_of (a : Array Value) (h : a.size = 2) : ∃ c0 c1, a = #[c0, c1] := by
  obtain ⟨ls⟩ := a
  match ls, h with
  | [c0, c1], _ => exact ⟨c0, c1, rfl⟩
set_option maxRecDepth 100000 in
set_option maxHeartbeats 1000000 in
theorem lifted (os : Os) (started : os.Started) (H : Type) (enc : TypeId × Value → H) :
    ReturnsInHanded {} Try.checked os 5 .any (Rows.prefixReadsSpec.pre6 enc Try.prog Try.f5 Rows.prefixReadsRow.domain false) (Rows.prefixReadsSpec.post enc Try.prog Try.f5 false true false false) := by
  refine returnsInHanded_of_change_sized (C := Try.checked) own started (by kernel_rfl) Try.func5
    (ChangeSpec.witness6 (enc := enc) (C := Try.checked) false ⟨#[], #[.slice none 0 0, .slice none 0 0, .agg #[.slice none 0 0, .int .i64 0]], []⟩ 8 (by kernel_rfl) (by kernel_rfl) (by kernel_rfl) (by kernel_rfl)) ?_
  intro W base args ds gs before hval0 hW hcnd hsz0 _
  have hval : ∀ (j : Nat) t v, Try.f5.params[j]? = some t → args[j]? = some v → Value.okWide Try.prog W .any base t v := hval0
  have hW' := hW
  obtain ⟨p, q, hA0, hV, rfl, hfz, hnd⟩ := hW
  have hA : DataW.TrodAll enc Try.prog W 0 (fun _ => true) true Try.f5.params.toList args.toList ds p := hA0
  rw [Try.params5] at hA hval
  obtain ⟨v0, vs0, d0, ds0, p0, q0, hargs, rfl, rfl, h0, r0⟩ := trodAll_cons hA
  obtain ⟨v1, vs1, d1, ds1, p1, q1, rfl, rfl, rfl, h1, r1⟩ := trodAll_cons r0
  obtain ⟨v2, vs2, d2, ds2, p2, q2, rfl, rfl, rfl, h2, r2⟩ := trodAll_cons r1
  obtain ⟨rfl, rfl, rfl⟩ := trodAll_nil r2
  obtain rfl : args = #[v0, v1, v2] := by cases args; simp_all
  obtain ⟨rfl, rfl⟩ := trodVars_none hV
  obtain ⟨a0, len0, cap0, rfl⟩ := okWide_slice Try.underlying22 (hval 0 22 v0 rfl rfl)
  have k0 := h0
  have lt0 : ∀ x ∈ p0, x.block < W.heap.size := by obtain ⟨m, hm⟩ := k0; exact DataW.trod_lt m _ _ _ hm
  obtain ⟨z0, w0⟩ : ∃ zs, IsRow .i64 W a0 len0 cap0 zs := by
    obtain ⟨fuel, hf⟩ := h0
    rcases open_ints Try.underlying22 Try.underlying3 (by kernel_rfl) hf with ⟨hcs, _⟩ | ⟨x, l, c, zs, hcs, _, hl, hm, hz, _, hcell, hwz⟩
    · simp [Value.cells] at hcs
      obtain ⟨rfl, rfl, rfl⟩ := hcs
      exact ⟨[], .inl ⟨rfl, rfl, rfl, rfl⟩⟩
    · simp [Value.cells] at hcs
      obtain ⟨rfl, rfl, rfl⟩ := hcs
      exact ⟨zs, .inr ⟨_, rfl, hl, hm, by simpa using hz, hcell, hwz⟩⟩
  obtain ⟨a1, len1, cap1, rfl⟩ := okWide_slice Try.underlying22 (hval 1 22 v1 rfl rfl)
  have k1 := h1
  have lt1 : ∀ x ∈ p1, x.block < W.heap.size := by obtain ⟨m, hm⟩ := k1; exact DataW.trod_lt m _ _ _ hm
  obtain ⟨z1, w1⟩ : ∃ zs, IsRow .i64 W a1 len1 cap1 zs := by
    obtain ⟨fuel, hf⟩ := h1
    rcases open_ints Try.underlying22 Try.underlying3 (by kernel_rfl) hf with ⟨hcs, _⟩ | ⟨x, l, c, zs, hcs, _, hl, hm, hz, _, hcell, hwz⟩
    · simp [Value.cells] at hcs
      obtain ⟨rfl, rfl, rfl⟩ := hcs
      exact ⟨[], .inl ⟨rfl, rfl, rfl, rfl⟩⟩
    · simp [Value.cells] at hcs
      obtain ⟨rfl, rfl, rfl⟩ := hcs
      exact ⟨zs, .inr ⟨_, rfl, hl, hm, by simpa using hz, hcell, hwz⟩⟩
  obtain ⟨cs2, rfl, hcs2⟩ := okWide_struct Try.underlying35 (hval 2 35 v2 rfl rfl)
  have k2 := h2
  have lt2 : ∀ x ∈ p2, x.block < W.heap.size := by obtain ⟨m, hm⟩ := k2; exact DataW.trod_lt m _ _ _ hm
  obtain ⟨A2, c2, l2, a2, rfl, hr2, hc2⟩ : ∃ (A : Option Addr) (c : Nat) (l : List Bool) (a : Int), cs2 = #[.slice A l.length c, .int .i64 a] ∧ Kd.C Kd.bool W A l.length l ∧ l.length ≤ c := by
    obtain ⟨fuel, hf⟩ := h2
    obtain ⟨xs, n, _, _, hlen, hxl, hx⟩ := DataW.trod_struct Try.underlying35 hf
    have hx0 := hx 0 _ rfl
    have hx1 := hx 1 _ rfl
    simp only [List.getElem_toArray, List.getElem_cons_zero, List.getElem_cons_succ] at hx0 hx1
    have cs : Try.prog.cellsOf 35 = 2 := by kernel_rfl
    have cb : Try.prog.cellsOf 33 = 1 := by kernel_rfl
    have ci : Try.prog.cellsOf 3 = 1 := by kernel_rfl
    rw [cb] at hx0
    rw [ci] at hx1
    have h2c : cs2.size = 2 := hcs2.trans cs
    obtain ⟨c0, c1, rfl⟩ := two_of cs2 h2c
    have hl2 : xs.length = 2 := hxl
    rw [List.getElem?_eq_getElem (by omega)] at hx0 hx1
    have e0 : (Value.cells (.agg #[c0, c1])).toList = [c0, c1] := rfl
    obtain ⟨n1, e1, _, _⟩ := DataW.trod_int Try.underlying3 hx1
    have e1' : [c1] = [Value.int .i64 n1] := e1
    obtain rfl : c1 = .int .i64 n1 := by simpa using e1'
    rcases Go.Deep.open_bools Try.underlying33 Try.underlying4 (by kernel_rfl) hx0 with ⟨e2, _⟩ | ⟨a, len, cap, B, e2, _, hl, hm, _, hcell⟩
    · have e2' : [c0] = [Value.slice none 0 0] := e2
      obtain rfl : c0 = .slice none 0 0 := by simpa using e2'
      refine ⟨none, 0, [], n1, rfl, ?_, Nat.le_refl _⟩
      exact Kd.C_of_reads (d := false) ⟨rfl, by decide, fun h => absurd h (by decide)⟩
    · have e2' : [c0] = [Value.slice (some a) len cap] := e2
      obtain rfl : c0 = .slice (some a) len cap := by simpa using e2'
      obtain ⟨l, hll, hC⟩ := bools_row hl hm hcell
      exact ⟨some a, cap, l, n1, by rw [hll], hC, by omega⟩
  clear hA0 hval0 hsz0
  obtain ⟨l0, rfl, hr0, hm0, hw0, hc0⟩ := ReadsInt.ofRowC w0
  obtain ⟨l1, rfl, hr1, hm1, hw1, hc1⟩ := ReadsInt.ofRowC w1
  obtain ⟨k, hk⟩ := (Pure.reads_ev l0 l1 l2 a2).rounds
  refine (barscanlaw33_PrefixReads.calls k _ _ l0 _ _ l1 _ _ l2 a2 true W (Kd.C_of_reads (d := (0 : Int)) (h1 := fun _ => rfl) hr0) hc0 (Kd.C_of_reads (d := (0 : Int)) (h1 := fun _ => rfl) hr1) hc1 hr2 hc2 hk).mono fun e W' ⟨he, bel⟩ => ?_
  subst he
  exact ⟨_, rfl, _, _, _, [], _, [], hW', trodAll_mk1 (shut_bool Try.underlying4 _), (trodAll_cons_mk (Below.trod laidOut (by kernel_rfl) (of_decide_eq_true (by kernel_rfl)) k0 bel lt0) (trodAll_cons_mk (Below.trod laidOut (by kernel_rfl) (of_decide_eq_true (by kernel_rfl)) k1 bel lt1) (trodAll_cons_mk (Below.trod laidOut (by kernel_rfl) (of_decide_eq_true (by kernel_rfl)) k2 bel lt2) trodAll_mk0))), rfl, bel.frame _, fun h => by cases h⟩
theorem over : Rows.prefixReadsRow.holds Try.pinned (OpenSpec.ofChange Rows.prefixReadsSpec) :=
  OpenClaim.holds_of_wide 5 Try.f5 rfl rfl rfl rfl rfl rfl rfl ⟨rfl, rfl, rfl, rfl, rfl⟩ rfl rfl rfl rfl rfl (by kernel_rfl) Try.func5 (by kernel_rfl)
    (of_decide_eq_true (by kernel_rfl)) (by unfold Func.isWrapper; first | (rw [if_pos (by decide +kernel)]; kernel_rfl) | (rw [if_neg (by decide +kernel)]; exact ⟨rfl, rfl⟩))
    (fun os started H enc _ => lifted os started H enc)
theorem proved : Rows.PrefixReadsSaid := over
#print axioms proved
end Go.Proofs.Ytldhpniflnbilaa.prefixReads
namespace Go.Proofs.Ytldhpniflnbilaa
/-- The row, under a short name, for the claim. -/
theorem prefixReads_holds : Rows.PrefixReadsSaid := prefixReads.proved
end Go.Proofs.Ytldhpniflnbilaa
