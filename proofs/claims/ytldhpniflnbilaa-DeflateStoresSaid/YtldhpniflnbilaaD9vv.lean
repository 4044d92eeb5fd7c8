/- A map from three bytes to rows. -/
import Derived.Test.YtldhpniflnbilaaProg
import Derived.Below
import Derived.Deep.Draws
import Derived.Deep.AppendLies
import Derived.Maps.AppendAt
import Derived.OwnWalk
import Derived.Laws.BytesArg
import Derived.Laws.MakeOwn
import Derived.Laws.OwnMore
import Derived.Deep.OwnRows
import Derived.Tactics
import Derived.Lib.ConvBytes
import Derived.Laws.Slices
import Derived.WalkKit
import Derived.KernelRfl
import Derived.RowKit3
import Derived.Deep.LoopGhost
import Derived.Deep.QuietTactic
import Derived.BigQuiet
import Derived.WideLaws
import Derived.Deep.DeepCutAuto
import Derived.Deep.CutBlock
import Derived.Deep.RegionHeld3
import Derived.Laws.Rows
import Derived.Lib.AppendStr
import Derived.ArgAppend
import Derived.Laws.IdiomCopy
import Derived.OrdersHeld
import Derived.Laws.BitsLemmas
import Derived.RowKit
import Derived.Outline
import Derived.Test.YtldhpniflnbilaaV34s
import Derived.DeepKeys5
import Derived.Maps.Keyed
import Derived.MapKept
import Derived.Test.YtldhpniflnbilaaD8vv
set_option linter.unusedVariables false
set_option linter.unusedSimpArgs false
namespace Go.Proofs.Ytldhpniflnbilaa
open Go.RowKit Go.Proofs.YtldhpniflnbilaaW.PrintWords Go.Proofs.YtldhpniflnbilaaW.PrintLast Go.Proofs.YtldhpniflnbilaaW.PrintMore

/-! ### Maps from three bytes to rows -/
abbrev K3 := Int × Int × Int
def kv (k : K3) : Value := .agg #[.int .u8 k.1, .int .u8 k.2.1, .int .u8 k.2.2]
def K3ok (k : K3) : Prop := (0 ≤ k.1 ∧ k.1 < 256) ∧ (0 ≤ k.2.1 ∧ k.2.1 < 256) ∧ (0 ≤ k.2.2 ∧ k.2.2 < 256)
theorem kv_inj {a b : K3} (h : kv a = kv b) : a = b := by
  unfold kv at h
  injection h with h
  injection h with h
  injection h with h1 h
  injection h with h2 h
  injection h with h3 h
  injection h1 with _ h1
  injection h2 with _ h2
  injection h3 with _ h3
  exact Prod.ext h1 (Prod.ext h2 h3)
theorem laidOut : laidOutB Try.prog = true := by kernel_rfl
theorem keyLaw : Maps.Keyed Try.prog 144 := Maps.Keyed.of_law (deep_law_laid laidOut (m := 2) (by omega) (of_decide_eq_true (by kernel_rfl)) (by kernel_rfl) (by kernel_rfl))
theorem wf_u8 (x : Int) (p : 0 ≤ x) (q : x < 256) : (Lit.int .u8 x).wf = true := by
  have e1 : IntKind.min .u8 = 0 := by decide
  have e2 : IntKind.max .u8 = 255 := by decide
  simp only [Lit.wf, e1, e2, Bool.and_eq_true, decide_eq_true_eq]
  omega
theorem keyOf_kv {k : K3} (h : K3ok k) : ∃ l, keyOf Try.prog 144 (kv k) = some l := by
  obtain ⟨a, b, c⟩ := k
  obtain ⟨⟨a0, a1⟩, ⟨b0, b1⟩, ⟨c0, c1⟩⟩ := h
  simp only at a0 a1 b0 b1 c0 c1
  have h1 : Try.prog.keyType 144 = true := by kernel_rfl
  have h2 : Try.prog.cellsOf 144 = 3 := by kernel_rfl
  have h3 : Try.prog.cellsOf 5 = 1 := by kernel_rfl
  obtain ⟨d, hd⟩ : ∃ d, Try.prog.types.size = d + 1 := ⟨Try.prog.types.size - 1, by have : 0 < Try.prog.types.size := of_decide_eq_true (by kernel_rfl); omega⟩
  have wf := fun x p q => wf_u8 x p q
  have hf : (kv (a, b, c)).formed Try.prog 144 = true := by simp [kv, Value.formed, Try.underlying144, h2]
  have hl : Try.prog.keyLits (Try.prog.types.size + 1) 144 (kv (a, b, c)).cells.toList = some [.int .u8 a, .int .u8 b, .int .u8 c] := by
    rw [hd]
    simp [Program.keyLits, Try.underlying144, Try.underlying5, h2, h3, kv, Value.cells, wf a a0 a1, wf b b0 b1, wf c c0 c1, List.range_succ]
  refine ⟨.string (keyBytes [.int .u8 a, .int .u8 b, .int .u8 c]), ?_⟩
  unfold keyOf
  rw [Try.underlying144]
  simp only [h1, hf, hl, Bool.and_self, if_true, Option.map_some]
/-- Block g is a map; m tells what it holds. -/
def HMap (w : World) (g : Nat) (m : K3 → Option Value) : Prop := ∃ es clock, w.heap[g]? = some (.map es clock) ∧ (∀ (i : Nat) (e : MapEntry), es.toList[i]? = some e → ∃ k, K3ok k ∧ e.key = kv k) ∧ (∀ (i j : Nat) (e f : MapEntry), es.toList[i]? = some e → es.toList[j]? = some f → e.key = f.key → i = j) ∧
  (∀ k v, K3ok k → (m k = some v ↔ ∃ (i : Nat) (e : MapEntry), es.toList[i]? = some e ∧ e.key = kv k ∧ e.val = v))
def orNil (o : Option Value) : Value := o.getD (.slice none 0 0)
def put (m : K3 → Option Value) (k : K3) (v : Value) : K3 → Option Value := fun q => if q = k then some v else m q
theorem HMap.lookup {w : World} {g : Nat} {m : K3 → Option Value} (h : HMap w g m) {k : K3} (hk : K3ok k) : (Instr.lookup 116 (.map (some g)) (kv k) false).run Try.prog w = .ok (orNil (m k)) w := by
  obtain ⟨es, clock, hb, he, -, hm⟩ := h
  obtain ⟨l, hl⟩ := keyOf_kv hk
  have hz : (zeroValue 22).run Try.prog w = .ok (.slice none 0 0) w := Try.zeroValue22 w
  have hc := keyLaw.check w es.isEmpty hl
  rcases keyLaw.find w hl es.toList (fun e hx => by obtain ⟨i, hi⟩ := List.mem_iff_getElem?.1 hx; obtain ⟨q, hq, hq2⟩ := he i e hi; rw [hq2]; exact keyOf_kv hq) with ⟨hf, hn⟩ | ⟨j, e, hf, hj, hek⟩
  · have : m k = none := by
      cases hmk : m k with
      | none => rfl
      | some v =>
        obtain ⟨i, e, h1, h2, -⟩ := (hm k v hk).1 hmk
        exact absurd h2 (hn e (List.mem_of_getElem? h1))
    rw [this]
    simp [Instr.lookup, run_underlying Try.underlying116, MapKept.run_getObj_map hb, hc, hf, hz, Result.andThen, orNil]
  · have : m k = some e.val := (hm k e.val hk).2 ⟨j, e, hj, hek, rfl⟩
    rw [this]
    simp [Instr.lookup, run_underlying Try.underlying116, MapKept.run_getObj_map hb, hc, hf, Result.andThen, orNil]
theorem map_grown (w : World) (g : Nat) (o : Obj) {o' : Obj} (hb : w.heap[g]? = some o') : w.grownBy { w with heap := w.heap.setIfInBounds g o } (some g) :=
  ⟨rfl, rfl, rfl, by simp, fun i hi hne => (MapKept.heap_set hb).2 i (fun e => hne (by rw [e]))⟩
theorem HMap.update {w : World} {g : Nat} {m : K3 → Option Value} (h : HMap w g m) {k : K3} (hk : K3ok k) (v : Value) : ∃ w', (Instr.mapUpdate 116 (.map (some g)) (kv k) v).run Try.prog w = .ok () w' ∧ HMap w' g (put m k v) ∧ w.grownBy w' (some g) := by
  obtain ⟨es, clock, hb, he, hd, hm⟩ := h
  obtain ⟨l, hl⟩ := keyOf_kv hk
  have hc := keyLaw.check w false hl
  have hs := keyLaw.stays w hl
  rcases keyLaw.find w hl es.toList (fun e hx => by obtain ⟨i, hi⟩ := List.mem_iff_getElem?.1 hx; obtain ⟨q, hq, hq2⟩ := he i e hi; rw [hq2]; exact keyOf_kv hq) with ⟨hf, hn⟩ | ⟨j, e, hf, hj, hek⟩
  · have hsn : ∀ (i : Nat) (e : MapEntry), (es.push { key := kv k, val := v, born := clock }).toList[i]? = some e → es.toList[i]? = some e ∨ (i = es.toList.length ∧ e = { key := kv k, val := v, born := clock }) := by
      intro i e hx
      rw [Array.toList_push, List.getElem?_append] at hx
      split at hx
      · exact .inl hx
      · right
        have : i - es.toList.length = 0 := by
          cases hq : i - es.toList.length with
          | zero => rfl
          | succ q => rw [hq] at hx; simp at hx
        rw [this] at hx
        simp at hx
        exact ⟨by omega, hx.symm⟩
    have hns : ∀ (i : Nat) (e : MapEntry), es.toList[i]? = some e → (es.push { key := kv k, val := v, born := clock }).toList[i]? = some e := by
      intro i e hx
      rw [Array.toList_push, List.getElem?_append_left (List.getElem?_eq_some_iff.1 hx).1]
      exact hx
    refine ⟨{ w with heap := w.heap.setIfInBounds g (.map (es.push { key := kv k, val := v, born := clock }) (clock + 1)) }, ?_, ⟨_, _, (MapKept.heap_set hb).1, ?_, ?_, ?_⟩, map_grown w g _ hb⟩
    · simp [Instr.mapUpdate, run_underlying Try.underlying116, MapKept.run_getObj_map hb, hc, hf, MapKept.run_setObj_map _ hb, Result.andThen]
    · intro i e hx
      rcases hsn i e hx with hx | ⟨-, rfl⟩
      · exact he i e hx
      · exact ⟨k, hk, rfl⟩
    · intro i i2 e f hx hy hxy
      rcases hsn i e hx with hx | ⟨hi, rfl⟩
      · rcases hsn i2 f hy with hy | ⟨hi2, rfl⟩
        · exact hd i i2 e f hx hy hxy
        · exact absurd hxy (hn e (List.mem_of_getElem? hx))
      · rcases hsn i2 f hy with hy | ⟨hi2, rfl⟩
        · exact absurd hxy.symm (hn f (List.mem_of_getElem? hy))
        · omega
    · intro q u hq
      unfold put
      by_cases hqk : q = k
      · subst hqk
        rw [if_pos rfl]
        constructor
        · intro hh
          injection hh with hh
          exact ⟨es.toList.length, _, by rw [Array.toList_push, List.getElem?_append_right (Nat.le_refl _), Nat.sub_self]; rfl, rfl, hh⟩
        · rintro ⟨i, e, hx, h1, h2⟩
          rcases hsn i e hx with hx | ⟨-, rfl⟩
          · exact absurd h1 (hn e (List.mem_of_getElem? hx))
          · rw [← h2]
      · rw [if_neg hqk, hm q u hq]
        constructor
        · rintro ⟨i, e, hx, h1, h2⟩
          exact ⟨i, e, hns i e hx, h1, h2⟩
        · rintro ⟨i, e, hx, h1, h2⟩
          rcases hsn i e hx with hx | ⟨-, rfl⟩
          · exact ⟨i, e, hx, h1, h2⟩
          · exact absurd (kv_inj h1).symm hqk
  · have hje : es[j]? = some e := by rw [← Array.getElem?_toList]; exact hj
    have hmod : ∀ (i : Nat) (f : MapEntry), (es.modify j fun e => { e with key := kv k, val := v }).toList[i]? = some f ↔ (i = j ∧ f = { e with key := kv k, val := v }) ∨ (i ≠ j ∧ es.toList[i]? = some f) := by
      intro i f
      rw [Array.toList_modify, List.getElem?_modify]
      by_cases hij : j = i
      · subst hij
        simp [hj, eq_comm]
      · simp [hij, Ne.symm hij]
    refine ⟨{ w with heap := w.heap.setIfInBounds g (.map (es.modify j fun e => { e with key := kv k, val := v }) clock) }, ?_, ⟨_, _, (MapKept.heap_set hb).1, ?_, ?_, ?_⟩, map_grown w g _ hb⟩
    · simp [Instr.mapUpdate, run_underlying Try.underlying116, MapKept.run_getObj_map hb, hc, hf, hje, hek, hs, MapKept.run_setObj_map _ hb, Result.andThen]
    · intro i f hx
      rcases (hmod i f).1 hx with ⟨-, rfl⟩ | ⟨-, hx⟩
      · exact ⟨k, hk, rfl⟩
      · exact he i f hx
    · intro i i2 f f2 hx hy hxy
      rcases (hmod i f).1 hx with ⟨hi, rfl⟩ | ⟨hi, hx⟩
      · rcases (hmod i2 f2).1 hy with ⟨hi2, rfl⟩ | ⟨hi2, hy⟩
        · omega
        · exact absurd (hd j i2 e f2 hj hy (by rw [hek]; exact hxy)).symm hi2
      · rcases (hmod i2 f2).1 hy with ⟨hi2, rfl⟩ | ⟨hi2, hy⟩
        · exact absurd (hd i j f e hx hj (by rw [hek]; exact hxy)) hi
        · exact hd i i2 f f2 hx hy hxy
    · intro q u hq
      unfold put
      by_cases hqk : q = k
      · subst hqk
        rw [if_pos rfl]
        constructor
        · intro hh
          injection hh with hh
          exact ⟨j, _, (hmod j _).2 (.inl ⟨rfl, rfl⟩), rfl, hh⟩
        · rintro ⟨i, f, hx, h1, h2⟩
          rcases (hmod i f).1 hx with ⟨-, rfl⟩ | ⟨hi, hx⟩
          · rw [← h2]
          · exact absurd (hd i j f e hx hj (by rw [hek]; exact h1)) hi
      · rw [if_neg hqk, hm q u hq]
        constructor
        · rintro ⟨i, f, hx, h1, h2⟩
          refine ⟨i, f, (hmod i f).2 (.inr ⟨?_, hx⟩), h1, h2⟩
          rintro rfl
          rw [hj] at hx
          injection hx with hx
          subst hx
          exact hqk (kv_inj (h1.symm.trans hek))
        · rintro ⟨i, f, hx, h1, h2⟩
          rcases (hmod i f).1 hx with ⟨-, rfl⟩ | ⟨hi, hx⟩
          · exact absurd (kv_inj h1).symm hqk
          · exact ⟨i, f, hx, h1, h2⟩
theorem HMap.same {w w1 : World} {g : Nat} {m : K3 → Option Value} (h : HMap w g m) (hg : w1.heap[g]? = w.heap[g]?) : HMap w1 g m := by
  obtain ⟨es, clock, hb, r⟩ := h
  exact ⟨es, clock, hg.trans hb, r⟩
theorem HMap.lt {w : World} {g : Nat} {m : K3 → Option Value} (h : HMap w g m) : g < w.heap.size := by
  obtain ⟨es, clock, hb, r⟩ := h
  exact blk_lt hb
theorem HMap.new (w : World) : HMap (w.alloc (.map #[] 0)) w.heap.size (fun _ => none) := ⟨#[], 0, blk_new w _, by simp, by simp, by simp⟩
theorem HMap.clear {w : World} {g : Nat} {m : K3 → Option Value} (h : HMap w g m) (ty : Nat) : ∃ w', (Builtin.clear_ #[116] ty #[.map (some g)]).run Try.prog w = .ok (.tuple #[]) w' ∧ HMap w' g (fun _ => none) ∧ w.grownBy w' (some g) := by
  obtain ⟨es, clock, hb, -⟩ := h
  refine ⟨{ w with heap := w.heap.setIfInBounds g (.map #[] clock) }, ?_, ⟨#[], clock, (MapKept.heap_set hb).1, by simp, by simp, by simp⟩, map_grown w g _ hb⟩
  simp [Builtin.clear_, run_underlying Try.underlying116, MapKept.run_getObj_map hb, MapKept.run_setObj_map _ hb, Result.andThen]
end Go.Proofs.Ytldhpniflnbilaa
