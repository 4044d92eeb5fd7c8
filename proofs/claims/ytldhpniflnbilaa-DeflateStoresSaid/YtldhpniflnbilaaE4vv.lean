/- DeflateStores: the walk. -/
import Derived.Test.YtldhpniflnbilaaProg
import Derived.Below
import Derived.Deep.Draws
import Derived.Deep.AppendLies
import Derived.Maps.AppendAt
import Derived.OwnWalk
import Derived.Laws.BytesArg
import Derived.Laws.MakeOwn
import Derived.Laws.OwnMore
import Derived.Deep.OwnRows
import Derived.Tactics
import Derived.Lib.ConvBytes
import Derived.Laws.Slices
import Derived.WalkKit
import Derived.KernelRfl
import Derived.RowKit3
import Derived.Deep.LoopGhost
import Derived.Deep.QuietTactic
import Derived.BigQuiet
import Derived.WideLaws
import Derived.Deep.DeepCutAuto
import Derived.Deep.CutBlock
import Derived.Deep.RegionHeld3
import Derived.Laws.Rows
import Derived.Lib.AppendStr
import Derived.ArgAppend
import Derived.Laws.IdiomCopy
import Derived.OrdersHeld
import Derived.Laws.BitsLemmas
import Derived.RowKit
import Derived.Outline
import Derived.Test.YtldhpniflnbilaaV34s
import Derived.Test.YtldhpniflnbilaaE1vv
set_option linter.unusedVariables false
set_option linter.unusedSimpArgs false
namespace Go.Proofs.Ytldhpniflnbilaa
open Go.RowKit Go.Proofs.YtldhpniflnbilaaW.PrintWords Go.Proofs.YtldhpniflnbilaaW.PrintLast Go.Proofs.YtldhpniflnbilaaW.PrintMore

open Go.Proofs.Ytldhpniflnbilaa.PL
attribute [local go_sem] max2_int min2_int max_two min_two max_three min_three max_four min_four
/-- What the law reads of stored data. -/
structure StoredOk (p c : List Int) : Prop where
  len : c.length = p.length + 5
  z0 : rd c 0 = 1
  r1 : 0 ≤ rd c 1 ∧ rd c 1 < 256
  r2 : 0 ≤ rd c 2 ∧ rd c 2 < 256
  sum : rd c 1 + 256 * rd c 2 = (p.length : Int)
  x1 : Go.bits .xor .u8 (rd c 1) (rd c 3) = 255
  x2 : Go.bits .xor .u8 (rd c 2) (rd c 4) = 255
  tail : c.drop 5 = p
set_option maxHeartbeats 4000000 in
set_option maxRecDepth 100000 in
theorem stores_small (w : World) (A : Option Addr) (cp : Nat) (p : List Int) (hC : (Kd.int .u8).C w A p.length p) (hcp : p.length ≤ cp) (hl : p.length ≤ 1000) (c : List Int) (hf : deflate_Compress.f p 0 = some (c, 0)) (hs : StoredOk p c) :
    Calls Try.prog 10 #[.slice A p.length cp] w fun e w' => e = .returned (.bool true) ∧ Below w.heap.size w w' := by
  have HC := Aside0.mk hC
  have HS := Aside0.mk hs
  have HL := Aside0.mk hcp
  have HF := Aside0.mk hf
  obtain ⟨gs, hgs⟩ : ∃ gs, w.heap.size = gs := ⟨_, rfl⟩
  have c2b0 : decide (1000 < (p.length : Int)) = false := decide_eq_false (by omega)
  clear hs hf hC hcp
  go_enter Try.func10, Try.ntmps10
  go_upto_region 4 with (go_at_call 33; refine (deflate_Compress.calls _ _ p 0 c 0 w HC.out HL.out HF.out).mono ?_; rintro e' w1 ⟨v0, rfl, hr, hb⟩)
  have HB := Aside0.mk hb
  obtain ⟨Ao, co, rfl⟩ := Kd.R_slice hr
  have hrd := Kd.R_reads' hr
  have hcl := HS.out.len
  have hcv1 : ∀ W : World, Below w1.heap.size w1 W → Sem.run Try.prog (convert 46 9 (.slice A p.length cp)) W = .ok (.string (strOfNums p)) W := fun W hW => Kd.C_string (P := Try.prog) Try.underlying46 Try.underlying5 Try.underlying9 (Kd.C_below (Kd.C_below HC.out HB.out) hW)
  obtain ⟨i0, hi0, _, hsz, _⟩ := info_parts infoU8
  have hcut := cut_from (P := Try.prog) 46 5 .i64 Try.underlying46 hi0 1 hsz Ao c.length co 5 (by omega) (by omega)
  have hdr := Kd.C_drop (m := (5 : Int).toNat) (c := co) hrd.2.2 (by omega) hrd.2.1
  rw [show c.drop (5 : Int).toNat = p from HS.out.tail] at hdr
  rw [show c.length - (5 : Int).toNat = p.length by omega] at hcut
  obtain ⟨A5, hA5⟩ : ∃ A1, A1 = (if co = (5 : Int).toNat then Ao else (Ao : Option Addr).map (·.add ((5 : Int).toNat * 1))) := ⟨_, rfl⟩
  obtain ⟨c5, hc5⟩ : ∃ c1, c1 = co - (5 : Int).toNat := ⟨_, rfl⟩
  replace hdr : Kd.C (Kd.int .u8) w1 A5 p.length p := by rw [hA5]; exact hdr
  rw [← hA5, ← hc5] at hcut
  have hcv2 : ∀ W : World, Below w1.heap.size w1 W → Sem.run Try.prog (convert 46 9 (.slice A5 p.length c5)) W = .ok (.string (strOfNums p)) W := fun W hW => Kd.C_string (P := Try.prog) Try.underlying46 Try.underlying5 Try.underlying9 (Kd.C_below hdr hW)
  obtain ⟨ad, rfl, z0⟩ := Kd.at_int hrd.2.2 0 (by omega) (by omega)
  obtain ⟨_, e1, z1⟩ := Kd.at_int hrd.2.2 1 (by omega) (by omega)
  injection e1 with e1; subst e1
  obtain ⟨_, e1, z2⟩ := Kd.at_int hrd.2.2 2 (by omega) (by omega)
  injection e1 with e1; subst e1
  obtain ⟨_, e1, z3⟩ := Kd.at_int hrd.2.2 3 (by omega) (by omega)
  injection e1 with e1; subst e1
  obtain ⟨_, e1, z4⟩ := Kd.at_int hrd.2.2 4 (by omega) (by omega)
  injection e1 with e1; subst e1
  rw [show (0 : Int).toNat = 0 from rfl, Addr.add_zero', HS.out.z0] at z0
  simp only [show (1 : Int).toNat = 1 from rfl, Nat.reduceMul, Nat.reduceEqDiff, Go.Addr.add, ↓reduceIte] at z1
  simp only [show (2 : Int).toNat = 2 from rfl, Nat.reduceMul, Nat.reduceEqDiff, Go.Addr.add, ↓reduceIte] at z2
  simp only [show (3 : Int).toNat = 3 from rfl, Nat.reduceMul, Nat.reduceEqDiff, Go.Addr.add, ↓reduceIte] at z3
  simp only [show (4 : Int).toNat = 4 from rfl, Nat.reduceMul, Nat.reduceEqDiff, Go.Addr.add, ↓reduceIte] at z4
  have HX := HS.out
  obtain ⟨b1, hb1⟩ : ∃ b, rd c 1 = b := ⟨_, rfl⟩
  obtain ⟨b2, hb2⟩ : ∃ b, rd c 2 = b := ⟨_, rfl⟩
  obtain ⟨b3, hb3⟩ : ∃ b, rd c 3 = b := ⟨_, rfl⟩
  obtain ⟨b4, hb4⟩ : ∃ b, rd c 4 = b := ⟨_, rfl⟩
  have k1 := HX.x1
  have k2 := HX.x2
  have k3 := HX.sum
  have k4 := HX.r1
  have k5 := HX.r2
  rw [hb1] at z1 k1 k3 k4
  rw [hb2] at z2 k2 k3 k5
  rw [hb3] at z3 k1
  rw [hb4] at z4 k2
  have HW := Aside0.mk (fun (W : World) (hW : Below w1.heap.size w1 W) => And.intro hW (And.intro (pw_cell_below hW z0) (And.intro (pw_cell_below hW z1) (And.intro (pw_cell_below hW z2) (And.intro (pw_cell_below hW z3) (And.intro (pw_cell_below hW z4) (And.intro (hcv1 W hW) (hcv2 W hW))))))))
  have HY := Aside0.mk hb
  clear z0 z1 z2 z3 z4 hcv1 hcv2 hb hr hrd hdr hc5 hA5 hb1 hb2 hb3 hb4 hi0 hsz HX HS HF HC hgs hl
  generalize p.length = n at *
  generalize c.length = m at *
  have s1 : IntKind.i64.wrap ((n : Int) + 5) = (m : Int) := by rw [IntKind.wrap_i64] <;> omega
  have p0 : (0 ≤ (0 : Int)) = True := eq_true (by omega)
  have q0 : (0 < (m : Int)) = True := eq_true (by omega)
  have r0 : (0 < m) = True := eq_true (by omega)
  have p1 : (0 ≤ (1 : Int)) = True := eq_true (by omega)
  have q1 : (1 < (m : Int)) = True := eq_true (by omega)
  have r1 : (1 < m) = True := eq_true (by omega)
  have p2 : (0 ≤ (2 : Int)) = True := eq_true (by omega)
  have q2 : (2 < (m : Int)) = True := eq_true (by omega)
  have r2 : (2 < m) = True := eq_true (by omega)
  have p3 : (0 ≤ (3 : Int)) = True := eq_true (by omega)
  have q3 : (3 < (m : Int)) = True := eq_true (by omega)
  have r3 : (3 < m) = True := eq_true (by omega)
  have p4 : (0 ≤ (4 : Int)) = True := eq_true (by omega)
  have q4 : (4 < (m : Int)) = True := eq_true (by omega)
  have r4 : (4 < m) = True := eq_true (by omega)
  have s4 : IntKind.i64.wrap b1 = b1 := by rw [IntKind.wrap_i64] <;> omega
  have s5 : IntKind.i64.wrap b2 = b2 := by rw [IntKind.wrap_i64] <;> omega
  have s2 : IntKind.i64.wrap (256 * b2) = 256 * b2 := by rw [IntKind.wrap_i64] <;> omega
  have s3 : IntKind.i64.wrap (b1 + 256 * b2) = (n : Int) := by rw [IntKind.wrap_i64] <;> omega
  clear hcl k3 k4 k5
  go_region_held3 (fun W => Below w1.heap.size w1 W ∧ W.cell? ad = some (.int .u8 1) ∧ W.cell? ⟨ad.block, ad.off + 1, none⟩ = some (.int .u8 b1) ∧ W.cell? ⟨ad.block, ad.off + 2, none⟩ = some (.int .u8 b2) ∧ W.cell? ⟨ad.block, ad.off + 3, none⟩ = some (.int .u8 b3) ∧ W.cell? ⟨ad.block, ad.off + 4, none⟩ = some (.int .u8 b4) ∧ Sem.run Try.prog (convert 46 9 (.slice A n cp)) W = .ok (.string (strOfNums p)) W ∧ Sem.run Try.prog (convert 46 9 (.slice A5 n c5)) W = .ok (.string (strOfNums p)) W) (first | (refine HW.out _ ?_; (repeat (first | exact Below.refl _ _ | apply below_alloc | apply pw_below_drewN | apply below_drew1)); done) | (refine HW.out _ (below_step ?_ hb2); (repeat (first | exact Below.refl _ _ | apply below_alloc | apply pw_below_drewN | apply below_drew1)); done)) (first | (go_at_call 32; refine (barscanlaw34_examples.calls true _ rfl).mono ?_; rintro e' w2 ⟨rfl, hb2⟩))
  go_wp2
  go_ret
  refine ⟨rfl, ?_⟩
  rename_i hh
  exact below_step HB.out hh.1
theorem xor_255 : ∀ a : Fin 256, Go.bits .xor .u8 (a.val : Int) (255 - (a.val : Int)) = 255 := by decide +kernel
theorem xor_cpl (a b : Int) (h0 : 0 ≤ a) (h1 : a < 256) (h : b = 255 - a) : Go.bits .xor .u8 a b = 255 := by
  have := xor_255 ⟨a.toNat, by omega⟩
  simp only at this
  rw [h]
  rw [show ((a.toNat : Nat) : Int) = a by omega] at this
  exact this
theorem storedOk (p : List Int) (hl : p.length ≤ 65535) : StoredOk p (storedL p) := by
  have e1 : rd (storedL p) 1 = (p.length : Int) % 256 := rfl
  have e2 : rd (storedL p) 2 = (p.length : Int) / 256 := rfl
  have e3 : rd (storedL p) 3 = (-1 - (p.length : Int)) % 256 := rfl
  have e4 : rd (storedL p) 4 = (-1 - (p.length : Int)) / 256 % 256 := rfl
  refine ⟨by simp [storedL], rfl, ?_, ?_, ?_, ?_, ?_, rfl⟩
  · rw [e1]; omega
  · rw [e2]; omega
  · rw [e1, e2]; omega
  · rw [e1, e3]; exact xor_cpl _ _ (by omega) (by omega) (by omega)
  · rw [e2, e4]; exact xor_cpl _ _ (by omega) (by omega) (by omega)
set_option maxHeartbeats 4000000 in
set_option maxRecDepth 100000 in
theorem stores_big (w : World) (A : Option Addr) (n cp : Nat) (hl : 1000 < n) :
    Calls Try.prog 10 #[.slice A n cp] w fun e w' => e = .returned (.bool true) ∧ Below w.heap.size w w' := by
  have c2b0 : decide (1000 < (n : Int)) = true := decide_eq_true (by omega)
  go_enter Try.func10, Try.ntmps10
  go_wp2_with (go_at_call 32; refine (barscanlaw34_examples.calls true _ rfl).mono ?_; rintro e' w2 ⟨rfl, hb2⟩)
  go_ret
  exact ⟨rfl, hb2⟩
namespace PL
def barscanlaw34_DeflateStores.f (l0 : List Int) : Option (Bool) := if isBytes l0 = true then some true else none
theorem barscanlaw34_DeflateStores.calls (A0 : Option Addr) (c0 : Nat) (l0 : List Int) (r : Bool) (w : World) (hr0 : Kd.C (Kd.int .u8) w A0 l0.length l0) (hc0 : l0.length ≤ c0) (h : barscanlaw34_DeflateStores.f l0 = some r) :
    Calls Try.prog 10 #[.slice A0 l0.length c0] w fun e w' => e = .returned (.bool r) ∧ Below w.heap.size w w' := by
  unfold barscanlaw34_DeflateStores.f at h
  by_cases hb : isBytes l0 = true
  · rw [if_pos hb] at h
    cases h
    by_cases hl : l0.length ≤ 1000
    · exact stores_small w A0 c0 l0 hr0 hc0 hl (storedL l0) (by rw [deflate_Compress.f, if_neg (by omega), if_neg (by omega), if_pos ⟨by omega, hb⟩, if_pos rfl]) (storedOk l0 (by omega))
    · exact stores_big w A0 _ c0 (by omega)
  · rw [if_neg hb] at h
    cases h
def barscanlaw34_DeflateStores.Pure : Prop := ∀ (l0 : List Int), l0.length ≤ maxLen → l0.length * 1 ≤ 140737488351232 → (∀ x ∈ l0, (Lit.int .u8 x).wf = true) → barscanlaw34_DeflateStores.f l0 = some true
theorem barscanlaw34_DeflateStores.walk (P : barscanlaw34_DeflateStores.Pure) (a0 : Option Addr) (len0 cap0 : Nat) (z0 : List Int) (w : World) (w0 : (a0 = none ∧ len0 = 0 ∧ cap0 = 0 ∧ z0 = []) ∨ ∃ x, a0 = some x ∧ len0 ≤ cap0 ∧ cap0 ≤ maxLen ∧ z0.length = cap0 ∧ (∀ i, i < z0.length → w.cell? (x.add i) = some (.int .u8 (z0.getD i 0))) ∧ ∀ n ∈ z0, (Lit.int .u8 n).wf = true) (y0 : len0 * 1 ≤ 140737488351232) :
    Calls Try.prog 10 #[.slice a0 len0 cap0] w fun e w' => e = .returned (.bool true) ∧ Below w.heap.size w w' := by
  obtain ⟨l0, rfl, hr0, hm0, hw0, hc0⟩ := ReadsInt.ofRowC w0
  have h := P l0 hm0 y0 hw0
  refine (barscanlaw34_DeflateStores.calls _ _ l0 true w (Kd.C_of_reads (d := (0 : Int)) (h1 := fun _ => rfl) hr0) hc0 h).mono ?_
  rintro e w' ⟨rfl, hd⟩
  exact ⟨rfl, hd⟩
end PL
theorem Pure.DeflateStores : PL.barscanlaw34_DeflateStores.Pure := by
  intro l0 _ _ hw
  rw [PL.barscanlaw34_DeflateStores.f, if_pos]
  refine List.all_eq_true.2 fun x hx => ?_
  have := hw x hx
  simp [Lit.wf, IntKind.min, IntKind.max, IntKind.bits, IntKind.signed] at this
  simp only [Bool.and_eq_true, decide_eq_true_eq]; omega
end Go.Proofs.Ytldhpniflnbilaa
