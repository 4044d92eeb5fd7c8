/- Trees of prefix.item[int]: a kind of element for rows of pointers to them. -/
import Derived.Test.YtldhpniflnbilaaProg
import Derived.Test.YtldhpniflnbilaaV34s
import Derived.Below
import Derived.Deep.Draws
import Derived.Deep.AppendLies
import Derived.Maps.AppendAt
import Derived.OwnWalk
import Derived.Laws.BytesArg
import Derived.Laws.MakeOwn
import Derived.Laws.OwnMore
import Derived.Deep.OwnRows
import Derived.Tactics
import Derived.Lib.ConvBytes
import Derived.Laws.Slices
import Derived.WalkKit
import Derived.KernelRfl
import Derived.RowKit3
import Derived.Deep.LoopGhost
import Derived.Deep.QuietTactic
import Derived.BigQuiet
import Derived.WideLaws
import Derived.Deep.DeepCutAuto
import Derived.Deep.CutBlock
import Derived.Deep.RegionHeld3
import Derived.Laws.Rows
import Derived.Lib.AppendStr
import Derived.ArgAppend
import Derived.Laws.IdiomCopy
import Derived.OrdersHeld
import Derived.Laws.BitsLemmas
import Derived.RowKit
import Derived.StillTailTactics
import Derived.Outline
import Derived.BigRegion
set_option linter.unusedVariables false
namespace Go.Proofs.Ytldhpniflnbilaa
open Go.RowKit Go.Proofs.YtldhpniflnbilaaW.PrintWords

/-- An item of package prefix: a symbol with its weight, or a package of two. -/
inductive Tr where
  | leaf (v f : Int)
  | node (f : Int) (l r : Tr)

namespace Tr
def wt : Tr → Int
  | leaf _ f => f
  | node f _ _ => f
def syms : Tr → List Int
  | leaf v _ => [v]
  | node _ l r => syms l ++ syms r

def val : Tr → Int
  | leaf v _ => v
  | node _ _ _ => 0
/-- How a tree lies in memory: each item in a block of its own. -/
def At (w : World) : Tr → Addr → Prop
  | leaf v f, a => ∃ b, a = ⟨b, 0, none⟩ ∧ w.heap[b]? = some (.cells #[.int .i64 v, .int .i64 f, .pointer none, .pointer none] 64 (0, 0))
  | node f l r, a => ∃ b p q, a = ⟨b, 0, none⟩ ∧ w.heap[b]? = some (.cells #[.int .i64 0, .int .i64 f, .pointer (some p), .pointer (some q)] 64 (0, 0)) ∧ At w l p ∧ At w r q
end Tr
/-- Blocks of the items' type stay. -/
def Same (w w1 : World) : Prop := ∀ (b : Nat) (c : Array Value), w.heap[b]? = some (Obj.cells c 64 (0, 0)) → w1.heap[b]? = some (Obj.cells c 64 (0, 0))
theorem Same.refl (w : World) : Same w w := fun _ _ h => h
theorem Same.trans {w w1 w2 : World} (h : Same w w1) (k : Same w1 w2) : Same w w2 := fun b c hb => k b c (h b c hb)
theorem Same.below {w w1 : World} (h : Below w.heap.size w w1) : Same w w1 := fun _ _ hb => blk_below hb h
theorem Same.alloc (w : World) (o : Obj) : Same w (w.alloc o) := fun _ _ hb => blk_alloc hb o
theorem Same.drewN (w : World) (n : Nat) : Same w (w.drewN n) := fun _ _ hb => hb
theorem Same.grown {w w1 : World} {base e n size : Nat} {v : Value} {xs : List Value} (ho : w.ownsRow base e size v n xs) (hg : w.grownBy w1 v.ownBlock) (he : e ≠ 64) : Same w w1 := by
  intro b c hb
  refine blk_grown hb hg fun hk => ?_
  obtain ⟨cells, hc⟩ := own_typed ho b hk.symm
  rw [hb] at hc
  injection hc with hc
  injection hc with _ hc
  exact he hc.symm
theorem Same.set {w : World} {g t : Nat} {cells : Array Value} (hb : w.heap[g]? = some (.cells cells t (0, 0))) (ht : t ≠ 64) (j : Nat) (u : Value) : Same w (w.setCell ⟨g, j, none⟩ u) := by
  intro b c hc
  refine blk_far hc ?_ u
  rintro rfl
  rw [hb] at hc
  injection hc with hc
  injection hc with _ hc
  exact ht hc
theorem Tr.At.same {w w1 : World} (hs : Same w w1) : ∀ {t : Tr} {a : Addr}, At w t a → At w1 t a
  | leaf v f, a, h => by
    obtain ⟨b, h1, h2⟩ := h
    exact ⟨b, h1, hs _ _ h2⟩
  | node f l r, a, h => by
    obtain ⟨b, p, q, h1, h2, h3, h4⟩ := h
    exact ⟨b, p, q, h1, hs _ _ h2, At.same hs h3, At.same hs h4⟩
/-- The block of a tree's root. -/
theorem Tr.At.root {w : World} : ∀ {t : Tr} {a : Addr}, At w t a → ∃ b x y, a = ⟨b, 0, none⟩ ∧ w.heap[b]? = some (.cells #[.int .i64 t.val, .int .i64 t.wt, x, y] 64 (0, 0))
  | leaf v f, a, h => by
    obtain ⟨b, h1, h2⟩ := h
    exact ⟨b, _, _, h1, h2⟩
  | node f l r, a, h => by
    obtain ⟨b, p, q, h1, h2, _⟩ := h
    exact ⟨b, _, _, h1, h2⟩

/-- A row's pointers, and the trees that they lead to. -/
def Ats (w : World) : List Tr → List Addr → Prop
  | [], [] => True
  | t :: ts, p :: ps => Tr.At w t p ∧ Ats w ts ps
  | _, _ => False
theorem Ats.same {w w1 : World} (hs : Same w w1) : ∀ {ts : List Tr} {ps : List Addr}, Ats w ts ps → Ats w1 ts ps
  | [], [], _ => trivial
  | t :: ts, p :: ps, h => ⟨h.1.same hs, Ats.same hs h.2⟩
  | [], _ :: _, h => h.elim
  | _ :: _, [], h => h.elim
theorem Ats.length {w : World} : ∀ {ts : List Tr} {ps : List Addr}, Ats w ts ps → ts.length = ps.length
  | [], [], _ => rfl
  | t :: ts, p :: ps, h => by rw [List.length_cons, List.length_cons, Ats.length h.2]
  | [], _ :: _, h => h.elim
  | _ :: _, [], h => h.elim
theorem Ats.get {w : World} : ∀ {ts : List Tr} {ps : List Addr}, Ats w ts ps → ∀ (i : Nat) (h1 : i < ts.length) (h2 : i < ps.length), Tr.At w ts[i] ps[i]
  | [], _, _, i, h1, _ => by simp at h1
  | t :: ts, p :: ps, h, 0, _, _ => h.1
  | t :: ts, p :: ps, h, i + 1, h1, h2 => Ats.get h.2 i (by simpa using h1) (by simpa using h2)
  | _ :: _, [], h, _, _, _ => h.elim
theorem Ats.append {w : World} : ∀ {ts : List Tr} {ps : List Addr} {us : List Tr} {qs : List Addr}, Ats w ts ps → Ats w us qs → Ats w (ts ++ us) (ps ++ qs)
  | [], [], us, qs, _, h => h
  | t :: ts, p :: ps, us, qs, h, k => ⟨h.1, Ats.append h.2 k⟩
  | [], _ :: _, _, _, h, _ => h.elim
  | _ :: _, [], _, _, h, _ => h.elim
theorem Ats.drop {w : World} : ∀ {ts : List Tr} {ps : List Addr}, Ats w ts ps → ∀ n, Ats w (ts.drop n) (ps.drop n)
  | _, _, h, 0 => h
  | [], [], _, n + 1 => trivial
  | t :: ts, p :: ps, h, n + 1 => Ats.drop h.2 n
  | [], _ :: _, h, _ => h.elim
  | _ :: _, [], h, _ => h.elim
theorem Ats.take {w : World} : ∀ {ts : List Tr} {ps : List Addr}, Ats w ts ps → ∀ n, Ats w (ts.take n) (ps.take n)
  | _, _, h, 0 => trivial
  | [], [], _, n + 1 => trivial
  | t :: ts, p :: ps, h, n + 1 => ⟨h.1, Ats.take h.2 n⟩
  | [], _ :: _, h, _ => h.elim
  | _ :: _, [], h, _ => h.elim

theorem alloc_drew (W : World) (o : Obj) : (W.alloc o).drew = W.drew.alloc o := rfl
theorem alloc_drewN (W : World) (o : Obj) (n : Nat) : (W.alloc o).drewN n = (W.drewN n).alloc o := by
  induction n generalizing W with
  | zero => rfl
  | succ n ih => rw [← World.drew_drewN, ih]; rfl
theorem gby_drew {a w : World} {row : Option Nat} (h : a.grownBy w row) : a.grownBy w.drew row := ⟨h.os, h.tape, h.output, h.size, h.block⟩
theorem gby_drewN {a w : World} {row : Option Nat} (h : a.grownBy w row) (n : Nat) : a.grownBy (w.drewN n) row := ⟨h.os, h.tape, h.output, h.size, h.block⟩
/-- Rows of pointers. -/
def kPtr : Kd Addr := Kd.scalar (fun p => Value.pointer (some p)) (fun _ => rfl)
theorem kPtr_cell {w : World} {A : Option Addr} {ps : List Addr} (h : kPtr.C w A ps.length ps) (i : Nat) (hi : i < ps.length) : ∃ ad, A = some ad ∧ w.cell? (ad.add i) = some (.pointer (some ps[i])) := by
  obtain ⟨ad, e, hc⟩ := h.2.2 (by omega)
  obtain ⟨c, _, hK, hcell⟩ := hc i _ (List.getElem?_eq_getElem hi)
  have hK' : c = [.pointer (some ps[i])] := hK
  subst hK'
  have := hcell 0 _ rfl
  refine ⟨ad, e, ?_⟩
  simpa [kPtr, Kd.scalar] using this
end Go.Proofs.Ytldhpniflnbilaa
/- prefix.pack: the packages of neighbouring items. -/
set_option linter.unusedVariables false
set_option linter.unusedSimpArgs false
namespace Go.Proofs.Ytldhpniflnbilaa
open Go.RowKit Go.Proofs.YtldhpniflnbilaaW.PrintWords Go.Proofs.YtldhpniflnbilaaW.PrintLast Go.Proofs.YtldhpniflnbilaaW.PrintMore

def packT : List Tr → List Tr
  | x :: y :: r => .node (wrap64 (x.wt + y.wt)) x y :: packT r
  | _ => []
theorem packT_drop (ts : List Tr) (i : Nat) (h : i + 1 < ts.length) : packT (ts.drop i) = .node (wrap64 ((ts[i]'(by omega)).wt + ts[i + 1].wt)) (ts[i]'(by omega)) ts[i + 1] :: packT (ts.drop (i + 2)) := by
  rw [List.drop_eq_getElem_cons (by omega : i < ts.length), List.drop_eq_getElem_cons h]
  rfl
theorem packT_drop_end (ts : List Tr) (i : Nat) (h : ¬ i + 1 < ts.length) : packT (ts.drop i) = [] := by
  by_cases hi : i < ts.length
  · rw [List.drop_eq_getElem_cons hi, List.drop_eq_nil_of_le (by omega)]
    rfl
  · rw [List.drop_eq_nil_of_le (by omega)]
    rfl

theorem infoPtr : (Try.prog.info? 62).map (fun i => (i.zero, i.size, i.bytes)) = some (some (.pointer none), 1, 8) := by kernel_rfl

set_option maxHeartbeats 4000000 in
set_option maxRecDepth 100000 in
theorem pack_calls (A : Option Addr) (c : Nat) (ps : List Addr) (ts : List Tr) (w : World) (hr : kPtr.C w A ps.length ps) (hc : ps.length ≤ c) (ha : Ats w ts ps) (hl : ps.length ≤ 1000000) :
    Calls Try.prog 47 #[.slice A ps.length c] w fun e w' => ∃ (v : Value) (qs : List Addr), e = .returned v ∧ kPtr.R 62 w' w.heap.size (fun _ => True) v qs ∧ Ats w' (packT ts) qs ∧ Below w.heap.size w w' := by
  have HR := Aside0.mk hr
  have HA := Aside0.mk ha
  have HL := Aside0.mk ha.length
  clear hr ha
  go_enter Try.func47, Try.ntmps47
  go_wp2
  go_loopg [3, 4] (ps.length + 1) (fun k v3 v4 w' => ∃ (i : Nat) (us : List Tr) (qs : List Addr), v4 = .int .i64 (i : Int) ∧ Aside0 (k + i = ps.length + 1 ∨ k + i = ps.length + 2) ∧ Aside0 (kPtr.R 62 w' w.heap.size (fun _ => True) v3 qs) ∧ Aside0 (Ats w' us qs) ∧ Aside0 (us ++ packT (ts.drop i) = packT ts) ∧ Aside0 (qs.length ≤ i) ∧ Aside0 (Below w.heap.size w w'))
  case atStart => exact ⟨0, [], [], rfl, ⟨by omega⟩, ⟨Kd.R_nil _ _ _ _ _⟩, ⟨trivial⟩, ⟨rfl⟩, ⟨Nat.le_refl _⟩, ⟨Below.refl _ _⟩⟩
  case round =>
    obtain ⟨i, us, qs, rfl, HK, HO, HU, HE, HQ, HB⟩ := hrel
    by_cases hlt : i + 1 < ps.length
    · have hts : i + 1 < ts.length := by have := HL.out; omega
      have e := packT_drop ts i hts
      have HE' := Aside0.mk (show (us ++ [Tr.node (wrap64 ((ts[i]'(by omega)).wt + ts[i + 1].wt)) (ts[i]'(by omega)) ts[i + 1]]) ++ packT (ts.drop (i + 2)) = packT ts by rw [← HE.out, e]; simp)
      clear e
      obtain ⟨ad, rfl, hc0⟩ := kPtr_cell HR.out i (by omega)
      obtain ⟨ad', e', hc1⟩ := kPtr_cell HR.out (i + 1) hlt
      injection e' with e'
      subst e'
      have A0 := Aside0.mk (HA.out.get i (by omega) (by omega))
      have A1 := Aside0.mk (HA.out.get (i + 1) hts hlt)
      generalize hx0 : ts[i]'(by omega) = x0 at *
      generalize hx1 : ts[i + 1] = x1 at *
      generalize hp0 : ps[i]'(by omega) = p0 at *
      generalize hp1 : ps[i + 1] = p1 at *
      clear hx0 hx1 hp0 hp1
      obtain ⟨b0, y0, z0, rfl, hb0⟩ := A0.out.root
      obtain ⟨b1, y1, z1, rfl, hb1⟩ := A1.out.root
      have hw0 := (blk_cell hb0 1).trans rfl
      have hw1 := (blk_cell hb1 1).trans rfl
      clear hb0 hb1 hts
      generalize x0.wt = f0 at *
      generalize x1.wt = f1 at *
      go_wp2
      have hi0 : (0 : Int) ≤ (i : Int) := by omega
      have hi1 : (i : Int) < (ps.length : Int) := by omega
      obtain ⟨j, hj⟩ : ∃ j : Nat, j = i + 1 := ⟨_, rfl⟩
      have hj2 : IntKind.i64.wrap ((i : Int) + 1) = (j : Int) := by rw [i64_w]; unfold wrap64; omega
      rw [← hj] at hc1 hlt
      have HJ := Aside0.mk hj
      clear hj
      have hj0 : (0 : Int) ≤ (j : Int) := by omega
      have hj1 : (j : Int) < (ps.length : Int) := by omega
      go_region_held3 (fun w' => w'.cell? (ad.add i) = some (.pointer (some ⟨b0, 0, none⟩)) ∧ w'.cell? (ad.add j) = some (.pointer (some ⟨b1, 0, none⟩)) ∧ w'.cell? ⟨b0, 1, none⟩ = some (.int .i64 f0) ∧ w'.cell? ⟨b1, 1, none⟩ = some (.int .i64 f1)) (first | exact ⟨pw_cell_below (by first | assumption | (repeat (first | exact HB.out | apply below_alloc | apply pw_below_drewN | apply below_drew1))) hc0, pw_cell_below (by first | assumption | (repeat (first | exact HB.out | apply below_alloc | apply pw_below_drewN | apply below_drew1))) hc1, pw_cell_below (by first | assumption | (repeat (first | exact HB.out | apply below_alloc | apply pw_below_drewN | apply below_drew1))) hw0, pw_cell_below (by first | assumption | (repeat (first | exact HB.out | apply below_alloc | apply pw_below_drewN | apply below_drew1))) hw1⟩)
        (first | (rw [alloc_drew, alloc_drew]; refine Kd.R_append_step kPtr (w0 := w) w.heap.size ?aw (.tmp 12) (.tmp 40) 60 62 (.pointer none) 8 ?ao Try.underlying60 infoPtr ?az ?a0 ?a1 u3 qs ⟨wr.heap.size, 0, none⟩ [.pointer (some ⟨wr.heap.size, 0, none⟩)] (fun _ => True) (fun _ => False) ?av ?ax ?aP (fun _ hk => hk.elim) (fun _ _ => trivial) ?aO ?aB ?aS ?aL ?_; (case aw => rfl); (case ao => rfl); (case az => rfl); (case a0 => decide); (case a1 => decide); (case av => rfl); (case ax => first | exact rfl | simp [go_sem]); (case aP => exact rfl); (case aO => (with_reducible repeat (first | apply Kd.R_alloc | apply Kd.R_drewN | apply Kd.R_drew)); exact HO.out); (case aB => repeat (first | exact HB.out | apply below_alloc | apply pw_below_drewN | apply below_drew1)); (case aS => refine below_size ?_; repeat (first | exact HB.out | apply below_alloc | apply pw_below_drewN | apply below_drew1)); (case aL => have := HQ.out; omega); intro v1 w1 ho hb hg hat))
      have hS1 : Same wr w1 := (Same.alloc wr.drew _).trans (Same.grown (Kd.own_of_R (Kd.R_alloc (Kd.R_drew HO.out) (Obj.cells #[Value.int IntKind.i64 0, Value.int IntKind.i64 (IntKind.i64.wrap (f0 + f1)), Value.pointer (some { block := b0, off := 0 }), Value.pointer (some { block := b1, off := 0 })] 64))) hg (by decide))
      have hbl : w1.heap[wr.heap.size]? = some (Obj.cells #[Value.int IntKind.i64 0, Value.int IntKind.i64 (wrap64 (f0 + f1)), Value.pointer (some { block := b0, off := 0 }), Value.pointer (some { block := b1, off := 0 })] 64 (0, 0)) := by
        rw [← i64_w]
        exact (Same.grown (Kd.own_of_R (Kd.R_alloc (Kd.R_drew HO.out) (Obj.cells #[Value.int IntKind.i64 0, Value.int IntKind.i64 (IntKind.i64.wrap (f0 + f1)), Value.pointer (some { block := b0, off := 0 }), Value.pointer (some { block := b1, off := 0 })] 64))) hg (by decide)) _ _ (blk_new wr.drew _)
      have hS0 : Same w w1 := Same.below hb
      have HN := Aside0.mk (Ats.append (HU.out.same hS1) (show Ats w1 [Tr.node (wrap64 (f0 + f1)) x0 x1] [⟨wr.heap.size, 0, none⟩] from ⟨⟨wr.heap.size, _, _, rfl, hbl, A0.out.same hS0, A1.out.same hS0⟩, trivial⟩))
      have HO1 := Aside0.mk ho
      have HB1 := Aside0.mk hb
      clear hS1 hbl hS0 ho hb hg hat
      go_wp2
      go_roundg (gk - 2)
      case measure => have := HK.out; have := HJ.out; omega
      case rel => exact ⟨i + 2, us ++ [Tr.node (wrap64 (f0 + f1)) x0 x1], qs ++ [⟨wr.heap.size, 0, none⟩], (by go_num), ⟨by have := HK.out; have := HJ.out; omega⟩, HO1, HN, HE', ⟨by have := HQ.out; simp; omega⟩, HB1⟩
    · have e := packT_drop_end ts i (by have := HL.out; omega)
      have HE' := Aside0.mk (show us = packT ts by rw [← HE.out, e]; simp)
      clear e
      have hi2 : (i : Int) ≤ 1000002 := by have := HK.out; omega
      have hi0 : (0 : Int) ≤ (i : Int) := by omega
      go_wp2
      go_ret
      exact ⟨_, qs, rfl, HO.out, by rw [← HE'.out]; exact HU.out, HB.out⟩
end Go.Proofs.Ytldhpniflnbilaa
/- prefix.merge: two lists of items in one, ordered. -/
set_option linter.unusedVariables false
set_option linter.unusedSimpArgs false
namespace Go.Proofs.Ytldhpniflnbilaa
open Go.RowKit Go.Proofs.YtldhpniflnbilaaW.PrintWords Go.Proofs.YtldhpniflnbilaaW.PrintLast Go.Proofs.YtldhpniflnbilaaW.PrintMore

def mergeGoT (x : Tr) (xs : List Tr) (next : List Tr → List Tr) : List Tr → List Tr
  | [] => x :: xs
  | y :: ys => if x.wt ≤ y.wt then x :: next (y :: ys) else y :: mergeGoT x xs next ys
/-- Two ordered lists in one; of equal weights those of the first come first. -/
def mergeT : List Tr → List Tr → List Tr
  | [] => fun b => b
  | x :: xs => mergeGoT x xs (mergeT xs)
theorem mergeT_nil (b : List Tr) : mergeT [] b = b := rfl
theorem mergeT_nil_right (a : List Tr) : mergeT a [] = a := by cases a <;> rfl
theorem mergeT_cons (x : Tr) (xs : List Tr) (y : Tr) (ys : List Tr) :
    mergeT (x :: xs) (y :: ys) = if x.wt ≤ y.wt then x :: mergeT xs (y :: ys) else y :: mergeT (x :: xs) ys := rfl

theorem kPtr_drop (A : Option Addr) (c : Nat) (ps qs : List Addr) (hq : qs = ps.tail) (hp : 0 < ps.length) (hc : ps.length ≤ c) :
    ∃ A' : Option Addr, (∀ W : World, (Instr.slice 60 (.slice A ps.length c) (some (.int .i64 1)) none none).run Try.prog W = .ok (.slice A' qs.length (c - 1)) W) ∧
      (∀ w : World, kPtr.C w A ps.length ps → kPtr.C w A' qs.length qs) ∧ qs.length ≤ c - 1 := by
  obtain ⟨i0, hi, hzz⟩ := Option.map_eq_some_iff.1 infoPtr
  simp only [Prod.mk.injEq] at hzz
  obtain ⟨A', h1, h2, h3⟩ := print_drop_of (P := Try.prog) (fun p => Value.pointer (some p)) (⟨0, 0, none⟩ : Addr) 60 62 .i64 Try.underlying60 hi hzz.2.1 A c ps 1 (by omega) (by omega) hc
  have e : ps.drop (1 : Int).toNat = qs := by rw [hq]; cases ps <;> rfl
  rw [e] at h1 h2 h3
  exact ⟨A', h1, fun w h => Kd.C_of_reads (h2 w (Kd.reads_of_C h)), h3⟩

set_option maxHeartbeats 4000000 in
set_option maxRecDepth 100000 in
theorem merge_calls (A1 : Option Addr) (c1 : Nat) (pa : List Addr) (ta : List Tr) (A2 : Option Addr) (c2 : Nat) (pb : List Addr) (tb : List Tr) (w : World) (hr1 : kPtr.C w A1 pa.length pa) (hc1 : pa.length ≤ c1) (ha1 : Ats w ta pa)
    (hr2 : kPtr.C w A2 pb.length pb) (hc2 : pb.length ≤ c2) (ha2 : Ats w tb pb) (hl1 : pa.length ≤ 1000000) (hl2 : pb.length ≤ 1000000) :
    Calls Try.prog 46 #[.slice A1 pa.length c1, .slice A2 pb.length c2] w fun e w' => ∃ (v : Value) (qs : List Addr), e = .returned v ∧ kPtr.R 62 w' w.heap.size (fun _ => True) v qs ∧ Ats w' (mergeT ta tb) qs ∧ Below w.heap.size w w' := by
  obtain ⟨i0, hi, hzz⟩ := Option.map_eq_some_iff.1 infoPtr
  simp only [Prod.mk.injEq] at hzz
  have hb : i0.bytes = 8 := hzz.2.2
  obtain ⟨n, hn⟩ : ∃ n : Nat, n = pa.length + pb.length := ⟨_, rfl⟩
  obtain ⟨wm, hmk, hown, hg⟩ := run_make_own (P := Try.prog) w w.heap.size 60 62 i0 (.pointer none) 1 Try.underlying60 hi hzz.1 hzz.2.1 .i64 .i64 n (by rw [hb]; omega) (by simp [maxLen]; omega) (Nat.le_refl _)
  have hs1 : IntKind.i64.wrap ((pa.length : Int) + (pb.length : Int)) = (n : Int) := by rw [i64_w]; unfold wrap64; omega
  have hs2 : (pa.length : Int) + (pb.length : Int) = (n : Int) := by omega
  have HM := Aside0.mk (show kPtr.R 62 wm w.heap.size (fun _ => True) (.slice (some ⟨w.heap.size, 0, none⟩) 0 n) [] from Kd.R_of_own (enc := fun p => Value.pointer (some p)) (h1 := fun _ => rfl) (by simpa [encs] using hown) (fun _ _ => trivial))
  have HB := Aside0.mk (show Below w.heap.size w wm from (Below.refl _ _).grown hg (Nat.le_refl _) (fun k e => by cases e))
  clear hown hg hi hzz hb
  have HC1 := Aside0.mk hr1
  have HC2 := Aside0.mk hr2
  have HD1 := Aside0.mk hc1
  have HD2 := Aside0.mk hc2
  have HT1 := Aside0.mk ha1
  have HT2 := Aside0.mk ha2
  obtain ⟨res, hres⟩ : ∃ res, mergeT ta tb = res := ⟨_, rfl⟩
  rw [hres]
  have HE := Aside0.mk hres
  have HN1 := Aside0.mk (show n ≤ 2000000 by omega)
  have HN := Aside0.mk hn
  clear hres hn
  go_enter Try.func46, Try.ntmps46
  go_wp2
  go_loopg [0, 1, 5] n (fun k v0 v1 v5 w' => ∃ (A1 : Option Addr) (c1 : Nat) (pa : List Addr) (ta : List Tr) (A2 : Option Addr) (c2 : Nat) (pb : List Addr) (tb : List Tr) (us : List Tr) (qs : List Addr),
    v0 = .slice A1 pa.length c1 ∧ v1 = .slice A2 pb.length c2 ∧ Aside0 (kPtr.C w A1 pa.length pa) ∧ Aside0 (pa.length ≤ c1) ∧ Aside0 (Ats w ta pa) ∧ Aside0 (kPtr.C w A2 pb.length pb) ∧ Aside0 (pb.length ≤ c2) ∧ Aside0 (Ats w tb pb) ∧
    Aside0 (kPtr.R 62 w' w.heap.size (fun _ => True) v5 qs) ∧ Aside0 (Ats w' us qs) ∧ Aside0 (us ++ mergeT ta tb = res) ∧ Aside0 (qs.length + k = n ∧ k = pa.length + pb.length) ∧ Aside0 (Below w.heap.size w w'))
  case atStart => exact ⟨_, _, pa, ta, _, _, pb, tb, [], [], rfl, rfl, HC1, HD1, HT1, HC2, HD2, HT2, HM, ⟨trivial⟩, ⟨by simpa using HE.out⟩, ⟨by have := HN.out; simp; omega⟩, HB⟩
  case round =>
    clear HE HM HB HC1 HC2 HD1 HD2 HT1 HT2 hs1 hs2 hmk hl1 hl2 HN
    obtain ⟨A1, c1, pa, ta, A2, c2, pb, tb, us, qs, rfl, rfl, HC1, HD1, HT1, HC2, HD2, HT2, HO, HU, HE, HK, HB⟩ := hrel
    have hk1 : pa.length ≤ 2000000 := by have := HK.out; have := HN1.out; omega
    have hk2 : pb.length ≤ 2000000 := by have := HK.out; have := HN1.out; omega
    by_cases hla : 0 < pa.length
    · by_cases hlb : 0 < pb.length
      · obtain ⟨ada, rfl, hca⟩ := kPtr_cell HC1.out 0 hla
        obtain ⟨adb, rfl, hcb⟩ := kPtr_cell HC2.out 0 hlb
        rw [Addr.add_zero'] at hca hcb
        obtain ⟨pa1, hpa1⟩ : ∃ q, q = pa.tail := ⟨_, rfl⟩
        obtain ⟨pb1, hpb1⟩ : ∃ q, q = pb.tail := ⟨_, rfl⟩
        obtain ⟨A1', hsl1, hrd1, hle1⟩ := kPtr_drop (some ada) c1 pa pa1 hpa1 hla HD1.out
        obtain ⟨A2', hsl2, hrd2, hle2⟩ := kPtr_drop (some adb) c2 pb pb1 hpb1 hlb HD2.out
        have HC1' := Aside0.mk (hrd1 w HC1.out)
        have HC2' := Aside0.mk (hrd2 w HC2.out)
        have HD1' := Aside0.mk hle1
        have HD2' := Aside0.mk hle2
        have HP1 := Aside0.mk (show pa = pa[0] :: pa1 by rw [hpa1]; cases pa with | nil => simp at hla | cons _ _ => rfl)
        have HP2 := Aside0.mk (show pb = pb[0] :: pb1 by rw [hpb1]; cases pb with | nil => simp at hlb | cons _ _ => rfl)
        clear hrd1 hrd2 hle1 hle2 hpa1 hpb1
        generalize hp0 : pa[0] = p0 at *
        generalize hq0 : pb[0] = q0 at *
        clear hp0 hq0
        obtain ⟨x0, xs, hxs⟩ : ∃ x0 xs, ta = x0 :: xs := by
          cases ta with
          | nil => have := HT1.out.length; simp at this; omega
          | cons x xs => exact ⟨x, xs, rfl⟩
        obtain ⟨y0, ys, hys⟩ : ∃ y0 ys, tb = y0 :: ys := by
          cases tb with
          | nil => have := HT2.out.length; simp at this; omega
          | cons x xs => exact ⟨x, xs, rfl⟩
        subst hxs
        subst hys
        have HA := Aside0.mk (show Ats w (x0 :: xs) (p0 :: pa1) by rw [← HP1.out]; exact HT1.out)
        have HA2 := Aside0.mk (show Ats w (y0 :: ys) (q0 :: pb1) by rw [← HP2.out]; exact HT2.out)
        have hz1 := HP1.out ▸ (rfl : pa.length = pa.length)
        have HZ1 := Aside0.mk (show pa.length = pa1.length + 1 by have := congrArg List.length HP1.out; simpa using this)
        have HZ2 := Aside0.mk (show pb.length = pb1.length + 1 by have := congrArg List.length HP2.out; simpa using this)
        have HTA := Aside0.mk HT1.out
        have HTB := Aside0.mk HT2.out
        clear hz1 HT1 HT2 HP1 HP2
        obtain ⟨b0, yy, zz, rfl, hb0⟩ := HA.out.1.root
        obtain ⟨b1, yy1, zz1, rfl, hb1⟩ := HA2.out.1.root
        have hw0 := (blk_cell hb0 1).trans rfl
        have hw1 := (blk_cell hb1 1).trans rfl
        clear hb0 hb1
        generalize hf0 : x0.wt = f0 at *
        generalize hf1 : y0.wt = f1 at *
        have hca' := pw_cell_below HB.out hca
        have hcb' := pw_cell_below HB.out hcb
        have hw0' := pw_cell_below HB.out hw0
        have hw1' := pw_cell_below HB.out hw1
        have HF0 := Aside0.mk hf0
        have HF1 := Aside0.mk hf1
        clear hf0 hf1
        have hi0 : (0 : Int) < (pa.length : Int) := by omega
        have hi1 : (0 : Int) < (pb.length : Int) := by omega
        by_cases hle : f0 ≤ f1
        · have HE' := Aside0.mk (show (us ++ [x0]) ++ mergeT xs (y0 :: ys) = res by rw [← HE.out, mergeT_cons, if_pos (by rw [HF0.out, HF1.out]; exact hle)]; simp)
          go_wp2
          go_quiet (fail)
          go_wp2
          go_region_held3 (fun w' => w'.cell? ada = some (.pointer (some ⟨b0, 0, none⟩))) (exact pw_cell_below (by first | assumption | (repeat (first | exact HB.out | apply below_alloc | apply pw_below_drewN | apply below_drew1))) hca)
          (first | (refine Kd.R_append_step kPtr (w0 := w) w.heap.size ?aw (.tmp 33) (.tmp 37) 60 62 (.pointer none) 8 ?ao Try.underlying60 infoPtr ?az ?a0 ?a1 u5 qs ⟨b0, 0, none⟩ [.pointer (some ⟨b0, 0, none⟩)] (fun _ => True) (fun _ => False) ?av ?ax ?aP (fun _ hk => hk.elim) (fun _ _ => trivial) ?aO ?aB ?aS ?aL ?_; (case aw => rfl); (case ao => rfl); (case az => rfl); (case a0 => decide); (case a1 => decide); (case av => rfl); (case ax => first | exact rfl | simp [go_sem]); (case aP => exact rfl); (case aO => (with_reducible repeat (first | apply Kd.R_alloc | apply Kd.R_drewN | apply Kd.R_drew)); exact HO.out); (case aB => repeat (first | exact HB.out | apply below_alloc | apply pw_below_drewN | apply below_drew1)); (case aS => refine below_size ?_; repeat (first | exact HB.out | apply below_alloc | apply pw_below_drewN | apply below_drew1)); (case aL => have := HK.out; have := HN1.out; omega); intro v1 w1 ho hb hg hat))
          have hS1 : Same wr w1 := (Same.drewN wr (nq + 1)).trans (Same.grown (Kd.own_of_R (Kd.R_drewN HO.out (nq + 1))) hg (by decide))
          have hS0 : Same w w1 := Same.below hb
          have HU1 := Aside0.mk (Ats.append (HU.out.same hS1) (show Ats w1 [x0] [⟨b0, 0, none⟩] from ⟨HA.out.1.same hS0, trivial⟩))
          have HO1 := Aside0.mk ho
          have HB1 := Aside0.mk hb
          clear hS1 hS0 ho hb hg hat
          go_wp2
          go_roundg (gk - 1)
          case measure => have := HK.out; have := HZ1.out; omega
          case rel => exact ⟨A1', c1 - 1, pa1, xs, some adb, c2, pb, y0 :: ys, us ++ [x0], qs ++ [⟨b0, 0, none⟩], rfl, rfl, HC1', HD1', ⟨HA.out.2⟩, HC2, HD2, HTB, HO1, HU1, HE', ⟨by have := HK.out; have := HZ1.out; have := HZ2.out; simp; omega⟩, HB1⟩
        · have HE' := Aside0.mk (show (us ++ [y0]) ++ mergeT (x0 :: xs) ys = res by rw [← HE.out, mergeT_cons, if_neg (by rw [HF0.out, HF1.out]; exact hle)]; simp)
          go_wp2
          go_quiet (fail)
          go_wp2
          go_region_held3 (fun w' => w'.cell? adb = some (.pointer (some ⟨b1, 0, none⟩))) (exact pw_cell_below (by first | assumption | (repeat (first | exact HB.out | apply below_alloc | apply pw_below_drewN | apply below_drew1))) hcb)
          (first | (refine Kd.R_append_step kPtr (w0 := w) w.heap.size ?aw (.tmp 41) (.tmp 45) 60 62 (.pointer none) 8 ?ao Try.underlying60 infoPtr ?az ?a0 ?a1 u5 qs ⟨b1, 0, none⟩ [.pointer (some ⟨b1, 0, none⟩)] (fun _ => True) (fun _ => False) ?av ?ax ?aP (fun _ hk => hk.elim) (fun _ _ => trivial) ?aO ?aB ?aS ?aL ?_; (case aw => rfl); (case ao => rfl); (case az => rfl); (case a0 => decide); (case a1 => decide); (case av => rfl); (case ax => first | exact rfl | simp [go_sem]); (case aP => exact rfl); (case aO => (with_reducible repeat (first | apply Kd.R_alloc | apply Kd.R_drewN | apply Kd.R_drew)); exact HO.out); (case aB => repeat (first | exact HB.out | apply below_alloc | apply pw_below_drewN | apply below_drew1)); (case aS => refine below_size ?_; repeat (first | exact HB.out | apply below_alloc | apply pw_below_drewN | apply below_drew1)); (case aL => have := HK.out; have := HN1.out; omega); intro v1 w1 ho hb hg hat))
          have hS1 : Same wr w1 := (Same.drewN wr (nq + 1)).trans (Same.grown (Kd.own_of_R (Kd.R_drewN HO.out (nq + 1))) hg (by decide))
          have hS0 : Same w w1 := Same.below hb
          have HU1 := Aside0.mk (Ats.append (HU.out.same hS1) (show Ats w1 [y0] [⟨b1, 0, none⟩] from ⟨HA2.out.1.same hS0, trivial⟩))
          have HO1 := Aside0.mk ho
          have HB1 := Aside0.mk hb
          clear hS1 hS0 ho hb hg hat
          go_wp2
          go_roundg (gk - 1)
          case measure => have := HK.out; have := HZ1.out; omega
          case rel => exact ⟨some ada, c1, pa, x0 :: xs, A2', c2 - 1, pb1, ys, us ++ [y0], qs ++ [⟨b1, 0, none⟩], rfl, rfl, HC1, HD1, HTA, HC2', HD2', ⟨HA2.out.2⟩, HO1, HU1, HE', ⟨by have := HK.out; have := HZ1.out; have := HZ2.out; simp; omega⟩, HB1⟩
      · have hm : mergeT ta tb = ta ++ tb := by
          have h1 : tb = [] := List.eq_nil_of_length_eq_zero (by have := HT2.out.length; omega)
          rw [h1, mergeT_nil_right, List.append_nil]
        have HM := Aside0.mk hm
        clear hm
        go_wp2_with (first | ((with_reducible refine gate_builtin (b := .append) (xs := #[.tmp 49, .tmp 50]) rfl ?_); at_builtin; refine Kd.R_append_row (fun p => Value.pointer (some p)) (⟨0, 0, none⟩) (h1 := fun _ => rfl) (w0 := w) w.heap.size rfl (.tmp 49) (.tmp 50) 60 62 (.pointer none) 8 rfl Try.underlying60 infoPtr rfl (by omega) u5 qs pa A1 pa.length c1 (fun _ => True) rfl rfl (fun _ _ => trivial) ?aO ?aR ?aB ?aS ?aL ?_; (case aO => (with_reducible repeat (first | apply Kd.R_alloc | apply Kd.R_drewN | apply Kd.R_drew)); exact HO.out); (case aR => exact Kd.C_below HC1.out (by first | assumption | (repeat (first | exact HB.out | apply below_alloc | apply pw_below_drewN | apply below_drew1)))); (case aB => repeat (first | exact HB.out | apply below_alloc | apply pw_below_drewN | apply below_drew1)); (case aS => refine below_size ?_; repeat (first | exact HB.out | apply below_alloc | apply pw_below_drewN | apply below_drew1)); (case aL => have := HK.out; have := HN1.out; omega); intro v1 w1 ho hb hg hat; have HO1 := Aside0.mk ho; have HB1 := Aside0.mk hb; have HG1 := Aside0.mk hg; clear ho hb hg hat) | ((with_reducible refine gate_builtin (b := .append) (xs := #[.tmp 51, .tmp 52]) rfl ?_); at_builtin; refine Kd.R_append_row (fun p => Value.pointer (some p)) (⟨0, 0, none⟩) (h1 := fun _ => rfl) (w0 := w) w.heap.size rfl (.tmp 51) (.tmp 52) 60 62 (.pointer none) 8 rfl Try.underlying60 infoPtr rfl (by omega) v1 (qs ++ pa) pb A2 pb.length c2 (fun _ => True) rfl rfl (fun _ _ => trivial) ?aO ?aR ?aB ?aS ?aL ?_; (case aO => (with_reducible repeat (first | apply Kd.R_alloc | apply Kd.R_drewN | apply Kd.R_drew)); exact HO1.out); (case aR => exact Kd.C_below HC2.out (by first | assumption | (repeat (first | exact HB1.out | apply below_alloc | apply pw_below_drewN | apply below_drew1)))); (case aB => repeat (first | exact HB1.out | apply below_alloc | apply pw_below_drewN | apply below_drew1)); (case aS => refine below_size ?_; repeat (first | exact HB1.out | apply below_alloc | apply pw_below_drewN | apply below_drew1)); (case aL => have := HK.out; have := HN1.out; simp only [List.length_append]; omega); intro v2 w2 ho2 hb2 hg2 hat2; have HO2 := Aside0.mk ho2; have HB2 := Aside0.mk hb2; have HG2 := Aside0.mk hg2; clear ho2 hb2 hg2 hat2))
        go_ret
        have hS1 : Same wr w1 := Same.grown (Kd.own_of_R HO.out) HG1.out (by decide)
        have hS2 : Same w1 w2 := Same.grown (Kd.own_of_R HO1.out) HG2.out (by decide)
        exact ⟨_, (qs ++ pa) ++ pb, rfl, HO2.out, by rw [← HE.out, HM.out, ← List.append_assoc]; exact Ats.append (Ats.append (HU.out.same (hS1.trans hS2)) (HT1.out.same (Same.below HB2.out))) (HT2.out.same (Same.below HB2.out)), HB2.out⟩
    · have hm : mergeT ta tb = ta ++ tb := by
        have h1 : ta = [] := List.eq_nil_of_length_eq_zero (by have := HT1.out.length; omega)
        rw [h1]; rfl
      have HM := Aside0.mk hm
      clear hm
      go_wp2_with (first | ((with_reducible refine gate_builtin (b := .append) (xs := #[.tmp 49, .tmp 50]) rfl ?_); at_builtin; refine Kd.R_append_row (fun p => Value.pointer (some p)) (⟨0, 0, none⟩) (h1 := fun _ => rfl) (w0 := w) w.heap.size rfl (.tmp 49) (.tmp 50) 60 62 (.pointer none) 8 rfl Try.underlying60 infoPtr rfl (by omega) u5 qs pa A1 pa.length c1 (fun _ => True) rfl rfl (fun _ _ => trivial) ?aO ?aR ?aB ?aS ?aL ?_; (case aO => (with_reducible repeat (first | apply Kd.R_alloc | apply Kd.R_drewN | apply Kd.R_drew)); exact HO.out); (case aR => exact Kd.C_below HC1.out (by first | assumption | (repeat (first | exact HB.out | apply below_alloc | apply pw_below_drewN | apply below_drew1)))); (case aB => repeat (first | exact HB.out | apply below_alloc | apply pw_below_drewN | apply below_drew1)); (case aS => refine below_size ?_; repeat (first | exact HB.out | apply below_alloc | apply pw_below_drewN | apply below_drew1)); (case aL => have := HK.out; have := HN1.out; omega); intro v1 w1 ho hb hg hat; have HO1 := Aside0.mk ho; have HB1 := Aside0.mk hb; have HG1 := Aside0.mk hg; clear ho hb hg hat) | ((with_reducible refine gate_builtin (b := .append) (xs := #[.tmp 51, .tmp 52]) rfl ?_); at_builtin; refine Kd.R_append_row (fun p => Value.pointer (some p)) (⟨0, 0, none⟩) (h1 := fun _ => rfl) (w0 := w) w.heap.size rfl (.tmp 51) (.tmp 52) 60 62 (.pointer none) 8 rfl Try.underlying60 infoPtr rfl (by omega) v1 (qs ++ pa) pb A2 pb.length c2 (fun _ => True) rfl rfl (fun _ _ => trivial) ?aO ?aR ?aB ?aS ?aL ?_; (case aO => (with_reducible repeat (first | apply Kd.R_alloc | apply Kd.R_drewN | apply Kd.R_drew)); exact HO1.out); (case aR => exact Kd.C_below HC2.out (by first | assumption | (repeat (first | exact HB1.out | apply below_alloc | apply pw_below_drewN | apply below_drew1)))); (case aB => repeat (first | exact HB1.out | apply below_alloc | apply pw_below_drewN | apply below_drew1)); (case aS => refine below_size ?_; repeat (first | exact HB1.out | apply below_alloc | apply pw_below_drewN | apply below_drew1)); (case aL => have := HK.out; have := HN1.out; simp only [List.length_append]; omega); intro v2 w2 ho2 hb2 hg2 hat2; have HO2 := Aside0.mk ho2; have HB2 := Aside0.mk hb2; have HG2 := Aside0.mk hg2; clear ho2 hb2 hg2 hat2))
      go_ret
      have hS1 : Same wr w1 := Same.grown (Kd.own_of_R HO.out) HG1.out (by decide)
      have hS2 : Same w1 w2 := Same.grown (Kd.own_of_R HO1.out) HG2.out (by decide)
      exact ⟨_, (qs ++ pa) ++ pb, rfl, HO2.out, by rw [← HE.out, HM.out, ← List.append_assoc]; exact Ats.append (Ats.append (HU.out.same (hS1.trans hS2)) (HT1.out.same (Same.below HB2.out))) (HT2.out.same (Same.below HB2.out)), HB2.out⟩
end Go.Proofs.Ytldhpniflnbilaa
/- slices.swapRangeCmpFunc over rows of pointers. -/
set_option linter.unusedVariables false
set_option linter.unusedSimpArgs false
namespace Go.Proofs.Ytldhpniflnbilaa
open Go.RowKit Go.Proofs.YtldhpniflnbilaaW.PrintWords Go.Proofs.YtldhpniflnbilaaW.PrintLast Go.Proofs.YtldhpniflnbilaaW.PrintMore

def swp {α : Type} (l : List α) (i j : Nat) : List α := match l[i]?, l[j]? with
  | some x, some y => (l.set i y).set j x
  | _, _ => l
theorem swp_length {α : Type} (l : List α) (i j : Nat) : (swp l i j).length = l.length := by
  unfold swp
  split <;> simp
def swapN {α : Type} (l : List α) (a b : Nat) : Nat → List α
  | 0 => l
  | k + 1 => swp (swapN l a b k) (a + k) (b + k)
theorem swapN_length {α : Type} (l : List α) (a b : Nat) : ∀ k, (swapN l a b k).length = l.length
  | 0 => rfl
  | k + 1 => by rw [swapN, swp_length, swapN_length l a b k]

/-- A row of pointers in block g. -/
def Prow (w : World) (base g n c : Nat) (ps : List Addr) : Prop := kPtr.R 62 w base (fun _ => True) (.slice (some ⟨g, 0, none⟩) n c) ps
theorem Prow.len {w : World} {base g n c : Nat} {ps : List Addr} (h : Prow w base g n c ps) : ps.length = n := by
  obtain ⟨A, c', he⟩ := Kd.R_slice h
  injection he with _ h2 _
  exact h2.symm
theorem Prow.cell {w : World} {base g n c : Nat} {ps : List Addr} (h : Prow w base g n c ps) (i : Nat) (hi : i < ps.length) : w.cell? ⟨g, i, none⟩ = some (.pointer (some ps[i])) := by
  have hlen := h.len
  obtain ⟨A, c', he, _, hr⟩ := Kd.R_reads h
  injection he with hA _ _
  obtain ⟨ad, hA2, hc⟩ := kPtr_cell hr i hi
  rw [← hA] at hA2
  injection hA2 with hA2
  rw [← hA2, add_plain] at hc
  exact hc
theorem Prow.frozen {w : World} {base g n c : Nat} {ps : List Addr} (h : Prow w base g n c ps) (i : Nat) : w.frozen? ⟨g, i, none⟩ = false := by
  obtain ⟨cells, hc⟩ := own_typed (Kd.own_of_R h) g (by simp [Value.ownBlock])
  exact blk_frozen hc i
theorem Prow.put {w : World} {base g n c : Nat} {ps : List Addr} (h : Prow w base g n c ps) (i : Nat) (p : Addr) : Prow (w.setCell ⟨g, i, none⟩ (.pointer (some p))) base g n c (ps.set i p) ∧ w.grownBy (w.setCell ⟨g, i, none⟩ (.pointer (some p))) (some g) := by
  have := Kd.R_putg h (i : Int) p
  rw [Int.toNat_natCast] at this
  exact this
theorem Prow.swap {w : World} {base g n c : Nat} {ps : List Addr} (h : Prow w base g n c ps) (i j : Nat) (hi : i < ps.length) (hj : j < ps.length) :
    Prow ((w.setCell ⟨g, i, none⟩ (.pointer (some ps[j]))).setCell ⟨g, j, none⟩ (.pointer (some ps[i]))) base g n c (swp ps i j) ∧ w.grownBy ((w.setCell ⟨g, i, none⟩ (.pointer (some ps[j]))).setCell ⟨g, j, none⟩ (.pointer (some ps[i]))) (some g) := by
  obtain ⟨h1, g1⟩ := h.put i ps[j]
  obtain ⟨h2, g2⟩ := h1.put j ps[i]
  unfold swp
  rw [List.getElem?_eq_getElem hi, List.getElem?_eq_getElem hj]
  exact ⟨h2, g1.trans g2⟩

set_option maxHeartbeats 4000000 in
set_option maxRecDepth 100000 in
theorem swapRange_calls (base g c n a b m : Nat) (ps : List Addr) (f : Value) (w : World) (hr : Prow w base g n c ps) (ha : a + m ≤ n) (hb : b + m ≤ n) (hl : n ≤ 1000000) :
    Calls Try.prog 130 #[.slice (some ⟨g, 0, none⟩) n c, .int .i64 a, .int .i64 b, .int .i64 m, f] w fun e w' => e = .returned (.tuple #[]) ∧ Prow w' base g n c (swapN ps a b m) ∧ w.grownBy w' (some g) := by
  have HR := Aside0.mk hr
  have HL := Aside0.mk hr.len
  clear hr
  go_enter Try.func130, Try.ntmps130
  go_wp2
  go_loopg [10] (m + 1) (fun q v10 w' => ∃ k : Nat, v10 = .int .i64 (k : Int) ∧ k ≤ m ∧ Aside0 (q + k = m + 1) ∧ Aside0 (Prow w' base g n c (swapN ps a b k)) ∧ Aside0 (w.grownBy w' (some g)))
  case atStart => exact ⟨0, rfl, Nat.zero_le _, ⟨rfl⟩, ⟨HR.out⟩, ⟨World.grownBy.refl _ _⟩⟩
  case round =>
    obtain ⟨k, rfl, hk, HK, HP, HG⟩ := hrel
    by_cases hlt : k < m
    · obtain ⟨i, hi⟩ : ∃ i : Nat, i = a + k := ⟨_, rfl⟩
      obtain ⟨j, hj⟩ : ∃ j : Nat, j = b + k := ⟨_, rfl⟩
      have hi2 : IntKind.i64.wrap ((a : Int) + (k : Int)) = (i : Int) := by rw [i64_w]; unfold wrap64; omega
      have hj2 : IntKind.i64.wrap ((b : Int) + (k : Int)) = (j : Int) := by rw [i64_w]; unfold wrap64; omega
      have hi3 : (a : Int) + (k : Int) = (i : Int) := by omega
      have hj3 : (b : Int) + (k : Int) = (j : Int) := by omega
      have hin : i < (swapN ps a b k).length := by rw [swapN_length, HL.out]; omega
      have hjn : j < (swapN ps a b k).length := by rw [swapN_length, HL.out]; omega
      have hc0 := HP.out.cell i hin
      have hc1 := HP.out.cell j hjn
      have hf0 := HP.out.frozen i
      have hf1 := HP.out.frozen j
      have HS := Aside0.mk (HP.out.swap i j hin hjn)
      have HE := Aside0.mk (show swapN ps a b (k + 1) = swp (swapN ps a b k) i j by rw [hi, hj]; rfl)
      generalize (swapN ps a b k)[i] = p at *
      generalize (swapN ps a b k)[j] = q at *
      have hi0 : (0 : Int) ≤ (i : Int) := by omega
      have hj0 : (0 : Int) ≤ (j : Int) := by omega
      have hi1 : (i : Int) < (n : Int) := by omega
      have hj1 : (j : Int) < (n : Int) := by omega
      have hcj : ∃ v, ((wr.setCell ⟨g, i, none⟩ (.pointer (some q))).drew).cell? ⟨g, j, none⟩ = some v := ⟨_, (HP.out.put i q).1.cell j (by rw [List.length_set]; exact hjn)⟩
      obtain ⟨vj, hcj⟩ := hcj
      have HI := Aside0.mk hi
      have HJ := Aside0.mk hj
      clear hi hj hin hjn
      go_wp2
      go_region
      go_wp2
      go_roundg (gk - 1)
      case measure => have := HK.out; omega
      case rel => exact ⟨k + 1, (by go_num), by omega, ⟨by have := HK.out; omega⟩, ⟨by rw [HE.out]; exact Kd.R_drew HS.out.1⟩, ⟨gby_drew (HG.out.trans HS.out.2)⟩⟩
    · have hkm : k = m := by omega
      have HKM := Aside0.mk hkm
      clear hkm
      go_wp2
      go_end0
      exact ⟨rfl, by rw [← HKM.out]; exact HP.out, HG.out⟩
end Go.Proofs.Ytldhpniflnbilaa
/- slices.rotateCmpFunc over rows of pointers. -/
set_option linter.unusedVariables false
set_option linter.unusedSimpArgs false
namespace Go.Proofs.Ytldhpniflnbilaa
open Go.RowKit Go.Proofs.YtldhpniflnbilaaW.PrintWords Go.Proofs.YtldhpniflnbilaaW.PrintLast Go.Proofs.YtldhpniflnbilaaW.PrintMore

theorem swapRange_callsI (base g c n : Nat) (a b m : Int) (ps : List Addr) (f : Value) (w : World) (hr : Prow w base g n c ps) (h1 : 0 ≤ a) (h2 : 0 ≤ b) (h3 : 0 ≤ m) (ha : a + m ≤ n) (hb : b + m ≤ n) (hl : n ≤ 1000000) :
    Calls Try.prog 130 #[.slice (some ⟨g, 0, none⟩) n c, .int .i64 a, .int .i64 b, .int .i64 m, f] w fun e w' => e = .returned (.tuple #[]) ∧ Prow w' base g n c (swapN ps a.toNat b.toNat m.toNat) ∧ w.grownBy w' (some g) := by
  obtain ⟨a, rfl⟩ := Int.eq_ofNat_of_zero_le h1
  obtain ⟨b, rfl⟩ := Int.eq_ofNat_of_zero_le h2
  obtain ⟨m, rfl⟩ := Int.eq_ofNat_of_zero_le h3
  exact swapRange_calls base g c n a b m ps f w hr (by omega) (by omega) hl

def rotM {α : Type} (m : Nat) : Nat → List α → Nat → Nat → List α
  | 0, l, _, _ => l
  | k + 1, l, i, j => if i = j then swapN l (m - i) m i else if j < i then rotM m k (swapN l (m - i) m j) (i - j) j else rotM m k (swapN l (m - i) (m + j - i) i) i (j - i)

set_option maxHeartbeats 4000000 in
set_option maxRecDepth 100000 in
theorem rotate_calls (base g c n a m b : Nat) (ps : List Addr) (f : Value) (w : World) (hr : Prow w base g n c ps) (ham : a < m) (hmb : m < b) (hb : b ≤ n) (hl : n ≤ 1000000) :
    Calls Try.prog 129 #[.slice (some ⟨g, 0, none⟩) n c, .int .i64 a, .int .i64 m, .int .i64 b, f] w fun e w' => e = .returned (.tuple #[]) ∧ Prow w' base g n c (rotM m (b - a) ps (m - a) (b - m)) ∧ w.grownBy w' (some g) := by
  have HR := Aside0.mk hr
  clear hr
  obtain ⟨res, hres⟩ : ∃ res, rotM m (b - a) ps (m - a) (b - m) = res := ⟨_, rfl⟩
  rw [hres]
  have HE := Aside0.mk hres
  clear hres
  go_enter Try.func129, Try.ntmps129
  go_wp2
  go_loopg [10, 11] (b - a) (fun q v10 v11 w' => ∃ (i j : Nat) (qs : List Addr), v10 = .int .i64 (i : Int) ∧ v11 = .int .i64 (j : Int) ∧ (0 < i ∧ 0 < j ∧ i ≤ m ∧ m + j ≤ n) ∧ Aside0 (i + j ≤ q) ∧ Aside0 (Prow w' base g n c qs) ∧ Aside0 (rotM m q qs i j = res) ∧ Aside0 (w.grownBy w' (some g)))
  case atStart => exact ⟨m - a, b - m, ps, (by congr 1; omega), (by congr 1; omega), ⟨by omega, by omega, by omega, by omega⟩, ⟨by omega⟩, HR, HE, ⟨World.grownBy.refl _ _⟩⟩
  case round =>
    clear HE HR
    obtain ⟨i, j, qs, rfl, rfl, ⟨hi, hj, him, hjn⟩, HK, HP, HE, HG⟩ := hrel
    have hgk : 0 < gk := by have := HK.out; omega
    obtain ⟨k1, hk1⟩ : ∃ k1, gk = k1 + 1 := ⟨gk - 1, by omega⟩
    have HE1 := Aside0.mk (show rotM m (k1 + 1) qs i j = res by rw [← hk1]; exact HE.out)
    have HK1 := Aside0.mk hk1
    clear hk1 hgk HE
    by_cases hij : i = j
    · subst hij
      have HF := Aside0.mk (show swapN qs (m - i) m i = res by have := HE1.out; unfold rotM at this; rwa [if_pos rfl] at this)
      have hb1 : ((i : Int) != (i : Int)) = false := by simp
      have hs0 : (0 : Int) ≤ (m : Int) - (i : Int) := by omega
      go_wp2_with (go_at_call 130; refine (swapRange_callsI _ _ _ _ _ _ _ _ _ _ HP.out (by omega) (by omega) (by omega) (by omega) (by omega) (by omega)).mono ?_; rintro e w1 ⟨rfl, hp1, hg1⟩; have HP1 := Aside0.mk hp1; have HG1 := Aside0.mk hg1; clear hp1 hg1)
      go_end0
      exact ⟨rfl, by rw [← HF.out]; have h := HP1.out; rw [show ((m : Int) - (i : Int)).toNat = m - i by omega, Int.toNat_natCast, Int.toNat_natCast] at h; exact h, HG.out.trans HG1.out⟩
    · have hb1 : ((i : Int) != (j : Int)) = true := by rw [bne_iff_ne]; omega
      have hs0 : (0 : Int) ≤ (m : Int) - (i : Int) := by omega
      by_cases hlt : j < i
      · have HF := Aside0.mk (show rotM m k1 (swapN qs (m - i) m j) (i - j) j = res by have := HE1.out; unfold rotM at this; rwa [if_neg hij, if_pos hlt] at this)
        have HIJ := Aside0.mk hij
        clear hij
        go_wp2_with (go_at_call 130; refine (swapRange_callsI _ _ _ _ _ _ _ _ _ _ HP.out (by omega) (by omega) (by omega) (by omega) (by omega) (by omega)).mono ?_; rintro e w1 ⟨rfl, hp1, hg1⟩; have HP1 := Aside0.mk hp1; have HG1 := Aside0.mk hg1; clear hp1 hg1)
        go_roundg k1
        case measure => have := HK1.out; omega
        case rel => exact ⟨i - j, j, swapN qs (m - i) m j, (by congr 1; omega), rfl, ⟨by omega, by omega, by omega, by omega⟩, ⟨by have := HK.out; have := HK1.out; omega⟩, ⟨by have h := HP1.out; rw [show ((m : Int) - (i : Int)).toNat = m - i by omega, Int.toNat_natCast, Int.toNat_natCast] at h; exact h⟩, HF, ⟨HG.out.trans HG1.out⟩⟩
      · have HF := Aside0.mk (show rotM m k1 (swapN qs (m - i) (m + j - i) i) i (j - i) = res by have := HE1.out; unfold rotM at this; rwa [if_neg hij, if_neg hlt] at this)
        have hij2 : i < j := by omega
        have HIJ := Aside0.mk hij
        clear hij
        have hs1 : (0 : Int) ≤ (m : Int) + (j : Int) - (i : Int) := by omega
        go_wp2_with (go_at_call 130; refine (swapRange_callsI _ _ _ _ _ _ _ _ _ _ HP.out (by omega) (by omega) (by omega) (by omega) (by omega) (by omega)).mono ?_; rintro e w1 ⟨rfl, hp1, hg1⟩; have HP1 := Aside0.mk hp1; have HG1 := Aside0.mk hg1; clear hp1 hg1)
        go_roundg k1
        case measure => have := HK1.out; omega
        case rel => exact ⟨i, j - i, swapN qs (m - i) (m + j - i) i, rfl, (by congr 1; omega), ⟨by omega, by omega, by omega, by omega⟩, ⟨by have := HK.out; have := HK1.out; omega⟩, ⟨by have h := HP1.out; rw [show ((m : Int) - (i : Int)).toNat = m - i by omega, show ((m : Int) + (j : Int) - (i : Int)).toNat = m + j - i by omega, Int.toNat_natCast] at h; exact h⟩, HF, ⟨HG.out.trans HG1.out⟩⟩
end Go.Proofs.Ytldhpniflnbilaa
/- slices.insertionSortCmpFunc over rows of items. -/
set_option linter.unusedVariables false
set_option linter.unusedSimpArgs false
namespace Go.Proofs.Ytldhpniflnbilaa
open Go.RowKit Go.Proofs.YtldhpniflnbilaaW.PrintWords Go.Proofs.YtldhpniflnbilaaW.PrintLast Go.Proofs.YtldhpniflnbilaaW.PrintMore

def cmpT (x y : Tr) : Int := if x.wt < y.wt then -1 else if y.wt < x.wt then 1 else 0
theorem cmp_calls (p q : Addr) (x y : Tr) (w : World) (hx : Tr.At w x p) (hy : Tr.At w y q) :
    Calls Try.prog 80 #[.pointer (some p), .pointer (some q)] w fun e w' => e = .returned (.int .i64 (cmpT x y)) ∧ ∃ n, w' = w.drewN n := by
  obtain ⟨b0, y0, z0, rfl, hb0⟩ := hx.root
  obtain ⟨b1, y1, z1, rfl, hb1⟩ := hy.root
  have hw0 := (blk_cell hb0 1).trans rfl
  have hw1 := (blk_cell hb1 1).trans rfl
  obtain ⟨c, hc⟩ : ∃ c, cmpT x y = c := ⟨_, rfl⟩
  rw [hc]
  unfold cmpT at hc
  clear hb0 hb1 hx hy
  generalize x.wt = f0 at *
  generalize y.wt = f1 at *
  by_cases h1 : f0 < f1
  · rw [if_pos h1] at hc
    subst hc
    go_enter Try.func80, Try.ntmps80
    go_wp2
    go_quiet (fail)
    go_wp2
    go_ret
    exact ⟨rfl, _, rfl⟩
  · by_cases h2 : f1 < f0
    · rw [if_neg h1, if_pos h2] at hc
      subst hc
      go_enter Try.func80, Try.ntmps80
      go_wp2
      go_quiet (fail)
      go_wp2
      go_quiet (fail)
      go_wp2
      go_ret
      exact ⟨rfl, _, World.drewN_drewN ..⟩
    · rw [if_neg h1, if_neg h2] at hc
      subst hc
      go_enter Try.func80, Try.ntmps80
      go_wp2
      go_quiet (fail)
      go_wp2
      go_quiet (fail)
      go_wp2
      go_ret
      exact ⟨rfl, _, World.drewN_drewN ..⟩
theorem cmp_yes (p q : Addr) (x y : Tr) (w : World) (hx : Tr.At w x p) (hy : Tr.At w y q) (h : x.wt < y.wt) :
    Calls Try.prog 80 #[.pointer (some p), .pointer (some q)] w fun e w' => e = .returned (.int .i64 (-1)) ∧ ∃ n, w' = w.drewN n :=
  (cmp_calls p q x y w hx hy).mono fun _ _ ⟨he, hw⟩ => ⟨by rw [he, cmpT, if_pos h], hw⟩
theorem cmp_no (p q : Addr) (x y : Tr) (v : Int) (w : World) (hx : Tr.At w x p) (hy : Tr.At w y q) (hv : cmpT x y = v) :
    Calls Try.prog 80 #[.pointer (some p), .pointer (some q)] w fun e w' => e = .returned (.int .i64 v) ∧ ∃ n, w' = w.drewN n := by
  rw [← hv]
  exact cmp_calls p q x y w hx hy
theorem cmpT_no (x y : Tr) (h : ¬ x.wt < y.wt) : 0 ≤ cmpT x y := by
  unfold cmpT
  rw [if_neg h]
  split <;> omega

/-! ### Insertion, as the loops go -/
abbrev Z := Addr × Tr
def ltZ (x y : Z) : Bool := decide (x.2.wt < y.2.wt)
def insD (l : List Z) (a : Nat) : Nat → List Z
  | 0 => l
  | j + 1 => if a < j + 1 then (match l[j + 1]?, l[j]? with
    | some x, some y => if x.2.wt < y.2.wt then insD (swp l (j + 1) j) a j else l
    | _, _ => l) else l
def insO (l : List Z) (a : Nat) : Nat → List Z
  | 0 => l
  | k + 1 => insD (insO l a k) a (a + (k + 1))
theorem insD_step (l : List Z) (a j : Nat) (h : a < j + 1) (hj : j + 1 < l.length) : insD l a (j + 1) = if (l[j + 1]).2.wt < (l[j]'(by omega)).2.wt then insD (swp l (j + 1) j) a j else l := by
  rw [insD, if_pos h, List.getElem?_eq_getElem hj, List.getElem?_eq_getElem (by omega : j < l.length)]
theorem insD_stop (l : List Z) (a : Nat) : insD l a a = l := by
  cases a with
  | zero => rfl
  | succ a => rw [insD, if_neg (by omega)]
theorem swp_map {α β : Type} (f : α → β) (l : List α) (i j : Nat) : swp (l.map f) i j = (swp l i j).map f := by
  unfold swp
  rw [List.getElem?_map, List.getElem?_map]
  cases l[i]? <;> cases l[j]? <;> simp [List.map_set]
theorem mem_swp {α : Type} {l : List α} {i j : Nat} {z : α} (h : z ∈ swp l i j) : z ∈ l := by
  unfold swp at h
  split at h
  · rename_i x y hx hy
    rcases List.mem_or_eq_of_mem_set h with h | rfl
    · rcases List.mem_or_eq_of_mem_set h with h | rfl
      · exact h
      · exact List.mem_of_getElem? hy
    · exact List.mem_of_getElem? hx
  · exact h

def Zat (w : World) (zs : List Z) : Prop := ∀ z ∈ zs, Tr.At w z.2 z.1
theorem Prow.same {w w1 : World} {base g n c : Nat} {ps : List Addr} (h : Prow w base g n c ps) (hg : w.grownBy w1 (some g)) : Same w w1 :=
  Same.grown (Kd.own_of_R h) (by simpa [Value.ownBlock] using hg) (by decide)

set_option maxHeartbeats 4000000 in
set_option maxRecDepth 100000 in
theorem insert_calls (base g c n a b : Nat) (zs : List Z) (w : World) (hr : Prow w base g n c (zs.map (·.1))) (hz : Zat w zs) (hab : a ≤ b) (hb : b ≤ n) (hl : n ≤ 1000000) :
    Calls Try.prog 126 #[.slice (some ⟨g, 0, none⟩) n c, .int .i64 a, .int .i64 b, .func (.func 80) #[] #[]] w fun e w' => e = .returned (.tuple #[]) ∧ Prow w' base g n c ((insO zs a (b - a - 1)).map (·.1)) ∧ (∀ z ∈ insO zs a (b - a - 1), z ∈ zs) ∧ w.grownBy w' (some g) := by
  have HR := Aside0.mk hr
  have HZ := Aside0.mk hz
  have HN := Aside0.mk (show zs.length = n by have := hr.len; simpa using this)
  clear hr hz
  go_enter Try.func126, Try.ntmps126
  go_wp2
  go_loopg [8] (b - a + 1) (fun q v8 w' => ∃ (k : Nat) (ys : List Z), v8 = .int .i64 ((a + 1 + k : Nat) : Int) ∧ Aside0 (q + k = b - a + 1 ∧ (k = 0 ∨ a + k + 1 ≤ b)) ∧ Aside0 (Prow w' base g n c (ys.map (·.1))) ∧ Aside0 (ys = insO zs a k) ∧ Aside0 (∀ z ∈ ys, z ∈ zs) ∧ Aside0 (w.grownBy w' (some g)))
  case atStart => exact ⟨0, zs, (by go_num), ⟨by omega, .inl rfl⟩, HR, ⟨rfl⟩, ⟨fun _ h => h⟩, ⟨World.grownBy.refl _ _⟩⟩
  case round =>
    obtain ⟨k, ys, rfl, HK, HP, HY, HM, HG⟩ := hrel
    obtain ⟨k0, hk0⟩ : ∃ k0, gk = k0 := ⟨_, rfl⟩
    rw [hk0] at HK
    have HK0 := Aside0.mk hk0
    clear hk0
    obtain ⟨i, hi⟩ : ∃ i, a + 1 + k = i := ⟨_, rfl⟩
    rw [hi]
    have HI := Aside0.mk hi
    have hin : i ≤ 1000001 := by have := HK.out.2; omega
    clear hi
    by_cases hlt : i < b
    · obtain ⟨wo, hwo⟩ : ∃ wo : World, wo = wr := ⟨_, rfl⟩
      subst hwo
      go_wp2
      go_loopg [9] (i - a + 1) (fun q v9 w' => ∃ (j : Nat) (xs : List Z), v9 = .int .i64 (j : Int) ∧ a ≤ j ∧ j ≤ i ∧ Aside0 (q + a = j + 1) ∧ Aside0 (Prow w' base g n c (xs.map (·.1))) ∧ Aside0 (insD xs a j = insO zs a (k + 1)) ∧ Aside0 (∀ z ∈ xs, z ∈ zs) ∧ Aside0 (xs.length = n) ∧ Aside0 (w.grownBy w' (some g)))
      case atStart => exact ⟨i, ys, rfl, by have := HI.out; omega, Nat.le_refl _, ⟨by have := HI.out; omega⟩, HP, ⟨by rw [insO, ← HY.out, show a + (k + 1) = i by have := HI.out; omega]⟩, HM, ⟨by have := HP.out.len; simpa using this⟩, HG⟩
      case round =>
        obtain ⟨j, xs, rfl, haj, hji, HK2, HP2, HE, HM2, HX, HG2⟩ := hrel
        by_cases hlt2 : a < j
        · obtain ⟨j', hj'⟩ : ∃ j', j = j' + 1 := ⟨j - 1, by omega⟩
          have hj1 : j < xs.length := by rw [HX.out]; omega
          have hj2 : j' < xs.length := by omega
          have hE2 : insO zs a (k + 1) = if (xs[j]).2.wt < (xs[j']).2.wt then insD (swp xs j j') a j' else xs := by
            rw [← HE.out]
            subst hj'
            exact insD_step xs a j' (by omega) hj1
          have HA0 := Aside0.mk ((HZ.out _ (HM2.out _ (List.getElem_mem hj1))).same ((HR.out.same HG2.out)))
          have HA1 := Aside0.mk ((HZ.out _ (HM2.out _ (List.getElem_mem hj2))).same ((HR.out.same HG2.out)))
          have hm1 : j < (xs.map (·.1)).length := by simpa using hj1
          have hm2 : j' < (xs.map (·.1)).length := by simpa using hj2
          have hc1 := HP2.out.cell j hm1
          have hc2 := HP2.out.cell j' hm2
          have hf1 := HP2.out.frozen j
          have hf2 := HP2.out.frozen j'
          have hsw := HP2.out.swap j j' hm1 hm2
          have hpj := (HP2.out.put j ((xs.map (·.1))[j'])).1.cell j' (by rw [List.length_set]; exact hm2)
          rw [swp_map] at hsw
          simp only [List.getElem_map] at hc1 hc2 hsw hpj
          have hcj : ∃ v, ((wr.setCell ⟨g, j, none⟩ (.pointer (some (xs[j'].1))))).cell? ⟨g, j', none⟩ = some v := ⟨_, hpj⟩
          obtain ⟨vj, hcj⟩ := hcj
          have HS := Aside0.mk hsw
          have HME := Aside0.mk (fun z hz => HM2.out z (mem_swp hz) : ∀ z ∈ swp xs j j', z ∈ zs)
          have HL2 := Aside0.mk (show (swp xs j j').length = n by rw [swp_length]; exact HX.out)
          clear hpj hsw
          have HJ := Aside0.mk hj'
          have hjs : IntKind.i64.wrap (j' : Int) = (j' : Int) := by rw [i64_w]; unfold wrap64; omega
          have hjs2 : (j : Int) - 1 = (j' : Int) := by omega
          have hb0 : (0 : Int) ≤ (j' : Int) := by omega
          have hb1 : (j' : Int) < (n : Int) := by omega
          have hb2 : (j : Int) < (n : Int) := by omega
          have hb3 : (0 : Int) ≤ (j : Int) := by omega
          have hgt : (a : Int) < (j : Int) := by omega
          clear hj'
          by_cases hw : (xs[j]).2.wt < (xs[j']).2.wt
          · rw [if_pos hw] at hE2
            have HE2 := Aside0.mk hE2
            have HW := Aside0.mk hw
            clear hE2 hw
            generalize hzx : xs[j] = zx at *
            generalize hzy : xs[j'] = zy at *
            obtain ⟨px, tx⟩ := zx
            obtain ⟨py, ty⟩ := zy
            clear hzx hzy
            dsimp only at HA0 HA1 hc1 hc2 hcj HS HW
            go_wp2
            go_quiet ((go_at_call 80; exact Calls.quiet_of (cmp_yes px py tx ty _ (HA0.out.same (Same.drewN _ _)) (HA1.out.same (Same.drewN _ _)) HW.out)))
            go_wp2
            go_region
            go_wp2
            go_roundg (gk - 1)
            case measure => have := HK2.out; omega
            case rel => exact ⟨j', swp xs j j', (by first | rfl | go_num), by omega, by omega, ⟨by have := HK2.out; omega⟩, ⟨Kd.R_drewN HS.out.1 _⟩, ⟨HE2.out.symm⟩, HME, HL2, ⟨gby_drewN (HG2.out.trans HS.out.2) _⟩⟩
          · rw [if_neg hw] at hE2
            have HE2 := Aside0.mk hE2
            have HW := Aside0.mk hw
            clear hE2 hw
            generalize hzx : xs[j] = zx at *
            generalize hzy : xs[j'] = zy at *
            obtain ⟨px, tx⟩ := zx
            obtain ⟨py, ty⟩ := zy
            clear hzx hzy
            dsimp only at HA0 HA1 hc1 hc2 hcj HS HW
            have hv0 := cmpT_no tx ty HW.out
            obtain ⟨v, hv⟩ : ∃ v, cmpT tx ty = v := ⟨_, rfl⟩
            rw [hv] at hv0
            have HV := Aside0.mk hv
            clear hv
            go_wp2
            go_quiet ((go_at_call 80; exact Calls.quiet_of (cmp_no px py tx ty v _ (HA0.out.same (Same.drewN _ _)) (HA1.out.same (Same.drewN _ _)) HV.out)))
            go_wp2
            go_roundg (k0 - 1)
            case measure => have := HK.out; have := HI.out; have := HK0.out; omega
            case rel => exact ⟨k + 1, xs, (by have := HI.out; go_num), ⟨by have := HK.out; have := HI.out; omega, .inr (by have := HI.out; omega)⟩, ⟨Kd.R_drewN HP2.out _⟩, ⟨HE2.out.symm⟩, HM2, ⟨gby_drewN HG2.out _⟩⟩
        · have hd : decide ((a : Int) < (j : Int)) = false := by simp; omega
          have hja : j = a := by omega
          have HE2 := Aside0.mk (show insO zs a (k + 1) = xs by rw [← HE.out, hja, insD_stop])
          have HJA := Aside0.mk hja
          clear hja
          go_wp2
          go_quiet (fail)
          go_wp2
          go_roundg (k0 - 1)
          case measure => have := HK.out; have := HI.out; have := HK0.out; omega
          case rel => exact ⟨k + 1, xs, (by have := HI.out; go_num), ⟨by have := HK.out; have := HI.out; omega, .inr (by have := HI.out; omega)⟩, ⟨Kd.R_drewN HP2.out _⟩, ⟨HE2.out.symm⟩, HM2, ⟨gby_drewN HG2.out _⟩⟩
    · have HKE := Aside0.mk (show k = b - a - 1 by have := HK.out.2; have := HI.out; omega)
      go_wp2
      go_end0
      exact ⟨rfl, by rw [← HKE.out, ← HY.out]; exact HP.out, by rw [← HKE.out, ← HY.out]; exact HM.out, HG.out⟩
end Go.Proofs.Ytldhpniflnbilaa
/- slices.symMergeCmpFunc over rows of items. -/
set_option linter.unusedVariables false
set_option linter.unusedSimpArgs false
namespace Go.Proofs.Ytldhpniflnbilaa
open Go.RowKit Go.Proofs.YtldhpniflnbilaaW.PrintWords Go.Proofs.YtldhpniflnbilaaW.PrintLast Go.Proofs.YtldhpniflnbilaaW.PrintMore

/-! ### The merge, as the code goes -/
def kz (l : List Z) (i : Nat) : Int := (l[i]?.map fun z => z.2.wt).getD 0
theorem kz_at (l : List Z) (i : Nat) (h : i < l.length) : kz l i = (l[i]).2.wt := by simp [kz, List.getElem?_eq_getElem h]
/-- A binary search: the first index of i .. j-1 of which P says no. -/
def bsN (P : Nat → Bool) : Nat → Nat → Nat → Nat
  | 0, i, _ => i
  | k + 1, i, j => if i < j then (if P ((i + j) / 2) = true then bsN P k ((i + j) / 2 + 1) j else bsN P k i ((i + j) / 2)) else i
def upN (l : List Z) (a : Nat) : Nat → List Z
  | 0 => l
  | k + 1 => swp (upN l a k) (a + k) (a + k + 1)
def dnN (l : List Z) (m : Nat) : Nat → List Z
  | 0 => l
  | k + 1 => swp (dnN l m k) (m - k) (m - k - 1)
def symStart (l : List Z) (a m b : Nat) : Nat :=
  bsN (fun c => !decide (kz l ((a + b) / 2 + m - 1 - c) < kz l c)) (b - a + 1) (if (a + b) / 2 < m then (a + b) / 2 + m - b else a) (if (a + b) / 2 < m then (a + b) / 2 else m)
def symM : Nat → List Z → Nat → Nat → Nat → List Z
  | 0, l, _, _, _ => l
  | k + 1, l, a, m, b =>
    if m - a = 1 then upN l a (bsN (fun h => decide (kz l h < kz l a)) (b - m + 1) m b - 1 - a)
    else if b - m = 1 then dnN l m (m - bsN (fun h => !decide (kz l m < kz l h)) (m - a + 1) a m)
    else
      let mid := (a + b) / 2
      let s := symStart l a m b
      let e := mid + m - s
      let l1 := if s < m ∧ m < e then rotM m (e - s) l (m - s) (e - m) else l
      let l2 := if a < s ∧ s < mid then symM k l1 a s mid else l1
      if mid < e ∧ e < b then symM k l2 mid e b else l2


set_option maxHeartbeats 4000000 in
set_option maxRecDepth 100000 in
theorem sym_one (base g c n a m b : Nat) (zs : List Z) (w : World) (hr : Prow w base g n c (zs.map (·.1))) (hz : Zat w zs) (ham : a + 1 = m) (hmb : m < b) (hb : b ≤ n) (hl : n ≤ 1000000) :
    Calls Try.prog 127 #[.slice (some ⟨g, 0, none⟩) n c, .int .i64 a, .int .i64 m, .int .i64 b, .func (.func 80) #[] #[]] w fun e w' => e = .returned (.tuple #[]) ∧ Prow w' base g n c ((upN zs a (bsN (fun h => decide (kz zs h < kz zs a)) (b - m + 1) m b - 1 - a)).map (·.1)) ∧ w.grownBy w' (some g) := by
  have HR := Aside0.mk hr
  have HZ := Aside0.mk hz
  have HN := Aside0.mk (show zs.length = n by have := hr.len; simpa using this)
  clear hr hz
  obtain ⟨s, hs⟩ : ∃ s, bsN (fun h => decide (kz zs h < kz zs a)) (b - m + 1) m b = s := ⟨_, rfl⟩
  rw [hs]
  have HS := Aside0.mk hs
  clear hs
  have ht : (((m : Int) - (a : Int)) == 1) = true := by rw [beq_iff_eq]; omega
  have HM := Aside0.mk ham
  have ha0 : a < m := by omega
  clear ham
  go_enter Try.func127, Try.ntmps127
  go_wp2
  go_loopg [10, 11] (b - m + 1) (fun q v10 v11 w' => ∃ (i j : Nat), v10 = .int .i64 (i : Int) ∧ v11 = .int .i64 (j : Int) ∧ (m ≤ i ∧ i ≤ j ∧ j ≤ b) ∧ Aside0 (j - i + 1 ≤ q) ∧ Aside0 (bsN (fun h => decide (kz zs h < kz zs a)) q i j = s) ∧ Aside0 (Prow w' base g n c (zs.map (·.1))) ∧ Aside0 (w.grownBy w' (some g)))
  case atStart => exact ⟨m, b, rfl, rfl, ⟨by omega, by omega, by omega⟩, ⟨by omega⟩, HS, HR, ⟨World.grownBy.refl _ _⟩⟩
  case round =>
    obtain ⟨i, j, rfl, rfl, ⟨hi, hij, hjb⟩, HK, HE, HP, HG⟩ := hrel
    have hgk : 0 < gk := by have := HK.out; omega
    obtain ⟨k1, hk1⟩ : ∃ k1, gk = k1 + 1 := ⟨gk - 1, by omega⟩
    have HE1 := Aside0.mk (show bsN (fun h => decide (kz zs h < kz zs a)) (k1 + 1) i j = s by rw [← hk1]; exact HE.out)
    have HK1 := Aside0.mk hk1
    clear hk1 hgk HE
    by_cases hlt : i < j
    · obtain ⟨h, hh⟩ : ∃ h, (i + j) / 2 = h := ⟨_, rfl⟩
      have hh2 : ((i : Int) + (j : Int)) / 2 = (h : Int) := by omega
      have hh3 : i ≤ h ∧ h < j := by omega
      have HH := Aside0.mk hh
      clear hh
      go_wp2
      have hj1 : h < zs.length := by rw [HN.out]; omega
      have hj2 : a < zs.length := by rw [HN.out]; omega
      have HA0 := Aside0.mk ((HZ.out _ (List.getElem_mem hj1)).same (HR.out.same HG.out))
      have HA1 := Aside0.mk ((HZ.out _ (List.getElem_mem hj2)).same (HR.out.same HG.out))
      have hc1 := HP.out.cell h (by simpa using hj1)
      have hc2 := HP.out.cell a (by simpa using hj2)
      simp only [List.getElem_map] at hc1 hc2
      have hb1 : (h : Int) < (n : Int) := by omega
      have hb2 : (a : Int) < (n : Int) := by omega
      have hb3 : (0 : Int) ≤ (h : Int) := by omega
      have hb4 : (0 : Int) ≤ (a : Int) := by omega
      have HW1 := Aside0.mk (kz_at zs h hj1)
      have HW2 := Aside0.mk (kz_at zs a hj2)
      by_cases hw : (zs[h]).2.wt < (zs[a]).2.wt
      · have HW := Aside0.mk hw
        have HC := Aside0.mk (show decide (kz zs h < kz zs a) = true by rw [HW1.out, HW2.out]; exact decide_eq_true hw)
        clear hw HW1 HW2
        generalize hzx : zs[h] = zx at *
        generalize hzy : zs[a] = zy at *
        obtain ⟨px, tx⟩ := zx
        obtain ⟨py, ty⟩ := zy
        clear hzx hzy hj1 hj2
        dsimp only at HA0 HA1 hc1 hc2 HW
        go_quiet ((go_at_call 80; exact Calls.quiet_of (cmp_yes px py tx ty _ (HA0.out.same (Same.drewN _ _)) (HA1.out.same (Same.drewN _ _)) HW.out)))
        go_wp2
        go_roundg k1
        case measure => have := HK1.out; omega
        case rel => exact ⟨h + 1, j, (by go_num), rfl, ⟨by omega, by omega, by omega⟩, ⟨by have := HK.out; have := HK1.out; omega⟩, ⟨by have := HE1.out; unfold bsN at this; rw [if_pos hlt, HH.out] at this; rwa [if_pos HC.out] at this⟩, ⟨Kd.R_drewN HP.out _⟩, ⟨gby_drewN HG.out _⟩⟩
      · have HW := Aside0.mk hw
        have HC := Aside0.mk (show decide (kz zs h < kz zs a) = false by rw [HW1.out, HW2.out]; exact decide_eq_false hw)
        clear hw HW1 HW2
        generalize hzx : zs[h] = zx at *
        generalize hzy : zs[a] = zy at *
        obtain ⟨px, tx⟩ := zx
        obtain ⟨py, ty⟩ := zy
        clear hzx hzy hj1 hj2
        dsimp only at HA0 HA1 hc1 hc2 HW
        have hv0 := cmpT_no tx ty HW.out
        obtain ⟨v, hv⟩ : ∃ v, cmpT tx ty = v := ⟨_, rfl⟩
        rw [hv] at hv0
        have hv1 : decide (v < 0) = false := by simp; omega
        have HV := Aside0.mk hv
        clear hv
        go_quiet ((go_at_call 80; exact Calls.quiet_of (cmp_no px py tx ty v _ (HA0.out.same (Same.drewN _ _)) (HA1.out.same (Same.drewN _ _)) HV.out)))
        go_wp2
        go_roundg k1
        case measure => have := HK1.out; omega
        case rel => exact ⟨i, h, rfl, rfl, ⟨by omega, by omega, by omega⟩, ⟨by have := HK.out; have := HK1.out; omega⟩, ⟨by have := HE1.out; unfold bsN at this; rw [if_pos hlt, HH.out] at this; rwa [if_neg (by rw [HC.out]; simp)] at this⟩, ⟨Kd.R_drewN HP.out _⟩, ⟨gby_drewN HG.out _⟩⟩
    · have his : i = s := by have := HE1.out; unfold bsN at this; rwa [if_neg hlt] at this
      subst his
      clear HE1 HK HK1
      go_wp2
      go_loopg [13] (i - a) (fun q v13 w' => ∃ (k : Nat) (ys : List Z), v13 = .int .i64 ((a + k : Nat) : Int) ∧ Aside0 (q + k = i - a ∧ a + k + 1 ≤ i) ∧ Aside0 (Prow w' base g n c (ys.map (·.1))) ∧ Aside0 (ys = upN zs a k) ∧ Aside0 (ys.length = n) ∧ Aside0 (w.grownBy w' (some g)))
      case atStart => exact ⟨0, zs, (by go_num), ⟨by omega, by have := HM.out; omega⟩, HP, ⟨rfl⟩, HN, HG⟩
      case round =>
        clear HP HG
        obtain ⟨k, ys, rfl, HK, HP, HY, HX, HG⟩ := hrel
        obtain ⟨x, hx⟩ : ∃ x, a + k = x := ⟨_, rfl⟩
        rw [hx]
        have hxi : x + 1 ≤ i := by have := HK.out; omega
        have HXX := Aside0.mk hx
        clear hx
        by_cases hlt2 : x + 1 < i
        · obtain ⟨y, hy⟩ : ∃ y, x + 1 = y := ⟨_, rfl⟩
          have hy2 : (x : Int) + 1 = (y : Int) := by omega
          have hy3 : IntKind.i64.wrap (y : Int) = (y : Int) := by rw [i64_w]; unfold wrap64; omega
          have hyi : y < i := by omega
          have HYY := Aside0.mk hy
          clear hy hxi hlt2
          have hm1 : x < (ys.map (·.1)).length := by simp; rw [HX.out]; omega
          have hm2 : y < (ys.map (·.1)).length := by simp; rw [HX.out]; omega
          have hc1 := HP.out.cell x hm1
          have hc2 := HP.out.cell y hm2
          have hf1 := HP.out.frozen x
          have hf2 := HP.out.frozen y
          have hsw := HP.out.swap x y hm1 hm2
          have hpj := (HP.out.put x ((ys.map (·.1))[y])).1.cell y (by rw [List.length_set]; exact hm2)
          rw [swp_map] at hsw
          have hcj : ∃ v, (wr.setCell ⟨g, x, none⟩ (.pointer (some ((ys.map (·.1))[y])))).cell? ⟨g, y, none⟩ = some v := ⟨_, hpj⟩
          obtain ⟨vj, hcj⟩ := hcj
          have HS := Aside0.mk hsw
          have HL2 := Aside0.mk (show (swp ys x y).length = n by rw [swp_length]; exact HX.out)
          clear hpj hsw
          generalize (ys.map (·.1))[x] = px at *
          generalize (ys.map (·.1))[y] = py at *
          have hb0 : (0 : Int) ≤ (x : Int) := by omega
          have hb1 : (x : Int) < (n : Int) := by omega
          have hb2 : (0 : Int) ≤ (y : Int) := by omega
          have hb3 : (y : Int) < (n : Int) := by omega
          clear hm1 hm2
          go_wp2
          go_region
          go_wp2
          go_roundg (gk - 1)
          case measure => have := HK.out; have := HYY.out; have := HXX.out; omega
          case rel => exact ⟨k + 1, swp ys x y, (by have := HXX.out; have := HYY.out; first | go_num | (congr 1; omega)), ⟨by have := HK.out; have := HYY.out; have := HXX.out; omega, by have := HYY.out; have := HXX.out; omega⟩, ⟨Kd.R_drew HS.out.1⟩, ⟨by rw [upN, ← HY.out, HXX.out, HYY.out]⟩, HL2, ⟨gby_drew (HG.out.trans HS.out.2)⟩⟩
        · have hk : k = i - 1 - a := by have := HK.out; have := HXX.out; omega
          have HKE := Aside0.mk hk
          clear hk
          go_wp2
          refine bodyPost_ret (results_none rfl _ _ _) rfl ?_
          exact ⟨rfl, by rw [← HKE.out, ← HY.out]; exact HP.out, HG.out⟩

set_option maxHeartbeats 4000000 in
set_option maxRecDepth 100000 in
theorem sym_two (base g c n a m b : Nat) (zs : List Z) (w : World) (hr : Prow w base g n c (zs.map (·.1))) (hz : Zat w zs) (ham : a + 1 < m) (hmb : m + 1 = b) (hb : b ≤ n) (hl : n ≤ 1000000) :
    Calls Try.prog 127 #[.slice (some ⟨g, 0, none⟩) n c, .int .i64 a, .int .i64 m, .int .i64 b, .func (.func 80) #[] #[]] w fun e w' => e = .returned (.tuple #[]) ∧ Prow w' base g n c ((dnN zs m (m - bsN (fun h => !decide (kz zs m < kz zs h)) (m - a + 1) a m)).map (·.1)) ∧ w.grownBy w' (some g) := by
  have HR := Aside0.mk hr
  have HZ := Aside0.mk hz
  have HN := Aside0.mk (show zs.length = n by have := hr.len; simpa using this)
  clear hr hz
  obtain ⟨s, hs⟩ : ∃ s, bsN (fun h => !decide (kz zs m < kz zs h)) (m - a + 1) a m = s := ⟨_, rfl⟩
  rw [hs]
  have HS := Aside0.mk hs
  clear hs
  have ht1 : (((m : Int) - (a : Int)) == 1) = false := by rw [beq_eq_false_iff_ne]; omega
  have ht2 : (((b : Int) - (m : Int)) == 1) = true := by rw [beq_iff_eq]; omega
  have HM := Aside0.mk hmb
  have ha0 : m < b := by omega
  clear hmb
  go_enter Try.func127, Try.ntmps127
  go_wp2
  go_loopg [14, 15] (m - a + 1) (fun q v14 v15 w' => ∃ (i j : Nat), v14 = .int .i64 (i : Int) ∧ v15 = .int .i64 (j : Int) ∧ (a ≤ i ∧ i ≤ j ∧ j ≤ m) ∧ Aside0 (j - i + 1 ≤ q) ∧ Aside0 (bsN (fun h => !decide (kz zs m < kz zs h)) q i j = s) ∧ Aside0 (Prow w' base g n c (zs.map (·.1))) ∧ Aside0 (w.grownBy w' (some g)))
  case atStart => exact ⟨a, m, rfl, rfl, ⟨by omega, by omega, by omega⟩, ⟨by omega⟩, HS, HR, ⟨World.grownBy.refl _ _⟩⟩
  case round =>
    obtain ⟨i, j, rfl, rfl, ⟨hi, hij, hjb⟩, HK, HE, HP, HG⟩ := hrel
    have hgk : 0 < gk := by have := HK.out; omega
    obtain ⟨k1, hk1⟩ : ∃ k1, gk = k1 + 1 := ⟨gk - 1, by omega⟩
    have HE1 := Aside0.mk (show bsN (fun h => !decide (kz zs m < kz zs h)) (k1 + 1) i j = s by rw [← hk1]; exact HE.out)
    have HK1 := Aside0.mk hk1
    clear hk1 hgk HE
    by_cases hlt : i < j
    · obtain ⟨h, hh⟩ : ∃ h, (i + j) / 2 = h := ⟨_, rfl⟩
      have hh2 : ((i : Int) + (j : Int)) / 2 = (h : Int) := by omega
      have hh3 : i ≤ h ∧ h < j := by omega
      have HH := Aside0.mk hh
      clear hh
      go_wp2
      have hj1 : m < zs.length := by rw [HN.out]; omega
      have hj2 : h < zs.length := by rw [HN.out]; omega
      have HA0 := Aside0.mk ((HZ.out _ (List.getElem_mem hj1)).same (HR.out.same HG.out))
      have HA1 := Aside0.mk ((HZ.out _ (List.getElem_mem hj2)).same (HR.out.same HG.out))
      have hc1 := HP.out.cell m (by simpa using hj1)
      have hc2 := HP.out.cell h (by simpa using hj2)
      simp only [List.getElem_map] at hc1 hc2
      have hb1 : (m : Int) < (n : Int) := by omega
      have hb2 : (h : Int) < (n : Int) := by omega
      have hb3 : (0 : Int) ≤ (m : Int) := by omega
      have hb4 : (0 : Int) ≤ (h : Int) := by omega
      have HW1 := Aside0.mk (kz_at zs m hj1)
      have HW2 := Aside0.mk (kz_at zs h hj2)
      by_cases hw : (zs[m]).2.wt < (zs[h]).2.wt
      · have HW := Aside0.mk hw
        have HC := Aside0.mk (show decide (kz zs m < kz zs h) = true by rw [HW1.out, HW2.out]; exact decide_eq_true hw)
        clear hw HW1 HW2
        generalize hzx : zs[m] = zx at *
        generalize hzy : zs[h] = zy at *
        obtain ⟨px, tx⟩ := zx
        obtain ⟨py, ty⟩ := zy
        clear hzx hzy hj1 hj2
        dsimp only at HA0 HA1 hc1 hc2 HW
        go_quiet ((go_at_call 80; exact Calls.quiet_of (cmp_yes px py tx ty _ (HA0.out.same (Same.drewN _ _)) (HA1.out.same (Same.drewN _ _)) HW.out)))
        go_wp2
        go_roundg k1
        case measure => have := HK1.out; omega
        case rel => exact ⟨i, h, rfl, rfl, ⟨by omega, by omega, by omega⟩, ⟨by have := HK.out; have := HK1.out; omega⟩, ⟨by have := HE1.out; unfold bsN at this; rw [if_pos hlt, HH.out] at this; rwa [if_neg (by rw [HC.out]; simp)] at this⟩, ⟨Kd.R_drewN HP.out _⟩, ⟨gby_drewN HG.out _⟩⟩
      · have HW := Aside0.mk hw
        have HC := Aside0.mk (show decide (kz zs m < kz zs h) = false by rw [HW1.out, HW2.out]; exact decide_eq_false hw)
        clear hw HW1 HW2
        generalize hzx : zs[m] = zx at *
        generalize hzy : zs[h] = zy at *
        obtain ⟨px, tx⟩ := zx
        obtain ⟨py, ty⟩ := zy
        clear hzx hzy hj1 hj2
        dsimp only at HA0 HA1 hc1 hc2 HW
        have hv0 := cmpT_no tx ty HW.out
        obtain ⟨v, hv⟩ : ∃ v, cmpT tx ty = v := ⟨_, rfl⟩
        rw [hv] at hv0
        have hv1 : decide (v < 0) = false := by simp; omega
        have HV := Aside0.mk hv
        clear hv
        go_quiet ((go_at_call 80; exact Calls.quiet_of (cmp_no px py tx ty v _ (HA0.out.same (Same.drewN _ _)) (HA1.out.same (Same.drewN _ _)) HV.out)))
        go_wp2
        go_roundg k1
        case measure => have := HK1.out; omega
        case rel => exact ⟨h + 1, j, (by go_num), rfl, ⟨by omega, by omega, by omega⟩, ⟨by have := HK.out; have := HK1.out; omega⟩, ⟨by have := HE1.out; unfold bsN at this; rw [if_pos hlt, HH.out] at this; rwa [if_pos (by rw [HC.out]; rfl)] at this⟩, ⟨Kd.R_drewN HP.out _⟩, ⟨gby_drewN HG.out _⟩⟩
    · have his : i = s := by have := HE1.out; unfold bsN at this; rwa [if_neg hlt] at this
      subst his
      clear HE1 HK HK1
      go_wp2
      go_loopg [17] (m - i + 1) (fun q v17 w' => ∃ (k y : Nat) (ys : List Z), v17 = .int .i64 (y : Int) ∧ (i ≤ y ∧ y ≤ m) ∧ Aside0 (q = y - i + 1 ∧ y + k = m) ∧ Aside0 (Prow w' base g n c (ys.map (·.1))) ∧ Aside0 (ys = dnN zs m k) ∧ Aside0 (ys.length = n) ∧ Aside0 (w.grownBy w' (some g)))
      case atStart => exact ⟨0, m, zs, rfl, ⟨by omega, Nat.le_refl _⟩, ⟨by omega, rfl⟩, HP, ⟨rfl⟩, HN, HG⟩
      case round =>
        clear HP HG
        obtain ⟨k, x, ys, rfl, ⟨hx1, hx2⟩, HK, HP, HY, HX, HG⟩ := hrel
        by_cases hlt2 : i < x
        · obtain ⟨y, hy⟩ : ∃ y, y = x - 1 := ⟨_, rfl⟩
          have hy2 : (x : Int) - 1 = (y : Int) := by omega
          have hy3 : IntKind.i64.wrap (y : Int) = (y : Int) := by rw [i64_w]; unfold wrap64; omega
          have hyi : y < n := by omega
          have hyi2 : i ≤ y := by omega
          have HYY := Aside0.mk hy
          have HX2 := Aside0.mk hlt2
          clear hy
          have hm1 : x < (ys.map (·.1)).length := by simp; rw [HX.out]; omega
          have hm2 : y < (ys.map (·.1)).length := by simp; rw [HX.out]; omega
          have hc1 := HP.out.cell x hm1
          have hc2 := HP.out.cell y hm2
          have hf1 := HP.out.frozen x
          have hf2 := HP.out.frozen y
          have hsw := HP.out.swap x y hm1 hm2
          have hpj := (HP.out.put x ((ys.map (·.1))[y])).1.cell y (by rw [List.length_set]; exact hm2)
          rw [swp_map] at hsw
          have hcj : ∃ v, (wr.setCell ⟨g, x, none⟩ (.pointer (some ((ys.map (·.1))[y])))).cell? ⟨g, y, none⟩ = some v := ⟨_, hpj⟩
          obtain ⟨vj, hcj⟩ := hcj
          have HS := Aside0.mk hsw
          have HL2 := Aside0.mk (show (swp ys x y).length = n by rw [swp_length]; exact HX.out)
          clear hpj hsw
          generalize (ys.map (·.1))[x] = px at *
          generalize (ys.map (·.1))[y] = py at *
          have hb0 : (0 : Int) ≤ (x : Int) := by omega
          have hb1 : (x : Int) < (n : Int) := by omega
          have hb2 : (0 : Int) ≤ (y : Int) := by omega
          have hb3 : (y : Int) < (n : Int) := by omega
          clear hm1 hm2
          go_wp2
          go_region
          go_wp2
          go_roundg (gk - 1)
          case measure => have := HK.out; omega
          case rel => exact ⟨k + 1, y, swp ys x y, (by first | rfl | go_num), ⟨hyi2, by omega⟩, ⟨by have := HK.out; have := HYY.out; have := HX2.out; omega, by have := HK.out; have := HYY.out; have := HX2.out; omega⟩, ⟨Kd.R_drew HS.out.1⟩, ⟨by rw [dnN, ← HY.out, show m - k = x by have := HK.out; omega, HYY.out]⟩, HL2, ⟨gby_drew (HG.out.trans HS.out.2)⟩⟩
        · have hk : k = m - i := by have := HK.out; omega
          have HKE := Aside0.mk hk
          clear hk
          go_wp2
          refine bodyPost_ret (results_none rfl _ _ _) rfl ?_
          exact ⟨rfl, by rw [← HKE.out, ← HY.out]; exact HP.out, HG.out⟩
end Go.Proofs.Ytldhpniflnbilaa
