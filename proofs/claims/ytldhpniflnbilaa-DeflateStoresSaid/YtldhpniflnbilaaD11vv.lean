/- The matcher of package deflate: add. -/
import Derived.Test.YtldhpniflnbilaaProg
import Derived.Below
import Derived.Deep.Draws
import Derived.Deep.AppendLies
import Derived.Maps.AppendAt
import Derived.OwnWalk
import Derived.Laws.BytesArg
import Derived.Laws.MakeOwn
import Derived.Laws.OwnMore
import Derived.Deep.OwnRows
import Derived.Tactics
import Derived.Lib.ConvBytes
import Derived.Laws.Slices
import Derived.WalkKit
import Derived.KernelRfl
import Derived.RowKit3
import Derived.Deep.LoopGhost
import Derived.Deep.QuietTactic
import Derived.BigQuiet
import Derived.WideLaws
import Derived.Deep.DeepCutAuto
import Derived.Deep.CutBlock
import Derived.Deep.RegionHeld3
import Derived.Laws.Rows
import Derived.Lib.AppendStr
import Derived.ArgAppend
import Derived.Laws.IdiomCopy
import Derived.OrdersHeld
import Derived.Laws.BitsLemmas
import Derived.RowKit
import Derived.Outline
import Derived.Test.YtldhpniflnbilaaV34s
import Derived.Test.YtldhpniflnbilaaD10vv
set_option linter.unusedVariables false
set_option linter.unusedSimpArgs false
namespace Go.Proofs.Ytldhpniflnbilaa
open Go.RowKit Go.Proofs.YtldhpniflnbilaaW.PrintWords Go.Proofs.YtldhpniflnbilaaW.PrintLast Go.Proofs.YtldhpniflnbilaaW.PrintMore

def last32 (l : List Int) : List Int := l.drop (l.length - 32)
theorem last32_length (l : List Int) : (last32 l).length ≤ 32 := by simp [last32]; omega
def addH (hd : K3 → List Int) (k : K3) (i : Nat) : K3 → List Int := fun q => if q = k then last32 (hd k ++ [(i : Int)]) else hd q
/-- The state of a matcher: S are the blocks of its map and of the map's rows. -/
structure MSt (w : World) (base gm gh : Nat) (vp : Value) (S : Nat → Prop) (hd : K3 → List Int) : Prop where
  blk : w.heap[gm]? = some (.cells #[vp, .map (some gh)] 118 (0, 0))
  mp : ∃ m, HMap w gh m ∧ (∀ k, K3ok k → ORow w base (orNil (m k)) (hd k) ∧ ∀ b, (orNil (m k)).ownBlock = some b → S b) ∧ (∀ k q, K3ok k → K3ok q → k ≠ q → (orNil (m k)).ownBlock = none ∨ (orNil (m k)).ownBlock ≠ (orNil (m q)).ownBlock)
  len : ∀ k, (hd k).length ≤ 32
  sg : S gh
  lt : ∀ b, S b → base ≤ b ∧ b < w.heap.size
  le : base ≤ gm
theorem MSt.step {w w1 : World} {base gm gh : Nat} {vp : Value} {S : Nat → Prop} {hd : K3 → List Int} (h : MSt w base gm gh vp S hd) (hk : ∀ b, S b ∨ b = gm → w1.heap[b]? = w.heap[b]?) (hs : w.heap.size ≤ w1.heap.size) : MSt w1 base gm gh vp S hd := by
  obtain ⟨m, h1, h2, h3⟩ := h.mp
  exact ⟨(hk gm (.inr rfl)).trans h.blk, ⟨m, h1.same (hk gh (.inl h.sg)), fun k hk3 => ⟨(h2 k hk3).1.step (fun b hb => hk b (.inl ((h2 k hk3).2 b hb))), (h2 k hk3).2⟩, h3⟩, h.len, h.sg, fun b hb => ⟨(h.lt b hb).1, Nat.lt_of_lt_of_le (h.lt b hb).2 hs⟩, h.le⟩
theorem MSt.below {w w1 : World} {base gm gh : Nat} {vp : Value} {S : Nat → Prop} {hd : K3 → List Int} (h : MSt w base gm gh vp S hd) (hb : Below w.heap.size w w1) : MSt w1 base gm gh vp S hd :=
  h.step (fun b hs => hb.block b (by rcases hs with hs | rfl; exact (h.lt b hs).2; exact blk_lt h.blk)) hb.size
theorem step_append_run {P : Program} {ops : Array Oper} {o : Oper} {a : Act} {w : World} {K : Act → World → Prop} {Q : Exit → Act → World → Prop} {E : Prop} (hw : Region.wanted o (yielded ops a.tmps) = true) (s x : Operand) (t tn : TypeId)
    (ho : o.op = .call { callee := .builtin .append, args := #[s, x], argTypes := #[t, tn] }) (vs vx : Value) (hs : a.eval s = vs) (hx : a.eval x = vx)
    (v' : Value) (w' : World) (hr : (Builtin.append_ #[t, tn] o.type #[vs, vx]).run P w = .ok v' w') (h : K (a.put o.dst v') w') : if Region.wanted o (yielded ops a.tmps) = true then Oper.wp P o a w K Q else E := by
  rw [if_pos hw]
  exact Lib.wp_append_run w s x t tn ho vs vx hs hx v' w' hr h
set_option maxHeartbeats 1000000 in
set_option maxRecDepth 100000 in
theorem add_calls (w0 w : World) (gm gh i n c : Nat) (A : Option Addr) (p : List Int) (S : Nat → Prop) (hd : K3 → List Int) (hm : MSt w w0.heap.size gm gh (.slice A n c) S hd) (hC : (Kd.int .u8).C w A n p) (hp : Bytes p) (hn : p.length = n) (hnc : n ≤ c) (hl : n ≤ 1000000000) (hin : i + 3 ≤ n) (hB : Below w0.heap.size w0 w) :
    Calls Try.prog 88 #[.pointer (some ⟨gm, 0, none⟩), .int .i64 (i : Int)] w fun e w' => e = .returned (.tuple #[]) ∧ ∃ S', MSt w' w0.heap.size gm gh (.slice A n c) S' (addH hd (keyAt p i) i) ∧ (∀ b, S' b → S b ∨ w.heap.size ≤ b) ∧ (∀ b, b < w.heap.size → ¬ S b → w'.heap[b]? = w.heap[b]?) ∧ Below w0.heap.size w0 w' := by
  have hok := keyAt_ok hp i
  have HKEY := Aside0.mk (key_calls w gm gh i n c A p hm.blk hC hn hnc hl (by omega) hin)
  have HM := Aside0.mk hm
  have HB := Aside0.mk hB
  generalize keyAt p i = k at *
  obtain ⟨k0, k1, k2⟩ := k
  have hi0 : (0 : Int) ≤ (i : Int) := by omega
  have hi1 : (i : Int) ≤ 1000000000 := by omega
  clear hm hB hC
  go_enter Try.func88, Try.ntmps88
  go_upto_region 1 with (go_at_call 112; refine HKEY.out.mono ?_; rintro e' w1 ⟨rfl, hbl⟩; rw [show kv (k0, k1, k2) = .agg #[.int .u8 k0, .int .u8 k1, .int .u8 k2] from rfl]; obtain ⟨W, hW⟩ : ∃ W, w1.alloc (.cells #[.int .u8 0, .int .u8 0, .int .u8 0] 144) = W := ⟨_, rfl⟩; obtain ⟨gb, hgb⟩ : ∃ gb, w1.heap.size = gb := ⟨_, rfl⟩; have hbw : Below w1.heap.size w1 W := (by rw [← hW]; exact below_alloc (Below.refl _ _) _); have hwb : W.heap[gb]? = some (.cells #[.int .u8 0, .int .u8 0, .int .u8 0] 144 (0, 0)) := (by rw [← hW, ← hgb]; exact blk_new w1 _); obtain ⟨X1, X2, X3, hX1, hX2, hX3, q1, q2, q3, q4, q5, q6, hb1, hb2, hb3⟩ := store3 hwb (.int .u8 k0) (.int .u8 k1) (.int .u8 k2); have HBX := Aside0.mk (hb3 w (below_then hbl hbl.size hbw) (by rw [← hgb]; exact hbl.size)); have HX := Aside0.mk hb1; have HGB := Aside0.mk (show w.heap.size ≤ gb from by rw [← hgb]; exact hbl.size); clear hbl hbw hwb hb1 hb2 hb3)
  clear hW hgb hX1 hX2 hX3 q1 q2 q3 q4 q5 q6 HKEY
  have HMX := Aside0.mk (HM.out.below HBX.out)
  obtain ⟨m, hm, hrows, hdis⟩ := HMX.out.mp
  have hlook := (show HMap X3.drew gh m from hm).lookup hok
  have hlook2 := (show HMap (X3.alloc (.cells #[.int .i64 (i : Int)] 3)).drew gh m from hm.same (Below.heap_alloc X3 _ gh hm.lt)).lookup hok
  obtain ⟨hrow, hown⟩ := hrows (k0, k1, k2) hok
  obtain ⟨v, hv⟩ : ∃ v, orNil (m (k0, k1, k2)) = v := ⟨_, rfl⟩
  rw [hv] at hlook hlook2 hrow hown
  rw [show kv (k0, k1, k2) = .agg #[.int .u8 k0, .int .u8 k1, .int .u8 k2] from rfl] at hlook hlook2
  have hc1 : X3.cell? ⟨gm, 1, none⟩ = some (.map (some gh)) := (blk_cell HMX.out.blk 1).trans rfl
  obtain ⟨d0, d1, d2⟩ := cells3 HX.out
  have HROW := Aside0.mk hrow
  have HOWN := Aside0.mk hown
  have HROWS := Aside0.mk hrows
  have HDIS := Aside0.mk hdis
  have HHM := Aside0.mk hm
  have HV := Aside0.mk hv
  clear hrow hown hrows hdis hm hv
  obtain ⟨v1, w2, hr, hrow2, hg2, hat2, g1, off1, cap1, rfl, hcap1⟩ := (show ORow (X3.alloc (.cells #[.int .i64 (i : Int)] 3)).drew w0.heap.size v (hd (k0, k1, k2)) from HROW.out.step (fun b hb => Below.heap_alloc X3 _ b (HROW.out.lt b hb).2.1)).append (by have := HB.out.size; have := HBX.out.size; simp; omega) ⟨X3.heap.size, 0, none⟩ 1 (i : Int) ((blk_cell (blk_new X3 _) 0).trans rfl) (by have := HM.out.len (k0, k1, k2); omega) 22
  have HRUN := Aside0.mk hr
  have HROW2 := Aside0.mk hrow2
  have HG2 := Aside0.mk hg2
  have HAT2 := Aside0.mk hat2
  have hgm2 := blk_grown (blk_drew (blk_alloc HMX.out.blk (.cells #[.int .i64 (i : Int)] 3))) hg2 (fun e => by obtain ⟨-, -, cur, hcur⟩ := HROW.out.lt gm e.symm; rw [HMX.out.blk] at hcur; injection hcur with hcur; injection hcur with _ hcur; exact absurd hcur (by decide))
  have hgb2 := blk_grown (blk_drew (blk_alloc HX.out (.cells #[.int .i64 (i : Int)] 3))) hg2 (fun e => by obtain ⟨-, -, cur, hcur⟩ := HROW.out.lt gb e.symm; rw [HX.out] at hcur; injection hcur with hcur; injection hcur with _ hcur; exact absurd hcur (by decide))
  have c1' : w2.cell? ⟨gm, 1, none⟩ = some (.map (some gh)) := (blk_cell hgm2 1).trans rfl
  obtain ⟨d0', d1', d2'⟩ := cells3 hgb2
  have HGM2 := Aside0.mk hgm2
  have HGB2 := Aside0.mk hgb2
  clear hr hrow2 hg2 hat2 hgm2 hgb2
  go_upto_region 2 with (fail)
  go_cut [6] (fun v6 wx => v6 = .slice (some ⟨g1, off1, none⟩) ((hd (k0, k1, k2)).length + 1) cap1 ∧ w2 = wx)
  case first =>
    as_aux_lemma =>
      go_region_held3 (fun w' => w'.cell? ⟨gm, 1, none⟩ = some (.map (some gh)) ∧ w'.cell? ⟨gb, 0, none⟩ = some (.int .u8 k0) ∧ w'.cell? ⟨gb, 1, none⟩ = some (.int .u8 k1) ∧ w'.cell? ⟨gb, 2, none⟩ = some (.int .u8 k2)) (first | exact ⟨c1', d0', d1', d2'⟩ | exact ⟨pw_cell_below (by repeat (first | exact Below.refl _ _ | apply below_alloc | apply pw_below_drewN | apply below_drew1)) hc1, pw_cell_below (by repeat (first | exact Below.refl _ _ | apply below_alloc | apply pw_below_drewN | apply below_drew1)) d0, pw_cell_below (by repeat (first | exact Below.refl _ _ | apply below_alloc | apply pw_below_drewN | apply below_drew1)) d1, pw_cell_below (by repeat (first | exact Below.refl _ _ | apply below_alloc | apply pw_below_drewN | apply below_drew1)) d2⟩) (first | (refine step_append_run rfl (.tmp 20) (.tmp 22) 22 22 rfl v (.slice (some ⟨X3.heap.size, 0, none⟩) 1 1) rfl rfl _ _ HRUN.out ?_))
      all_goals (go_wp2; go_meet; exact ⟨rfl, rfl⟩)
  case rest =>
  obtain ⟨rfl, rfl⟩ := hcut
  clear hlook hlook2 hc1 d0 d1 d2
  obtain ⟨L, hL⟩ : ∃ L, (hd (k0, k1, k2)).length = L := ⟨_, rfl⟩
  have HL := Aside0.mk hL
  have hL32 : L ≤ 32 := by rw [← hL]; exact HM.out.len _
  rw [hL] at hcap1 HROW2 HRUN
  rw [hL]
  clear hL
  obtain ⟨low, hlow⟩ : ∃ low, L + 1 - 32 = low := ⟨_, rfl⟩
  have hL33 : (L : Int) ≤ 32 := by omega
  have hL34 : (0 : Int) ≤ (L : Int) := by omega
  have hcap2 : (L : Int) + 1 ≤ (cap1 : Int) := by omega
  have hq : (if 32 < (L : Int) + 1 then (L : Int) + 1 - 32 else 0) = (low : Int) := by split <;> omega
  have HLOW := Aside0.mk hlow
  have hghv : some gh ≠ v.ownBlock := fun e => by
    obtain ⟨-, -, cur, hcur⟩ := HROW.out.lt gh e.symm
    obtain ⟨es, cl, hes, -⟩ := HHM.out
    rw [hes] at hcur
    cases hcur
  have hm2 : HMap w2.drew gh m := (HHM.out.same (Below.heap_alloc X3 _ gh HHM.out.lt)).same (HG2.out.block gh (by have := HHM.out.lt; simp; omega) hghv)
  obtain ⟨w3, hupd, hm3, hg3⟩ := hm2.update hok (.slice (some ⟨g1, off1 + low, none⟩) (L + 1 - low) (cap1 - low))
  rw [show kv (k0, k1, k2) = .agg #[.int .u8 k0, .int .u8 k1, .int .u8 k2] from rfl] at hupd
  have HM3 := Aside0.mk hm3
  have HG3 := Aside0.mk hg3
  clear hm2 hm3 hg3 hlow
  go_wp2
  go_region
  go_wp2
  go_end0
  refine ⟨rfl, ?_⟩
  have hX := HBX.out.size
  obtain ⟨Z, hZ⟩ : ∃ Z, (X3.alloc (.cells #[.int .i64 (i : Int)] 3)).drew = Z := ⟨_, rfl⟩
  have hzs : Z.heap.size = X3.heap.size + 1 := by rw [← hZ]; simp
  have hzb : ∀ b, b < X3.heap.size → Z.heap[b]? = X3.heap[b]? := fun b hb => by rw [← hZ]; exact Below.heap_alloc X3 _ b hb
  have hbz : Below w0.heap.size w0 Z := by rw [← hZ]; exact below_drew1 (below_alloc (below_then HB.out HB.out.size HBX.out) _)
  have hg2 := HG2.out
  have hat := HAT2.out
  rw [hZ] at hg2 hat
  obtain ⟨hv1a, hv1b, cur1, hv1c⟩ := HROW2.out.lt g1 rfl
  have hb1 : g1 = gh → False := by
    rintro rfl
    have hh := HHM.out.same (hzb g1 HHM.out.lt)
    have hh2 := hh.same (hg2.block g1 (by have := HHM.out.lt; omega) hghv)
    obtain ⟨es, cl, hes, -⟩ := hh2
    rw [hes] at hv1c
    cases hv1c
  have hgmh : gm ≠ gh := by
    rintro rfl
    obtain ⟨es, cl, hes, -⟩ := HHM.out
    have := HMX.out.blk
    rw [hes] at this
    cases this
  have hg3 := HG3.out
  have hs23 : w2.heap.size ≤ w3.heap.size := hg3.size
  have hsz2 : Z.heap.size ≤ w2.heap.size := hg2.size
  have hkeep : ∀ b, b < X3.heap.size → some b ≠ v.ownBlock → b ≠ gh → w3.heap[b]? = X3.heap[b]? := fun b h1 h2 h3 =>
    (hg3.block b (by show b < w2.heap.size; omega) (by intro e; injection e with e; exact h3 e)).trans ((hg2.block b (by omega) h2).trans (hzb b h1))
  have hSg1 : S g1 ∨ w.heap.size ≤ g1 := by
    rcases hat with e | e
    · exact .inl (HOWN.out g1 e.symm)
    · have e2 : g1 = Z.heap.size := by simpa [Value.ownBlock] using e
      right; omega
  refine ⟨fun b => S b ∨ b = g1, ⟨?_, ⟨put m (k0, k1, k2) (.slice (some ⟨g1, off1 + low, none⟩) (L + 1 - low) (cap1 - low)), HM3.out, ?_, ?_⟩, ?_, .inl HMX.out.sg, ?_, HMX.out.le⟩, ?_, ?_, ?_⟩
  · exact (hg3.block gm (blk_lt HGM2.out) (by intro e; injection e with e; exact hgmh e)).trans HGM2.out
  · intro q hq
    unfold put addH
    by_cases hqk : q = (k0, k1, k2)
    · rw [if_pos hqk, if_pos hqk]
      refine ⟨?_, fun b hb => by right; injection hb with hb; exact hb.symm⟩
      have h1 := HROW2.out.cut low (by rw [List.length_append]; have := HL.out; have := HLOW.out; simp; omega)
      have h2 : last32 (hd (k0, k1, k2) ++ [(i : Int)]) = (hd (k0, k1, k2) ++ [(i : Int)]).drop low := by
        unfold last32
        rw [List.length_append, HL.out, ← HLOW.out]
        rfl
      rw [h2]
      exact h1.step (fun b hb => by injection hb with hb; subst hb; exact hg3.block g1 hv1b (by intro e; injection e with e; exact hb1 e))
    · rw [if_neg hqk, if_neg hqk]
      obtain ⟨r1, r2⟩ := HROWS.out q hq
      refine ⟨r1.step (fun b hb => ?_), fun b hb => .inl (r2 b hb)⟩
      obtain ⟨-, l2, cur, l3⟩ := r1.lt b hb
      refine hkeep b l2 ?_ ?_
      · rcases HDIS.out q (k0, k1, k2) hq hok hqk with e | e
        · rw [e] at hb; cases hb
        · rw [← hb, ← HV.out]; exact e
      · rintro rfl
        obtain ⟨es, cl, hes, -⟩ := HHM.out
        rw [hes] at l3
        cases l3
  · intro q r hq hr hne
    unfold put
    have key : ∀ t, K3ok t → t ≠ (k0, k1, k2) → (orNil (m t)).ownBlock = none ∨ (orNil (m t)).ownBlock ≠ some g1 := by
      intro t ht htk
      rcases hat with e | e
      · rcases HDIS.out t (k0, k1, k2) ht hok htk with e2 | e2
        · exact .inl e2
        · right
          rw [HV.out, ← e] at e2
          exact e2
      · cases hbt : (orNil (m t)).ownBlock with
        | none => exact .inl rfl
        | some b =>
          right
          obtain ⟨-, l2, -⟩ := (HROWS.out t ht).1.lt b hbt
          have e2 : g1 = Z.heap.size := by simpa [Value.ownBlock] using e
          intro e3
          injection e3 with e3
          omega
    by_cases hqk : q = (k0, k1, k2)
    · rw [if_pos hqk]
      have hrk : r ≠ (k0, k1, k2) := fun e => hne (hqk.trans e.symm)
      rw [if_neg hrk]
      right
      rcases key r hr hrk with e | e
      · rw [e]; intro e2; cases e2
      · exact fun e2 => e e2.symm
    · rw [if_neg hqk]
      by_cases hrk : r = (k0, k1, k2)
      · rw [if_pos hrk]
        exact key q hq hqk
      · rw [if_neg hrk]
        exact HDIS.out q r hq hr hne
  · intro q
    unfold addH
    split
    · exact last32_length _
    · exact HM.out.len q
  · rintro b (hb | rfl)
    · have := HMX.out.lt b hb; omega
    · omega
  · rintro b (hb | rfl)
    · exact .inl hb
    · exact hSg1
  · intro b hb hS
    exact (hkeep b (by omega) (fun e => hS (HOWN.out b e.symm)) (fun e => hS (e ▸ HM.out.sg))).trans (HBX.out.block b hb)
  · have h1 := hbz.grown hg2 hbz.size (fun k hk => (HROW.out.lt k hk).1)
    exact (below_drew1 h1).grown hg3 h1.size (fun k hk => by injection hk with hk; subst hk; exact (HM.out.lt _ HM.out.sg).1)
end Go.Proofs.Ytldhpniflnbilaa
