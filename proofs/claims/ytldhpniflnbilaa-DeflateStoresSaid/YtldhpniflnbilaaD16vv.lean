/- tokens of package deflate. -/
import Derived.Test.YtldhpniflnbilaaProg
import Derived.Below
import Derived.Deep.Draws
import Derived.Deep.AppendLies
import Derived.Maps.AppendAt
import Derived.OwnWalk
import Derived.Laws.BytesArg
import Derived.Laws.MakeOwn
import Derived.Laws.OwnMore
import Derived.Deep.OwnRows
import Derived.Tactics
import Derived.Lib.ConvBytes
import Derived.Laws.Slices
import Derived.WalkKit
import Derived.KernelRfl
import Derived.RowKit3
import Derived.Deep.LoopGhost
import Derived.Deep.QuietTactic
import Derived.BigQuiet
import Derived.WideLaws
import Derived.Deep.DeepCutAuto
import Derived.Deep.CutBlock
import Derived.Deep.RegionHeld3
import Derived.Laws.Rows
import Derived.Lib.AppendStr
import Derived.ArgAppend
import Derived.Laws.IdiomCopy
import Derived.OrdersHeld
import Derived.Laws.BitsLemmas
import Derived.RowKit
import Derived.Outline
import Derived.Test.YtldhpniflnbilaaV34s
import Derived.Carry
import Derived.Test.YtldhpniflnbilaaD15vv
set_option linter.unusedVariables false
set_option linter.unusedSimpArgs false
namespace Go.Proofs.Ytldhpniflnbilaa
open Go.RowKit Go.Proofs.YtldhpniflnbilaaW.PrintWords Go.Proofs.YtldhpniflnbilaaW.PrintLast Go.Proofs.YtldhpniflnbilaaW.PrintMore

theorem tokGo_any (p : List Int) (i : Nat) : ∀ d, tokGo p (p.length - i + d) i = tokGo p (p.length - i) i
  | 0 => rfl
  | d + 1 => by rw [← Nat.add_assoc, tokGo_more p _ i (by omega), tokGo_any p i d]
theorem best_any (w : World) (base gm gh i n c : Nat) (A : Option Addr) (p : List Int) (S : Nat → Prop) (hm : MSt w base gm gh (.slice A n c) S (headsN p i)) (hC : (Kd.int .u8).C w A n p) (hp : Bytes p) (hn : p.length = n) (hnc : n ≤ c) (hl : n ≤ 1000000000) (hi : i ≤ 1000000000) :
    Calls Try.prog 87 #[.pointer (some ⟨gm, 0, none⟩), .int .i64 (i : Int)] w fun e w' => e = .returned (.tuple #[.int .i64 (bestAt p i).1, .int .i64 (bestAt p i).2]) ∧ Below w.heap.size w w' := by
  unfold bestAt
  by_cases h : i + 3 ≤ p.length
  · rw [if_pos h]
    exact best_calls w base gm gh i n c A p S _ hm hC hp hn hnc hl (by omega) (fun j hj => headsN_mem p i _ j hj)
  · rw [if_neg h]
    exact best_none w gm gh i n c A hm.blk hl hi (by omega)
theorem add_any (w0 w : World) (gm gh i n c : Nat) (A : Option Addr) (p : List Int) (S : Nat → Prop) (hm : MSt w w0.heap.size gm gh (.slice A n c) S (headsN p i)) (hC : (Kd.int .u8).C w A n p) (hp : Bytes p) (hn : p.length = n) (hnc : n ≤ c) (hl : n ≤ 1000000000) (hi : i ≤ 1000000000) (hB : Below w0.heap.size w0 w) :
    Calls Try.prog 88 #[.pointer (some ⟨gm, 0, none⟩), .int .i64 (i : Int)] w fun e w' => e = .returned (.tuple #[]) ∧ ∃ S', MSt w' w0.heap.size gm gh (.slice A n c) S' (headsN p (i + 1)) ∧ (∀ b, S' b → S b ∨ w.heap.size ≤ b) ∧ (∀ b, b < w.heap.size → ¬ S b → w'.heap[b]? = w.heap[b]?) ∧ Below w0.heap.size w0 w' := by
  unfold headsN
  by_cases h : i + 3 ≤ p.length
  · rw [if_pos h]
    exact add_calls w0 w gm gh i n c A p S _ hm hC hp hn hnc hl (by omega) hB
  · rw [if_neg h]
    refine (add_none w gm gh i n c A hm.blk hl hi (by omega)).mono ?_
    rintro e w' ⟨rfl, hb⟩
    exact ⟨rfl, S, hm.below hb, fun b hb => .inl hb, fun b h1 _ => hb.block b h1, below_then hB hB.size hb⟩
/-- A row beside a matcher's blocks, behind an append to it. -/
theorem MSt.beside {w w1 : World} {base gm gh : Nat} {vp : Value} {S : Nat → Prop} {hd : K3 → List Int} (h : MSt w base gm gh vp S hd) {b0 : Nat} {v : Value} {os : List Int} (hr : (Kd.int .i64).R 3 w b0 (fun b => ¬ S b) v os) (hg : w.grownBy w1 v.ownBlock) : MSt w1 base gm gh vp S hd := by
  refine h.step (fun b hb => ?_) hg.size
  refine hg.block b (by rcases hb with hb | rfl; exact (h.lt b hb).2; exact blk_lt h.blk) (fun e => ?_)
  rcases hb with hb | rfl
  · exact hr.1 b e.symm hb
  · exact Kd.R_ne hr h.blk (by decide) e
theorem R_added {w w1 : World} {S S' : Nat → Prop} {b0 : Nat} {v : Value} {os : List Int} (hr : (Kd.int .i64).R 3 w b0 (fun b => ¬ S b) v os) (h1 : ∀ b, S' b → S b ∨ w.heap.size ≤ b) (h2 : ∀ b, b < w.heap.size → ¬ S b → w1.heap[b]? = w.heap[b]?) : (Kd.int .i64).R 3 w1 b0 (fun b => ¬ S' b) v os :=
  Kd.R_mono (Kd.R_step (Kd.R_bound hr) (fun k hk hlt => h2 k hlt hk.1)) (fun k hk hs => by
    rcases h1 k hs with h | h
    · exact hk.1 h
    · have := hk.2.2.1; omega)
set_option maxHeartbeats 2000000 in
set_option maxRecDepth 100000 in
theorem tokens_calls (w : World) (A : Option Addr) (n c : Nat) (p : List Int) (hC : (Kd.int .u8).C w A n p) (hp : Bytes p) (hn : p.length = n) (hnc : n ≤ c) (hl : n ≤ 100000000) :
    Calls Try.prog 64 #[.slice A n c] w fun e w' => ∃ v, e = .returned v ∧ Nrow w' w.heap.size v (tokL p) ∧ Below w.heap.size w w' := by
  obtain ⟨W, hW⟩ : ∃ W, (w.alloc (.map #[] 0)).alloc (.cells #[.slice none 0 0, .map (some w.heap.size)] 118) = W := ⟨_, rfl⟩
  have s1 : (w.alloc (.map #[] 0)).heap.size = w.heap.size + 1 := by simp
  obtain ⟨gh, hgh⟩ : ∃ gh, w.heap.size = gh := ⟨_, rfl⟩
  have hblk : W.heap[gh + 1]? = some (.cells #[.slice none 0 0, .map (some gh)] 118 (0, 0)) := by rw [← hW, ← hgh]; exact s1 ▸ blk_new (w.alloc (.map #[] 0)) _
  have hmap : HMap W gh (fun _ => none) := by rw [← hW, ← hgh]; exact (HMap.new w).same (Below.heap_alloc _ _ _ (by rw [s1]; omega))
  have hBW : Below w.heap.size w W := by rw [← hW]; exact below_alloc (below_alloc (Below.refl _ _) _) _
  have HRES := Aside0.mk (reset_calls w W (gh + 1) gh (.slice none 0 0) A n c _ hblk hmap hBW (by omega) (by omega))
  have HCW := Aside0.mk hC
  have HP := Aside0.mk hp
  have HN := Aside0.mk hn
  have HNC := Aside0.mk hnc
  clear hC hp hn hnc hblk hmap hBW s1
  have hmm := @run_makeMap Try.prog
  rw [hgh] at hW
  go_enter Try.func64, Try.ntmps64
  go_wp2_with (go_at_call 86; refine HRES.out.mono ?_; rintro e' w1 ⟨rfl, hb1, hm1, hbl1⟩; have HB1 := Aside0.mk hb1; have HM1 := Aside0.mk hm1; have HBL1 := Aside0.mk hbl1; clear hb1 hm1 hbl1)
  have hn2 : (n : Int) ≤ 100000000 := by omega
  have HM0 := Aside0.mk (show MSt w1 w.heap.size (gh + 1) gh (.slice A n c) (fun b => b = gh) (headsN p 0) from
    ⟨HB1.out, ⟨_, HM1.out, fun k _ => ⟨.inl ⟨rfl, rfl⟩, fun b hb => by cases hb⟩, fun k q _ _ _ => .inl rfl⟩, fun k => by simp [headsN], rfl, fun b hb => by subst hb; exact ⟨by omega, HM1.out.lt⟩, by omega⟩)
  clear hW HRES HB1 HM1 hmm
  go_loopg [5, 4] (n + 1) (fun q v5 v4 w' => ∃ (i : Nat) (S : Nat → Prop) (os : List Int), v5 = .int .i64 (i : Int) ∧ Aside0 (n + 1 ≤ q + i ∧ i ≤ n ∧ os.length ≤ i) ∧ Aside0 ((Kd.int .i64).R 3 w' w.heap.size (fun b => ¬ S b) v4 os) ∧ Aside0 (MSt w' w.heap.size (gh + 1) gh (.slice A n c) S (headsN p i)) ∧ Aside0 (os ++ tokGo p (n - i) i = tokL p) ∧ Aside0 (Below w.heap.size w w'))
  case atStart => exact ⟨0, _, [], rfl, ⟨by omega, by omega, by simp⟩, ⟨Kd.R_nil _ _ _ _ _⟩, HM0, ⟨by rw [List.nil_append, tokL, HN.out]; rfl⟩, HBL1⟩
  case round =>
    clear HM0 HBL1
    obtain ⟨i, S, os, rfl, HK, HO, HMS, HE, HB⟩ := hrel
    generalize gk = G at *
    have hi0 : (0 : Int) ≤ (i : Int) := by omega
    by_cases hlt : i < n
    · have hlt2 : (i : Int) < (n : Int) := by omega
      obtain ⟨⟨bn, bd⟩, hbest⟩ : ∃ r, bestAt p i = r := ⟨_, rfl⟩
      have hbok := bestAt_ok p i (by have := HN.out; omega)
      have hHE := HE.out
      rw [show n - i = (n - i - 1) + 1 by omega, tokGo_succ, if_pos (by have := HN.out; omega), hbest] at hHE
      rw [hbest] at hbok
      dsimp only at hHE hbok
      have HBE := Aside0.mk hbest
      have HHE := Aside0.mk hHE
      have HCR := Aside0.mk (Kd.C_below HCW.out HB.out)
      have HBO := Aside0.mk hbok
      clear hbest hHE HE hbok
      obtain ⟨mx, hmx⟩ : ∃ mx : Nat, (if bn = 0 then 1 else bn.toNat) = mx := ⟨_, rfl⟩
      obtain ⟨t, ht⟩ : ∃ t : Int, (if bn = 0 then rd p i else bn * 65536 + bd) = t := ⟨_, rfl⟩
      have HMX := Aside0.mk hmx
      have HT := Aside0.mk ht
      have HLO := Aside0.mk (show os.length ≤ 100000000 by have := HK.out; omega)
      have hbn0 : 0 ≤ bn := HBO.out.1
      have hbn1 : bn ≤ 258 := HBO.out.2.1
      have hbd0 : 0 ≤ bd := by have := HBO.out; omega
      have hbd1 : bd ≤ 32768 := by have := HBO.out; omega
      clear hmx ht
      go_upto_if 25 with (go_at_call 87; refine (best_any _ w.heap.size (gh + 1) gh i n c A p S HMS.out HCR.out HP.out HN.out HNC.out (by omega) (by omega)).mono ?_; rintro e' w1 ⟨rfl, hb1⟩; rw [HBE.out]; have HB1 := Aside0.mk hb1; clear hb1)
      have HMS1 := Aside0.mk (HMS.out.below HB1.out)
      have HO1 := Aside0.mk (Kd.R_below HO.out HB1.out)
      have HBB := Aside0.mk (below_then HB.out HB.out.size HB1.out)
      have HC1 := Aside0.mk (Kd.C_below HCR.out HB1.out)
      clear HMS HO HB HCR
      have HMS := HMS1
      have HO := HO1
      have HB := HBB
      clear HMS1 HO1 HBB
      go_cut [6, 4] (fun v6 v4 wx => v6 = .int .i64 (mx : Int) ∧ Aside0 ((Kd.int .i64).R 3 wx w.heap.size (fun b => ¬ S b) v4 (os ++ [t])) ∧ Aside0 (MSt wx w.heap.size (gh + 1) gh (.slice A n c) S (headsN p i)) ∧ Aside0 (Below w.heap.size w wx))
      case first =>
        as_aux_lemma =>
          by_cases h0 : bn = 0
          · subst h0
            obtain ⟨ad, rfl, hcell⟩ := Kd.at_int HC1.out (i : Int) (by omega) (by omega)
            rw [Int.toNat_natCast] at hcell
            have HT2 := Aside0.mk (show rd p i = t by have := HT.out; rwa [if_pos rfl] at this)
            have HMX2 := Aside0.mk (show mx = 1 by have := HMX.out; rw [if_pos rfl] at this; exact this.symm)
            rw [HT2.out] at hcell
            have ht0 : 0 ≤ t := by rw [← HT2.out]; exact (HP.out _).1
            have ht1 : t < 256 := by rw [← HT2.out]; exact (HP.out _).2
            clear hlt
            go_wp2_with (((with_reducible refine gate_builtin (b := .append) (xs := #[.tmp 26, .tmp 32]) rfl ?_); at_builtin; refine Kd.R_append (Kd.int .i64) (w0 := w) w.heap.size rfl (.tmp 26) (.tmp 32) 22 3 ((.int .i64 0)) 8 rfl Try.underlying22 infoInt rfl (by decide) (by decide) u4 os t [.int .i64 (t)] (fun b => ¬ S b) (fun _ => False) rfl ?ax ?aP (fun _ hk => hk.elim) ?af ?aO ?aB ?aS ?aL ?_; (case ax => first | exact rfl | simp [go_sem]); (case aP => exact rfl); (case af => intro k hk hs; have h1 := (HMS.out.lt k hs).2; omega); (case aO => (with_reducible repeat (first | apply Kd.R_alloc | apply Kd.R_drewN | apply Kd.R_drew)); exact HO.out); (case aB => repeat (first | exact HB.out | apply below_alloc | apply pw_below_drewN | apply below_drew1)); (case aS => refine below_size ?_; repeat (first | exact HB.out | apply below_alloc | apply pw_below_drewN | apply below_drew1)); (case aL => have := HLO.out; omega); intro v1 w2 ho hb hg hat; have HO2 := Aside0.mk ho; have HB2 := Aside0.mk hb; have HG2 := Aside0.mk hg; clear ho hb hg hat))
            go_meet
            exact ⟨by first | (rw [HMX2.out]; rfl) | rw [HMX2.out], HO2, ⟨HMS.out.beside HO.out HG2.out⟩, HB2⟩
          · have HT2 := Aside0.mk (show bn * 65536 + bd = t by have := HT.out; rwa [if_neg h0] at this)
            have HMX2 := Aside0.mk (show (mx : Int) = bn by have := HMX.out; rw [if_neg h0] at this; omega)
            have hwt : wrap64 (bn * 65536 + bd) = t := by rw [HT2.out]; have := HT2.out; unfold wrap64; omega
            have ht2 : bn * 65536 + bd = t := HT2.out
            clear hlt
            go_wp2_with (((with_reducible refine gate_builtin (b := .append) (xs := #[.tmp 34, .tmp 39]) rfl ?_); at_builtin; refine Kd.R_append (Kd.int .i64) (w0 := w) w.heap.size rfl (.tmp 34) (.tmp 39) 22 3 ((.int .i64 0)) 8 rfl Try.underlying22 infoInt rfl (by decide) (by decide) u4 os t [.int .i64 (t)] (fun b => ¬ S b) (fun _ => False) rfl ?ax ?aP (fun _ hk => hk.elim) ?af ?aO ?aB ?aS ?aL ?_; (case ax => first | exact rfl | simp [go_sem]); (case aP => exact rfl); (case af => intro k hk hs; have h1 := (HMS.out.lt k hs).2; omega); (case aO => (with_reducible repeat (first | apply Kd.R_alloc | apply Kd.R_drewN | apply Kd.R_drew)); exact HO.out); (case aB => repeat (first | exact HB.out | apply below_alloc | apply pw_below_drewN | apply below_drew1)); (case aS => refine below_size ?_; repeat (first | exact HB.out | apply below_alloc | apply pw_below_drewN | apply below_drew1)); (case aL => have := HLO.out; omega); intro v1 w2 ho hb hg hat; have HO2 := Aside0.mk ho; have HB2 := Aside0.mk hb; have HG2 := Aside0.mk hg; clear ho hb hg hat))
            go_meet
            exact ⟨by first | (rw [HMX2.out]; rfl) | rw [HMX2.out], HO2, ⟨HMS.out.beside HO.out HG2.out⟩, HB2⟩
      case rest =>
        clear HMS HO HB HC1 HB1
        obtain ⟨rfl, HO, HMS, HB⟩ := hcut
        have HMX3 := Aside0.mk (show 1 ≤ mx ∧ mx ≤ 258 ∧ i + mx ≤ n by have h1 := HMX.out; have h2 := HBO.out; have h3 := HN.out; split at h1 <;> omega)
        have hmx0 : (0 : Int) ≤ (mx : Int) := by omega
        have hmx1 : (mx : Int) ≤ 258 := by have := HMX3.out; omega
        go_wp2
        go_loopg [42, 5] (mx + 1) (fun q v42 v5 w' => ∃ (j : Nat) (S' : Nat → Prop), v42 = .int .i64 (j : Int) ∧ v5 = .int .i64 ((i + j : Nat) : Int) ∧ Aside0 (q + j = mx + 1 ∧ j ≤ mx) ∧ Aside0 ((Kd.int .i64).R 3 w' w.heap.size (fun b => ¬ S' b) u4 (os ++ [t])) ∧ Aside0 (MSt w' w.heap.size (gh + 1) gh (.slice A n c) S' (headsN p (i + j))) ∧ Aside0 (Below w.heap.size w w'))
        case atStart => exact ⟨0, S, rfl, rfl, ⟨by omega, by omega⟩, HO, HMS, HB⟩
        case round =>
          have HK0 := HK
          clear HO HMS HB HK
          obtain ⟨j, S', rfl, rfl, HK, HO, HMS, HB⟩ := hrel
          by_cases hj : j < mx
          · have hj2 : (j : Int) < (mx : Int) := by omega
            have hj0 : (0 : Int) ≤ (j : Int) := by omega
            obtain ⟨at_, hat⟩ : ∃ a, i + j = a := ⟨_, rfl⟩
            rw [hat] at HMS ⊢
            have hat1 : (at_ : Int) ≤ 100000000 := by have := HMX3.out; omega
            have hat0 : (0 : Int) ≤ (at_ : Int) := by omega
            have HCR := Aside0.mk (Kd.C_below HCW.out HB.out)
            have HAT := Aside0.mk hat
            clear hat hlt
            go_wp2_with (go_at_call 88; refine (add_any w _ (gh + 1) gh at_ n c A p S' HMS.out HCR.out HP.out HN.out HNC.out (by omega) (by omega) HB.out).mono ?_; rintro e' w2 ⟨rfl, S2, hm2, hs2, hk2, hb2⟩; have HM2 := Aside0.mk hm2; have HO2 := Aside0.mk (R_added HO.out hs2 hk2); have HB2 := Aside0.mk hb2; clear hm2 hs2 hk2 hb2)
            go_roundg (gk - 1)
            case measure => have := HK.out; omega
            case rel => exact ⟨j + 1, S2, (by go_num), (by rw [← HAT.out]; go_num), ⟨by have := HK.out; omega, by omega⟩, HO2, ⟨by have := HM2.out; rwa [← HAT.out] at this⟩, HB2⟩
          · have hjm : j = mx := by have := HK.out; omega
            subst hjm
            have HE2 := Aside0.mk (show (os ++ [t]) ++ tokGo p (n - (i + j)) (i + j) = tokL p by
              have h1 := HHE.out
              have h2 := HT.out
              have h3 := HMX.out
              have h4 := HMX3.out
              have h5 := tokGo_any p (i + j) (j - 1)
              rw [HN.out, show n - (i + j) + (j - 1) = n - i - 1 by omega] at h5
              rw [List.append_assoc, ← h1, ← h5]
              congr 1
              by_cases h0 : bn = 0
              · rw [if_pos h0] at h2 h3 ⊢
                rw [← h2, ← h3]
                rfl
              · rw [if_neg h0] at h2 h3 ⊢
                rw [← h2, ← h3]
                rfl)
            go_wp2
            go_roundg (G - 1)
            case measure => have := HK0.out; have := HMX3.out; omega
            case rel => exact ⟨i + j, S', os ++ [t], rfl, ⟨by have := HK0.out; have := HMX3.out; omega, by have := HMX3.out; omega, by rw [List.length_append]; have := HK0.out; have := HMX3.out; simp; omega⟩, HO, HMS, HE2, HB⟩
    · have hin : i = n := by have := HK.out; omega
      have HF := Aside0.mk (show os = tokL p by have := HE.out; rwa [hin, Nat.sub_self, tokGo, List.append_nil] at this)
      have hlt2 : (n : Int) ≤ (i : Int) := by omega
      go_wp2
      go_ret
      exact ⟨_, rfl, by rw [← HF.out]; exact Kd.R_mono HO.out (fun _ _ => trivial), HB.out⟩
end Go.Proofs.Ytldhpniflnbilaa
