/- slices.symMergeCmpFunc: the whole. -/
import Derived.Test.YtldhpniflnbilaaProg
import Derived.Below
import Derived.Deep.Draws
import Derived.Deep.AppendLies
import Derived.Maps.AppendAt
import Derived.OwnWalk
import Derived.Laws.BytesArg
import Derived.Laws.MakeOwn
import Derived.Laws.OwnMore
import Derived.Deep.OwnRows
import Derived.Tactics
import Derived.Lib.ConvBytes
import Derived.Laws.Slices
import Derived.WalkKit
import Derived.KernelRfl
import Derived.RowKit3
import Derived.Deep.LoopGhost
import Derived.Deep.QuietTactic
import Derived.BigQuiet
import Derived.WideLaws
import Derived.Deep.DeepCutAuto
import Derived.Deep.CutBlock
import Derived.Deep.RegionHeld3
import Derived.Laws.Rows
import Derived.Lib.AppendStr
import Derived.ArgAppend
import Derived.Laws.IdiomCopy
import Derived.OrdersHeld
import Derived.Laws.BitsLemmas
import Derived.RowKit
import Derived.Outline
import Derived.Test.YtldhpniflnbilaaV34s
import Derived.Test.YtldhpniflnbilaaKAvv
set_option linter.unusedVariables false
set_option linter.unusedSimpArgs false
namespace Go.Proofs.Ytldhpniflnbilaa
open Go.RowKit Go.Proofs.YtldhpniflnbilaaW.PrintWords Go.Proofs.YtldhpniflnbilaaW.PrintLast Go.Proofs.YtldhpniflnbilaaW.PrintMore

theorem mem_upN {l : List Z} {a : Nat} : ∀ {k : Nat} {z : Z}, z ∈ upN l a k → z ∈ l
  | 0, _, h => h
  | _ + 1, _, h => mem_upN (mem_swp h)
theorem mem_dnN {l : List Z} {m : Nat} : ∀ {k : Nat} {z : Z}, z ∈ dnN l m k → z ∈ l
  | 0, _, h => h
  | _ + 1, _, h => mem_dnN (mem_swp h)
theorem mem_swapN {α : Type} {l : List α} {a b : Nat} : ∀ {k : Nat} {z : α}, z ∈ swapN l a b k → z ∈ l
  | 0, _, h => h
  | _ + 1, _, h => mem_swapN (mem_swp h)
theorem mem_rotM {α : Type} {m : Nat} : ∀ {k : Nat} {l : List α} {i j : Nat} {z : α}, z ∈ rotM m k l i j → z ∈ l
  | 0, _, _, _, _, h => h
  | k + 1, l, i, j, z, h => by
    unfold rotM at h
    split at h
    · exact mem_swapN h
    · split at h
      · exact mem_swapN (mem_rotM h)
      · exact mem_swapN (mem_rotM h)
theorem mem_symM : ∀ {k : Nat} {l : List Z} {a m b : Nat} {z : Z}, z ∈ symM k l a m b → z ∈ l
  | 0, _, _, _, _, _, h => h
  | k + 1, l, a, m, b, z, h => by
    unfold symM at h
    split at h
    · exact mem_upN h
    · split at h
      · exact mem_dnN h
      · dsimp only at h
        have e1 : ∀ {z}, z ∈ (if symStart l a m b < m ∧ m < (a + b) / 2 + m - symStart l a m b then rotM m ((a + b) / 2 + m - symStart l a m b - symStart l a m b) l (m - symStart l a m b) ((a + b) / 2 + m - symStart l a m b - m) else l) → z ∈ l := by
          intro z hz
          split at hz
          · exact mem_rotM hz
          · exact hz
        have e2 : ∀ {z}, z ∈ (if a < symStart l a m b ∧ symStart l a m b < (a + b) / 2 then symM k (if symStart l a m b < m ∧ m < (a + b) / 2 + m - symStart l a m b then rotM m ((a + b) / 2 + m - symStart l a m b - symStart l a m b) l (m - symStart l a m b) ((a + b) / 2 + m - symStart l a m b - m) else l) a (symStart l a m b) ((a + b) / 2) else (if symStart l a m b < m ∧ m < (a + b) / 2 + m - symStart l a m b then rotM m ((a + b) / 2 + m - symStart l a m b - symStart l a m b) l (m - symStart l a m b) ((a + b) / 2 + m - symStart l a m b - m) else l)) → z ∈ l := by
          intro z hz
          split at hz
          · exact e1 (mem_symM hz)
          · exact e1 hz
        split at h
        · exact e2 (mem_symM h)
        · exact e2 h
theorem swapN_map {α β : Type} (f : α → β) (l : List α) (a b : Nat) : ∀ k, swapN (l.map f) a b k = (swapN l a b k).map f
  | 0 => rfl
  | k + 1 => by rw [swapN, swapN_map f l a b k, swp_map]; rfl
theorem rotM_map {α β : Type} (f : α → β) (m : Nat) : ∀ k (l : List α) i j, rotM m k (l.map f) i j = (rotM m k l i j).map f
  | 0, l, i, j => rfl
  | k + 1, l, i, j => by
    unfold rotM
    split
    · exact swapN_map f l _ _ _
    · split <;> rw [swapN_map, rotM_map f m k]
theorem rotate_callsZ (base g c n : Nat) (a m b : Int) (zs : List Z) (f : Value) (w : World) (hr : Prow w base g n c (zs.map (·.1))) (h0 : 0 ≤ a) (ham : a < m) (hmb : m < b) (hb : b ≤ n) (hl : n ≤ 1000000) :
    Calls Try.prog 129 #[.slice (some ⟨g, 0, none⟩) n c, .int .i64 a, .int .i64 m, .int .i64 b, f] w fun e w' => e = .returned (.tuple #[]) ∧ Prow w' base g n c ((rotM m.toNat (b.toNat - a.toNat) zs (m.toNat - a.toNat) (b.toNat - m.toNat)).map (·.1)) ∧ w.grownBy w' (some g) := by
  obtain ⟨a, rfl⟩ := Int.eq_ofNat_of_zero_le h0
  obtain ⟨m, rfl⟩ := Int.eq_ofNat_of_zero_le (by omega : 0 ≤ m)
  obtain ⟨b, rfl⟩ := Int.eq_ofNat_of_zero_le (by omega : 0 ≤ b)
  rw [← rotM_map]
  exact rotate_calls base g c n a m b _ f w hr (by omega) (by omega) (by omega) hl


set_option maxHeartbeats 8000000 in
set_option maxRecDepth 100000 in
theorem sym_main (base g c n a m b : Nat) (zs : List Z) (w : World) (K : Nat)
    (ih : Aside0 (∀ (a' m' b' : Int) (ys : List Z) (w1 : World), Prow w1 base g n c (ys.map (·.1)) → Zat w1 ys → 0 ≤ a' → a' < m' → m' < b' → b' ≤ n → b' - a' ≤ K →
      Calls Try.prog 127 #[.slice (some ⟨g, 0, none⟩) n c, .int .i64 a', .int .i64 m', .int .i64 b', .func (.func 80) #[] #[]] w1 fun e w' => e = .returned (.tuple #[]) ∧ Prow w' base g n c ((symM K ys a'.toNat m'.toNat b'.toNat).map (·.1)) ∧ w1.grownBy w' (some g)))
    (hr : Prow w base g n c (zs.map (·.1))) (hz : Zat w zs) (ham : a + 1 < m) (hmb : m + 1 < b) (hb : b ≤ n) (hl : n ≤ 1000000) (hK : b - a ≤ K + 1) :
    Calls Try.prog 127 #[.slice (some ⟨g, 0, none⟩) n c, .int .i64 a, .int .i64 m, .int .i64 b, .func (.func 80) #[] #[]] w fun e w' => e = .returned (.tuple #[]) ∧ Prow w' base g n c ((symM (K + 1) zs a m b).map (·.1)) ∧ w.grownBy w' (some g) := by
  have HR := Aside0.mk hr
  have HZ := Aside0.mk hz
  have HN := Aside0.mk (show zs.length = n by have := hr.len; simpa using this)
  clear hr hz
  obtain ⟨mid, hmid⟩ : ∃ mid, (a + b) / 2 = mid := ⟨_, rfl⟩
  have hm2 : ((a : Int) + (b : Int)) / 2 = (mid : Int) := by omega
  have hm3 : a + 1 ≤ mid ∧ mid + 1 ≤ b := by omega
  obtain ⟨p, hp⟩ : ∃ p, mid + m - 1 = p := ⟨_, rfl⟩
  have hp2 : mid + m = p + 1 := by omega
  obtain ⟨s0, hs0⟩ : ∃ s0, (if mid < m then mid + m - b else a) = s0 := ⟨_, rfl⟩
  obtain ⟨r0, hr0⟩ : ∃ r0, (if mid < m then mid else m) = r0 := ⟨_, rfl⟩
  have hF : r0 ≤ p ∧ r0 < b ∧ s0 ≤ r0 ∧ p + 1 ≤ s0 + b ∧ a ≤ s0 ∧ r0 ≤ m ∧ r0 ≤ mid := by
    rw [← hs0, ← hr0]
    split <;> omega
  obtain ⟨s, hs⟩ : ∃ s, symStart zs a m b = s := ⟨_, rfl⟩
  have HS := Aside0.mk (show bsN (fun c => !decide (kz zs (p - c) < kz zs c)) (b - a + 1) s0 r0 = s by rw [← hs, symStart, hmid, hp, hs0, hr0])
  have HF := Aside0.mk (show symM (K + 1) zs a m b = (if mid < mid + m - s ∧ mid + m - s < b then symM K (if a < s ∧ s < mid then symM K (if s < m ∧ m < mid + m - s then rotM m (mid + m - s - s) zs (m - s) (mid + m - s - m) else zs) a s mid else (if s < m ∧ m < mid + m - s then rotM m (mid + m - s - s) zs (m - s) (mid + m - s - m) else zs)) mid (mid + m - s) b else (if a < s ∧ s < mid then symM K (if s < m ∧ m < mid + m - s then rotM m (mid + m - s - s) zs (m - s) (mid + m - s - m) else zs) a s mid else (if s < m ∧ m < mid + m - s then rotM m (mid + m - s - s) zs (m - s) (mid + m - s - m) else zs))) by
    rw [symM, if_neg (by omega), if_neg (by omega), hs, hmid])
  have HS0 := Aside0.mk hs0
  have HR0 := Aside0.mk hr0
  have HP2 := Aside0.mk hp2
  have HMID := Aside0.mk hmid
  have hp3 : (mid : Int) + (m : Int) = (p : Int) + 1 := by omega
  clear hs hs0 hr0 hp hp2 hmid
  have ht1 : (((m : Int) - (a : Int)) == 1) = false := by rw [beq_eq_false_iff_ne]; omega
  have ht2 : (((b : Int) - (m : Int)) == 1) = false := by rw [beq_eq_false_iff_ne]; omega
  go_enter Try.func127, Try.ntmps127
  go_upto_if 140 with (fail)
  go_cut [20, 21] (fun v20 v21 wx => v20 = .int .i64 (s0 : Int) ∧ v21 = .int .i64 (r0 : Int) ∧ w = wx)
  case first =>
    as_aux_lemma =>
      by_cases hc : mid < m
      · have h0 := HS0.out
        have h1 := HR0.out
        rw [if_pos hc] at h0 h1
        have h2 : (p : Int) + 1 - (b : Int) = (s0 : Int) := by omega
        have h3 : (mid : Int) = (r0 : Int) := by omega
        have H3 := Aside0.mk h3
        clear h0 h1 h3
        go_wp2
        go_meet
        exact ⟨rfl, by rw [H3.out], rfl⟩
      · have h0 := HS0.out
        have h1 := HR0.out
        rw [if_neg hc] at h0 h1
        have H0 := Aside0.mk h0
        have H1 := Aside0.mk h1
        clear h0 h1
        go_wp2
        go_meet
        exact ⟨by rw [H0.out], by rw [H1.out], rfl⟩
  case rest =>
    obtain ⟨rfl, rfl, rfl⟩ := hcut
    clear ht1 ht2
    go_wp2
    go_loopg [20, 21] (b - a + 1) (fun q v20 v21 w' => ∃ (i j : Nat), v20 = .int .i64 (i : Int) ∧ v21 = .int .i64 (j : Int) ∧ (s0 ≤ i ∧ i ≤ j ∧ j ≤ r0) ∧ Aside0 (j - i + 1 ≤ q) ∧ Aside0 (bsN (fun c => !decide (kz zs (p - c) < kz zs c)) q i j = s) ∧ Aside0 (Prow w' base g n c (zs.map (·.1))) ∧ Aside0 (w.grownBy w' (some g)))
    case atStart => exact ⟨s0, r0, rfl, rfl, ⟨by omega, by omega, by omega⟩, ⟨by omega⟩, HS, HR, ⟨World.grownBy.refl _ _⟩⟩
    case round =>
      obtain ⟨i, j, rfl, rfl, ⟨hi, hij, hjb⟩, HK, HE, HP, HG⟩ := hrel
      have hgk : 0 < gk := by have := HK.out; omega
      obtain ⟨k1, hk1⟩ : ∃ k1, gk = k1 + 1 := ⟨gk - 1, by omega⟩
      have HE1 := Aside0.mk (show bsN (fun c => !decide (kz zs (p - c) < kz zs c)) (k1 + 1) i j = s by rw [← hk1]; exact HE.out)
      have HK1 := Aside0.mk hk1
      clear hk1 hgk HE
      by_cases hlt : i < j
      · as_aux_lemma =>
        obtain ⟨h, hh⟩ : ∃ h, (i + j) / 2 = h := ⟨_, rfl⟩
        have hh2 : ((i : Int) + (j : Int)) / 2 = (h : Int) := by omega
        have hh3 : i ≤ h ∧ h < j := by omega
        have HH := Aside0.mk hh
        clear hh
        obtain ⟨x, hx⟩ : ∃ x, p - h = x := ⟨_, rfl⟩
        have hx2 : (p : Int) - (h : Int) = (x : Int) := by omega
        have hx3 : IntKind.i64.wrap (x : Int) = (x : Int) := by rw [i64_w]; unfold wrap64; omega
        have hx4 : x < n := by omega
        have HXP := Aside0.mk (show kz zs x = kz zs (p - h) by rw [hx])
        clear hx
        go_wp2
        have hj1 : x < zs.length := by rw [HN.out]; omega
        have hj2 : h < zs.length := by rw [HN.out]; omega
        have HA0 := Aside0.mk ((HZ.out _ (List.getElem_mem hj1)).same (HR.out.same HG.out))
        have HA1 := Aside0.mk ((HZ.out _ (List.getElem_mem hj2)).same (HR.out.same HG.out))
        have hc1 := HP.out.cell x (by simpa using hj1)
        have hc2 := HP.out.cell h (by simpa using hj2)
        simp only [List.getElem_map] at hc1 hc2
        have hb1 : (x : Int) < (n : Int) := by omega
        have hb2 : (h : Int) < (n : Int) := by omega
        have hb3 : (0 : Int) ≤ (x : Int) := by omega
        have hb4 : (0 : Int) ≤ (h : Int) := by omega
        have HW1 := Aside0.mk (kz_at zs x hj1)
        have HW2 := Aside0.mk (kz_at zs h hj2)
        by_cases hw : (zs[x]).2.wt < (zs[h]).2.wt
        · have HW := Aside0.mk hw
          have HC := Aside0.mk (show decide (kz zs x < kz zs h) = true by rw [HW1.out, HW2.out]; exact decide_eq_true hw)
          clear hw HW1 HW2
          generalize hzx : zs[x] = zx at *
          generalize hzy : zs[h] = zy at *
          obtain ⟨px, tx⟩ := zx
          obtain ⟨py, ty⟩ := zy
          clear hzx hzy hj1 hj2
          dsimp only at HA0 HA1 hc1 hc2 HW
          go_quiet ((go_at_call 80; exact Calls.quiet_of (cmp_yes px py tx ty _ (HA0.out.same (Same.drewN _ _)) (HA1.out.same (Same.drewN _ _)) HW.out)))
          go_wp2
          go_roundg k1
          case measure => have := HK1.out; omega
          case rel => exact ⟨i, h, rfl, rfl, ⟨by omega, by omega, by omega⟩, ⟨by have := HK.out; have := HK1.out; omega⟩, ⟨by have := HE1.out; unfold bsN at this; rw [if_pos hlt, HH.out] at this; rwa [if_neg (by rw [← HXP.out, HC.out]; simp)] at this⟩, ⟨Kd.R_drewN HP.out _⟩, ⟨gby_drewN HG.out _⟩⟩
        · have HW := Aside0.mk hw
          have HC := Aside0.mk (show decide (kz zs x < kz zs h) = false by rw [HW1.out, HW2.out]; exact decide_eq_false hw)
          clear hw HW1 HW2
          generalize hzx : zs[x] = zx at *
          generalize hzy : zs[h] = zy at *
          obtain ⟨px, tx⟩ := zx
          obtain ⟨py, ty⟩ := zy
          clear hzx hzy hj1 hj2
          dsimp only at HA0 HA1 hc1 hc2 HW
          have hv0 := cmpT_no tx ty HW.out
          obtain ⟨v, hv⟩ : ∃ v, cmpT tx ty = v := ⟨_, rfl⟩
          rw [hv] at hv0
          have hv1 : decide (v < 0) = false := by simp; omega
          have HV := Aside0.mk hv
          clear hv
          go_quiet ((go_at_call 80; exact Calls.quiet_of (cmp_no px py tx ty v _ (HA0.out.same (Same.drewN _ _)) (HA1.out.same (Same.drewN _ _)) HV.out)))
          go_wp2
          go_roundg k1
          case measure => have := HK1.out; omega
          case rel => exact ⟨h + 1, j, (by go_num), rfl, ⟨by omega, by omega, by omega⟩, ⟨by have := HK.out; have := HK1.out; omega⟩, ⟨by have := HE1.out; unfold bsN at this; rw [if_pos hlt, HH.out] at this; rwa [if_pos (by rw [← HXP.out, HC.out]; rfl)] at this⟩, ⟨Kd.R_drewN HP.out _⟩, ⟨gby_drewN HG.out _⟩⟩
      · have his : i = s := by have := HE1.out; unfold bsN at this; rwa [if_neg hlt] at this
        subst his
        clear HE1 HK HK1
        obtain ⟨e, he⟩ : ∃ e, p + 1 - i = e := ⟨_, rfl⟩
        have he2 : (p : Int) + 1 - (i : Int) = (e : Int) := by omega
        have he3 : e ≤ b ∧ 1 ≤ e := by omega
        have HF1 := HF.out
        rw [show mid + m - i = e by have := HP2.out; omega] at HF1
        clear he
        obtain ⟨l1, hl1⟩ : ∃ l1, (if i < m ∧ m < e then rotM m (e - i) zs (m - i) (e - m) else zs) = l1 := ⟨_, rfl⟩
        rw [hl1] at HF1
        obtain ⟨l2, hl2⟩ : ∃ l2, (if a < i ∧ i < mid then symM K l1 a i mid else l1) = l2 := ⟨_, rfl⟩
        rw [hl2] at HF1
        have HF2 := Aside0.mk HF1
        have HL1 := Aside0.mk hl1
        have HL2 := Aside0.mk hl2
        have HZ1 := Aside0.mk (show ∀ z ∈ l1, z ∈ zs by rw [← hl1]; intro z hz; split at hz; exact mem_rotM hz; exact hz)
        have HZ2 := Aside0.mk (show ∀ z ∈ l2, z ∈ zs by rw [← hl2]; intro z hz; split at hz; exact HZ1.out z (mem_symM hz); exact HZ1.out z hz)
        clear HF1 hl1 hl2 HF HS0 HR0
        go_upto_region 39 with (fail)
        go_cut [185] (fun v wx => v = .bool (decide (i < m ∧ m < e)) ∧ Aside0 (Prow wx base g n c (zs.map (·.1))) ∧ Aside0 (w.grownBy wx (some g)))
        case first =>
          as_aux_lemma =>
            by_cases hc1 : i < m
            · by_cases hc2 : m < e
              · have H1 := Aside0.mk (decide_eq_true (show i < m ∧ m < e from ⟨hc1, hc2⟩))
                go_wp2
                go_meet
                exact ⟨by rw [H1.out], HP, HG⟩
              · have H1 := Aside0.mk (decide_eq_false (show ¬ (i < m ∧ m < e) from fun h => hc2 h.2))
                go_wp2
                go_meet
                exact ⟨by rw [H1.out], HP, HG⟩
            · have H1 := Aside0.mk (decide_eq_false (show ¬ (i < m ∧ m < e) from fun h => hc1 h.1))
              go_wp2
              go_meet
              exact ⟨by rw [H1.out], HP, HG⟩
        case rest =>
        clear HP HG
        obtain ⟨rfl, HP, HG⟩ := hcut
        obtain ⟨t, ht⟩ : ∃ t, decide (i < m ∧ m < e) = t := ⟨_, rfl⟩
        rw [ht]
        have HT := Aside0.mk ht
        clear ht
        go_upto_if 185 with (fail)
        go_cut [] (fun wx => Aside0 (Prow wx base g n c (l1.map (·.1))) ∧ Aside0 (w.grownBy wx (some g)))
        case first =>
          as_aux_lemma =>
            cases t with
            | true =>
              obtain ⟨hc1, hc2⟩ := of_decide_eq_true HT.out
              · have H1 := Aside0.mk (show rotM m (e - i) zs (m - i) (e - m) = l1 by rw [← HL1.out, if_pos ⟨hc1, hc2⟩])
                go_wp2_with (go_at_call 129; refine (rotate_callsZ base g c n _ _ _ zs _ _ HP.out (by omega) (by omega) (by omega) (by omega) (by omega)).mono ?_; rintro e' w1 ⟨rfl, hp1, hg1⟩; have HP1 := Aside0.mk hp1; have HG1 := Aside0.mk hg1; clear hp1 hg1)
                go_meet
                exact ⟨⟨by rw [← H1.out]; exact HP1.out⟩, ⟨HG.out.trans HG1.out⟩⟩
            | false =>
              have hc1 := of_decide_eq_false HT.out
              have H1 := Aside0.mk (show zs = l1 by rw [← HL1.out, if_neg hc1])
              go_wp2
              go_meet
              exact ⟨⟨by rw [← H1.out]; exact HP.out⟩, HG⟩
        case rest =>
          clear HP HG
          obtain ⟨HP, HG⟩ := hcut
          go_upto_region 41 with (fail)
          go_cut [199] (fun v wx => v = .bool (decide (a < i ∧ i < mid)) ∧ Aside0 (Prow wx base g n c (l1.map (·.1))) ∧ Aside0 (w.grownBy wx (some g)))
          case first =>
            as_aux_lemma =>
              by_cases hc1 : a < i
              · by_cases hc2 : i < mid
                · have H1 := Aside0.mk (decide_eq_true (show a < i ∧ i < mid from ⟨hc1, hc2⟩))
                  go_wp2
                  go_meet
                  exact ⟨by rw [H1.out], HP, HG⟩
                · have H1 := Aside0.mk (decide_eq_false (show ¬ (a < i ∧ i < mid) from fun h => hc2 h.2))
                  go_wp2
                  go_meet
                  exact ⟨by rw [H1.out], HP, HG⟩
              · have H1 := Aside0.mk (decide_eq_false (show ¬ (a < i ∧ i < mid) from fun h => hc1 h.1))
                go_wp2
                go_meet
                exact ⟨by rw [H1.out], HP, HG⟩
          case rest =>
          clear HP HG
          obtain ⟨rfl, HP, HG⟩ := hcut
          obtain ⟨t2, ht2⟩ : ∃ t, decide (a < i ∧ i < mid) = t := ⟨_, rfl⟩
          rw [ht2]
          have HT2 := Aside0.mk ht2
          clear ht2
          go_upto_if 199 with (fail)
          go_cut [] (fun wx => Aside0 (Prow wx base g n c (l2.map (·.1))) ∧ Aside0 (w.grownBy wx (some g)))
          case first =>
            as_aux_lemma =>
              cases t2 with
              | true =>
                obtain ⟨hc1, hc2⟩ := of_decide_eq_true HT2.out
                · have H1 := Aside0.mk (show symM K l1 a i mid = l2 by rw [← HL2.out, if_pos ⟨hc1, hc2⟩])
                  have HZ3 := Aside0.mk (fun z hz => (HZ.out z (HZ1.out z hz)).same (HR.out.same HG.out) : Zat wc l1)
                  go_wp2_with (go_at_call 127; refine (ih.out _ _ _ l1 _ HP.out HZ3.out (by omega) (by omega) (by omega) (by omega) (by omega)).mono ?_; rintro e' w1 ⟨rfl, hp1, hg1⟩; have HP1 := Aside0.mk hp1; have HG1 := Aside0.mk hg1; clear hp1 hg1)
                  go_meet
                  exact ⟨⟨by rw [← H1.out]; exact HP1.out⟩, ⟨HG.out.trans HG1.out⟩⟩
              | false =>
                have hc1 := of_decide_eq_false HT2.out
                have H1 := Aside0.mk (show l1 = l2 by rw [← HL2.out, if_neg hc1])
                go_wp2
                go_meet
                exact ⟨⟨by rw [← H1.out]; exact HP.out⟩, HG⟩
          case rest =>
            clear HP HG
            obtain ⟨HP, HG⟩ := hcut
            by_cases hc1 : mid < e
            · by_cases hc2 : e < b
              · have H1 := Aside0.mk (show symM (K + 1) zs a m b = symM K l2 mid e b by rw [HF2.out, if_pos ⟨hc1, hc2⟩])
                have HZ3 := Aside0.mk (fun z hz => (HZ.out z (HZ2.out z hz)).same (HR.out.same HG.out) : Zat wc l2)
                go_wp2_with (go_at_call 127; refine (ih.out _ _ _ l2 _ HP.out HZ3.out (by omega) (by omega) (by omega) (by omega) (by omega)).mono ?_; rintro e' w1 ⟨rfl, hp1, hg1⟩; have HP1 := Aside0.mk hp1; have HG1 := Aside0.mk hg1; clear hp1 hg1)
                go_end0
                exact ⟨rfl, by rw [H1.out]; exact HP1.out, HG.out.trans HG1.out⟩
              · have H1 := Aside0.mk (show symM (K + 1) zs a m b = l2 by rw [HF2.out, if_neg (fun h => hc2 h.2)])
                go_wp2
                go_end0
                exact ⟨rfl, by rw [H1.out]; exact HP.out, HG.out⟩
            · have H1 := Aside0.mk (show symM (K + 1) zs a m b = l2 by rw [HF2.out, if_neg (fun h => hc1 h.1)])
              go_wp2
              go_end0
              exact ⟨rfl, by rw [H1.out]; exact HP.out, HG.out⟩

theorem sym_calls (base g c n : Nat) (hl : n ≤ 1000000) : ∀ (K : Nat) (a m b : Int) (zs : List Z) (w : World), Prow w base g n c (zs.map (·.1)) → Zat w zs → 0 ≤ a → a < m → m < b → b ≤ n → b - a ≤ K →
    Calls Try.prog 127 #[.slice (some ⟨g, 0, none⟩) n c, .int .i64 a, .int .i64 m, .int .i64 b, .func (.func 80) #[] #[]] w fun e w' => e = .returned (.tuple #[]) ∧ Prow w' base g n c ((symM K zs a.toNat m.toNat b.toNat).map (·.1)) ∧ w.grownBy w' (some g) := by
  intro K
  induction K with
  | zero => intro a m b zs w _ _ _ _ _ _ _; omega
  | succ K ih =>
    intro a m b zs w hr hz h0 ham hmb hb hK
    obtain ⟨a, rfl⟩ := Int.eq_ofNat_of_zero_le h0
    obtain ⟨m, rfl⟩ := Int.eq_ofNat_of_zero_le (by omega : 0 ≤ m)
    obtain ⟨b, rfl⟩ := Int.eq_ofNat_of_zero_le (by omega : 0 ≤ b)
    simp only [Int.toNat_natCast]
    by_cases h1 : a + 1 = m
    · rw [symM, if_pos (by omega)]
      exact sym_one base g c n a m b zs w hr hz h1 (by omega) (by omega) hl
    · by_cases h2 : m + 1 = b
      · rw [symM, if_neg (by omega), if_pos (by omega)]
        exact sym_two base g c n a m b zs w hr hz (by omega) h2 (by omega) hl
      · exact sym_main base g c n a m b zs w K ⟨ih⟩ hr hz (by omega) (by omega) (by omega) hl (by omega)
end Go.Proofs.Ytldhpniflnbilaa
/- slices.SortStableFunc over rows of items. -/
set_option linter.unusedVariables false
set_option linter.unusedSimpArgs false
namespace Go.Proofs.Ytldhpniflnbilaa
open Go.RowKit Go.Proofs.YtldhpniflnbilaaW.PrintWords Go.Proofs.YtldhpniflnbilaaW.PrintLast Go.Proofs.YtldhpniflnbilaaW.PrintMore

theorem insert_callsI (base g c n : Nat) (a b : Int) (zs : List Z) (w : World) (hr : Prow w base g n c (zs.map (·.1))) (hz : Zat w zs) (h0 : 0 ≤ a) (hab : a ≤ b) (hb : b ≤ n) (hl : n ≤ 1000000) :
    Calls Try.prog 126 #[.slice (some ⟨g, 0, none⟩) n c, .int .i64 a, .int .i64 b, .func (.func 80) #[] #[]] w fun e w' => e = .returned (.tuple #[]) ∧ Prow w' base g n c ((insO zs a.toNat (b.toNat - a.toNat - 1)).map (·.1)) ∧ (∀ z ∈ insO zs a.toNat (b.toNat - a.toNat - 1), z ∈ zs) ∧ w.grownBy w' (some g) := by
  obtain ⟨a, rfl⟩ := Int.eq_ofNat_of_zero_le h0
  obtain ⟨b, rfl⟩ := Int.eq_ofNat_of_zero_le (by omega : 0 ≤ b)
  exact insert_calls base g c n a b zs w hr hz (by omega) (by omega) hl

def stI (n : Nat) : Nat → List Z → Nat → List Z
  | 0, l, _ => l
  | k + 1, l, a => if a + 20 ≤ n then stI n k (insO l a 19) (a + 20) else insO l a (n - a - 1)
def stP (n s : Nat) : Nat → List Z → Nat → List Z
  | 0, l, _ => l
  | k + 1, l, a => if a + 2 * s ≤ n then stP n s k (symM n l a (a + s) (a + 2 * s)) (a + 2 * s) else if a + s < n then symM n l a (a + s) n else l
def stO (n : Nat) : Nat → List Z → Nat → List Z
  | 0, l, _ => l
  | k + 1, l, s => if s < n then stO n k (stP n s (n + 1) l 0) (2 * s) else l
def stM (n : Nat) (l : List Z) : List Z := stO n (n + 1) (stI n (n + 1) l 0) 20
theorem Zat.same {w w1 : World} {zs : List Z} (h : Zat w zs) (hs : Same w w1) : Zat w1 zs := fun z hz => (h z hz).same hs
theorem Zat.sub {w : World} {zs ys : List Z} (h : Zat w zs) (hs : ∀ z ∈ ys, z ∈ zs) : Zat w ys := fun z hz => h z (hs z hz)

set_option maxHeartbeats 8000000 in
set_option maxRecDepth 100000 in
theorem stable_calls (base g c n : Nat) (zs : List Z) (w : World) (hr : Prow w base g n c (zs.map (·.1))) (hz : Zat w zs) (hl : Aside0 (n ≤ 1000000)) :
    Calls Try.prog 107 #[.slice (some ⟨g, 0, none⟩) n c, .int .i64 n, .func (.func 80) #[] #[]] w fun e w' => e = .returned (.tuple #[]) ∧ Prow w' base g n c ((stM n zs).map (·.1)) ∧ (∀ z ∈ stM n zs, z ∈ zs) ∧ w.grownBy w' (some g) := by
  have HR := Aside0.mk hr
  have HZ := Aside0.mk hz
  have hl2 : n ≤ 1000000 := hl.out
  clear hr hz
  obtain ⟨l1, hl1⟩ : ∃ l1, stI n (n + 1) zs 0 = l1 := ⟨_, rfl⟩
  have HE1 := Aside0.mk (show stI n (n + 1) zs 0 = l1 from hl1)
  have HE := Aside0.mk (show stM n zs = stO n (n + 1) l1 20 by rw [stM, hl1])
  clear hl1
  obtain ⟨res, hres⟩ : ∃ res, stM n zs = res := ⟨_, rfl⟩
  rw [hres] at HE
  rw [hres]
  have HE2 := Aside0.mk HE.out.symm
  clear HE hres
  go_enter Try.func107, Try.ntmps107
  go_wp2
  go_loopg [7, 8] (n + 1) (fun q v7 v8 w' => ∃ (a : Nat) (ys : List Z), v7 = .int .i64 (a : Int) ∧ v8 = .int .i64 ((a + 20 : Nat) : Int) ∧ a ≤ n ∧ Aside0 (n - a + 1 ≤ q) ∧ Aside0 (Prow w' base g n c (ys.map (·.1))) ∧ Aside0 (∀ z ∈ ys, z ∈ zs) ∧ Aside0 (stI n q ys a = l1) ∧ Aside0 (w.grownBy w' (some g)))
  case atStart => exact ⟨0, zs, rfl, (by go_num), Nat.zero_le _, ⟨by omega⟩, HR, ⟨fun _ h => h⟩, HE1, ⟨World.grownBy.refl _ _⟩⟩
  case round =>
    clear HE1
    obtain ⟨a, ys, rfl, rfl, han, HK, HP, HM, HE, HG⟩ := hrel
    have hgk : 0 < gk := by have := HK.out; omega
    obtain ⟨k1, hk1⟩ : ∃ k1, gk = k1 + 1 := ⟨gk - 1, by omega⟩
    have HE1 := Aside0.mk (show stI n (k1 + 1) ys a = l1 by rw [← hk1]; exact HE.out)
    have HK1 := Aside0.mk hk1
    clear hk1 hgk HE
    have HZ1 := Aside0.mk ((HZ.out.sub HM.out).same (HR.out.same HG.out))
    obtain ⟨b, hb⟩ : ∃ b, a + 20 = b := ⟨_, rfl⟩
    rw [hb]
    have hb2 : a < b ∧ b ≤ 1000020 := by omega
    have HB := Aside0.mk hb
    clear hb
    by_cases hlt : b ≤ n
    · as_aux_lemma =>
      have HF := Aside0.mk (show stI n k1 (insO ys a 19) b = l1 by have := HE1.out; unfold stI at this; rw [if_pos (by have := HB.out; omega), HB.out] at this; exact this)
      go_wp2_with (go_at_call 126; refine (insert_callsI base g c n _ _ ys _ HP.out HZ1.out (by omega) (by omega) (by omega) hl.out).mono ?_; rintro e' w1 ⟨rfl, hp1, hm1, hg1⟩; have HP1 := Aside0.mk hp1; have HM1 := Aside0.mk hm1; have HG1 := Aside0.mk hg1; clear hp1 hm1 hg1)
      go_roundg k1
      case measure => have := HK1.out; omega
      case rel => exact ⟨b, insO ys a 19, rfl, (by go_num), hlt, ⟨by have := HK.out; have := HK1.out; have := HB.out; omega⟩, ⟨by have h := HP1.out; rw [Int.toNat_natCast, Int.toNat_natCast, show b - a - 1 = 19 by have := HB.out; omega] at h; exact h⟩, ⟨fun z hz => HM.out z (HM1.out z (by rw [Int.toNat_natCast, Int.toNat_natCast, show b - a - 1 = 19 by have := HB.out; omega]; exact hz))⟩, HF, ⟨HG.out.trans HG1.out⟩⟩
    · have HF := Aside0.mk (show insO ys a (n - a - 1) = l1 by have := HE1.out; unfold stI at this; rw [if_neg (by have := HB.out; omega)] at this; exact this)
      clear HE1 HK HK1
      go_wp2_with (go_at_call 126; refine (insert_callsI base g c n _ _ ys _ HP.out HZ1.out (by omega) (by omega) (by omega) hl.out).mono ?_; rintro e' w1 ⟨rfl, hp1, hm1, hg1⟩; have HP1 := Aside0.mk hp1; have HM1 := Aside0.mk hm1; have HG1 := Aside0.mk hg1; clear hp1 hm1 hg1)
      have HP2 := Aside0.mk (show Prow w1 base g n c (l1.map (·.1)) by have h := HP1.out; rw [Int.toNat_natCast, Int.toNat_natCast, HF.out] at h; exact h)
      have HM2 := Aside0.mk (show ∀ z ∈ l1, z ∈ zs from fun z hz => HM.out z (HM1.out z (by rw [Int.toNat_natCast, Int.toNat_natCast, HF.out]; exact hz)))
      have HG2 := Aside0.mk (HG.out.trans HG1.out)
      clear HP HM HG HP1 HM1 HG1 HF HZ1 HB hb2
      go_loopg [6] (n + 1) (fun q v6 w' => ∃ (s : Nat) (ys : List Z), v6 = .int .i64 (s : Int) ∧ (20 ≤ s ∧ s ≤ 2000000) ∧ Aside0 (n + 1 ≤ q + s) ∧ Aside0 (Prow w' base g n c (ys.map (·.1))) ∧ Aside0 (∀ z ∈ ys, z ∈ zs) ∧ Aside0 (stO n q ys s = res) ∧ Aside0 (w.grownBy w' (some g)))
      case atStart => exact ⟨20, l1, rfl, ⟨by omega, by omega⟩, ⟨by omega⟩, HP2, HM2, HE2, HG2⟩
      case round =>
        clear HE2 HP2 HM2 HG2
        obtain ⟨s, ys, rfl, ⟨hs1, hs2⟩, HK, HP, HM, HE, HG⟩ := hrel
        by_cases hlt2 : s < n
        · have hgk : 0 < gk := by have := HK.out; omega
          obtain ⟨k1, hk1⟩ : ∃ k1, gk = k1 + 1 := ⟨gk - 1, by omega⟩
          obtain ⟨l2, hl2⟩ : ∃ l2, stP n s (n + 1) ys 0 = l2 := ⟨_, rfl⟩
          have HE1 := Aside0.mk (show stO n k1 l2 (2 * s) = res by have := HE.out; rw [hk1, stO, if_pos hlt2, hl2] at this; exact this)
          have HL2 := Aside0.mk hl2
          have HK1 := Aside0.mk hk1
          clear hk1 hgk HE hl2
          have HX := Aside0.mk (rfl : s = s)
          go_wp2
          obtain ⟨wo, hwo⟩ : ∃ wo : World, wo = wr := ⟨_, rfl⟩
          subst hwo
          go_loopg [7, 8] (n + 1) (fun q v7 v8 w' => ∃ (a : Nat) (xs : List Z), v7 = .int .i64 (a : Int) ∧ v8 = .int .i64 ((a + 2 * s : Nat) : Int) ∧ a ≤ n ∧ Aside0 (n - a + 1 ≤ q) ∧ Aside0 (Prow w' base g n c (xs.map (·.1))) ∧ Aside0 (∀ z ∈ xs, z ∈ zs) ∧ Aside0 (stP n s q xs a = l2) ∧ Aside0 (w.grownBy w' (some g)))
          case atStart => exact ⟨0, ys, rfl, (by first | go_num | (congr 1; omega)), Nat.zero_le _, ⟨by omega⟩, HP, HM, HL2, HG⟩
          case round =>
            clear HP HM HG HL2
            obtain ⟨a, xs, rfl, rfl, han, HK2, HP, HM, HE, HG⟩ := hrel
            have HZ1 := Aside0.mk ((HZ.out.sub HM.out).same (HR.out.same HG.out))
            obtain ⟨b, hb⟩ : ∃ b, a + 2 * s = b := ⟨_, rfl⟩
            rw [hb]
            obtain ⟨m, hm⟩ : ∃ m, a + s = m := ⟨_, rfl⟩
            have hm2 : (a : Int) + (s : Int) = (m : Int) := by omega
            have hm3 : IntKind.i64.wrap (m : Int) = (m : Int) := by rw [i64_w]; unfold wrap64; omega
            have hb2 : a < m ∧ m < b ∧ b ≤ 5000000 := by omega
            have HB := Aside0.mk hb
            have HM3 := Aside0.mk hm
            clear hb hm
            by_cases hlt : b ≤ n
            · as_aux_lemma =>
              have hgk : 0 < gk := by have := HK2.out; omega
              obtain ⟨k2, hk2⟩ : ∃ k2, gk = k2 + 1 := ⟨gk - 1, by omega⟩
              have HF := Aside0.mk (show stP n s k2 (symM n xs a m b) b = l2 by have := HE.out; rw [hk2, stP, if_pos (by have := HB.out; omega), HB.out, HM3.out] at this; exact this)
              have HKK := Aside0.mk hk2
              clear hk2 hgk HE
              go_wp2_with (go_at_call 127; refine (sym_calls base g c n hl.out n _ _ _ xs _ HP.out HZ1.out (by omega) (by omega) (by omega) (by omega) (by omega)).mono ?_; rintro e' w1 ⟨rfl, hp1, hg1⟩; have HP1 := Aside0.mk hp1; have HG1 := Aside0.mk hg1; clear hp1 hg1)
              go_roundg k2
              case measure => have := HKK.out; omega
              case rel => exact ⟨b, symM n xs a m b, rfl, (by first | go_num | (congr 1; omega)), hlt, ⟨by have := HK2.out; have := HKK.out; have := HB.out; omega⟩, ⟨by have h := HP1.out; rw [Int.toNat_natCast, Int.toNat_natCast, Int.toNat_natCast] at h; exact h⟩, ⟨fun z hz => HM.out z (mem_symM hz)⟩, HF, ⟨HG.out.trans HG1.out⟩⟩
            · have hgk : 0 < gk := by have := HK2.out; omega
              obtain ⟨k2, hk2⟩ : ∃ k2, gk = k2 + 1 := ⟨gk - 1, by omega⟩
              have HF := Aside0.mk (show (if m < n then symM n xs a m n else xs) = l2 by have := HE.out; rw [hk2, stP, if_neg (by have := HB.out; omega), HM3.out] at this; exact this)
              clear HE hk2 hgk
              by_cases hmn : m < n
              · as_aux_lemma =>
                have HF2 := Aside0.mk (show symM n xs a m n = l2 by rw [← HF.out, if_pos hmn])
                clear HF
                go_wp2_with (go_at_call 127; refine (sym_calls base g c n hl.out n _ _ _ xs _ HP.out HZ1.out (by omega) (by omega) (by omega) (by omega) (by omega)).mono ?_; rintro e' w1 ⟨rfl, hp1, hg1⟩; have HP1 := Aside0.mk hp1; have HG1 := Aside0.mk hg1; clear hp1 hg1)
                go_roundg k1
                case measure => have := HK1.out; omega
                case rel => exact ⟨2 * s, l2, (by first | go_num | (congr 1; omega)), ⟨by omega, by omega⟩, ⟨by have := HK.out; have := HK1.out; omega⟩, ⟨by have h := HP1.out; rw [Int.toNat_natCast, Int.toNat_natCast, Int.toNat_natCast, HF2.out] at h; exact h⟩, ⟨fun z hz => HM.out z (mem_symM (by rw [HF2.out]; exact hz))⟩, HE1, ⟨HG.out.trans HG1.out⟩⟩
              · as_aux_lemma =>
                have HF2 := Aside0.mk (show xs = l2 by rw [← HF.out, if_neg hmn])
                clear HF
                go_wp2
                go_roundg k1
                case measure => have := HK1.out; omega
                case rel => exact ⟨2 * s, xs, (by first | go_num | (congr 1; omega)), ⟨by omega, by omega⟩, ⟨by have := HK.out; have := HK1.out; omega⟩, HP, HM, ⟨by rw [HF2.out]; exact HE1.out⟩, HG⟩
        · have HF := Aside0.mk (show ys = res by have := HE.out; cases gk with | zero => exact this | succ k => rw [stO, if_neg hlt2] at this; exact this)
          go_wp2
          go_end0
          exact ⟨rfl, by rw [← HF.out]; exact HP.out, by rw [← HF.out]; exact HM.out, HG.out⟩

theorem sort_calls (base g c n : Nat) (zs : List Z) (w : World) (hr : Prow w base g n c (zs.map (·.1))) (hz : Zat w zs) (hl : n ≤ 1000000) :
    Calls Try.prog 79 #[.slice (some ⟨g, 0, none⟩) n c, .func (.func 80) #[] #[]] w fun e w' => e = .returned (.tuple #[]) ∧ Prow w' base g n c ((stM n zs).map (·.1)) ∧ (∀ z ∈ stM n zs, z ∈ zs) ∧ w.grownBy w' (some g) := by
  have HR := Aside0.mk hr
  have HZ := Aside0.mk hz
  have HL := Aside0.mk hl
  clear hr hz
  go_enter Try.func79, Try.ntmps79
  go_wp2_with (go_at_call 107; refine (stable_calls base g c n zs _ HR.out HZ.out HL).mono ?_; rintro e' w1 ⟨rfl, hp1, hm1, hg1⟩; have HP1 := Aside0.mk hp1; have HM1 := Aside0.mk hm1; have HG1 := Aside0.mk hg1; clear hp1 hm1 hg1)
  go_end0
  exact ⟨rfl, HP1.out, HM1.out, HG1.out⟩
end Go.Proofs.Ytldhpniflnbilaa
/- prefix.singles. -/
set_option linter.unusedVariables false
set_option linter.unusedSimpArgs false
namespace Go.Proofs.Ytldhpniflnbilaa
open Go.RowKit Go.Proofs.YtldhpniflnbilaaW.PrintWords Go.Proofs.YtldhpniflnbilaaW.PrintLast Go.Proofs.YtldhpniflnbilaaW.PrintMore

theorem insert_nil (w : World) : Calls Try.prog 126 #[.slice none 0 0, .int .i64 0, .int .i64 0, .func (.func 80) #[] #[]] w fun e w' => e = .returned (.tuple #[]) ∧ w = w' := by
  go_enter Try.func126, Try.ntmps126
  go_wp2
  go_loopg [8] 1 (fun q v8 w' => v8 = .int .i64 1 ∧ w = w')
  case atStart => exact ⟨rfl, rfl⟩
  case round =>
    obtain ⟨rfl, rfl⟩ := hrel
    go_wp2
    go_end0
    exact ⟨rfl, rfl⟩
theorem stable_nil (w : World) : Calls Try.prog 107 #[.slice none 0 0, .int .i64 0, .func (.func 80) #[] #[]] w fun e w' => e = .returned (.tuple #[]) ∧ w = w' := by
  go_enter Try.func107, Try.ntmps107
  go_wp2
  go_loopg [7, 8] 1 (fun q v7 v8 w' => v7 = .int .i64 0 ∧ v8 = .int .i64 20 ∧ w = w')
  case atStart => exact ⟨rfl, rfl, rfl⟩
  case round =>
    obtain ⟨rfl, rfl, rfl⟩ := hrel
    go_wp2_with (go_at_call 126; refine (insert_nil _).mono ?_; rintro e w' ⟨rfl, rfl⟩)
    go_loopg [6] 1 (fun q v6 w' => v6 = .int .i64 20 ∧ w = w')
    case atStart => exact ⟨rfl, rfl⟩
    case round =>
      obtain ⟨rfl, rfl⟩ := hrel
      go_wp2
      go_end0
      exact ⟨rfl, rfl⟩
theorem sort_nil (w : World) : Calls Try.prog 79 #[.slice none 0 0, .func (.func 80) #[] #[]] w fun e w' => e = .returned (.tuple #[]) ∧ w = w' := by
  go_enter Try.func79, Try.ntmps79
  go_wp2_with (go_at_call 107; refine (stable_nil _).mono ?_; rintro e w' ⟨rfl, rfl⟩)
  go_end0
  exact ⟨rfl, rfl⟩

/-- The symbols whose frequency isn't 0. -/
def leafs : List Int → Nat → List Tr
  | [], _ => []
  | f :: r, i => if 0 < f then .leaf i f :: leafs r (i + 1) else leafs r (i + 1)
theorem leafs_step (l : List Int) (i k : Nat) (h : i < l.length) : leafs (l.drop i) k = if 0 < rd l i then .leaf k (rd l i) :: leafs (l.drop (i + 1)) (k + 1) else leafs (l.drop (i + 1)) (k + 1) := by
  rw [List.drop_eq_getElem_cons h, leafs]
  have e : rd l i = l[i] := by simp [rd, List.getD_eq_getElem?_getD, List.getElem?_eq_getElem h]
  rw [e]

theorem Zat.ats {w : World} : ∀ {zs : List Z}, Zat w zs → Ats w (zs.map (·.2)) (zs.map (·.1))
  | [], _ => trivial
  | z :: zs, h => ⟨h z (by simp), Zat.ats (fun y hy => h y (by simp [hy]))⟩

set_option maxHeartbeats 8000000 in
set_option maxRecDepth 100000 in
theorem singles_calls (A : Option Addr) (c : Nat) (l : List Int) (w : World) (hr : Kd.C (Kd.int .i64) w A l.length l) (hc : l.length ≤ c) (hl : l.length ≤ 1000000) :
    Calls Try.prog 45 #[.slice A l.length c] w fun e w' => ∃ (v : Value) (zs : List Z), e = .returned v ∧ zs.map (·.2) = leafs l 0 ∧ kPtr.R 62 w' w.heap.size (fun _ => True) v ((stM zs.length zs).map (·.1)) ∧ Zat w' (stM zs.length zs) ∧ Below w.heap.size w w' := by
  have HR := Aside0.mk hr
  clear hr
  go_enter Try.func45, Try.ntmps45
  go_wp2
  go_loopg [3, 8] (l.length + 1) (fun q v3 v8 w' => ∃ (i : Nat) (ys : List Z), v8 = .int .i64 (i : Int) ∧ Aside0 (q + i = l.length + 1 ∧ i ≤ l.length) ∧ Aside0 (kPtr.R 62 w' w.heap.size (fun _ => True) v3 (ys.map (·.1))) ∧ Aside0 (ys = [] → v3 = .slice none 0 0) ∧ Aside0 (Zat w' ys) ∧ Aside0 (ys.map (·.2) ++ leafs (l.drop i) i = leafs l 0) ∧ Aside0 (ys.length ≤ i) ∧ Aside0 (Below w.heap.size w w'))
  case atStart => exact ⟨0, [], rfl, ⟨by omega, by omega⟩, ⟨Kd.R_nil _ _ _ _ _⟩, ⟨fun _ => rfl⟩, ⟨fun z hz => by cases hz⟩, ⟨rfl⟩, ⟨Nat.le_refl _⟩, ⟨Below.refl _ _⟩⟩
  case round =>
    obtain ⟨i, ys, rfl, HK, HO, HV, HZ, HE, HQ, HB⟩ := hrel
    by_cases hlt : i < l.length
    · obtain ⟨ad, rfl, hcell⟩ := Kd.at_int (Kd.C_below HR.out HB.out) (i : Int) (by omega) (by omega)
      have hst := leafs_step l i i hlt
      obtain ⟨f, hf⟩ : ∃ f, rd l i = f := ⟨_, rfl⟩
      rw [hf] at hst hcell
      have HF := Aside0.mk hf
      rw [Int.toNat_natCast] at hcell
      clear hf
      by_cases hpos : 0 < f
      · rw [if_pos hpos] at hst
        have HE2 := Aside0.mk (show (ys.map (·.2) ++ [Tr.leaf i f]) ++ leafs (l.drop (i + 1)) (i + 1) = leafs l 0 by rw [← HE.out, hst]; simp)
        clear hst
        go_wp2_with (first | ((with_reducible refine gate_builtin (b := .append) (xs := #[.tmp 15, .tmp 20]) rfl ?_); at_builtin; refine Kd.R_append kPtr (w0 := w) w.heap.size rfl (.tmp 15) (.tmp 20) 60 62 (.pointer none) 8 rfl Try.underlying60 infoPtr rfl (by decide) (by omega) u3 (ys.map (·.1)) ⟨wr.heap.size, 0, none⟩ [.pointer (some ⟨wr.heap.size, 0, none⟩)] (fun _ => True) (fun _ => False) rfl ?ax ?aP (fun _ hk => hk.elim) (fun _ _ => trivial) ?aO ?aB ?aS ?aL ?_; (case ax => first | exact rfl | simp [go_sem]); (case aP => exact rfl); (case aO => (with_reducible repeat (first | apply Kd.R_alloc | apply Kd.R_drewN | apply Kd.R_drew)); exact HO.out); (case aB => repeat (first | exact HB.out | apply below_alloc | apply pw_below_drewN | apply below_drew1)); (case aS => refine below_size ?_; repeat (first | exact HB.out | apply below_alloc | apply pw_below_drewN | apply below_drew1)); (case aL => have := HQ.out; simp only [List.length_map]; omega); intro v1 w1 ho hb hg hat))
        have hS1 : Same wr w1 := (Same.alloc wr _).trans (Same.grown (Kd.own_of_R (Kd.R_alloc HO.out (Obj.cells #[Value.int .i64 (i : Int), Value.int .i64 f, Value.pointer none, Value.pointer none] 64))) hg (by decide))
        have hbl : w1.heap[wr.heap.size]? = some (Obj.cells #[Value.int .i64 (i : Int), Value.int .i64 f, Value.pointer none, Value.pointer none] 64 (0, 0)) := (Same.grown (Kd.own_of_R (Kd.R_alloc HO.out (Obj.cells #[Value.int .i64 (i : Int), Value.int .i64 f, Value.pointer none, Value.pointer none] 64))) hg (by decide)) _ _ (blk_new wr _)
        have HZ1 := Aside0.mk (show Zat w1 (ys ++ [(⟨wr.heap.size, 0, none⟩, Tr.leaf i f)]) from fun z hz => by
          rcases List.mem_append.1 hz with hz | hz
          · exact (HZ.out z hz).same hS1
          · rw [List.mem_singleton] at hz
            subst hz
            exact ⟨_, rfl, hbl⟩)
        have HO1 := Aside0.mk (show kPtr.R 62 w1 w.heap.size (fun _ => True) v1 ((ys ++ [((⟨wr.heap.size, 0, none⟩, Tr.leaf i f) : Z)]).map (·.1)) by rw [List.map_append]; exact ho)
        have HB1 := Aside0.mk hb
        clear hS1 hbl ho hb hg hat
        go_roundg (gk - 1)
        case measure => have := HK.out; omega
        case rel => exact ⟨i + 1, ys ++ [(⟨wr.heap.size, 0, none⟩, Tr.leaf i f)], (by go_num), ⟨by have := HK.out; omega, by omega⟩, HO1, ⟨fun h => by simp at h⟩, HZ1, ⟨by rw [List.map_append]; exact HE2.out⟩, ⟨by have := HQ.out; simp; omega⟩, HB1⟩
      · rw [if_neg hpos] at hst
        have HE2 := Aside0.mk (show ys.map (·.2) ++ leafs (l.drop (i + 1)) (i + 1) = leafs l 0 by rw [← HE.out, hst])
        clear hst
        go_wp2
        go_roundg (gk - 1)
        case measure => have := HK.out; omega
        case rel => exact ⟨i + 1, ys, (by go_num), ⟨by have := HK.out; omega, by omega⟩, HO, HV, HZ, HE2, ⟨by have := HQ.out; omega⟩, HB⟩
    · have hd : l.drop i = [] := List.drop_eq_nil_of_le (by omega)
      have HE2 := Aside0.mk (show ys.map (·.2) = leafs l 0 by rw [← HE.out, hd]; simp [leafs])
      have HI := Aside0.mk (show i ≤ 1000001 by have := HK.out; omega)
      clear hd HE
      by_cases hys : ys = []
      · have hv := HV.out hys
        subst hv
        subst hys
        go_wp2_with (go_at_call 79; refine (sort_nil _).mono ?_; rintro e w' ⟨rfl, rfl⟩)
        go_ret
        exact ⟨_, [], rfl, HE2.out, Kd.R_nil _ _ _ _ _, (fun z hz => by cases hz), HB.out⟩
      · have hform : ∃ g cap, u3 = .slice (some ⟨g, 0, none⟩) ys.length cap ∧ w.heap.size ≤ g := by
          have hown := Kd.own_of_R HO.out
          rcases hown.2 with ⟨h1, h2⟩ | ⟨g, cap, cur, h1, h2, _⟩
          · exfalso
            apply hys
            exact List.eq_nil_of_length_eq_zero (by simpa using h2)
          · exact ⟨g, cap, by rw [h1]; simp, h2⟩
        obtain ⟨g, cap, hv, hge⟩ := hform
        subst hv
        have HG0 := Aside0.mk hge
        have HY := Aside0.mk (show ys.length ≤ 1000000 by have := HQ.out; have := HK.out; omega)
        clear hge hys
        obtain ⟨n, hn⟩ : ∃ n, ys.length = n := ⟨_, rfl⟩
        rw [hn] at HO HY ⊢
        have HNN := Aside0.mk hn
        clear hn
        go_wp2_with (go_at_call 79; refine (sort_calls w.heap.size g cap n ys _ HO.out HZ.out HY.out).mono ?_; rintro e w1 ⟨rfl, hp1, hm1, hg1⟩; have HP1 := Aside0.mk hp1; have HM1 := Aside0.mk hm1; have HG1 := Aside0.mk hg1; clear hp1 hm1 hg1)
        go_ret
        exact ⟨_, ys, rfl, HE2.out, by rw [HNN.out]; exact HP1.out, by rw [HNN.out]; exact (HZ.out.sub HM1.out).same (Prow.same HO.out HG1.out), HB.out.grown HG1.out (below_size HB.out) (fun k e => by cases e; exact HG0.out)⟩
end Go.Proofs.Ytldhpniflnbilaa
/- (*prefix.item).each with the counting closure of prefix.Lengths. -/
set_option linter.unusedVariables false
set_option linter.unusedSimpArgs false
namespace Go.Proofs.Ytldhpniflnbilaa
open Go.RowKit Go.Proofs.YtldhpniflnbilaaW.PrintWords Go.Proofs.YtldhpniflnbilaaW.PrintLast Go.Proofs.YtldhpniflnbilaaW.PrintMore

/-- A row of numbers in block g. -/
def Irow (w : World) (base g n c : Nat) (xs : List Int) : Prop := (Kd.int .i64).R 3 w base (fun _ => True) (.slice (some ⟨g, 0, none⟩) n c) xs
theorem Irow.len {w : World} {base g n c : Nat} {xs : List Int} (h : Irow w base g n c xs) : xs.length = n := by
  obtain ⟨A, c', he⟩ := Kd.R_slice h
  injection he with _ h2 _
  exact h2.symm
theorem Irow.cell {w : World} {base g n c : Nat} {xs : List Int} (h : Irow w base g n c xs) (i : Nat) (hi : i < xs.length) : w.cell? ⟨g, i, none⟩ = some (.int .i64 (rd xs i)) := by
  obtain ⟨A, c', he, _, hr⟩ := Kd.R_reads h
  injection he with hA _ _
  obtain ⟨ad, hA2, hc⟩ := Kd.at_int hr (i : Int) (by omega) (by omega)
  rw [← hA] at hA2
  injection hA2 with hA2
  rw [← hA2, Int.toNat_natCast, add_plain] at hc
  exact hc
theorem Irow.frozen {w : World} {base g n c : Nat} {xs : List Int} (h : Irow w base g n c xs) (i : Nat) : w.frozen? ⟨g, i, none⟩ = false := by
  obtain ⟨cells, hc⟩ := own_typed (Kd.own_of_R h) g (by simp [Value.ownBlock])
  exact blk_frozen hc i
theorem Irow.put {w : World} {base g n c : Nat} {xs : List Int} (h : Irow w base g n c xs) (i : Nat) (x : Int) : Irow (w.setCell ⟨g, i, none⟩ (.int .i64 x)) base g n c (xs.set i x) ∧ w.grownBy (w.setCell ⟨g, i, none⟩ (.int .i64 x)) (some g) := by
  have := Kd.R_putg h (i : Int) x
  rw [Int.toNat_natCast] at this
  exact this
theorem Irow.same {w w1 : World} {base g n c : Nat} {xs : List Int} (h : Irow w base g n c xs) (hg : w.grownBy w1 (some g)) : Same w w1 :=
  Same.grown (Kd.own_of_R h) (by simpa [Value.ownBlock] using hg) (by decide)
theorem Irow.blk {w w1 : World} {base g n c b t : Nat} {cs : Array Value} {xs : List Int} (h : Irow w base g n c xs) (hg : w.grownBy w1 (some g)) (ht : t ≠ 3) (hb : w.heap[b]? = some (Obj.cells cs t (0, 0))) : w1.heap[b]? = some (Obj.cells cs t (0, 0)) := by
  obtain ⟨cells, hc⟩ := own_typed (Kd.own_of_R h) g (by simp [Value.ownBlock])
  exact blk_grown hb hg (by intro e; injection e with e; subst e; rw [hb] at hc; injection hc with hc; injection hc with _ hc; exact ht hc)

def bump (xs : List Int) (s : Int) : List Int := xs.set s.toNat (wrap64 (rd xs s + 1))
def bumps : List Int → List Int → List Int
  | xs, [] => xs
  | xs, s :: r => bumps (bump xs s) r
theorem bumps_append (xs : List Int) : ∀ (l r : List Int), bumps xs (l ++ r) = bumps (bumps xs l) r := by
  intro l
  induction l generalizing xs with
  | nil => intro r; rfl
  | cons s l ih => intro r; exact ih (bump xs s) r
theorem bump_length (xs : List Int) (s : Int) : (bump xs s).length = xs.length := by simp [bump]
theorem bumps_length (xs : List Int) : ∀ l : List Int, (bumps xs l).length = xs.length := by
  intro l
  induction l generalizing xs with
  | nil => rfl
  | cons s l ih => exact (ih (bump xs s)).trans (bump_length xs s)

theorem closure_calls (base g n c gb : Nat) (s : Int) (xs : List Int) (w : World) (hr : Irow w base g n c xs) (hb : w.heap[gb]? = some (Obj.cells #[.slice (some ⟨g, 0, none⟩) n c] 22 (0, 0))) (h0 : 0 ≤ s) (h1 : s < n) :
    Calls Try.prog 49 #[.int .i64 s, .pointer (some ⟨gb, 0, none⟩)] w fun e w' => e = .returned (.tuple #[]) ∧ Irow w' base g n c (bump xs s) ∧ w.grownBy w' (some g) := by
  obtain ⟨s, rfl⟩ := Int.eq_ofNat_of_zero_le h0
  have hs : s < xs.length := by have := hr.len; omega
  have hc := hr.cell s hs
  have hf := hr.frozen s
  have hbc := (blk_cell hb 0).trans rfl
  have HP := Aside0.mk (hr.put s (wrap64 (rd xs s + 1)))
  have HB := Aside0.mk (show bump xs (s : Int) = xs.set s (wrap64 (rd xs s + 1)) by rw [bump, Int.toNat_natCast])
  rw [HB.out]
  clear hr hb hs HB
  generalize rd xs (s : Int) = v at *
  go_enter Try.func49, Try.ntmps49
  go_wp2
  go_end0
  exact ⟨rfl, HP.out.1, HP.out.2⟩

theorem each_calls (base g n c gb : Nat) : ∀ (t : Tr) (a : Addr) (xs : List Int) (w : World), Tr.At w t a → Irow w base g n c xs → w.heap[gb]? = some (Obj.cells #[.slice (some ⟨g, 0, none⟩) n c] 22 (0, 0)) → (∀ s ∈ t.syms, 0 ≤ s ∧ s < n) →
    Calls Try.prog 48 #[.pointer (some a), .func (.func 49) #[] #[.pointer (some ⟨gb, 0, none⟩)]] w fun e w' => e = .returned (.tuple #[]) ∧ Irow w' base g n c (bumps xs t.syms) ∧ w.grownBy w' (some g) := by
  intro t
  induction t with
  | leaf v f =>
    intro a xs w ha hr hb hs
    obtain ⟨b, rfl, hblk⟩ := ha
    have h0 := (blk_cell hblk 0).trans rfl
    have h2 := (blk_cell hblk 2).trans rfl
    have hv := hs v (by simp [Tr.syms])
    have HR := Aside0.mk hr
    have HB := Aside0.mk hb
    have HV := Aside0.mk hv
    clear hblk hr hb hs hv
    go_enter Try.func48, Try.ntmps48
    go_wp2_with (go_at_call 49; refine (closure_calls base g n c gb _ xs _ HR.out HB.out HV.out.1 HV.out.2).mono ?_; rintro e w1 ⟨rfl, hp1, hg1⟩; have HP1 := Aside0.mk hp1; have HG1 := Aside0.mk hg1; clear hp1 hg1)
    refine bodyPost_ret (results_none rfl _ _ _) rfl ?_
    exact ⟨rfl, HP1.out, HG1.out⟩
  | node f l r ihl ihr =>
    intro a xs w ha hr hb hs
    obtain ⟨b, p, q, rfl, hblk, hl, hrr⟩ := ha
    have h2 := (blk_cell hblk 2).trans rfl
    have h3 := (blk_cell hblk 3).trans rfl
    have IL := Aside0.mk (ihl p xs w hl hr hb (fun s hm => hs s (by simp [Tr.syms, hm])))
    have IR := Aside0.mk (fun w1 (h1 : Tr.At w1 r q) (h2 : Irow w1 base g n c (bumps xs l.syms)) h3 => ihr q (bumps xs l.syms) w1 h1 h2 h3 (fun s hm => hs s (by simp [Tr.syms, hm])))
    have HR := Aside0.mk hr
    have HB := Aside0.mk hb
    have HA := Aside0.mk hrr
    have HBL := Aside0.mk hblk
    clear hblk hr hb hs hl hrr ihl ihr
    go_enter Try.func48, Try.ntmps48
    go_wp2_with fail
    refine (IL.out).mono ?_
    rintro e w1 ⟨rfl, hp1, hg1⟩
    have hblk1 := Irow.blk HR.out hg1 (by decide) HBL.out
    have h31 := (blk_cell hblk1 3).trans rfl
    have IR1 := Aside0.mk (IR.out w1 (HA.out.same (Irow.same HR.out hg1)) hp1 (Irow.blk HR.out hg1 (by decide) HB.out))
    have HG1 := Aside0.mk hg1
    clear hp1 hg1 hblk1 h2 h3
    go_wp2_with fail
    refine (IR1.out).mono ?_
    rintro e w2 ⟨rfl, hp2, hg2⟩
    have HP2 := Aside0.mk hp2
    have HG2 := Aside0.mk hg2
    clear hp2 hg2
    go_wp2
    go_end0
    exact ⟨rfl, by rw [Tr.syms, bumps_append]; exact HP2.out, HG1.out.trans HG2.out⟩
end Go.Proofs.Ytldhpniflnbilaa
