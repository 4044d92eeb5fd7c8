/- writer.bit of package deflate. -/
import Derived.Test.YtldhpniflnbilaaProg
import Derived.Below
import Derived.Deep.Draws
import Derived.Deep.AppendLies
import Derived.Maps.AppendAt
import Derived.OwnWalk
import Derived.Laws.BytesArg
import Derived.Laws.MakeOwn
import Derived.Laws.OwnMore
import Derived.Deep.OwnRows
import Derived.Tactics
import Derived.Lib.ConvBytes
import Derived.Laws.Slices
import Derived.WalkKit
import Derived.KernelRfl
import Derived.RowKit3
import Derived.Deep.LoopGhost
import Derived.Deep.QuietTactic
import Derived.BigQuiet
import Derived.WideLaws
import Derived.Deep.DeepCutAuto
import Derived.Deep.CutBlock
import Derived.Deep.RegionHeld3
import Derived.Laws.Rows
import Derived.Lib.AppendStr
import Derived.ArgAppend
import Derived.Laws.IdiomCopy
import Derived.OrdersHeld
import Derived.Laws.BitsLemmas
import Derived.RowKit
import Derived.Outline
import Derived.Test.YtldhpniflnbilaaV34s
import Derived.Test.YtldhpniflnbilaaD2vv
set_option linter.unusedVariables false
set_option linter.unusedSimpArgs false
namespace Go.Proofs.Ytldhpniflnbilaa
open Go.RowKit Go.Proofs.YtldhpniflnbilaaW.PrintWords Go.Proofs.YtldhpniflnbilaaW.PrintLast Go.Proofs.YtldhpniflnbilaaW.PrintMore

/-- The bytes up to the one with the next bit. -/
def openB (bs : List Bool) (i : Nat) : List Int := (List.range (i + 1)).map (byteAt bs)
theorem openB_length (bs : List Bool) (i : Nat) : (openB bs i).length = i + 1 := by simp [openB]
theorem openB_new (bs : List Bool) (i : Nat) (h : bs.length = 8 * i) : packB bs ++ [0] = openB bs i := by
  have e : (bs.length + 7) / 8 = i := by omega
  have e0 : byteAt bs i = 0 := by have := (byteAt_snoc bs false i 0 (by omega) (by omega)).2; simp at this; omega
  rw [packB, openB, e, List.range_succ, List.map_append, List.map_cons, List.map_nil, e0]
theorem openB_put (bs : List Bool) (i r : Nat) (h : bs.length = 8 * i + r) (h0 : 0 < r) (hr : r < 8) : packB bs = openB bs i := by
  have e : (bs.length + 7) / 8 = i + 1 := by omega
  rw [packB, openB, e]
theorem openB_snoc (bs : List Bool) (b : Bool) (i r : Nat) (h : bs.length = 8 * i + r) (hr : r < 8) : packB (bs ++ [b]) = (openB bs i).set i (byteAt bs i + b2i b * 2 ^ r) := by
  by_cases h0 : r = 0
  · subst h0
    rw [packB_new bs b i h, openB_new bs i h]
    have e0 : byteAt bs i = 0 := by have := (byteAt_snoc bs false i 0 (by omega) (by omega)).2; simp at this; omega
    rw [e0]; simp
  · rw [packB_put bs b i r h (by omega) hr, openB_put bs i r h (by omega) hr]
theorem rd_openB (bs : List Bool) (i : Nat) : rd (openB bs i) (i : Int) = byteAt bs i := by
  rw [rd, Int.toNat_natCast, List.getD_eq_getElem?_getD, List.getElem?_eq_getElem (by rw [openB_length]; omega)]
  simp [openB]
theorem or_bit (b : Bool) (r : Nat) (hr : r < 8) (x : Int) (h0 : 0 ≤ x) (h1 : x < 2 ^ r) : Go.bits .or .u8 x (b2i b * 2 ^ r) = x + b2i b * 2 ^ r := by
  obtain ⟨x, rfl⟩ := Int.eq_ofNat_of_zero_le h0
  have h2 : x < 2 ^ r := by exact_mod_cast h1
  have key : ∀ b : Bool, ∀ r : Fin 8, ∀ x : Fin 128, x.val < 2 ^ r.val → Go.bits .or .u8 (x.val : Int) (b2i b * 2 ^ r.val) = (x.val : Int) + b2i b * 2 ^ r.val := by decide +kernel
  exact key b ⟨r, hr⟩ ⟨x, Nat.lt_of_lt_of_le h2 (Nat.pow_le_pow_right (by decide) (by omega : r ≤ 7))⟩ h2
theorem shl_bit (b : Bool) (r : Nat) (hr : r < 8) : wrap64 (b2i b * 2 ^ min r 64) % 256 = b2i b * 2 ^ r := by
  have key : ∀ b : Bool, ∀ r : Fin 8, wrap64 (b2i b * 2 ^ min r.val 64) % 256 = b2i b * 2 ^ r.val := by decide +kernel
  exact key b ⟨r, hr⟩
def WB (TT : Nat) (w : World) (base g : Nat) (bs : List Bool) : Prop := ∃ v, WSt TT w base g v (packB bs) (bs.length : Int)
set_option maxHeartbeats 4000000 in
set_option maxRecDepth 100000 in
theorem wbit_calls (w0 w : World) (g : Nat) (bs : List Bool) (b : Bool) (hs : WB 81 w w0.heap.size g bs) (hB : Below w0.heap.size w0 w) (hl : bs.length ≤ 1000000000000) :
    Calls Try.prog 61 #[.pointer (some ⟨g, 0, none⟩), .int .i64 (b2i b)] w fun e w' => e = .returned (.tuple #[]) ∧ WB 81 w' w0.heap.size g (bs ++ [b]) ∧ Oth 81 w w' ∧ Below w0.heap.size w0 w' := by
  obtain ⟨v, hs⟩ := hs
  have HS := Aside0.mk hs
  have HB := Aside0.mk hB
  have HO := Aside0.mk hs.row
  have hc0 := hs.cell0
  have hc1 := hs.cell1
  obtain ⟨i, hi⟩ : ∃ i, i = bs.length / 8 := ⟨_, rfl⟩
  obtain ⟨r, hr⟩ : ∃ r, r = bs.length % 8 := ⟨_, rfl⟩
  have HQ := Aside0.mk (show bs.length = 8 * i + r ∧ r < 8 ∧ (packB bs).length = (bs.length + 7) / 8 ∧ bs.length ≤ 1000000000000 from ⟨by omega, by omega, packB_length bs, hl⟩)
  have hrem : Int.tmod (bs.length : Int) 8 = (r : Int) := by rw [Int.tmod_eq_emod_of_nonneg (by omega)]; omega
  clear hs hB hi hl hr
  generalize hn : (bs.length : Int) = n at *
  have HN := Aside0.mk hn
  clear hn
  go_enter Try.func61, Try.ntmps61
  go_upto_if 9 with (fail)
  go_cut [] (fun wx => Aside0 (∃ v, WSt 81 wx w0.heap.size g v (openB bs i) n) ∧ Aside0 (Oth 81 w wx) ∧ Aside0 (Below w0.heap.size w0 wx))
  case first =>
    as_aux_lemma =>
      by_cases h0 : r = 0
      · subst h0
        go_wp2_with (first | ((with_reducible refine gate_builtin (b := .append) (xs := #[.tmp 14, .tmp 15]) rfl ?_); at_builtin; refine Kd.R_append (Kd.int .u8) (w0 := w0) w0.heap.size rfl (.tmp 14) (.tmp 15) 46 5 ((.int .u8 0)) 1 rfl Try.underlying46 infoU8 rfl (by decide) (by omega) v (packB bs) 0 [.int .u8 0] (fun _ => True) (fun _ => False) rfl ?ax ?aP (fun _ hk => hk.elim) (fun _ _ => trivial) ?aO ?aB ?aS ?aL ?_; (case ax => first | exact rfl | simp [go_sem]); (case aP => exact rfl); (case aO => (with_reducible repeat (first | apply Kd.R_alloc | apply Kd.R_drewN | apply Kd.R_drew)); exact HO.out); (case aB => repeat (first | exact HB.out | apply below_alloc | apply pw_below_drewN | apply below_drew1)); (case aS => refine below_size ?_; repeat (first | exact HB.out | apply below_alloc | apply pw_below_drewN | apply below_drew1)); (case aL => have := HQ.out; omega); intro v1 w1 ho hb hg hat; obtain ⟨k1, cap1, rfl, hk1, hk2, -⟩ := Kd.R_form ho (by simp); have hb1 := blk_grown HS.out.blk hg (Kd.R_ne HS.out.row HS.out.blk (by decide)); have f0 := blk_frozen hb1 0; have c0 : w1.cell? ⟨g, 0, none⟩ = some v := (blk_cell hb1 0).trans rfl))
        go_meet
        obtain ⟨hs2, ho2⟩ := HS.out.push (by decide) ho hg
        rw [show (packB bs ++ [(0 : Int)]).length = (packB bs).length + 1 by simp] at hs2 ho2
        rw [openB_new bs i (by have := HQ.out; omega)] at hs2
        exact ⟨⟨_, hs2⟩, ⟨ho2⟩, ⟨below_setg hb HS.out.le 0 _⟩⟩
      · go_wp2
        go_meet
        exact ⟨⟨_, by have h := HS.out; rwa [openB_put bs i r HQ.out.1 (by omega) HQ.out.2.1] at h⟩, ⟨Oth.refl _ _⟩, HB⟩
  case rest =>
    clear hc0 hc1 HS HB HO
    obtain ⟨HS1, HO1, HB1⟩ := hcut
    obtain ⟨v1, hs1⟩ := HS1.out
    have HS := Aside0.mk hs1
    clear HS1
    obtain ⟨k1, cap1, rfl, hk1, hk2, -⟩ := Kd.R_form hs1.row (by simp [openB_length])
    have hc0 := hs1.cell0
    have hc1 := hs1.cell1
    rw [openB_length] at hc0
    clear hs1
    have hat : ((⟨k1, 0, none⟩ : Addr).add (i : Int).toNat) = ⟨k1, i, none⟩ := by rw [Int.toNat_natCast, add_plain]
    have hat2 : wc.cell? ⟨k1, i, none⟩ = some (.int .u8 (byteAt bs i)) := by
      obtain ⟨ad, h1, h2⟩ := Kd.at_int (Kd.R_reads' HS.out.row).2.2 (i : Int) (by omega) (by rw [openB_length]; omega)
      injection h1 with h1
      rw [← h1, hat, rd_openB] at h2
      exact h2
    clear hat
    have hf2 : wc.frozen? ⟨k1, i, none⟩ = false := by
      obtain ⟨cells, hk3⟩ := own_typed (Kd.own_of_R HS.out.row) k1 rfl
      exact blk_frozen hk3 i
    have hi0 : (0 : Int) ≤ (i : Int) := by omega
    have hi1 : (i : Int) < 1000000000000 := by have := HQ.out; omega
    have hor : Go.bits .or .u8 (byteAt bs i) (b2i b * 2 ^ r) = byteAt bs i + b2i b * 2 ^ r := or_bit b r HQ.out.2.1 _ (byteAt_snoc bs b i r HQ.out.1 HQ.out.2.1).2.1 (byteAt_snoc bs b i r HQ.out.1 HQ.out.2.1).2.2
    have HSH := Aside0.mk (shl_bit b r HQ.out.2.1)
    have HOR := Aside0.mk hor
    clear hor
    obtain ⟨x, hx⟩ : ∃ x, byteAt bs i + b2i b * 2 ^ r = x := ⟨_, rfl⟩
    rw [hx] at HOR
    have HX := Aside0.mk hx
    have hput := HS.out.put (by decide) i x
    have hc1' := hput.1.cell1
    have hf3 := blk_frozen hput.1.blk 1
    have HPUT := Aside0.mk hput
    clear hput hx
    go_wp2
    go_region
    rw [HSH.out, HOR.out]
    clear hat2 hf2 hc0 hc1 hrem hi0 hi1 HSH HOR
    have hn0 : 0 ≤ n := by have := HN.out; omega
    have hn1 : n ≤ 1000000000000 := by have := HN.out; have := HQ.out; omega
    go_wp2
    go_end0
    obtain ⟨hp1, ho1⟩ := HPUT.out
    obtain ⟨hp2, ho2⟩ := hp1.count (by decide) (n + 1)
    refine ⟨rfl, ⟨.slice (some ⟨k1, 0, none⟩) (openB bs i).length cap1, WSt.drew ?_⟩, (HO1.out.trans (ho1.trans ho2)).drew, below_drew1 (below_setg (below_setg HB1.out hk1 i _) HS.out.le 1 _)⟩
    rw [openB_snoc bs b i r HQ.out.1 HQ.out.2.1, HX.out, List.length_append, show (((bs.length + [b].length : Nat)) : Int) = n + 1 by have := HN.out; simp; omega]
    exact hp2
end Go.Proofs.Ytldhpniflnbilaa
