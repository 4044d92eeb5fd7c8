-- Written by a program of this session (the kit's print, turned so that some callees are taken by contracts of the session)
import Derived.Test.YtldhpniflnbilaaPLx0vv
import Derived.Test.YtldhpniflnbilaaPLx33vv
import Derived.Test.YtldhpniflnbilaaPLx40vv
namespace Go.Proofs.Ytldhpniflnbilaa.PL
open Go.RowKit Go.Proofs.YtldhpniflnbilaaW.PrintWords Go.Proofs.YtldhpniflnbilaaW.PrintLast Go.Proofs.YtldhpniflnbilaaW.PrintMore
attribute [local go_sem] max2_int min2_int max_two min_two max_three min_three max_four min_four   -- for this text's walks alone
set_option linter.unusedVariables false
set_option linter.unusedSimpArgs false

/-! ### barscanlaw34_DeflateFactors: function 12 -/
mutual
def barscanlaw34_DeflateFactors.j0 : Nat → List Int → List Int → Bool → Option (Bool)
  | 0, _, _, _ => none
  | k + 1, x0, x3, x37 => if x37 = true then (some false) else (barscanlaw34_DeflateFactors.l0 k x0 x3 (x3.length : Int) 0)
def barscanlaw34_DeflateFactors.l0 : Nat → List Int → List Int → Int → Int → Option (Bool)
  | 0, _, _, _, _ => none
  | k + 1, x0, x38, x39, x40 => if x40 < x39 then (if 0 ≤ x40 then (if x40 < (x38.length : Int) then (if (rd x38 x40) < 0 then (some false) else (if (rd x38 x40) > 255 then (if (wrap64 (Int.tdiv (rd x38 x40) 65536)) < 3 then (some false) else (if (wrap64 (Int.tdiv (rd x38 x40) 65536)) > 258 then (some false) else (if (Int.tmod (rd x38 x40) 65536) < 1 then (some false) else (if (Int.tmod (rd x38 x40) 65536) > (x0.length : Int) then (some false) else (barscanlaw34_DeflateFactors.l0 k x0 x38 x39 (wrap64 (x40 + 1))))))) else (barscanlaw34_DeflateFactors.l0 k x0 x38 x39 (wrap64 (x40 + 1))))) else (none)) else (none)) else ((barscanlaw34_examples.f).bind fun t316 => (some t316))
end
def barscanlaw34_DeflateFactors.f (k : Nat) (l0 : List Int) : Option (Bool) := if (l0.length : Int) > 2000 then ((barscanlaw34_examples.f).bind fun t306 => (some t306)) else ((deflate_Matches.f l0).bind fun bt307 => ((deflate_Expand.f k bt307.1).bind fun bt311 => (if bt307.2 = 0 then (if bt311.2 = 0 then (barscanlaw34_DeflateFactors.j0 k l0 bt307.1 ((strOfNums l0).toList != (strOfNums bt311.1).toList)) else (barscanlaw34_DeflateFactors.j0 k l0 bt307.1 true)) else (barscanlaw34_DeflateFactors.j0 k l0 bt307.1 true))))
theorem barscanlaw34_DeflateFactors.mono_l : ∀ k, (∀ y0 y1 y2, LeO (barscanlaw34_DeflateFactors.j0 k y0 y1 y2) (barscanlaw34_DeflateFactors.j0 (k + 1) y0 y1 y2)) ∧ (∀ y0 y1 y2 y3, LeO (barscanlaw34_DeflateFactors.l0 k y0 y1 y2 y3) (barscanlaw34_DeflateFactors.l0 (k + 1) y0 y1 y2 y3))
  | 0 => ⟨fun _ _ _ r h => by simp [barscanlaw34_DeflateFactors.j0] at h, fun _ _ _ _ r h => by simp [barscanlaw34_DeflateFactors.l0] at h⟩
  | k + 1 => by
    obtain ⟨ih0, ih1⟩ := barscanlaw34_DeflateFactors.mono_l k
    refine ⟨?_, ?_⟩
    · intro y0 y1 y2
      unfold barscanlaw34_DeflateFactors.j0
      repeat' first
      | (with_reducible exact ih0 _ _ _)
      | (with_reducible exact ih1 _ _ _ _)
      | (with_reducible exact deflate_Expand.mono _ _)
      | (with_reducible exact LeO.refl _)
      | (with_reducible exact LeO.none _)
      | (with_reducible refine LeO.ite ?_ ?_)
      | (with_reducible refine LeO.bind ?_ (fun _ => ?_))
      | exact ih0 _ _ _
      | exact ih1 _ _ _ _
      | exact deflate_Expand.mono _ _
      | exact LeO.none _
      | refine LeO.ite ?_ ?_
      | refine LeO.bind ?_ (fun _ => ?_)
    · intro y0 y1 y2 y3
      unfold barscanlaw34_DeflateFactors.l0
      repeat' first
      | (with_reducible exact ih0 _ _ _)
      | (with_reducible exact ih1 _ _ _ _)
      | (with_reducible exact deflate_Expand.mono _ _)
      | (with_reducible exact LeO.refl _)
      | (with_reducible exact LeO.none _)
      | (with_reducible refine LeO.ite ?_ ?_)
      | (with_reducible refine LeO.bind ?_ (fun _ => ?_))
      | exact ih0 _ _ _
      | exact ih1 _ _ _ _
      | exact deflate_Expand.mono _ _
      | exact LeO.none _
      | refine LeO.ite ?_ ?_
      | refine LeO.bind ?_ (fun _ => ?_)
theorem barscanlaw34_DeflateFactors.mono : ∀ a0 k, LeO (barscanlaw34_DeflateFactors.f k a0) (barscanlaw34_DeflateFactors.f (k + 1) a0) := by
  intro a0 k
  obtain ⟨ih0, ih1⟩ := barscanlaw34_DeflateFactors.mono_l k
  unfold barscanlaw34_DeflateFactors.f
  repeat' first
      | (with_reducible exact ih0 _ _ _)
      | (with_reducible exact ih1 _ _ _ _)
      | (with_reducible exact deflate_Expand.mono _ _)
      | (with_reducible exact LeO.refl _)
      | (with_reducible exact LeO.none _)
      | (with_reducible refine LeO.ite ?_ ?_)
      | (with_reducible refine LeO.bind ?_ (fun _ => ?_))
      | exact ih0 _ _ _
      | exact ih1 _ _ _ _
      | exact deflate_Expand.mono _ _
      | exact LeO.none _
      | refine LeO.ite ?_ ?_
      | refine LeO.bind ?_ (fun _ => ?_)
set_option maxHeartbeats 8000000 in
set_option maxRecDepth 100000 in
theorem barscanlaw34_DeflateFactors.calls (k : Nat) (A0 : Option Addr) (c0 : Nat) (l0 : List Int) (r : Bool) (w : World) (hr0 : Kd.C (Kd.int .u8) w A0 l0.length l0) (hc0 : l0.length ≤ c0) (h : barscanlaw34_DeflateFactors.f k l0 = some r) :
    Calls Try.prog 12 #[.slice A0 l0.length c0] w fun e w' => e = .returned (.bool r) ∧ Below w.heap.size w w' := by
  have HR0 := Aside0.mk hr0
  have HC0 := Aside0.mk hc0
  clear hr0 hc0
  have HB := Aside0.mk (Below.refl w.heap.size w)
  have H : (if (l0.length : Int) > 2000 then ((barscanlaw34_examples.f).bind fun t306 => (some t306)) else ((deflate_Matches.f l0).bind fun bt307 => ((deflate_Expand.f k bt307.1).bind fun bt311 => (if bt307.2 = 0 then (if bt311.2 = 0 then (barscanlaw34_DeflateFactors.j0 k l0 bt307.1 ((strOfNums l0).toList != (strOfNums bt311.1).toList)) else (barscanlaw34_DeflateFactors.j0 k l0 bt307.1 true)) else (barscanlaw34_DeflateFactors.j0 k l0 bt307.1 true))))) = some r := h
  clear h
  by_cases c2 : (l0.length : Int) > 2000
  · rw [if_pos c2] at H
    have c2b0 : decide (2000 < (l0.length : Int)) = true := decide_eq_true c2
    have c2b1 : decide (2000 < l0.length) = true := decide_eq_true (by omega)
    clear c2
    replace H := Option.bind_eq_some_iff.mp H
    obtain ⟨t306, A30, H⟩ := H
    replace H : (some t306) = some r := H
    have A3 := Aside0.mk A30
    clear A30
    obtain rfl := Option.some.inj H
    go_enter Try.func12, Try.ntmps12
    go_wp2_with (first | ((with_reducible refine gate_callee (f := 32) rfl ?_); refine goesL_ (some 14) rfl rfl Try.func32 (by kernel_rfl) rfl #[] rfl (by (try simp only [List.map_toArray, List.map_cons, List.map_nil]); first | done | rfl | (simp only [List.length_drop, List.length_take]; rfl)) ?_; (with_reducible refine (barscanlaw34_examples.calls  t306 _ A3.out).mono ?_); rintro e w4 ⟨rfl, hb⟩; refine ⟨_, rfl, ?_⟩; have n0_ := Aside0.mk (below_step (by repeat (first | (with_reducible first | exact HB.out | apply below_alloc | apply pw_below_drewN | apply below_drew1) | exact HB.out)) hb); clear HB; have HB := n0_; clear n0_; (try clear hb); (try clear hb2); (try clear hk); (try clear hi)))
    go_ret
    exact ⟨by first | rfl | (simp [errW_none, errW_some] <;> rfl) | (simp [*, errW_none, errW_some] <;> rfl), by repeat (first | (with_reducible first | exact HB.out | apply below_alloc | apply pw_below_drewN | apply below_drew1) | exact HB.out)⟩
  · rw [if_neg c2] at H
    have c2b0 : decide (2000 < (l0.length : Int)) = false := decide_eq_false c2
    have c2b1 : decide (2000 < l0.length) = false := decide_eq_false (by omega)
    clear c2
    replace H := Option.bind_eq_some_iff.mp H
    obtain ⟨⟨t307, t308⟩, A50, H⟩ := H
    replace H : ((deflate_Expand.f k t307).bind fun bt311 => (if t308 = 0 then (if bt311.2 = 0 then (barscanlaw34_DeflateFactors.j0 k l0 t307 ((strOfNums l0).toList != (strOfNums bt311.1).toList)) else (barscanlaw34_DeflateFactors.j0 k l0 t307 true)) else (barscanlaw34_DeflateFactors.j0 k l0 t307 true))) = some r := H
    have A5 := Aside0.mk A50
    clear A50
    replace H := Option.bind_eq_some_iff.mp H
    obtain ⟨⟨t311, t312⟩, A60, H⟩ := H
    replace H : (if t308 = 0 then (if t312 = 0 then (barscanlaw34_DeflateFactors.j0 k l0 t307 ((strOfNums l0).toList != (strOfNums t311).toList)) else (barscanlaw34_DeflateFactors.j0 k l0 t307 true)) else (barscanlaw34_DeflateFactors.j0 k l0 t307 true)) = some r := H
    have A6 := Aside0.mk A60
    clear A60
    have HC7 := Aside0.mk H
    clear H
    go_enter Try.func12, Try.ntmps12
    go_upto_region 5 with (first | ((with_reducible refine gate_callee (f := 35) rfl ?_); refine goesL_ (some 17) rfl rfl Try.func35 (by kernel_rfl) rfl #[.slice A0 l0.length c0] rfl (by (try simp only [List.map_toArray, List.map_cons, List.map_nil]); first | done | rfl | (simp only [List.length_drop, List.length_take]; rfl)) ?_; (with_reducible refine (deflate_Matches.calls _ _ l0 t307 t308 _ ?side1 ?side2 A5.out).mono ?_); (case side1 => repeat (first | exact HR0.out | (with_reducible refine Kd.C_alloc ?_ _) | (with_reducible refine Kd.C_drewN ?_ _) | (with_reducible refine Kd.C_drew ?_))); (case side2 => exact HC0.out); rintro e w8 ⟨v309, rfl, ho0, hb⟩; refine ⟨_, rfl, ?_⟩; have n0_ := Aside0.mk (Kd.R_lower ho0 (below_size (by repeat (first | (with_reducible first | exact HB.out | apply below_alloc | apply pw_below_drewN | apply below_drew1) | exact HB.out)))); have n1_ := Aside0.mk (below_step (by repeat (first | (with_reducible first | exact HB.out | apply below_alloc | apply pw_below_drewN | apply below_drew1) | exact HB.out)) hb); clear HB; have HO310 := n0_; have HB := n1_; clear n0_ n1_; (try clear hb); (try clear hb2); (try clear hk); (try clear hi); (try clear ho0); obtain ⟨Ao9, co9, eo9⟩ := Kd.R_slice HO310.out; subst eo9) | ((with_reducible refine gate_callee (f := 37) rfl ?_); refine goesL_ (some 22) rfl rfl Try.func37 (by kernel_rfl) rfl #[.slice Ao9 t307.length co9] rfl (by (try simp only [List.map_toArray, List.map_cons, List.map_nil]); first | done | rfl | (simp only [List.length_drop, List.length_take]; rfl)) ?_; (with_reducible refine (deflate_Expand.calls k _ _ t307 t311 t312 _ ?side1 ?side2 A6.out).mono ?_); (case side1 => repeat (first | exact (Kd.R_reads' HO310.out).2.2 | (with_reducible refine Kd.C_alloc ?_ _) | (with_reducible refine Kd.C_drewN ?_ _) | (with_reducible refine Kd.C_drew ?_))); (case side2 => exact (Kd.R_reads' HO310.out).2.1); rintro e w10 ⟨v313, rfl, ho0, hb⟩; refine ⟨_, rfl, ?_⟩; have n0_ := Aside0.mk (Kd.R_below (by (with_reducible repeat (first | apply Kd.R_alloc | apply Kd.R_drewN | apply Kd.R_drew)); exact HO310.out) hb); have n1_ := Aside0.mk (Kd.R_lower ho0 (below_size (by repeat (first | (with_reducible first | exact HB.out | apply below_alloc | apply pw_below_drewN | apply below_drew1) | exact HB.out)))); have n2_ := Aside0.mk (below_step (by repeat (first | (with_reducible first | exact HB.out | apply below_alloc | apply pw_below_drewN | apply below_drew1) | exact HB.out)) hb); clear HO310; clear HB; have HO310 := n0_; have HO314 := n1_; have HB := n2_; clear n0_ n1_ n2_; (try clear hb); (try clear hb2); (try clear hk); (try clear hi); (try clear ho0)))
    (try simp only [Act.put, List.setIfInBounds_toArray, List.set_cons_zero, List.set_cons_succ])
    go_cut [37] (fun v37 wc => ∃ (kq : Nat) (x37_6 : Bool), v37 = .bool x37_6 ∧ Aside0 (barscanlaw34_DeflateFactors.j0 kq l0 t307 x37_6 = some r) ∧ Aside0 (kq ≤ k) ∧ Aside0 (Kd.R (Kd.int .i64) 3 wc w.heap.size (fun _ => True) (.slice Ao9 t307.length co9) t307) ∧ Aside0 (Below w.heap.size w wc))
    case first =>
      have H := HC7.out
      clear HC7
      by_cases c11 : t308 = 0
      · rw [if_pos c11] at H
        have c11b0 : (t308 == 0) = true := beq_iff_eq.mpr c11
        have c11b1 : (t308 != 0) = false := bne_eq_false_iff_eq.mpr c11
        clear c11
        (first | rw [c11b0] | (simp only [i64_w, i32_w]; rw [c11b0]) | skip)
        by_cases c12 : t312 = 0
        · rw [if_pos c12] at H
          have c12b0 : (t312 == 0) = true := beq_iff_eq.mpr c12
          have c12b1 : (t312 != 0) = false := bne_eq_false_iff_eq.mpr c12
          clear c12
          have H' := Aside0.mk H
          clear H
          have hcv13 := Kd.C_string (P := Try.prog) (A := A0) (c := c0) Try.underlying46 Try.underlying5 Try.underlying9 (Kd.C_below HR0.out HB.out)
          have hcv14 := own_string (P := Try.prog) Try.underlying46 Try.underlying5 Try.underlying9 (Kd.own_of_R HO314.out)
          go_wp2
          go_meet
          case rel => exact ⟨_, (((strOfNums l0).toList != (strOfNums t311).toList)), (by first | rfl | (simp; done) | (simp [*]; done)), H', ⟨by first | omega | exact Nat.le_refl _⟩, ⟨by (with_reducible repeat (first | apply Kd.R_alloc | apply Kd.R_drewN | apply Kd.R_drew)); exact HO310.out⟩, ⟨by repeat (first | (with_reducible first | exact HB.out | apply below_alloc | apply pw_below_drewN | apply below_drew1) | exact HB.out)⟩⟩
        · rw [if_neg c12] at H
          have c12b0 : (t312 == 0) = false := beq_eq_false_iff_ne.mpr c12
          have c12b1 : (t312 != 0) = true := bne_iff_ne.mpr c12
          have H' := Aside0.mk H
          clear H
          go_wp2
          go_meet
          case rel => exact ⟨_, (true), (by first | rfl | (simp; done) | (simp [*]; done)), H', ⟨by first | omega | exact Nat.le_refl _⟩, ⟨by (with_reducible repeat (first | apply Kd.R_alloc | apply Kd.R_drewN | apply Kd.R_drew)); exact HO310.out⟩, ⟨by repeat (first | (with_reducible first | exact HB.out | apply below_alloc | apply pw_below_drewN | apply below_drew1) | exact HB.out)⟩⟩
      · rw [if_neg c11] at H
        have c11b0 : (t308 == 0) = false := beq_eq_false_iff_ne.mpr c11
        have c11b1 : (t308 != 0) = true := bne_iff_ne.mpr c11
        (first | rw [c11b0] | (simp only [i64_w, i32_w]; rw [c11b0]) | skip)
        have H' := Aside0.mk H
        clear H
        go_wp2
        go_meet
        case rel => exact ⟨_, (true), (by first | rfl | (simp; done) | (simp [*]; done)), H', ⟨by first | omega | exact Nat.le_refl _⟩, ⟨by (with_reducible repeat (first | apply Kd.R_alloc | apply Kd.R_drewN | apply Kd.R_drew)); exact HO310.out⟩, ⟨by repeat (first | (with_reducible first | exact HB.out | apply below_alloc | apply pw_below_drewN | apply below_drew1) | exact HB.out)⟩⟩
    case rest =>
      clear HC7
      try clear c1
      try clear hcv1
      try clear c2
      try clear c2b0
      try clear c2b1
      try clear p2
      try clear c3
      try clear c11
      try clear c11b0
      try clear c11b1
      try clear c12
      try clear c12b0
      try clear c12b1
      try clear hcv13
      try clear hcv14
      obtain ⟨kq, x37_6, rfl, HA, HJ6, HO_3, HB⟩ := hcut
      cases kq with
      | zero => exact absurd HA.out (by simp [barscanlaw34_DeflateFactors.j0])
      | succ kj6 =>
        have H := HA.out
        clear HA
        simp only [barscanlaw34_DeflateFactors.j0] at H
        by_cases c15 : x37_6 = true
        · subst c15
          have H1 : (some false) = some r := by rw [if_pos rfl] at H; exact H
          clear H
          have H := H1
          clear H1
          obtain rfl := Option.some.inj H
          go_wp2
          go_ret
          exact ⟨by first | rfl | (simp [errW_none, errW_some] <;> rfl) | (simp [*, errW_none, errW_some] <;> rfl), by repeat (first | (with_reducible first | exact HB.out | apply below_alloc | apply pw_below_drewN | apply below_drew1) | exact HB.out)⟩
        · replace c15 := Bool.eq_false_iff.mpr c15
          subst c15
          have H1 : (barscanlaw34_DeflateFactors.l0 kj6 l0 t307 (t307.length : Int) 0) = some r := by rw [if_neg (show ¬ (false = true) by decide)] at H; exact H
          clear H
          have H := H1
          clear H1
          have H' := Aside0.mk H
          clear H
          go_wp2
          go_loopg [40] kj6 (fun kq v40 w' => ∃ (x40_2 : Int), v40 = .int .i64 x40_2 ∧ Aside0 (barscanlaw34_DeflateFactors.l0 kq l0 t307 (t307.length : Int) x40_2 = some r) ∧ Aside0 (kq ≤ kj6) ∧ Aside0 (Kd.R (Kd.int .i64) 3 w' w.heap.size (fun _ => True) (.slice Ao9 t307.length co9) t307) ∧ Aside0 (Below w.heap.size w w'))
          case atStart => exact ⟨(0), (by first | rfl | (simp; done) | (simp [*]; done)), H', ⟨Nat.le_refl _⟩, ⟨by (with_reducible repeat (first | apply Kd.R_alloc | apply Kd.R_drewN | apply Kd.R_drew)); exact HO_3.out⟩, ⟨by repeat (first | (with_reducible first | exact HB.out | apply below_alloc | apply pw_below_drewN | apply below_drew1) | exact HB.out)⟩⟩
          case round =>
            clear H'
            try clear c1
            try clear hcv1
            try clear c2
            try clear c2b0
            try clear c2b1
            try clear p2
            try clear c3
            try clear c11
            try clear c11b0
            try clear c11b1
            try clear c12
            try clear c12b0
            try clear c12b1
            try clear hcv13
            try clear hcv14
            try clear c15
            try clear p2
            obtain ⟨x40_2, rfl, HA, HK2, HO_38, HB⟩ := hrel
            cases gk with
            | zero => exact absurd HA.out (by simp [barscanlaw34_DeflateFactors.l0])
            | succ k2 =>
              have H := HA.out
              clear HA
              simp only [barscanlaw34_DeflateFactors.l0] at H
              by_cases c16 : x40_2 < (t307.length : Int)
              · rw [if_pos c16] at H
                have c16b0 : decide (x40_2 < (t307.length : Int)) = true := decide_eq_true c16
                clear c16
                by_cases c17 : 0 ≤ x40_2
                · rw [if_pos c17] at H
                  have c17b0 : decide (0 ≤ x40_2) = true := decide_eq_true c17
                  clear c17
                  by_cases c18 : x40_2 < (t307.length : Int)
                  · rw [if_pos c18] at H
                    have c18b0 : decide (x40_2 < (t307.length : Int)) = true := decide_eq_true c18
                    clear c18
                    by_cases c19 : (rd t307 x40_2) < 0
                    · rw [if_pos c19] at H
                      have c19b0 : decide ((rd t307 x40_2) < 0) = true := decide_eq_true c19
                      clear c19
                      obtain rfl := Option.some.inj H
                      have p315 : 0 ≤ (x40_2 : Int) := of_decide_eq_true (by first | (with_reducible assumption) | assumption)
                      have q315 : x40_2 < (t307.length : Int) := of_decide_eq_true (by first | (with_reducible assumption) | assumption)
                      obtain ⟨ad315, e315, hx315_0⟩ := Kd.at_int (Kd.R_reads' HO_38.out).2.2 x40_2 p315 q315
                      cases e315
                      replace p315 := eq_true p315
                      replace q315 := eq_true q315
                      go_wp2
                      go_ret
                      exact ⟨by first | rfl | (simp [errW_none, errW_some] <;> rfl) | (simp [*, errW_none, errW_some] <;> rfl), by repeat (first | (with_reducible first | exact HB.out | apply below_alloc | apply pw_below_drewN | apply below_drew1) | exact HB.out)⟩
                    · rw [if_neg c19] at H
                      have c19b0 : decide ((rd t307 x40_2) < 0) = false := decide_eq_false c19
                      clear c19
                      by_cases c20 : (rd t307 x40_2) > 255
                      · rw [if_pos c20] at H
                        have c20b0 : decide (255 < (rd t307 x40_2)) = true := decide_eq_true c20
                        clear c20
                        by_cases c21 : (wrap64 (Int.tdiv (rd t307 x40_2) 65536)) < 3
                        · rw [if_pos c21] at H
                          have c21b0 : decide ((wrap64 (Int.tdiv (rd t307 x40_2) 65536)) < 3) = true := decide_eq_true c21
                          clear c21
                          obtain rfl := Option.some.inj H
                          have p315 : 0 ≤ (x40_2 : Int) := of_decide_eq_true (by first | (with_reducible assumption) | assumption)
                          have q315 : x40_2 < (t307.length : Int) := of_decide_eq_true (by first | (with_reducible assumption) | assumption)
                          obtain ⟨ad315, e315, hx315_0⟩ := Kd.at_int (Kd.R_reads' HO_38.out).2.2 x40_2 p315 q315
                          cases e315
                          replace p315 := eq_true p315
                          replace q315 := eq_true q315
                          go_wp2
                          go_ret
                          exact ⟨by first | rfl | (simp [errW_none, errW_some] <;> rfl) | (simp [*, errW_none, errW_some] <;> rfl), by repeat (first | (with_reducible first | exact HB.out | apply below_alloc | apply pw_below_drewN | apply below_drew1) | exact HB.out)⟩
                        · rw [if_neg c21] at H
                          have c21b0 : decide ((wrap64 (Int.tdiv (rd t307 x40_2) 65536)) < 3) = false := decide_eq_false c21
                          clear c21
                          by_cases c22 : (wrap64 (Int.tdiv (rd t307 x40_2) 65536)) > 258
                          · rw [if_pos c22] at H
                            have c22b0 : decide (258 < (wrap64 (Int.tdiv (rd t307 x40_2) 65536))) = true := decide_eq_true c22
                            clear c22
                            obtain rfl := Option.some.inj H
                            have p315 : 0 ≤ (x40_2 : Int) := of_decide_eq_true (by first | (with_reducible assumption) | assumption)
                            have q315 : x40_2 < (t307.length : Int) := of_decide_eq_true (by first | (with_reducible assumption) | assumption)
                            obtain ⟨ad315, e315, hx315_0⟩ := Kd.at_int (Kd.R_reads' HO_38.out).2.2 x40_2 p315 q315
                            cases e315
                            replace p315 := eq_true p315
                            replace q315 := eq_true q315
                            go_wp2
                            go_ret
                            exact ⟨by first | rfl | (simp [errW_none, errW_some] <;> rfl) | (simp [*, errW_none, errW_some] <;> rfl), by repeat (first | (with_reducible first | exact HB.out | apply below_alloc | apply pw_below_drewN | apply below_drew1) | exact HB.out)⟩
                          · rw [if_neg c22] at H
                            have c22b0 : decide (258 < (wrap64 (Int.tdiv (rd t307 x40_2) 65536))) = false := decide_eq_false c22
                            clear c22
                            by_cases c23 : (Int.tmod (rd t307 x40_2) 65536) < 1
                            · rw [if_pos c23] at H
                              have c23b0 : decide ((Int.tmod (rd t307 x40_2) 65536) < 1) = true := decide_eq_true c23
                              clear c23
                              obtain rfl := Option.some.inj H
                              have p315 : 0 ≤ (x40_2 : Int) := of_decide_eq_true (by first | (with_reducible assumption) | assumption)
                              have q315 : x40_2 < (t307.length : Int) := of_decide_eq_true (by first | (with_reducible assumption) | assumption)
                              obtain ⟨ad315, e315, hx315_0⟩ := Kd.at_int (Kd.R_reads' HO_38.out).2.2 x40_2 p315 q315
                              cases e315
                              replace p315 := eq_true p315
                              replace q315 := eq_true q315
                              go_wp2
                              go_ret
                              exact ⟨by first | rfl | (simp [errW_none, errW_some] <;> rfl) | (simp [*, errW_none, errW_some] <;> rfl), by repeat (first | (with_reducible first | exact HB.out | apply below_alloc | apply pw_below_drewN | apply below_drew1) | exact HB.out)⟩
                            · rw [if_neg c23] at H
                              have c23b0 : decide ((Int.tmod (rd t307 x40_2) 65536) < 1) = false := decide_eq_false c23
                              clear c23
                              by_cases c24 : (Int.tmod (rd t307 x40_2) 65536) > (l0.length : Int)
                              · rw [if_pos c24] at H
                                have c24b0 : decide ((l0.length : Int) < (Int.tmod (rd t307 x40_2) 65536)) = true := decide_eq_true c24
                                clear c24
                                obtain rfl := Option.some.inj H
                                have p315 : 0 ≤ (x40_2 : Int) := of_decide_eq_true (by first | (with_reducible assumption) | assumption)
                                have q315 : x40_2 < (t307.length : Int) := of_decide_eq_true (by first | (with_reducible assumption) | assumption)
                                obtain ⟨ad315, e315, hx315_0⟩ := Kd.at_int (Kd.R_reads' HO_38.out).2.2 x40_2 p315 q315
                                cases e315
                                replace p315 := eq_true p315
                                replace q315 := eq_true q315
                                go_wp2
                                go_ret
                                exact ⟨by first | rfl | (simp [errW_none, errW_some] <;> rfl) | (simp [*, errW_none, errW_some] <;> rfl), by repeat (first | (with_reducible first | exact HB.out | apply below_alloc | apply pw_below_drewN | apply below_drew1) | exact HB.out)⟩
                              · rw [if_neg c24] at H
                                have c24b0 : decide ((l0.length : Int) < (Int.tmod (rd t307 x40_2) 65536)) = false := decide_eq_false c24
                                clear c24
                                have H' := Aside0.mk H
                                clear H
                                have p315 : 0 ≤ (x40_2 : Int) := of_decide_eq_true (by first | (with_reducible assumption) | assumption)
                                have q315 : x40_2 < (t307.length : Int) := of_decide_eq_true (by first | (with_reducible assumption) | assumption)
                                obtain ⟨ad315, e315, hx315_0⟩ := Kd.at_int (Kd.R_reads' HO_38.out).2.2 x40_2 p315 q315
                                cases e315
                                replace p315 := eq_true p315
                                replace q315 := eq_true q315
                                go_wp2
                                go_roundg k2
                                case measure => have := HJ6.out; have := HK2.out; omega
                                case rel => exact ⟨(wrap64 (x40_2 + 1)), (by first | rfl | (simp; done) | (simp [*]; done)), H', ⟨by have := HJ6.out; have := HK2.out; omega⟩, ⟨by (with_reducible repeat (first | apply Kd.R_alloc | apply Kd.R_drewN | apply Kd.R_drew)); exact HO_38.out⟩, ⟨by repeat (first | (with_reducible first | exact HB.out | apply below_alloc | apply pw_below_drewN | apply below_drew1) | exact HB.out)⟩⟩
                      · rw [if_neg c20] at H
                        have c20b0 : decide (255 < (rd t307 x40_2)) = false := decide_eq_false c20
                        clear c20
                        have H' := Aside0.mk H
                        clear H
                        have p315 : 0 ≤ (x40_2 : Int) := of_decide_eq_true (by first | (with_reducible assumption) | assumption)
                        have q315 : x40_2 < (t307.length : Int) := of_decide_eq_true (by first | (with_reducible assumption) | assumption)
                        obtain ⟨ad315, e315, hx315_0⟩ := Kd.at_int (Kd.R_reads' HO_38.out).2.2 x40_2 p315 q315
                        cases e315
                        replace p315 := eq_true p315
                        replace q315 := eq_true q315
                        go_wp2
                        go_roundg k2
                        case measure => have := HJ6.out; have := HK2.out; omega
                        case rel => exact ⟨(wrap64 (x40_2 + 1)), (by first | rfl | (simp; done) | (simp [*]; done)), H', ⟨by have := HJ6.out; have := HK2.out; omega⟩, ⟨by (with_reducible repeat (first | apply Kd.R_alloc | apply Kd.R_drewN | apply Kd.R_drew)); exact HO_38.out⟩, ⟨by repeat (first | (with_reducible first | exact HB.out | apply below_alloc | apply pw_below_drewN | apply below_drew1) | exact HB.out)⟩⟩
                  · rw [if_neg c18] at H
                    exact absurd H (by simp)
                · rw [if_neg c17] at H
                  exact absurd H (by simp)
              · rw [if_neg c16] at H
                have c16b0 : decide (x40_2 < (t307.length : Int)) = false := decide_eq_false c16
                clear c16
                replace H := Option.bind_eq_some_iff.mp H
                obtain ⟨t316, A250, H⟩ := H
                replace H : (some t316) = some r := H
                have A25 := Aside0.mk A250
                clear A250
                obtain rfl := Option.some.inj H
                go_wp2_with (first | ((with_reducible refine gate_callee (f := 32) rfl ?_); refine goesL_ (some 73) rfl rfl Try.func32 (by kernel_rfl) rfl #[] rfl (by (try simp only [List.map_toArray, List.map_cons, List.map_nil]); first | done | rfl | (simp only [List.length_drop, List.length_take]; rfl)) ?_; (with_reducible refine (barscanlaw34_examples.calls  t316 _ A25.out).mono ?_); rintro e w26 ⟨rfl, hb⟩; refine ⟨_, rfl, ?_⟩; have n0_ := Aside0.mk (Kd.R_below (by (with_reducible repeat (first | apply Kd.R_alloc | apply Kd.R_drewN | apply Kd.R_drew)); exact HO_38.out) hb); have n1_ := Aside0.mk (below_step (by repeat (first | (with_reducible first | exact HB.out | apply below_alloc | apply pw_below_drewN | apply below_drew1) | exact HB.out)) hb); clear HO_38; clear HB; have HO_38 := n0_; have HB := n1_; clear n0_ n1_; (try clear hb); (try clear hb2); (try clear hk); (try clear hi)))
                go_ret
                exact ⟨by first | rfl | (simp [errW_none, errW_some] <;> rfl) | (simp [*, errW_none, errW_some] <;> rfl), by repeat (first | (with_reducible first | exact HB.out | apply below_alloc | apply pw_below_drewN | apply below_drew1) | exact HB.out)⟩

/-- THE ONE PURE STATEMENT of barscanlaw34_DeflateFactors: yours. -/
def barscanlaw34_DeflateFactors.Pure : Prop := ∀ (l0 : List Int), l0.length ≤ maxLen → l0.length * 1 ≤ 140737488351232 → (∀ x ∈ l0, (Lit.int .u8 x).wf = true) → ∃ k, barscanlaw34_DeflateFactors.f k l0 = some true
theorem barscanlaw34_DeflateFactors.walk (P : barscanlaw34_DeflateFactors.Pure) (a0 : Option Addr) (len0 cap0 : Nat) (z0 : List Int) (w : World) (w0 : (a0 = none ∧ len0 = 0 ∧ cap0 = 0 ∧ z0 = []) ∨ ∃ x, a0 = some x ∧ len0 ≤ cap0 ∧ cap0 ≤ maxLen ∧ z0.length = cap0 ∧ (∀ i, i < z0.length → w.cell? (x.add i) = some (.int .u8 (z0.getD i 0))) ∧ ∀ n ∈ z0, (Lit.int .u8 n).wf = true) (y0 : len0 * 1 ≤ 140737488351232) :
    Calls Try.prog 12 #[.slice a0 len0 cap0] w fun e w' => e = .returned (.bool true) ∧ Below w.heap.size w w' := by
  obtain ⟨l0, rfl, hr0, hm0, hw0, hc0⟩ := ReadsInt.ofRowC w0
  obtain ⟨k, h⟩ := P l0 hm0 y0 hw0
  refine (barscanlaw34_DeflateFactors.calls k _ _ l0 true w (Kd.C_of_reads (d := (0 : Int)) (h1 := fun _ => rfl) hr0) hc0 h).mono ?_
  rintro e w' ⟨rfl, hd⟩
  exact ⟨rfl, hd⟩

end Go.Proofs.Ytldhpniflnbilaa.PL
