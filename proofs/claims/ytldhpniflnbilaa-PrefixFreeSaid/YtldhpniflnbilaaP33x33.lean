-- Written by a program of this session (the kit's print, turned so that some callees are taken by contracts of the session)
import Derived.Test.YtldhpniflnbilaaP33x0
import Derived.Test.YtldhpniflnbilaaP33x6
import Derived.Test.YtldhpniflnbilaaP33x12
namespace Go.Proofs.Ytldhpniflnbilaa.P33
open Go.RowKit Go.Proofs.YtldhpniflnbilaaW.PrintWords Go.Proofs.YtldhpniflnbilaaW.PrintLast Go.Proofs.YtldhpniflnbilaaW.PrintMore
attribute [local go_sem] max2_int min2_int max_two min_two max_three min_three max_four min_four   -- for this text's walks alone
set_option linter.unusedVariables false
set_option linter.unusedSimpArgs false

/-! ### barscanlaw33_PrefixFree: function 8 -/
mutual
def barscanlaw33_PrefixFree.l0 : Nat → List Int → List Int → Int → Int → Option (Bool)
  | 0, _, _, _, _ => none
  | k + 1, x0, x3, x31, x32 => if x32 < x31 then (if 0 ≤ x32 then (if x32 < (x0.length : Int) then (if (rd x0 x32) = 0 then (if x32 < (x3.length : Int) then (if (rd x3 x32) = 0 then (if (rd x3 x32) < 0 then (barscanlaw33_PrefixFree.j1 k x0 x3 x32 x31 x32 true) else (if 0 ≤ (IntKind.u64.wrap (rd x0 x32)) then (barscanlaw33_PrefixFree.j1 k x0 x3 x32 x31 x32 (decide ((rd x3 x32) ≥ (shl .i64 1 (IntKind.u64.wrap (rd x0 x32)))))) else (none))) else (barscanlaw33_PrefixFree.j1 k x0 x3 x32 x31 x32 true)) else (none)) else (if x32 < (x3.length : Int) then (if (rd x3 x32) < 0 then (barscanlaw33_PrefixFree.j1 k x0 x3 x32 x31 x32 true) else (if 0 ≤ (IntKind.u64.wrap (rd x0 x32)) then (barscanlaw33_PrefixFree.j1 k x0 x3 x32 x31 x32 (decide ((rd x3 x32) ≥ (shl .i64 1 (IntKind.u64.wrap (rd x0 x32)))))) else (none))) else (none))) else (none)) else (none)) else ((barscanlaw33_alive.f k).bind fun t436 => (some t436))
def barscanlaw33_PrefixFree.j1 : Nat → List Int → List Int → Int → Int → Int → Bool → Option (Bool)
  | 0, _, _, _, _, _, _ => none
  | k + 1, x0, x3, x5, x31, x32, x66 => if x66 = true then (some false) else (barscanlaw33_PrefixFree.l1 k x0 x3 x5 x31 x32 (x3.length : Int) 0)
def barscanlaw33_PrefixFree.l1 : Nat → List Int → List Int → Int → Int → Int → Int → Int → Option (Bool)
  | 0, _, _, _, _, _, _, _ => none
  | k + 1, x0, x3, x5, x31, x32, x68, x69 => if x69 < x68 then (if x5 = x69 then (barscanlaw33_PrefixFree.j3 k x0 x3 x5 x69 x31 x32 x68 x69 true) else (if 0 ≤ x5 then (if x5 < (x0.length : Int) then (if (rd x0 x5) = 0 then (barscanlaw33_PrefixFree.j3 k x0 x3 x5 x69 x31 x32 x68 x69 true) else (if 0 ≤ x69 then (if x69 < (x0.length : Int) then (barscanlaw33_PrefixFree.j3 k x0 x3 x5 x69 x31 x32 x68 x69 (decide ((rd x0 x69) < (rd x0 x5)))) else (none)) else (none))) else (none)) else (none))) else (barscanlaw33_PrefixFree.l0 k x0 x3 x31 (wrap64 (x32 + 1)))
def barscanlaw33_PrefixFree.j3 : Nat → List Int → List Int → Int → Int → Int → Int → Int → Int → Bool → Option (Bool)
  | 0, _, _, _, _, _, _, _, _, _ => none
  | k + 1, x0, x3, x5, x6, x31, x32, x68, x69, x92 => if x92 = true then (barscanlaw33_PrefixFree.l1 k x0 x3 x5 x31 x32 x68 (wrap64 (x69 + 1))) else (if 0 ≤ x6 then (if x6 < (x3.length : Int) then (if x6 < (x0.length : Int) then (if 0 ≤ x5 then (if x5 < (x0.length : Int) then (if 0 ≤ (IntKind.u64.wrap (wrap64 ((rd x0 x6) - (rd x0 x5)))) then (if x5 < (x3.length : Int) then (if (shr .i64 (rd x3 x6) (IntKind.u64.wrap (wrap64 ((rd x0 x6) - (rd x0 x5))))) = (rd x3 x5) then (some false) else (if (rd x0 x6) = (rd x0 x5) then (if ((decide ((shr .i64 (rd x3 x6) (IntKind.u64.wrap (wrap64 ((rd x0 x6) - (rd x0 x5))))) < (rd x3 x5))) != (decide (x6 < x5))) = true then (some false) else (barscanlaw33_PrefixFree.l1 k x0 x3 x5 x31 x32 x68 (wrap64 (x69 + 1)))) else (if ((decide ((shr .i64 (rd x3 x6) (IntKind.u64.wrap (wrap64 ((rd x0 x6) - (rd x0 x5))))) < (rd x3 x5))) != false) = true then (some false) else (barscanlaw33_PrefixFree.l1 k x0 x3 x5 x31 x32 x68 (wrap64 (x69 + 1)))))) else (none)) else (none)) else (none)) else (none)) else (none)) else (none)) else (none))
end
def barscanlaw33_PrefixFree.f (k : Nat) (l0 : List Int) : Option (Bool) := if (l0.length : Int) > 150 then ((barscanlaw33_alive.f k).bind fun t430 => (some t430)) else ((prefix_Codes.f k l0).bind fun bt431 => (if bt431.2 = 0 then (if (bt431.1.length : Int) = (l0.length : Int) then (barscanlaw33_PrefixFree.l0 k l0 bt431.1 (bt431.1.length : Int) 0) else (some false)) else (if (bt431.1.length : Int) = 0 then ((barscanlaw33_alive.f k).bind fun t435 => (some t435)) else (some false))))
theorem barscanlaw33_PrefixFree.mono_l : ∀ k, (∀ y0 y1 y2 y3, LeO (barscanlaw33_PrefixFree.l0 k y0 y1 y2 y3) (barscanlaw33_PrefixFree.l0 (k + 1) y0 y1 y2 y3)) ∧ (∀ y0 y1 y2 y3 y4 y5, LeO (barscanlaw33_PrefixFree.j1 k y0 y1 y2 y3 y4 y5) (barscanlaw33_PrefixFree.j1 (k + 1) y0 y1 y2 y3 y4 y5)) ∧ (∀ y0 y1 y2 y3 y4 y5 y6, LeO (barscanlaw33_PrefixFree.l1 k y0 y1 y2 y3 y4 y5 y6) (barscanlaw33_PrefixFree.l1 (k + 1) y0 y1 y2 y3 y4 y5 y6)) ∧ (∀ y0 y1 y2 y3 y4 y5 y6 y7 y8, LeO (barscanlaw33_PrefixFree.j3 k y0 y1 y2 y3 y4 y5 y6 y7 y8) (barscanlaw33_PrefixFree.j3 (k + 1) y0 y1 y2 y3 y4 y5 y6 y7 y8))
  | 0 => ⟨fun _ _ _ _ r h => by simp [barscanlaw33_PrefixFree.l0] at h, fun _ _ _ _ _ _ r h => by simp [barscanlaw33_PrefixFree.j1] at h, fun _ _ _ _ _ _ _ r h => by simp [barscanlaw33_PrefixFree.l1] at h, fun _ _ _ _ _ _ _ _ _ r h => by simp [barscanlaw33_PrefixFree.j3] at h⟩
  | k + 1 => by
    obtain ⟨ih0, ih1, ih2, ih3⟩ := barscanlaw33_PrefixFree.mono_l k
    refine ⟨?_, ?_, ?_, ?_⟩
    · intro y0 y1 y2 y3
      unfold barscanlaw33_PrefixFree.l0
      repeat' first
      | (with_reducible exact ih0 _ _ _ _)
      | (with_reducible exact ih1 _ _ _ _ _ _)
      | (with_reducible exact ih2 _ _ _ _ _ _ _)
      | (with_reducible exact ih3 _ _ _ _ _ _ _ _ _)
      | (with_reducible exact barscanlaw33_alive.mono _)
      | (with_reducible exact prefix_Codes.mono _ _)
      | (with_reducible exact LeO.refl _)
      | (with_reducible exact LeO.none _)
      | (with_reducible refine LeO.ite ?_ ?_)
      | (with_reducible refine LeO.bind ?_ (fun _ => ?_))
      | exact ih0 _ _ _ _
      | exact ih1 _ _ _ _ _ _
      | exact ih2 _ _ _ _ _ _ _
      | exact ih3 _ _ _ _ _ _ _ _ _
      | exact barscanlaw33_alive.mono _
      | exact prefix_Codes.mono _ _
      | exact LeO.none _
      | refine LeO.ite ?_ ?_
      | refine LeO.bind ?_ (fun _ => ?_)
    · intro y0 y1 y2 y3 y4 y5
      unfold barscanlaw33_PrefixFree.j1
      repeat' first
      | (with_reducible exact ih0 _ _ _ _)
      | (with_reducible exact ih1 _ _ _ _ _ _)
      | (with_reducible exact ih2 _ _ _ _ _ _ _)
      | (with_reducible exact ih3 _ _ _ _ _ _ _ _ _)
      | (with_reducible exact barscanlaw33_alive.mono _)
      | (with_reducible exact prefix_Codes.mono _ _)
      | (with_reducible exact LeO.refl _)
      | (with_reducible exact LeO.none _)
      | (with_reducible refine LeO.ite ?_ ?_)
      | (with_reducible refine LeO.bind ?_ (fun _ => ?_))
      | exact ih0 _ _ _ _
      | exact ih1 _ _ _ _ _ _
      | exact ih2 _ _ _ _ _ _ _
      | exact ih3 _ _ _ _ _ _ _ _ _
      | exact barscanlaw33_alive.mono _
      | exact prefix_Codes.mono _ _
      | exact LeO.none _
      | refine LeO.ite ?_ ?_
      | refine LeO.bind ?_ (fun _ => ?_)
    · intro y0 y1 y2 y3 y4 y5 y6
      unfold barscanlaw33_PrefixFree.l1
      repeat' first
      | (with_reducible exact ih0 _ _ _ _)
      | (with_reducible exact ih1 _ _ _ _ _ _)
      | (with_reducible exact ih2 _ _ _ _ _ _ _)
      | (with_reducible exact ih3 _ _ _ _ _ _ _ _ _)
      | (with_reducible exact barscanlaw33_alive.mono _)
      | (with_reducible exact prefix_Codes.mono _ _)
      | (with_reducible exact LeO.refl _)
      | (with_reducible exact LeO.none _)
      | (with_reducible refine LeO.ite ?_ ?_)
      | (with_reducible refine LeO.bind ?_ (fun _ => ?_))
      | exact ih0 _ _ _ _
      | exact ih1 _ _ _ _ _ _
      | exact ih2 _ _ _ _ _ _ _
      | exact ih3 _ _ _ _ _ _ _ _ _
      | exact barscanlaw33_alive.mono _
      | exact prefix_Codes.mono _ _
      | exact LeO.none _
      | refine LeO.ite ?_ ?_
      | refine LeO.bind ?_ (fun _ => ?_)
    · intro y0 y1 y2 y3 y4 y5 y6 y7 y8
      unfold barscanlaw33_PrefixFree.j3
      repeat' first
      | (with_reducible exact ih0 _ _ _ _)
      | (with_reducible exact ih1 _ _ _ _ _ _)
      | (with_reducible exact ih2 _ _ _ _ _ _ _)
      | (with_reducible exact ih3 _ _ _ _ _ _ _ _ _)
      | (with_reducible exact barscanlaw33_alive.mono _)
      | (with_reducible exact prefix_Codes.mono _ _)
      | (with_reducible exact LeO.refl _)
      | (with_reducible exact LeO.none _)
      | (with_reducible refine LeO.ite ?_ ?_)
      | (with_reducible refine LeO.bind ?_ (fun _ => ?_))
      | exact ih0 _ _ _ _
      | exact ih1 _ _ _ _ _ _
      | exact ih2 _ _ _ _ _ _ _
      | exact ih3 _ _ _ _ _ _ _ _ _
      | exact barscanlaw33_alive.mono _
      | exact prefix_Codes.mono _ _
      | exact LeO.none _
      | refine LeO.ite ?_ ?_
      | refine LeO.bind ?_ (fun _ => ?_)
theorem barscanlaw33_PrefixFree.mono : ∀ a0 k, LeO (barscanlaw33_PrefixFree.f k a0) (barscanlaw33_PrefixFree.f (k + 1) a0) := by
  intro a0 k
  obtain ⟨ih0, ih1, ih2, ih3⟩ := barscanlaw33_PrefixFree.mono_l k
  unfold barscanlaw33_PrefixFree.f
  repeat' first
      | (with_reducible exact ih0 _ _ _ _)
      | (with_reducible exact ih1 _ _ _ _ _ _)
      | (with_reducible exact ih2 _ _ _ _ _ _ _)
      | (with_reducible exact ih3 _ _ _ _ _ _ _ _ _)
      | (with_reducible exact barscanlaw33_alive.mono _)
      | (with_reducible exact prefix_Codes.mono _ _)
      | (with_reducible exact LeO.refl _)
      | (with_reducible exact LeO.none _)
      | (with_reducible refine LeO.ite ?_ ?_)
      | (with_reducible refine LeO.bind ?_ (fun _ => ?_))
      | exact ih0 _ _ _ _
      | exact ih1 _ _ _ _ _ _
      | exact ih2 _ _ _ _ _ _ _
      | exact ih3 _ _ _ _ _ _ _ _ _
      | exact barscanlaw33_alive.mono _
      | exact prefix_Codes.mono _ _
      | exact LeO.none _
      | refine LeO.ite ?_ ?_
      | refine LeO.bind ?_ (fun _ => ?_)
set_option maxHeartbeats 8000000 in
set_option maxRecDepth 100000 in
theorem barscanlaw33_PrefixFree.calls (k : Nat) (A0 : Option Addr) (c0 : Nat) (l0 : List Int) (r : Bool) (w : World) (hr0 : Kd.C (Kd.int .i64) w A0 l0.length l0) (hc0 : l0.length ≤ c0) (h : barscanlaw33_PrefixFree.f k l0 = some r) :
    Calls Try.prog 8 #[.slice A0 l0.length c0] w fun e w' => e = .returned (.bool r) ∧ Below w.heap.size w w' := by
  have HR0 := Aside0.mk hr0
  have HC0 := Aside0.mk hc0
  clear hr0 hc0
  have HB := Aside0.mk (Below.refl w.heap.size w)
  have H : (if (l0.length : Int) > 150 then ((barscanlaw33_alive.f k).bind fun t430 => (some t430)) else ((prefix_Codes.f k l0).bind fun bt431 => (if bt431.2 = 0 then (if (bt431.1.length : Int) = (l0.length : Int) then (barscanlaw33_PrefixFree.l0 k l0 bt431.1 (bt431.1.length : Int) 0) else (some false)) else (if (bt431.1.length : Int) = 0 then ((barscanlaw33_alive.f k).bind fun t435 => (some t435)) else (some false))))) = some r := h
  clear h
  by_cases c2 : (l0.length : Int) > 150
  · rw [if_pos c2] at H
    have c2b0 : decide (150 < (l0.length : Int)) = true := decide_eq_true c2
    have c2b1 : decide (150 < l0.length) = true := decide_eq_true (by omega)
    clear c2
    replace H := Option.bind_eq_some_iff.mp H
    obtain ⟨t430, A30, H⟩ := H
    replace H : (some t430) = some r := H
    have A3 := Aside0.mk A30
    clear A30
    obtain rfl := Option.some.inj H
    go_enter Try.func8, Try.ntmps8
    go_wp2_with (first | (go_at_call 16; (with_reducible refine (barscanlaw33_alive.calls k  t430 _ A3.out).mono ?_); rintro e w4 ⟨rfl, hb⟩; have n0_ := Aside0.mk (below_step (by repeat (first | (with_reducible first | exact HB.out | apply below_alloc | apply pw_below_drewN | apply below_drew1) | exact HB.out)) hb); clear HB; have HB := n0_; clear n0_; (try clear hb); (try clear hb2); (try clear hk); (try clear hi)))
    repeat (go_quiet (first | (go_at_call 16; (with_reducible refine (barscanlaw33_alive.calls k  t430 _ A3.out).mono ?_); rintro e w4 ⟨rfl, hb⟩; have n0_ := Aside0.mk (below_step (by repeat (first | (with_reducible first | exact HB.out | apply below_alloc | apply pw_below_drewN | apply below_drew1) | exact HB.out)) hb); clear HB; have HB := n0_; clear n0_; (try clear hb); (try clear hb2); (try clear hk); (try clear hi))); try go_wp2_with (first | (go_at_call 16; (with_reducible refine (barscanlaw33_alive.calls k  t430 _ A3.out).mono ?_); rintro e w4 ⟨rfl, hb⟩; have n0_ := Aside0.mk (below_step (by repeat (first | (with_reducible first | exact HB.out | apply below_alloc | apply pw_below_drewN | apply below_drew1) | exact HB.out)) hb); clear HB; have HB := n0_; clear n0_; (try clear hb); (try clear hb2); (try clear hk); (try clear hi))))
    go_ret
    exact ⟨by first | rfl | (simp [errW_none, errW_some] <;> rfl) | (simp [*, errW_none, errW_some] <;> rfl), by repeat (first | (with_reducible first | exact HB.out | apply below_alloc | apply pw_below_drewN | apply below_drew1) | exact HB.out)⟩
  · rw [if_neg c2] at H
    have c2b0 : decide (150 < (l0.length : Int)) = false := decide_eq_false c2
    have c2b1 : decide (150 < l0.length) = false := decide_eq_false (by omega)
    clear c2
    replace H := Option.bind_eq_some_iff.mp H
    obtain ⟨⟨t431, t432⟩, A50, H⟩ := H
    replace H : (if t432 = 0 then (if (t431.length : Int) = (l0.length : Int) then (barscanlaw33_PrefixFree.l0 k l0 t431 (t431.length : Int) 0) else (some false)) else (if (t431.length : Int) = 0 then ((barscanlaw33_alive.f k).bind fun t435 => (some t435)) else (some false))) = some r := H
    have A5 := Aside0.mk A50
    clear A50
    by_cases c6 : t432 = 0
    · rw [if_pos c6] at H
      have c6b0 : (t432 == 0) = true := beq_iff_eq.mpr c6
      have c6b1 : (t432 != 0) = false := bne_eq_false_iff_eq.mpr c6
      clear c6
      by_cases c7 : (t431.length : Int) = (l0.length : Int)
      · rw [if_pos c7] at H
        have c7b0 : ((t431.length : Int) == (l0.length : Int)) = true := beq_iff_eq.mpr c7
        have c7b1 : ((t431.length : Int) != (l0.length : Int)) = false := bne_eq_false_iff_eq.mpr c7
        have c7b2 : (t431.length == l0.length) = true := by first | simpa using c7 | (simp at c7 ⊢; omega)
        clear c7
        have H' := Aside0.mk H
        clear H
        go_enter Try.func8, Try.ntmps8
        go_wp2_with (first | (go_at_call 20; (with_reducible refine (prefix_Codes.calls k _ _ l0 t431 t432 _ ?side1 ?side2 A5.out).mono ?_); (case side1 => repeat (first | exact HR0.out | (with_reducible refine Kd.C_alloc ?_ _) | (with_reducible refine Kd.C_drewN ?_ _) | (with_reducible refine Kd.C_drew ?_))); (case side2 => exact HC0.out); rintro e w8 ⟨v433, rfl, ho0, hb⟩; have n0_ := Aside0.mk (Kd.R_lower ho0 (below_size (by repeat (first | (with_reducible first | exact HB.out | apply below_alloc | apply pw_below_drewN | apply below_drew1) | exact HB.out)))); have n1_ := Aside0.mk (below_step (by repeat (first | (with_reducible first | exact HB.out | apply below_alloc | apply pw_below_drewN | apply below_drew1) | exact HB.out)) hb); clear HB; have HO434 := n0_; have HB := n1_; clear n0_ n1_; (try clear hb); (try clear hb2); (try clear hk); (try clear hi); (try clear ho0); obtain ⟨Ao9, co9, eo9⟩ := Kd.R_slice HO434.out; subst eo9))
        repeat (go_quiet (first | (go_at_call 20; (with_reducible refine (prefix_Codes.calls k _ _ l0 t431 t432 _ ?side1 ?side2 A5.out).mono ?_); (case side1 => repeat (first | exact HR0.out | (with_reducible refine Kd.C_alloc ?_ _) | (with_reducible refine Kd.C_drewN ?_ _) | (with_reducible refine Kd.C_drew ?_))); (case side2 => exact HC0.out); rintro e w8 ⟨v433, rfl, ho0, hb⟩; have n0_ := Aside0.mk (Kd.R_lower ho0 (below_size (by repeat (first | (with_reducible first | exact HB.out | apply below_alloc | apply pw_below_drewN | apply below_drew1) | exact HB.out)))); have n1_ := Aside0.mk (below_step (by repeat (first | (with_reducible first | exact HB.out | apply below_alloc | apply pw_below_drewN | apply below_drew1) | exact HB.out)) hb); clear HB; have HO434 := n0_; have HB := n1_; clear n0_ n1_; (try clear hb); (try clear hb2); (try clear hk); (try clear hi); (try clear ho0); obtain ⟨Ao9, co9, eo9⟩ := Kd.R_slice HO434.out; subst eo9)); try go_wp2_with (first | (go_at_call 20; (with_reducible refine (prefix_Codes.calls k _ _ l0 t431 t432 _ ?side1 ?side2 A5.out).mono ?_); (case side1 => repeat (first | exact HR0.out | (with_reducible refine Kd.C_alloc ?_ _) | (with_reducible refine Kd.C_drewN ?_ _) | (with_reducible refine Kd.C_drew ?_))); (case side2 => exact HC0.out); rintro e w8 ⟨v433, rfl, ho0, hb⟩; have n0_ := Aside0.mk (Kd.R_lower ho0 (below_size (by repeat (first | (with_reducible first | exact HB.out | apply below_alloc | apply pw_below_drewN | apply below_drew1) | exact HB.out)))); have n1_ := Aside0.mk (below_step (by repeat (first | (with_reducible first | exact HB.out | apply below_alloc | apply pw_below_drewN | apply below_drew1) | exact HB.out)) hb); clear HB; have HO434 := n0_; have HB := n1_; clear n0_ n1_; (try clear hb); (try clear hb2); (try clear hk); (try clear hi); (try clear ho0); obtain ⟨Ao9, co9, eo9⟩ := Kd.R_slice HO434.out; subst eo9)))
        go_loopg [32] k (fun kq v32 w' => ∃ (x32_1 : Int), v32 = .int .i64 x32_1 ∧ Aside0 (barscanlaw33_PrefixFree.l0 kq l0 t431 (t431.length : Int) x32_1 = some r) ∧ Aside0 (kq ≤ k) ∧ Aside0 (Kd.R (Kd.int .i64) 3 w' w.heap.size (fun _ => True) (.slice Ao9 t431.length co9) t431) ∧ Aside0 (Below w.heap.size w w'))
        case atStart => exact ⟨(0), (by first | rfl | (simp; done) | (simp [*]; done)), H', ⟨Nat.le_refl _⟩, ⟨by (with_reducible repeat (first | apply Kd.R_alloc | apply Kd.R_drewN | apply Kd.R_drew)); exact HO434.out⟩, ⟨by repeat (first | (with_reducible first | exact HB.out | apply below_alloc | apply pw_below_drewN | apply below_drew1) | exact HB.out)⟩⟩
        case round =>
          clear H'
          try clear c2
          try clear c2b0
          try clear c2b1
          try clear p2
          try clear c6
          try clear c6b0
          try clear c6b1
          try clear c7
          try clear c7b0
          try clear c7b1
          try clear c7b2
          try clear c8
          obtain ⟨x32_1, rfl, HA, HK1, HO_3, HB⟩ := hrel
          cases gk with
          | zero => exact absurd HA.out (by simp [barscanlaw33_PrefixFree.l0])
          | succ k1 =>
            have H := HA.out
            clear HA
            simp only [barscanlaw33_PrefixFree.l0] at H
            by_cases c10 : x32_1 < (t431.length : Int)
            · rw [if_pos c10] at H
              have c10b0 : decide (x32_1 < (t431.length : Int)) = true := decide_eq_true c10
              clear c10
              have HC11 := Aside0.mk H
              clear H
              go_upto_region 11 with (fail)
              repeat (go_quiet (fail); go_upto_region 11 with (fail))
              go_cut [66] (fun v66 wc => ∃ (kq : Nat) (x66_10 : Bool), v66 = .bool x66_10 ∧ Aside0 (barscanlaw33_PrefixFree.j1 kq l0 t431 x32_1 (t431.length : Int) x32_1 x66_10 = some r) ∧ Aside0 (kq ≤ k1) ∧ Aside0 (Kd.R (Kd.int .i64) 3 wc w.heap.size (fun _ => True) (.slice Ao9 t431.length co9) t431) ∧ Aside0 (Below w.heap.size w wc))
              case first =>
                have H := HC11.out
                clear HC11
                by_cases c12 : 0 ≤ x32_1
                · rw [if_pos c12] at H
                  have c12b0 : decide (0 ≤ x32_1) = true := decide_eq_true c12
                  clear c12
                  (first | rw [c12b0] | (simp only [i64_w, i32_w]; rw [c12b0]) | skip)
                  by_cases c13 : x32_1 < (l0.length : Int)
                  · rw [if_pos c13] at H
                    have c13b0 : decide (x32_1 < (l0.length : Int)) = true := decide_eq_true c13
                    clear c13
                    by_cases c14 : (rd l0 x32_1) = 0
                    · rw [if_pos c14] at H
                      have c14b0 : ((rd l0 x32_1) == 0) = true := beq_iff_eq.mpr c14
                      have c14b1 : ((rd l0 x32_1) != 0) = false := bne_eq_false_iff_eq.mpr c14
                      clear c14
                      by_cases c15 : x32_1 < (t431.length : Int)
                      · rw [if_pos c15] at H
                        have c15b0 : decide (x32_1 < (t431.length : Int)) = true := decide_eq_true c15
                        clear c15
                        by_cases c16 : (rd t431 x32_1) = 0
                        · rw [if_pos c16] at H
                          have c16b0 : ((rd t431 x32_1) == 0) = true := beq_iff_eq.mpr c16
                          have c16b1 : ((rd t431 x32_1) != 0) = false := bne_eq_false_iff_eq.mpr c16
                          clear c16
                          by_cases c17 : (rd t431 x32_1) < 0
                          · rw [if_pos c17] at H
                            have c17b0 : decide ((rd t431 x32_1) < 0) = true := decide_eq_true c17
                            clear c17
                            have H' := Aside0.mk H
                            clear H
                            have p437 : 0 ≤ (x32_1 : Int) := of_decide_eq_true (by first | (with_reducible assumption) | assumption)
                            have q437 : x32_1 < (l0.length : Int) := of_decide_eq_true (by first | (with_reducible assumption) | assumption)
                            obtain ⟨ad437, e437, hx437_0⟩ := Kd.at_int HR0.out x32_1 p437 q437
                            cases e437
                            replace hx437_0 := (HB.out.cell (World.block_lt_of_cell? w _ hx437_0)).trans hx437_0
                            replace p437 := eq_true p437
                            replace q437 := eq_true q437
                            have p438 : 0 ≤ (x32_1 : Int) := of_decide_eq_true (by first | (with_reducible assumption) | assumption)
                            have q438 : x32_1 < (t431.length : Int) := of_decide_eq_true (by first | (with_reducible assumption) | assumption)
                            obtain ⟨ad438, e438, hx438_0⟩ := Kd.at_int (Kd.R_reads' HO_3.out).2.2 x32_1 p438 q438
                            cases e438
                            replace p438 := eq_true p438
                            replace q438 := eq_true q438
                            have p439 : 0 ≤ (x32_1 : Int) := of_decide_eq_true (by first | (with_reducible assumption) | assumption)
                            have q439 : x32_1 < (t431.length : Int) := of_decide_eq_true (by first | (with_reducible assumption) | assumption)
                            obtain ⟨ad439, e439, hx439_0⟩ := Kd.at_int (Kd.R_reads' HO_3.out).2.2 x32_1 p439 q439
                            obtain rfl : ad438 = ad439 := (by injection e439)
                            replace p439 := eq_true p439
                            replace q439 := eq_true q439
                            go_wp2
                            repeat (go_quiet (fail); try go_wp2)
                            go_meet
                            case rel => exact ⟨_, (true), (by first | rfl | (simp; done) | (simp [*]; done)), H', ⟨by have := HK1.out; first | omega | exact Nat.le_refl _⟩, ⟨by (with_reducible repeat (first | apply Kd.R_alloc | apply Kd.R_drewN | apply Kd.R_drew)); exact HO_3.out⟩, ⟨by repeat (first | (with_reducible first | exact HB.out | apply below_alloc | apply pw_below_drewN | apply below_drew1) | exact HB.out)⟩⟩
                          · rw [if_neg c17] at H
                            have c17b0 : decide ((rd t431 x32_1) < 0) = false := decide_eq_false c17
                            clear c17
                            obtain ⟨ji18, hji18⟩ : ∃ j_ : Int, (IntKind.u64.wrap (rd l0 x32_1)) = j_ := ⟨_, rfl⟩
                            replace H : (if 0 ≤ (ji18) then (barscanlaw33_PrefixFree.j1 k1 l0 t431 x32_1 (t431.length : Int) x32_1 (decide ((rd t431 x32_1) ≥ (shl .i64 1 (ji18))))) else (none)) = some r := by first | (rw [hji18] at H; exact H) | (simp only [hji18] at H ⊢; exact H)
                            by_cases c19 : 0 ≤ (ji18)
                            · rw [if_pos c19] at H
                              have c19b0 := eq_true c19
                              have c19b1 : decide (0 ≤ (ji18)) = true := decide_eq_true c19
                              clear c19
                              obtain ⟨ji20, hji20⟩ : ∃ j_ : Int, (shl .i64 1 (ji18)) = j_ := ⟨_, rfl⟩
                              replace H : (barscanlaw33_PrefixFree.j1 k1 l0 t431 x32_1 (t431.length : Int) x32_1 (decide ((rd t431 x32_1) ≥ (ji20)))) = some r := by first | (rw [hji20] at H; exact H) | (simp only [hji20] at H ⊢; exact H)
                              have hji20_ : (IntKind.i64.wrap (1 * 2 ^ min (ji18).toNat 64)) = ji20 := hji20
                              have hji20z : (ji18) ≤ 64 → (IntKind.i64.wrap (1 * 2 ^ (ji18).toNat)) = ji20 := shl_small hji20
                              have hji20u : (IntKind.i64.wrap (2 ^ min (ji18).toNat 64)) = ji20 := by have h_ := hji20_; rw [Int.one_mul] at h_; exact h_
                              have hji20v : (ji18) ≤ 64 → (IntKind.i64.wrap (2 ^ (ji18).toNat)) = ji20 := fun hle_ => by have h_ := hji20z hle_; rw [Int.one_mul] at h_; exact h_
                              have hji20y : (wrap64 (1 * 2 ^ min (ji18).toNat 64)) = ji20 := (i64_w _).symm.trans hji20_
                              have hji20x : (ji18) ≤ 64 → (wrap64 (1 * 2 ^ (ji18).toNat)) = ji20 := fun h_ => (i64_w _).symm.trans (hji20z h_)
                              have H' := Aside0.mk H
                              clear H
                              have p437 : 0 ≤ (x32_1 : Int) := of_decide_eq_true (by first | (with_reducible assumption) | assumption)
                              have q437 : x32_1 < (l0.length : Int) := of_decide_eq_true (by first | (with_reducible assumption) | assumption)
                              obtain ⟨ad437, e437, hx437_0⟩ := Kd.at_int HR0.out x32_1 p437 q437
                              cases e437
                              replace hx437_0 := (HB.out.cell (World.block_lt_of_cell? w _ hx437_0)).trans hx437_0
                              replace p437 := eq_true p437
                              replace q437 := eq_true q437
                              have p438 : 0 ≤ (x32_1 : Int) := of_decide_eq_true (by first | (with_reducible assumption) | assumption)
                              have q438 : x32_1 < (t431.length : Int) := of_decide_eq_true (by first | (with_reducible assumption) | assumption)
                              obtain ⟨ad438, e438, hx438_0⟩ := Kd.at_int (Kd.R_reads' HO_3.out).2.2 x32_1 p438 q438
                              cases e438
                              replace p438 := eq_true p438
                              replace q438 := eq_true q438
                              have p439 : 0 ≤ (x32_1 : Int) := of_decide_eq_true (by first | (with_reducible assumption) | assumption)
                              have q439 : x32_1 < (t431.length : Int) := of_decide_eq_true (by first | (with_reducible assumption) | assumption)
                              obtain ⟨ad439, e439, hx439_0⟩ := Kd.at_int (Kd.R_reads' HO_3.out).2.2 x32_1 p439 q439
                              obtain rfl : ad438 = ad439 := (by injection e439)
                              replace p439 := eq_true p439
                              replace q439 := eq_true q439
                              have p440 : 0 ≤ (x32_1 : Int) := of_decide_eq_true (by first | (with_reducible assumption) | assumption)
                              have q440 : x32_1 < (t431.length : Int) := of_decide_eq_true (by first | (with_reducible assumption) | assumption)
                              obtain ⟨ad440, e440, hx440_0⟩ := Kd.at_int (Kd.R_reads' HO_3.out).2.2 x32_1 p440 q440
                              obtain rfl : ad438 = ad440 := (by injection e440)
                              replace p440 := eq_true p440
                              replace q440 := eq_true q440
                              have p441 : 0 ≤ (x32_1 : Int) := of_decide_eq_true (by first | (with_reducible assumption) | assumption)
                              have q441 : x32_1 < (l0.length : Int) := of_decide_eq_true (by first | (with_reducible assumption) | assumption)
                              obtain ⟨ad441, e441, hx441_0⟩ := Kd.at_int HR0.out x32_1 p441 q441
                              obtain rfl : ad437 = ad441 := (by injection e441)
                              replace hx441_0 := (HB.out.cell (World.block_lt_of_cell? w _ hx441_0)).trans hx441_0
                              replace p441 := eq_true p441
                              replace q441 := eq_true q441
                              go_wp2
                              repeat (go_quiet (fail); try go_wp2)
                              go_meet
                              case rel => exact ⟨_, (decide ((rd t431 x32_1) ≥ (ji20))), (by first | rfl | (simp; done) | (simp only [← hji20] <;> (first | rfl | simp)) | (simp [*]; done)), H', ⟨by have := HK1.out; first | omega | exact Nat.le_refl _⟩, ⟨by (with_reducible repeat (first | apply Kd.R_alloc | apply Kd.R_drewN | apply Kd.R_drew)); exact HO_3.out⟩, ⟨by repeat (first | (with_reducible first | exact HB.out | apply below_alloc | apply pw_below_drewN | apply below_drew1) | exact HB.out)⟩⟩
                            · rw [if_neg c19] at H
                              exact absurd H (by simp)
                        · rw [if_neg c16] at H
                          have c16b0 : ((rd t431 x32_1) == 0) = false := beq_eq_false_iff_ne.mpr c16
                          have c16b1 : ((rd t431 x32_1) != 0) = true := bne_iff_ne.mpr c16
                          have H' := Aside0.mk H
                          clear H
                          have p437 : 0 ≤ (x32_1 : Int) := of_decide_eq_true (by first | (with_reducible assumption) | assumption)
                          have q437 : x32_1 < (l0.length : Int) := of_decide_eq_true (by first | (with_reducible assumption) | assumption)
                          obtain ⟨ad437, e437, hx437_0⟩ := Kd.at_int HR0.out x32_1 p437 q437
                          cases e437
                          replace hx437_0 := (HB.out.cell (World.block_lt_of_cell? w _ hx437_0)).trans hx437_0
                          replace p437 := eq_true p437
                          replace q437 := eq_true q437
                          have p438 : 0 ≤ (x32_1 : Int) := of_decide_eq_true (by first | (with_reducible assumption) | assumption)
                          have q438 : x32_1 < (t431.length : Int) := of_decide_eq_true (by first | (with_reducible assumption) | assumption)
                          obtain ⟨ad438, e438, hx438_0⟩ := Kd.at_int (Kd.R_reads' HO_3.out).2.2 x32_1 p438 q438
                          cases e438
                          replace p438 := eq_true p438
                          replace q438 := eq_true q438
                          go_wp2
                          repeat (go_quiet (fail); try go_wp2)
                          go_meet
                          case rel => exact ⟨_, (true), (by first | rfl | (simp; done) | (simp [*]; done)), H', ⟨by have := HK1.out; first | omega | exact Nat.le_refl _⟩, ⟨by (with_reducible repeat (first | apply Kd.R_alloc | apply Kd.R_drewN | apply Kd.R_drew)); exact HO_3.out⟩, ⟨by repeat (first | (with_reducible first | exact HB.out | apply below_alloc | apply pw_below_drewN | apply below_drew1) | exact HB.out)⟩⟩
                      · rw [if_neg c15] at H
                        exact absurd H (by simp)
                    · rw [if_neg c14] at H
                      have c14b0 : ((rd l0 x32_1) == 0) = false := beq_eq_false_iff_ne.mpr c14
                      have c14b1 : ((rd l0 x32_1) != 0) = true := bne_iff_ne.mpr c14
                      by_cases c21 : x32_1 < (t431.length : Int)
                      · rw [if_pos c21] at H
                        have c21b0 : decide (x32_1 < (t431.length : Int)) = true := decide_eq_true c21
                        clear c21
                        by_cases c22 : (rd t431 x32_1) < 0
                        · rw [if_pos c22] at H
                          have c22b0 : decide ((rd t431 x32_1) < 0) = true := decide_eq_true c22
                          clear c22
                          have H' := Aside0.mk H
                          clear H
                          have p437 : 0 ≤ (x32_1 : Int) := of_decide_eq_true (by first | (with_reducible assumption) | assumption)
                          have q437 : x32_1 < (l0.length : Int) := of_decide_eq_true (by first | (with_reducible assumption) | assumption)
                          obtain ⟨ad437, e437, hx437_0⟩ := Kd.at_int HR0.out x32_1 p437 q437
                          cases e437
                          replace hx437_0 := (HB.out.cell (World.block_lt_of_cell? w _ hx437_0)).trans hx437_0
                          replace p437 := eq_true p437
                          replace q437 := eq_true q437
                          have p442 : 0 ≤ (x32_1 : Int) := of_decide_eq_true (by first | (with_reducible assumption) | assumption)
                          have q442 : x32_1 < (t431.length : Int) := of_decide_eq_true (by first | (with_reducible assumption) | assumption)
                          obtain ⟨ad442, e442, hx442_0⟩ := Kd.at_int (Kd.R_reads' HO_3.out).2.2 x32_1 p442 q442
                          cases e442
                          replace p442 := eq_true p442
                          replace q442 := eq_true q442
                          go_wp2
                          repeat (go_quiet (fail); try go_wp2)
                          go_meet
                          case rel => exact ⟨_, (true), (by first | rfl | (simp; done) | (simp [*]; done)), H', ⟨by have := HK1.out; first | omega | exact Nat.le_refl _⟩, ⟨by (with_reducible repeat (first | apply Kd.R_alloc | apply Kd.R_drewN | apply Kd.R_drew)); exact HO_3.out⟩, ⟨by repeat (first | (with_reducible first | exact HB.out | apply below_alloc | apply pw_below_drewN | apply below_drew1) | exact HB.out)⟩⟩
                        · rw [if_neg c22] at H
                          have c22b0 : decide ((rd t431 x32_1) < 0) = false := decide_eq_false c22
                          clear c22
                          obtain ⟨ji23, hji23⟩ : ∃ j_ : Int, (IntKind.u64.wrap (rd l0 x32_1)) = j_ := ⟨_, rfl⟩
                          replace H : (if 0 ≤ (ji23) then (barscanlaw33_PrefixFree.j1 k1 l0 t431 x32_1 (t431.length : Int) x32_1 (decide ((rd t431 x32_1) ≥ (shl .i64 1 (ji23))))) else (none)) = some r := by first | (rw [hji23] at H; exact H) | (simp only [hji23] at H ⊢; exact H)
                          by_cases c24 : 0 ≤ (ji23)
                          · rw [if_pos c24] at H
                            have c24b0 := eq_true c24
                            have c24b1 : decide (0 ≤ (ji23)) = true := decide_eq_true c24
                            clear c24
                            obtain ⟨ji25, hji25⟩ : ∃ j_ : Int, (shl .i64 1 (ji23)) = j_ := ⟨_, rfl⟩
                            replace H : (barscanlaw33_PrefixFree.j1 k1 l0 t431 x32_1 (t431.length : Int) x32_1 (decide ((rd t431 x32_1) ≥ (ji25)))) = some r := by first | (rw [hji25] at H; exact H) | (simp only [hji25] at H ⊢; exact H)
                            have hji25_ : (IntKind.i64.wrap (1 * 2 ^ min (ji23).toNat 64)) = ji25 := hji25
                            have hji25z : (ji23) ≤ 64 → (IntKind.i64.wrap (1 * 2 ^ (ji23).toNat)) = ji25 := shl_small hji25
                            have hji25u : (IntKind.i64.wrap (2 ^ min (ji23).toNat 64)) = ji25 := by have h_ := hji25_; rw [Int.one_mul] at h_; exact h_
                            have hji25v : (ji23) ≤ 64 → (IntKind.i64.wrap (2 ^ (ji23).toNat)) = ji25 := fun hle_ => by have h_ := hji25z hle_; rw [Int.one_mul] at h_; exact h_
                            have hji25y : (wrap64 (1 * 2 ^ min (ji23).toNat 64)) = ji25 := (i64_w _).symm.trans hji25_
                            have hji25x : (ji23) ≤ 64 → (wrap64 (1 * 2 ^ (ji23).toNat)) = ji25 := fun h_ => (i64_w _).symm.trans (hji25z h_)
                            have H' := Aside0.mk H
                            clear H
                            have p437 : 0 ≤ (x32_1 : Int) := of_decide_eq_true (by first | (with_reducible assumption) | assumption)
                            have q437 : x32_1 < (l0.length : Int) := of_decide_eq_true (by first | (with_reducible assumption) | assumption)
                            obtain ⟨ad437, e437, hx437_0⟩ := Kd.at_int HR0.out x32_1 p437 q437
                            cases e437
                            replace hx437_0 := (HB.out.cell (World.block_lt_of_cell? w _ hx437_0)).trans hx437_0
                            replace p437 := eq_true p437
                            replace q437 := eq_true q437
                            have p442 : 0 ≤ (x32_1 : Int) := of_decide_eq_true (by first | (with_reducible assumption) | assumption)
                            have q442 : x32_1 < (t431.length : Int) := of_decide_eq_true (by first | (with_reducible assumption) | assumption)
                            obtain ⟨ad442, e442, hx442_0⟩ := Kd.at_int (Kd.R_reads' HO_3.out).2.2 x32_1 p442 q442
                            cases e442
                            replace p442 := eq_true p442
                            replace q442 := eq_true q442
                            have p443 : 0 ≤ (x32_1 : Int) := of_decide_eq_true (by first | (with_reducible assumption) | assumption)
                            have q443 : x32_1 < (t431.length : Int) := of_decide_eq_true (by first | (with_reducible assumption) | assumption)
                            obtain ⟨ad443, e443, hx443_0⟩ := Kd.at_int (Kd.R_reads' HO_3.out).2.2 x32_1 p443 q443
                            obtain rfl : ad442 = ad443 := (by injection e443)
                            replace p443 := eq_true p443
                            replace q443 := eq_true q443
                            have p444 : 0 ≤ (x32_1 : Int) := of_decide_eq_true (by first | (with_reducible assumption) | assumption)
                            have q444 : x32_1 < (l0.length : Int) := of_decide_eq_true (by first | (with_reducible assumption) | assumption)
                            obtain ⟨ad444, e444, hx444_0⟩ := Kd.at_int HR0.out x32_1 p444 q444
                            obtain rfl : ad437 = ad444 := (by injection e444)
                            replace hx444_0 := (HB.out.cell (World.block_lt_of_cell? w _ hx444_0)).trans hx444_0
                            replace p444 := eq_true p444
                            replace q444 := eq_true q444
                            go_wp2
                            repeat (go_quiet (fail); try go_wp2)
                            go_meet
                            case rel => exact ⟨_, (decide ((rd t431 x32_1) ≥ (ji25))), (by first | rfl | (simp; done) | (simp only [← hji25] <;> (first | rfl | simp)) | (simp [*]; done)), H', ⟨by have := HK1.out; first | omega | exact Nat.le_refl _⟩, ⟨by (with_reducible repeat (first | apply Kd.R_alloc | apply Kd.R_drewN | apply Kd.R_drew)); exact HO_3.out⟩, ⟨by repeat (first | (with_reducible first | exact HB.out | apply below_alloc | apply pw_below_drewN | apply below_drew1) | exact HB.out)⟩⟩
                          · rw [if_neg c24] at H
                            exact absurd H (by simp)
                      · rw [if_neg c21] at H
                        exact absurd H (by simp)
                  · rw [if_neg c13] at H
                    exact absurd H (by simp)
                · rw [if_neg c12] at H
                  exact absurd H (by simp)
              case rest =>
                clear HC11
                try clear c1
                try clear c2
                try clear c2b0
                try clear c2b1
                try clear p2
                try clear p4
                try clear q4
                try clear hx4
                try clear c6
                try clear c6b0
                try clear c6b1
                try clear p6
                try clear c7
                try clear c7b0
                try clear c7b1
                try clear c7b2
                try clear c8
                try clear c10
                try clear c10b0
                try clear c12
                try clear c12b0
                try clear c13
                try clear c13b0
                try clear c14
                try clear c14b0
                try clear c14b1
                try clear c15
                try clear c15b0
                try clear c16
                try clear c16b0
                try clear c16b1
                try clear c17
                try clear c17b0
                try clear c19
                try clear c19b0
                try clear c19b1
                try clear c21
                try clear c21b0
                try clear c22
                try clear c22b0
                try clear c24
                try clear c24b0
                try clear c24b1
                try clear hx437_0
                try clear hx438_0
                try clear hx439_0
                try clear hx440_0
                try clear hx441_0
                try clear hx442_0
                try clear hx443_0
                try clear hx444_0
                try clear p2
                try clear p437
                try clear p438
                try clear p439
                try clear p440
                try clear p441
                try clear p442
                try clear p443
                try clear p444
                try clear q437
                try clear q438
                try clear q439
                try clear q440
                try clear q441
                try clear q442
                try clear q443
                try clear q444
                obtain ⟨kq, x66_10, rfl, HA, HJ10, HO_3, HB⟩ := hcut
                cases kq with
                | zero => exact absurd HA.out (by simp [barscanlaw33_PrefixFree.j1])
                | succ kj10 =>
                  have H := HA.out
                  clear HA
                  simp only [barscanlaw33_PrefixFree.j1] at H
                  by_cases c26 : x66_10 = true
                  · subst c26
                    have H1 : (some false) = some r := by rw [if_pos rfl] at H; exact H
                    clear H
                    have H := H1
                    clear H1
                    obtain rfl := Option.some.inj H
                    go_wp2
                    repeat (go_quiet (fail); try go_wp2)
                    go_ret
                    exact ⟨by first | rfl | (simp [errW_none, errW_some] <;> rfl) | (simp [*, errW_none, errW_some] <;> rfl), by repeat (first | (with_reducible first | exact HB.out | apply below_alloc | apply pw_below_drewN | apply below_drew1) | exact HB.out)⟩
                  · replace c26 := Bool.eq_false_iff.mpr c26
                    subst c26
                    have H1 : (barscanlaw33_PrefixFree.l1 kj10 l0 t431 x32_1 (t431.length : Int) x32_1 (t431.length : Int) 0) = some r := by rw [if_neg (show ¬ (false = true) by decide)] at H; exact H
                    clear H
                    have H := H1
                    clear H1
                    have H' := Aside0.mk H
                    clear H
                    go_wp2
                    repeat (go_quiet (fail); try go_wp2)
                    go_loopg [69] kj10 (fun kq v69 w' => ∃ (x69_3 : Int), v69 = .int .i64 x69_3 ∧ Aside0 (barscanlaw33_PrefixFree.l1 kq l0 t431 x32_1 (t431.length : Int) x32_1 (t431.length : Int) x69_3 = some r) ∧ Aside0 (kq ≤ kj10) ∧ Aside0 (Kd.R (Kd.int .i64) 3 w' w.heap.size (fun _ => True) (.slice Ao9 t431.length co9) t431) ∧ Aside0 (Below w.heap.size w w'))
                    case atStart => exact ⟨(0), (by first | rfl | (simp; done) | (simp [*]; done)), H', ⟨Nat.le_refl _⟩, ⟨by (with_reducible repeat (first | apply Kd.R_alloc | apply Kd.R_drewN | apply Kd.R_drew)); exact HO_3.out⟩, ⟨by repeat (first | (with_reducible first | exact HB.out | apply below_alloc | apply pw_below_drewN | apply below_drew1) | exact HB.out)⟩⟩
                    case round =>
                      clear H'
                      try clear c1
                      try clear c2
                      try clear c2b0
                      try clear c2b1
                      try clear p2
                      try clear p4
                      try clear q4
                      try clear hx4
                      try clear c6
                      try clear c6b0
                      try clear c6b1
                      try clear p6
                      try clear c7
                      try clear c7b0
                      try clear c7b1
                      try clear c7b2
                      try clear c8
                      try clear c10
                      try clear c10b0
                      try clear c12
                      try clear c12b0
                      try clear c13
                      try clear c13b0
                      try clear c14
                      try clear c14b0
                      try clear c14b1
                      try clear c15
                      try clear c15b0
                      try clear c16
                      try clear c16b0
                      try clear c16b1
                      try clear c17
                      try clear c17b0
                      try clear c19
                      try clear c19b0
                      try clear c19b1
                      try clear c21
                      try clear c21b0
                      try clear c22
                      try clear c22b0
                      try clear c24
                      try clear c24b0
                      try clear c24b1
                      try clear c26
                      try clear hx437_0
                      try clear hx438_0
                      try clear hx439_0
                      try clear hx440_0
                      try clear hx441_0
                      try clear hx442_0
                      try clear hx443_0
                      try clear hx444_0
                      try clear p2
                      try clear p4
                      try clear p437
                      try clear p438
                      try clear p439
                      try clear p440
                      try clear p441
                      try clear p442
                      try clear p443
                      try clear p444
                      try clear p6
                      try clear q4
                      try clear q437
                      try clear q438
                      try clear q439
                      try clear q440
                      try clear q441
                      try clear q442
                      try clear q443
                      try clear q444
                      obtain ⟨x69_3, rfl, HA, HK3, HO_3, HB⟩ := hrel
                      cases gk with
                      | zero => exact absurd HA.out (by simp [barscanlaw33_PrefixFree.l1])
                      | succ k3 =>
                        have H := HA.out
                        clear HA
                        simp only [barscanlaw33_PrefixFree.l1] at H
                        by_cases c27 : x69_3 < (t431.length : Int)
                        · rw [if_pos c27] at H
                          have c27b0 : decide (x69_3 < (t431.length : Int)) = true := decide_eq_true c27
                          clear c27
                          have HC28 := Aside0.mk H
                          clear H
                          go_upto_region 16 with (fail)
                          repeat (go_quiet (fail); go_upto_region 16 with (fail))
                          go_cut [92] (fun v92 wc => ∃ (kq : Nat) (x92_27 : Bool), v92 = .bool x92_27 ∧ Aside0 (barscanlaw33_PrefixFree.j3 kq l0 t431 x32_1 x69_3 (t431.length : Int) x32_1 (t431.length : Int) x69_3 x92_27 = some r) ∧ Aside0 (kq ≤ k3) ∧ Aside0 (Kd.R (Kd.int .i64) 3 wc w.heap.size (fun _ => True) (.slice Ao9 t431.length co9) t431) ∧ Aside0 (Below w.heap.size w wc))
                          case first =>
                            have H := HC28.out
                            clear HC28
                            by_cases c29 : x32_1 = x69_3
                            · rw [if_pos c29] at H
                              have c29b0 : (x32_1 == x69_3) = true := beq_iff_eq.mpr c29
                              have c29b1 : (x32_1 != x69_3) = false := bne_eq_false_iff_eq.mpr c29
                              clear c29
                              (first | rw [c29b0] | (simp only [i64_w, i32_w]; rw [c29b0]) | skip)
                              have H' := Aside0.mk H
                              clear H
                              go_wp2
                              repeat (go_quiet (fail); try go_wp2)
                              go_meet
                              case rel => exact ⟨_, (true), (by first | rfl | (simp; done) | (simp [*]; done)), H', ⟨by have := HK1.out; have := HJ10.out; have := HK3.out; first | omega | exact Nat.le_refl _⟩, ⟨by (with_reducible repeat (first | apply Kd.R_alloc | apply Kd.R_drewN | apply Kd.R_drew)); exact HO_3.out⟩, ⟨by repeat (first | (with_reducible first | exact HB.out | apply below_alloc | apply pw_below_drewN | apply below_drew1) | exact HB.out)⟩⟩
                            · rw [if_neg c29] at H
                              have c29b0 : (x32_1 == x69_3) = false := beq_eq_false_iff_ne.mpr c29
                              have c29b1 : (x32_1 != x69_3) = true := bne_iff_ne.mpr c29
                              (first | rw [c29b0] | (simp only [i64_w, i32_w]; rw [c29b0]) | skip)
                              by_cases c30 : 0 ≤ x32_1
                              · rw [if_pos c30] at H
                                have c30b0 : decide (0 ≤ x32_1) = true := decide_eq_true c30
                                clear c30
                                by_cases c31 : x32_1 < (l0.length : Int)
                                · rw [if_pos c31] at H
                                  have c31b0 : decide (x32_1 < (l0.length : Int)) = true := decide_eq_true c31
                                  clear c31
                                  by_cases c32 : (rd l0 x32_1) = 0
                                  · rw [if_pos c32] at H
                                    have c32b0 : ((rd l0 x32_1) == 0) = true := beq_iff_eq.mpr c32
                                    have c32b1 : ((rd l0 x32_1) != 0) = false := bne_eq_false_iff_eq.mpr c32
                                    clear c32
                                    have H' := Aside0.mk H
                                    clear H
                                    have p445 : 0 ≤ (x32_1 : Int) := of_decide_eq_true (by first | (with_reducible assumption) | assumption)
                                    have q445 : x32_1 < (l0.length : Int) := of_decide_eq_true (by first | (with_reducible assumption) | assumption)
                                    obtain ⟨ad445, e445, hx445_0⟩ := Kd.at_int HR0.out x32_1 p445 q445
                                    cases e445
                                    replace hx445_0 := (HB.out.cell (World.block_lt_of_cell? w _ hx445_0)).trans hx445_0
                                    replace p445 := eq_true p445
                                    replace q445 := eq_true q445
                                    go_wp2
                                    repeat (go_quiet (fail); try go_wp2)
                                    go_meet
                                    case rel => exact ⟨_, (true), (by first | rfl | (simp; done) | (simp [*]; done)), H', ⟨by have := HK1.out; have := HJ10.out; have := HK3.out; first | omega | exact Nat.le_refl _⟩, ⟨by (with_reducible repeat (first | apply Kd.R_alloc | apply Kd.R_drewN | apply Kd.R_drew)); exact HO_3.out⟩, ⟨by repeat (first | (with_reducible first | exact HB.out | apply below_alloc | apply pw_below_drewN | apply below_drew1) | exact HB.out)⟩⟩
                                  · rw [if_neg c32] at H
                                    have c32b0 : ((rd l0 x32_1) == 0) = false := beq_eq_false_iff_ne.mpr c32
                                    have c32b1 : ((rd l0 x32_1) != 0) = true := bne_iff_ne.mpr c32
                                    by_cases c33 : 0 ≤ x69_3
                                    · rw [if_pos c33] at H
                                      have c33b0 : decide (0 ≤ x69_3) = true := decide_eq_true c33
                                      clear c33
                                      by_cases c34 : x69_3 < (l0.length : Int)
                                      · rw [if_pos c34] at H
                                        have c34b0 : decide (x69_3 < (l0.length : Int)) = true := decide_eq_true c34
                                        clear c34
                                        have H' := Aside0.mk H
                                        clear H
                                        have p445 : 0 ≤ (x32_1 : Int) := of_decide_eq_true (by first | (with_reducible assumption) | assumption)
                                        have q445 : x32_1 < (l0.length : Int) := of_decide_eq_true (by first | (with_reducible assumption) | assumption)
                                        obtain ⟨ad445, e445, hx445_0⟩ := Kd.at_int HR0.out x32_1 p445 q445
                                        cases e445
                                        replace hx445_0 := (HB.out.cell (World.block_lt_of_cell? w _ hx445_0)).trans hx445_0
                                        replace p445 := eq_true p445
                                        replace q445 := eq_true q445
                                        have p446 : 0 ≤ (x69_3 : Int) := of_decide_eq_true (by first | (with_reducible assumption) | assumption)
                                        have q446 : x69_3 < (l0.length : Int) := of_decide_eq_true (by first | (with_reducible assumption) | assumption)
                                        obtain ⟨ad446, e446, hx446_0⟩ := Kd.at_int HR0.out x69_3 p446 q446
                                        obtain rfl : ad445 = ad446 := (by injection e446)
                                        replace hx446_0 := (HB.out.cell (World.block_lt_of_cell? w _ hx446_0)).trans hx446_0
                                        replace p446 := eq_true p446
                                        replace q446 := eq_true q446
                                        have p447 : 0 ≤ (x32_1 : Int) := of_decide_eq_true (by first | (with_reducible assumption) | assumption)
                                        have q447 : x32_1 < (l0.length : Int) := of_decide_eq_true (by first | (with_reducible assumption) | assumption)
                                        obtain ⟨ad447, e447, hx447_0⟩ := Kd.at_int HR0.out x32_1 p447 q447
                                        obtain rfl : ad445 = ad447 := (by injection e447)
                                        replace hx447_0 := (HB.out.cell (World.block_lt_of_cell? w _ hx447_0)).trans hx447_0
                                        replace p447 := eq_true p447
                                        replace q447 := eq_true q447
                                        go_wp2
                                        repeat (go_quiet (fail); try go_wp2)
                                        go_meet
                                        case rel => exact ⟨_, (decide ((rd l0 x69_3) < (rd l0 x32_1))), (by first | rfl | (simp; done) | (simp [*]; done)), H', ⟨by have := HK1.out; have := HJ10.out; have := HK3.out; first | omega | exact Nat.le_refl _⟩, ⟨by (with_reducible repeat (first | apply Kd.R_alloc | apply Kd.R_drewN | apply Kd.R_drew)); exact HO_3.out⟩, ⟨by repeat (first | (with_reducible first | exact HB.out | apply below_alloc | apply pw_below_drewN | apply below_drew1) | exact HB.out)⟩⟩
                                      · rw [if_neg c34] at H
                                        exact absurd H (by simp)
                                    · rw [if_neg c33] at H
                                      exact absurd H (by simp)
                                · rw [if_neg c31] at H
                                  exact absurd H (by simp)
                              · rw [if_neg c30] at H
                                exact absurd H (by simp)
                          case rest =>
                            clear HC28
                            try clear c1
                            try clear c2
                            try clear c2b0
                            try clear c2b1
                            try clear p2
                            try clear c3
                            try clear p4
                            try clear q4
                            try clear hx4
                            try clear c6
                            try clear c6b0
                            try clear c6b1
                            try clear p6
                            try clear c7
                            try clear c7b0
                            try clear c7b1
                            try clear c7b2
                            try clear c8
                            try clear c10
                            try clear c10b0
                            try clear c12
                            try clear c12b0
                            try clear c13
                            try clear c13b0
                            try clear c14
                            try clear c14b0
                            try clear c14b1
                            try clear c15
                            try clear c15b0
                            try clear c16
                            try clear c16b0
                            try clear c16b1
                            try clear c17
                            try clear c17b0
                            try clear c19
                            try clear c19b0
                            try clear c19b1
                            try clear c21
                            try clear c21b0
                            try clear c22
                            try clear c22b0
                            try clear c24
                            try clear c24b0
                            try clear c24b1
                            try clear c26
                            try clear c27
                            try clear c27b0
                            try clear c29
                            try clear c29b0
                            try clear c29b1
                            try clear c30
                            try clear c30b0
                            try clear c31
                            try clear c31b0
                            try clear c32
                            try clear c32b0
                            try clear c32b1
                            try clear c33
                            try clear c33b0
                            try clear c34
                            try clear c34b0
                            try clear hx437_0
                            try clear hx438_0
                            try clear hx439_0
                            try clear hx440_0
                            try clear hx441_0
                            try clear hx442_0
                            try clear hx443_0
                            try clear hx444_0
                            try clear hx445_0
                            try clear hx446_0
                            try clear hx447_0
                            try clear p2
                            try clear p4
                            try clear p437
                            try clear p438
                            try clear p439
                            try clear p440
                            try clear p441
                            try clear p442
                            try clear p443
                            try clear p444
                            try clear p445
                            try clear p446
                            try clear p447
                            try clear p6
                            try clear q4
                            try clear q437
                            try clear q438
                            try clear q439
                            try clear q440
                            try clear q441
                            try clear q442
                            try clear q443
                            try clear q444
                            try clear q445
                            try clear q446
                            try clear q447
                            obtain ⟨kq, x92_27, rfl, HA, HJ27, HO_3, HB⟩ := hcut
                            cases kq with
                            | zero => exact absurd HA.out (by simp [barscanlaw33_PrefixFree.j3])
                            | succ kj27 =>
                              have H := HA.out
                              clear HA
                              simp only [barscanlaw33_PrefixFree.j3] at H
                              by_cases c35 : x92_27 = true
                              · subst c35
                                have H1 : (barscanlaw33_PrefixFree.l1 kj27 l0 t431 x32_1 (t431.length : Int) x32_1 (t431.length : Int) (wrap64 (x69_3 + 1))) = some r := by rw [if_pos rfl] at H; exact H
                                clear H
                                have H := H1
                                clear H1
                                have H' := Aside0.mk H
                                clear H
                                go_wp2
                                repeat (go_quiet (fail); try go_wp2)
                                go_roundg kj27
                                case measure => have := HK1.out; have := HJ10.out; have := HK3.out; have := HJ27.out; omega
                                case rel => exact ⟨(wrap64 (x69_3 + 1)), (by first | rfl | (simp; done) | (simp [*]; done)), H', ⟨by have := HK1.out; have := HJ10.out; have := HK3.out; have := HJ27.out; omega⟩, ⟨by (with_reducible repeat (first | apply Kd.R_alloc | apply Kd.R_drewN | apply Kd.R_drew)); exact HO_3.out⟩, ⟨by repeat (first | (with_reducible first | exact HB.out | apply below_alloc | apply pw_below_drewN | apply below_drew1) | exact HB.out)⟩⟩
                              · replace c35 := Bool.eq_false_iff.mpr c35
                                subst c35
                                have H1 : (if 0 ≤ x69_3 then (if x69_3 < (t431.length : Int) then (if x69_3 < (l0.length : Int) then (if 0 ≤ x32_1 then (if x32_1 < (l0.length : Int) then (if 0 ≤ (IntKind.u64.wrap (wrap64 ((rd l0 x69_3) - (rd l0 x32_1)))) then (if x32_1 < (t431.length : Int) then (if (shr .i64 (rd t431 x69_3) (IntKind.u64.wrap (wrap64 ((rd l0 x69_3) - (rd l0 x32_1))))) = (rd t431 x32_1) then (some false) else (if (rd l0 x69_3) = (rd l0 x32_1) then (if ((decide ((shr .i64 (rd t431 x69_3) (IntKind.u64.wrap (wrap64 ((rd l0 x69_3) - (rd l0 x32_1))))) < (rd t431 x32_1))) != (decide (x69_3 < x32_1))) = true then (some false) else (barscanlaw33_PrefixFree.l1 kj27 l0 t431 x32_1 (t431.length : Int) x32_1 (t431.length : Int) (wrap64 (x69_3 + 1)))) else (if ((decide ((shr .i64 (rd t431 x69_3) (IntKind.u64.wrap (wrap64 ((rd l0 x69_3) - (rd l0 x32_1))))) < (rd t431 x32_1))) != false) = true then (some false) else (barscanlaw33_PrefixFree.l1 kj27 l0 t431 x32_1 (t431.length : Int) x32_1 (t431.length : Int) (wrap64 (x69_3 + 1)))))) else (none)) else (none)) else (none)) else (none)) else (none)) else (none)) else (none)) = some r := by rw [if_neg (show ¬ (false = true) by decide)] at H; exact H
                                clear H
                                have H := H1
                                clear H1
                                by_cases c36 : 0 ≤ x69_3
                                · rw [if_pos c36] at H
                                  have c36b0 : decide (0 ≤ x69_3) = true := decide_eq_true c36
                                  clear c36
                                  by_cases c37 : x69_3 < (t431.length : Int)
                                  · rw [if_pos c37] at H
                                    have c37b0 : decide (x69_3 < (t431.length : Int)) = true := decide_eq_true c37
                                    clear c37
                                    by_cases c38 : x69_3 < (l0.length : Int)
                                    · rw [if_pos c38] at H
                                      have c38b0 : decide (x69_3 < (l0.length : Int)) = true := decide_eq_true c38
                                      clear c38
                                      by_cases c39 : 0 ≤ x32_1
                                      · rw [if_pos c39] at H
                                        have c39b0 : decide (0 ≤ x32_1) = true := decide_eq_true c39
                                        clear c39
                                        by_cases c40 : x32_1 < (l0.length : Int)
                                        · rw [if_pos c40] at H
                                          have c40b0 : decide (x32_1 < (l0.length : Int)) = true := decide_eq_true c40
                                          clear c40
                                          obtain ⟨ji41, hji41⟩ : ∃ j_ : Int, (IntKind.u64.wrap (wrap64 ((rd l0 x69_3) - (rd l0 x32_1)))) = j_ := ⟨_, rfl⟩
                                          replace H : (if 0 ≤ (ji41) then (if x32_1 < (t431.length : Int) then (if (shr .i64 (rd t431 x69_3) (ji41)) = (rd t431 x32_1) then (some false) else (if (rd l0 x69_3) = (rd l0 x32_1) then (if ((decide ((shr .i64 (rd t431 x69_3) (ji41)) < (rd t431 x32_1))) != (decide (x69_3 < x32_1))) = true then (some false) else (barscanlaw33_PrefixFree.l1 kj27 l0 t431 x32_1 (t431.length : Int) x32_1 (t431.length : Int) (wrap64 (x69_3 + 1)))) else (if ((decide ((shr .i64 (rd t431 x69_3) (ji41)) < (rd t431 x32_1))) != false) = true then (some false) else (barscanlaw33_PrefixFree.l1 kj27 l0 t431 x32_1 (t431.length : Int) x32_1 (t431.length : Int) (wrap64 (x69_3 + 1)))))) else (none)) else (none)) = some r := by first | (rw [hji41] at H; exact H) | (simp only [hji41] at H ⊢; exact H)
                                          by_cases c42 : 0 ≤ (ji41)
                                          · rw [if_pos c42] at H
                                            have c42b0 := eq_true c42
                                            have c42b1 : decide (0 ≤ (ji41)) = true := decide_eq_true c42
                                            clear c42
                                            obtain ⟨ji43, hji43⟩ : ∃ j_ : Int, (shr .i64 (rd t431 x69_3) (ji41)) = j_ := ⟨_, rfl⟩
                                            replace H : (if x32_1 < (t431.length : Int) then (if (ji43) = (rd t431 x32_1) then (some false) else (if (rd l0 x69_3) = (rd l0 x32_1) then (if ((decide ((ji43) < (rd t431 x32_1))) != (decide (x69_3 < x32_1))) = true then (some false) else (barscanlaw33_PrefixFree.l1 kj27 l0 t431 x32_1 (t431.length : Int) x32_1 (t431.length : Int) (wrap64 (x69_3 + 1)))) else (if ((decide ((ji43) < (rd t431 x32_1))) != false) = true then (some false) else (barscanlaw33_PrefixFree.l1 kj27 l0 t431 x32_1 (t431.length : Int) x32_1 (t431.length : Int) (wrap64 (x69_3 + 1)))))) else (none)) = some r := by first | (rw [hji43] at H; exact H) | (simp only [hji43] at H ⊢; exact H)
                                            have hji43_ : ((rd t431 x69_3) / 2 ^ min (ji41).toNat 64) = ji43 := hji43
                                            have hji43z : (ji41) ≤ 64 → ((rd t431 x69_3) / 2 ^ (ji41).toNat) = ji43 := shr_small hji43
                                            by_cases c44 : x32_1 < (t431.length : Int)
                                            · rw [if_pos c44] at H
                                              have c44b0 : decide (x32_1 < (t431.length : Int)) = true := decide_eq_true c44
                                              clear c44
                                              by_cases c45 : (ji43) = (rd t431 x32_1)
                                              · rw [if_pos c45] at H
                                                have c45b0 : ((ji43) == (rd t431 x32_1)) = true := beq_iff_eq.mpr c45
                                                have c45b1 : ((ji43) != (rd t431 x32_1)) = false := bne_eq_false_iff_eq.mpr c45
                                                clear c45
                                                obtain rfl := Option.some.inj H
                                                have p448 : 0 ≤ (x69_3 : Int) := of_decide_eq_true (by first | (with_reducible assumption) | assumption)
                                                have q448 : x69_3 < (t431.length : Int) := of_decide_eq_true (by first | (with_reducible assumption) | assumption)
                                                obtain ⟨ad448, e448, hx448_0⟩ := Kd.at_int (Kd.R_reads' HO_3.out).2.2 x69_3 p448 q448
                                                cases e448
                                                replace p448 := eq_true p448
                                                replace q448 := eq_true q448
                                                have p449 : 0 ≤ (x69_3 : Int) := of_decide_eq_true (by first | (with_reducible assumption) | assumption)
                                                have q449 : x69_3 < (l0.length : Int) := of_decide_eq_true (by first | (with_reducible assumption) | assumption)
                                                obtain ⟨ad449, e449, hx449_0⟩ := Kd.at_int HR0.out x69_3 p449 q449
                                                cases e449
                                                replace hx449_0 := (HB.out.cell (World.block_lt_of_cell? w _ hx449_0)).trans hx449_0
                                                replace p449 := eq_true p449
                                                replace q449 := eq_true q449
                                                have p450 : 0 ≤ (x32_1 : Int) := of_decide_eq_true (by first | (with_reducible assumption) | assumption)
                                                have q450 : x32_1 < (l0.length : Int) := of_decide_eq_true (by first | (with_reducible assumption) | assumption)
                                                obtain ⟨ad450, e450, hx450_0⟩ := Kd.at_int HR0.out x32_1 p450 q450
                                                obtain rfl : ad449 = ad450 := (by injection e450)
                                                replace hx450_0 := (HB.out.cell (World.block_lt_of_cell? w _ hx450_0)).trans hx450_0
                                                replace p450 := eq_true p450
                                                replace q450 := eq_true q450
                                                have p451 : 0 ≤ (x32_1 : Int) := of_decide_eq_true (by first | (with_reducible assumption) | assumption)
                                                have q451 : x32_1 < (t431.length : Int) := of_decide_eq_true (by first | (with_reducible assumption) | assumption)
                                                obtain ⟨ad451, e451, hx451_0⟩ := Kd.at_int (Kd.R_reads' HO_3.out).2.2 x32_1 p451 q451
                                                obtain rfl : ad448 = ad451 := (by injection e451)
                                                replace p451 := eq_true p451
                                                replace q451 := eq_true q451
                                                go_wp2
                                                repeat (go_quiet (fail); try go_wp2)
                                                go_ret
                                                exact ⟨by first | rfl | (simp [errW_none, errW_some] <;> rfl) | (simp only [← hji41, ← hji43]; first | rfl | (simp [errW_none, errW_some] <;> rfl)) | (simp [*, errW_none, errW_some] <;> rfl), by repeat (first | (with_reducible first | exact HB.out | apply below_alloc | apply pw_below_drewN | apply below_drew1) | exact HB.out)⟩
                                              · rw [if_neg c45] at H
                                                have c45b0 : ((ji43) == (rd t431 x32_1)) = false := beq_eq_false_iff_ne.mpr c45
                                                have c45b1 : ((ji43) != (rd t431 x32_1)) = true := bne_iff_ne.mpr c45
                                                by_cases c46 : (rd l0 x69_3) = (rd l0 x32_1)
                                                · rw [if_pos c46] at H
                                                  have c46b0 : ((rd l0 x69_3) == (rd l0 x32_1)) = true := beq_iff_eq.mpr c46
                                                  have c46b1 : ((rd l0 x69_3) != (rd l0 x32_1)) = false := bne_eq_false_iff_eq.mpr c46
                                                  clear c46
                                                  by_cases c47 : ((decide ((ji43) < (rd t431 x32_1))) != (decide (x69_3 < x32_1))) = true
                                                  · rw [if_pos c47] at H
                                                    have c47b0 : ((decide ((ji43) < (rd t431 x32_1))) != (decide (x69_3 < x32_1))) = true := c47
                                                    (try (have c47b1 : decide ((decide ((ji43) < (rd t431 x32_1))) = (decide (x69_3 < x32_1))) = false := by simpa using c47))
                                                    (try (have c47b2 : ((decide ((ji43) < (rd t431 x32_1))) == (decide (x69_3 < x32_1))) = false := by simpa using c47))
                                                    (try (have c47b3 : ¬ ((decide ((ji43) < (rd t431 x32_1))) = (decide (x69_3 < x32_1))) := by simpa using c47))
                                                    clear c47
                                                    obtain rfl := Option.some.inj H
                                                    have p448 : 0 ≤ (x69_3 : Int) := of_decide_eq_true (by first | (with_reducible assumption) | assumption)
                                                    have q448 : x69_3 < (t431.length : Int) := of_decide_eq_true (by first | (with_reducible assumption) | assumption)
                                                    obtain ⟨ad448, e448, hx448_0⟩ := Kd.at_int (Kd.R_reads' HO_3.out).2.2 x69_3 p448 q448
                                                    cases e448
                                                    replace p448 := eq_true p448
                                                    replace q448 := eq_true q448
                                                    have p449 : 0 ≤ (x69_3 : Int) := of_decide_eq_true (by first | (with_reducible assumption) | assumption)
                                                    have q449 : x69_3 < (l0.length : Int) := of_decide_eq_true (by first | (with_reducible assumption) | assumption)
                                                    obtain ⟨ad449, e449, hx449_0⟩ := Kd.at_int HR0.out x69_3 p449 q449
                                                    cases e449
                                                    replace hx449_0 := (HB.out.cell (World.block_lt_of_cell? w _ hx449_0)).trans hx449_0
                                                    replace p449 := eq_true p449
                                                    replace q449 := eq_true q449
                                                    have p450 : 0 ≤ (x32_1 : Int) := of_decide_eq_true (by first | (with_reducible assumption) | assumption)
                                                    have q450 : x32_1 < (l0.length : Int) := of_decide_eq_true (by first | (with_reducible assumption) | assumption)
                                                    obtain ⟨ad450, e450, hx450_0⟩ := Kd.at_int HR0.out x32_1 p450 q450
                                                    obtain rfl : ad449 = ad450 := (by injection e450)
                                                    replace hx450_0 := (HB.out.cell (World.block_lt_of_cell? w _ hx450_0)).trans hx450_0
                                                    replace p450 := eq_true p450
                                                    replace q450 := eq_true q450
                                                    have p451 : 0 ≤ (x32_1 : Int) := of_decide_eq_true (by first | (with_reducible assumption) | assumption)
                                                    have q451 : x32_1 < (t431.length : Int) := of_decide_eq_true (by first | (with_reducible assumption) | assumption)
                                                    obtain ⟨ad451, e451, hx451_0⟩ := Kd.at_int (Kd.R_reads' HO_3.out).2.2 x32_1 p451 q451
                                                    obtain rfl : ad448 = ad451 := (by injection e451)
                                                    replace p451 := eq_true p451
                                                    replace q451 := eq_true q451
                                                    have p452 : 0 ≤ (x32_1 : Int) := of_decide_eq_true (by first | (with_reducible assumption) | assumption)
                                                    have q452 : x32_1 < (t431.length : Int) := of_decide_eq_true (by first | (with_reducible assumption) | assumption)
                                                    obtain ⟨ad452, e452, hx452_0⟩ := Kd.at_int (Kd.R_reads' HO_3.out).2.2 x32_1 p452 q452
                                                    obtain rfl : ad448 = ad452 := (by injection e452)
                                                    replace p452 := eq_true p452
                                                    replace q452 := eq_true q452
                                                    have p453 : 0 ≤ (x69_3 : Int) := of_decide_eq_true (by first | (with_reducible assumption) | assumption)
                                                    have q453 : x69_3 < (l0.length : Int) := of_decide_eq_true (by first | (with_reducible assumption) | assumption)
                                                    obtain ⟨ad453, e453, hx453_0⟩ := Kd.at_int HR0.out x69_3 p453 q453
                                                    obtain rfl : ad449 = ad453 := (by injection e453)
                                                    replace hx453_0 := (HB.out.cell (World.block_lt_of_cell? w _ hx453_0)).trans hx453_0
                                                    replace p453 := eq_true p453
                                                    replace q453 := eq_true q453
                                                    have p454 : 0 ≤ (x32_1 : Int) := of_decide_eq_true (by first | (with_reducible assumption) | assumption)
                                                    have q454 : x32_1 < (l0.length : Int) := of_decide_eq_true (by first | (with_reducible assumption) | assumption)
                                                    obtain ⟨ad454, e454, hx454_0⟩ := Kd.at_int HR0.out x32_1 p454 q454
                                                    obtain rfl : ad449 = ad454 := (by injection e454)
                                                    replace hx454_0 := (HB.out.cell (World.block_lt_of_cell? w _ hx454_0)).trans hx454_0
                                                    replace p454 := eq_true p454
                                                    replace q454 := eq_true q454
                                                    go_wp2
                                                    repeat (go_quiet (fail); try go_wp2)
                                                    go_ret
                                                    exact ⟨by first | rfl | (simp [errW_none, errW_some] <;> rfl) | (simp only [← hji41, ← hji43]; first | rfl | (simp [errW_none, errW_some] <;> rfl)) | (simp [*, errW_none, errW_some] <;> rfl), by repeat (first | (with_reducible first | exact HB.out | apply below_alloc | apply pw_below_drewN | apply below_drew1) | exact HB.out)⟩
                                                  · rw [if_neg c47] at H
                                                    have c47b0 : ((decide ((ji43) < (rd t431 x32_1))) != (decide (x69_3 < x32_1))) = false := by simpa using c47
                                                    (try (have c47b1 : decide ((decide ((ji43) < (rd t431 x32_1))) = (decide (x69_3 < x32_1))) = true := by simpa using c47))
                                                    (try (have c47b2 : ((decide ((ji43) < (rd t431 x32_1))) == (decide (x69_3 < x32_1))) = true := by simpa using c47))
                                                    clear c47
                                                    have H' := Aside0.mk H
                                                    clear H
                                                    have p448 : 0 ≤ (x69_3 : Int) := of_decide_eq_true (by first | (with_reducible assumption) | assumption)
                                                    have q448 : x69_3 < (t431.length : Int) := of_decide_eq_true (by first | (with_reducible assumption) | assumption)
                                                    obtain ⟨ad448, e448, hx448_0⟩ := Kd.at_int (Kd.R_reads' HO_3.out).2.2 x69_3 p448 q448
                                                    cases e448
                                                    replace p448 := eq_true p448
                                                    replace q448 := eq_true q448
                                                    have p449 : 0 ≤ (x69_3 : Int) := of_decide_eq_true (by first | (with_reducible assumption) | assumption)
                                                    have q449 : x69_3 < (l0.length : Int) := of_decide_eq_true (by first | (with_reducible assumption) | assumption)
                                                    obtain ⟨ad449, e449, hx449_0⟩ := Kd.at_int HR0.out x69_3 p449 q449
                                                    cases e449
                                                    replace hx449_0 := (HB.out.cell (World.block_lt_of_cell? w _ hx449_0)).trans hx449_0
                                                    replace p449 := eq_true p449
                                                    replace q449 := eq_true q449
                                                    have p450 : 0 ≤ (x32_1 : Int) := of_decide_eq_true (by first | (with_reducible assumption) | assumption)
                                                    have q450 : x32_1 < (l0.length : Int) := of_decide_eq_true (by first | (with_reducible assumption) | assumption)
                                                    obtain ⟨ad450, e450, hx450_0⟩ := Kd.at_int HR0.out x32_1 p450 q450
                                                    obtain rfl : ad449 = ad450 := (by injection e450)
                                                    replace hx450_0 := (HB.out.cell (World.block_lt_of_cell? w _ hx450_0)).trans hx450_0
                                                    replace p450 := eq_true p450
                                                    replace q450 := eq_true q450
                                                    have p451 : 0 ≤ (x32_1 : Int) := of_decide_eq_true (by first | (with_reducible assumption) | assumption)
                                                    have q451 : x32_1 < (t431.length : Int) := of_decide_eq_true (by first | (with_reducible assumption) | assumption)
                                                    obtain ⟨ad451, e451, hx451_0⟩ := Kd.at_int (Kd.R_reads' HO_3.out).2.2 x32_1 p451 q451
                                                    obtain rfl : ad448 = ad451 := (by injection e451)
                                                    replace p451 := eq_true p451
                                                    replace q451 := eq_true q451
                                                    have p452 : 0 ≤ (x32_1 : Int) := of_decide_eq_true (by first | (with_reducible assumption) | assumption)
                                                    have q452 : x32_1 < (t431.length : Int) := of_decide_eq_true (by first | (with_reducible assumption) | assumption)
                                                    obtain ⟨ad452, e452, hx452_0⟩ := Kd.at_int (Kd.R_reads' HO_3.out).2.2 x32_1 p452 q452
                                                    obtain rfl : ad448 = ad452 := (by injection e452)
                                                    replace p452 := eq_true p452
                                                    replace q452 := eq_true q452
                                                    have p453 : 0 ≤ (x69_3 : Int) := of_decide_eq_true (by first | (with_reducible assumption) | assumption)
                                                    have q453 : x69_3 < (l0.length : Int) := of_decide_eq_true (by first | (with_reducible assumption) | assumption)
                                                    obtain ⟨ad453, e453, hx453_0⟩ := Kd.at_int HR0.out x69_3 p453 q453
                                                    obtain rfl : ad449 = ad453 := (by injection e453)
                                                    replace hx453_0 := (HB.out.cell (World.block_lt_of_cell? w _ hx453_0)).trans hx453_0
                                                    replace p453 := eq_true p453
                                                    replace q453 := eq_true q453
                                                    have p454 : 0 ≤ (x32_1 : Int) := of_decide_eq_true (by first | (with_reducible assumption) | assumption)
                                                    have q454 : x32_1 < (l0.length : Int) := of_decide_eq_true (by first | (with_reducible assumption) | assumption)
                                                    obtain ⟨ad454, e454, hx454_0⟩ := Kd.at_int HR0.out x32_1 p454 q454
                                                    obtain rfl : ad449 = ad454 := (by injection e454)
                                                    replace hx454_0 := (HB.out.cell (World.block_lt_of_cell? w _ hx454_0)).trans hx454_0
                                                    replace p454 := eq_true p454
                                                    replace q454 := eq_true q454
                                                    go_wp2
                                                    repeat (go_quiet (fail); try go_wp2)
                                                    go_roundg kj27
                                                    case measure => have := HK1.out; have := HJ10.out; have := HK3.out; have := HJ27.out; omega
                                                    case rel => exact ⟨(wrap64 (x69_3 + 1)), (by first | rfl | (simp; done) | (simp [*]; done)), H', ⟨by have := HK1.out; have := HJ10.out; have := HK3.out; have := HJ27.out; omega⟩, ⟨by (with_reducible repeat (first | apply Kd.R_alloc | apply Kd.R_drewN | apply Kd.R_drew)); exact HO_3.out⟩, ⟨by repeat (first | (with_reducible first | exact HB.out | apply below_alloc | apply pw_below_drewN | apply below_drew1) | exact HB.out)⟩⟩
                                                · rw [if_neg c46] at H
                                                  have c46b0 : ((rd l0 x69_3) == (rd l0 x32_1)) = false := beq_eq_false_iff_ne.mpr c46
                                                  have c46b1 : ((rd l0 x69_3) != (rd l0 x32_1)) = true := bne_iff_ne.mpr c46
                                                  by_cases c48 : ((decide ((ji43) < (rd t431 x32_1))) != false) = true
                                                  · rw [if_pos c48] at H
                                                    have c48b0 : ((decide ((ji43) < (rd t431 x32_1))) != false) = true := c48
                                                    (try (have c48b1 : decide ((decide ((ji43) < (rd t431 x32_1))) = false) = false := by simpa using c48))
                                                    (try (have c48b2 : ((decide ((ji43) < (rd t431 x32_1))) == false) = false := by simpa using c48))
                                                    (try (have c48b3 : ¬ ((decide ((ji43) < (rd t431 x32_1))) = false) := by simpa using c48))
                                                    clear c48
                                                    obtain rfl := Option.some.inj H
                                                    have p448 : 0 ≤ (x69_3 : Int) := of_decide_eq_true (by first | (with_reducible assumption) | assumption)
                                                    have q448 : x69_3 < (t431.length : Int) := of_decide_eq_true (by first | (with_reducible assumption) | assumption)
                                                    obtain ⟨ad448, e448, hx448_0⟩ := Kd.at_int (Kd.R_reads' HO_3.out).2.2 x69_3 p448 q448
                                                    cases e448
                                                    replace p448 := eq_true p448
                                                    replace q448 := eq_true q448
                                                    have p449 : 0 ≤ (x69_3 : Int) := of_decide_eq_true (by first | (with_reducible assumption) | assumption)
                                                    have q449 : x69_3 < (l0.length : Int) := of_decide_eq_true (by first | (with_reducible assumption) | assumption)
                                                    obtain ⟨ad449, e449, hx449_0⟩ := Kd.at_int HR0.out x69_3 p449 q449
                                                    cases e449
                                                    replace hx449_0 := (HB.out.cell (World.block_lt_of_cell? w _ hx449_0)).trans hx449_0
                                                    replace p449 := eq_true p449
                                                    replace q449 := eq_true q449
                                                    have p450 : 0 ≤ (x32_1 : Int) := of_decide_eq_true (by first | (with_reducible assumption) | assumption)
                                                    have q450 : x32_1 < (l0.length : Int) := of_decide_eq_true (by first | (with_reducible assumption) | assumption)
                                                    obtain ⟨ad450, e450, hx450_0⟩ := Kd.at_int HR0.out x32_1 p450 q450
                                                    obtain rfl : ad449 = ad450 := (by injection e450)
                                                    replace hx450_0 := (HB.out.cell (World.block_lt_of_cell? w _ hx450_0)).trans hx450_0
                                                    replace p450 := eq_true p450
                                                    replace q450 := eq_true q450
                                                    have p451 : 0 ≤ (x32_1 : Int) := of_decide_eq_true (by first | (with_reducible assumption) | assumption)
                                                    have q451 : x32_1 < (t431.length : Int) := of_decide_eq_true (by first | (with_reducible assumption) | assumption)
                                                    obtain ⟨ad451, e451, hx451_0⟩ := Kd.at_int (Kd.R_reads' HO_3.out).2.2 x32_1 p451 q451
                                                    obtain rfl : ad448 = ad451 := (by injection e451)
                                                    replace p451 := eq_true p451
                                                    replace q451 := eq_true q451
                                                    have p452 : 0 ≤ (x32_1 : Int) := of_decide_eq_true (by first | (with_reducible assumption) | assumption)
                                                    have q452 : x32_1 < (t431.length : Int) := of_decide_eq_true (by first | (with_reducible assumption) | assumption)
                                                    obtain ⟨ad452, e452, hx452_0⟩ := Kd.at_int (Kd.R_reads' HO_3.out).2.2 x32_1 p452 q452
                                                    obtain rfl : ad448 = ad452 := (by injection e452)
                                                    replace p452 := eq_true p452
                                                    replace q452 := eq_true q452
                                                    have p453 : 0 ≤ (x69_3 : Int) := of_decide_eq_true (by first | (with_reducible assumption) | assumption)
                                                    have q453 : x69_3 < (l0.length : Int) := of_decide_eq_true (by first | (with_reducible assumption) | assumption)
                                                    obtain ⟨ad453, e453, hx453_0⟩ := Kd.at_int HR0.out x69_3 p453 q453
                                                    obtain rfl : ad449 = ad453 := (by injection e453)
                                                    replace hx453_0 := (HB.out.cell (World.block_lt_of_cell? w _ hx453_0)).trans hx453_0
                                                    replace p453 := eq_true p453
                                                    replace q453 := eq_true q453
                                                    have p454 : 0 ≤ (x32_1 : Int) := of_decide_eq_true (by first | (with_reducible assumption) | assumption)
                                                    have q454 : x32_1 < (l0.length : Int) := of_decide_eq_true (by first | (with_reducible assumption) | assumption)
                                                    obtain ⟨ad454, e454, hx454_0⟩ := Kd.at_int HR0.out x32_1 p454 q454
                                                    obtain rfl : ad449 = ad454 := (by injection e454)
                                                    replace hx454_0 := (HB.out.cell (World.block_lt_of_cell? w _ hx454_0)).trans hx454_0
                                                    replace p454 := eq_true p454
                                                    replace q454 := eq_true q454
                                                    go_wp2
                                                    repeat (go_quiet (fail); try go_wp2)
                                                    go_ret
                                                    exact ⟨by first | rfl | (simp [errW_none, errW_some] <;> rfl) | (simp only [← hji41, ← hji43]; first | rfl | (simp [errW_none, errW_some] <;> rfl)) | (simp [*, errW_none, errW_some] <;> rfl), by repeat (first | (with_reducible first | exact HB.out | apply below_alloc | apply pw_below_drewN | apply below_drew1) | exact HB.out)⟩
                                                  · rw [if_neg c48] at H
                                                    have c48b0 : ((decide ((ji43) < (rd t431 x32_1))) != false) = false := by simpa using c48
                                                    (try (have c48b1 : decide ((decide ((ji43) < (rd t431 x32_1))) = false) = true := by simpa using c48))
                                                    (try (have c48b2 : ((decide ((ji43) < (rd t431 x32_1))) == false) = true := by simpa using c48))
                                                    clear c48
                                                    have H' := Aside0.mk H
                                                    clear H
                                                    have p448 : 0 ≤ (x69_3 : Int) := of_decide_eq_true (by first | (with_reducible assumption) | assumption)
                                                    have q448 : x69_3 < (t431.length : Int) := of_decide_eq_true (by first | (with_reducible assumption) | assumption)
                                                    obtain ⟨ad448, e448, hx448_0⟩ := Kd.at_int (Kd.R_reads' HO_3.out).2.2 x69_3 p448 q448
                                                    cases e448
                                                    replace p448 := eq_true p448
                                                    replace q448 := eq_true q448
                                                    have p449 : 0 ≤ (x69_3 : Int) := of_decide_eq_true (by first | (with_reducible assumption) | assumption)
                                                    have q449 : x69_3 < (l0.length : Int) := of_decide_eq_true (by first | (with_reducible assumption) | assumption)
                                                    obtain ⟨ad449, e449, hx449_0⟩ := Kd.at_int HR0.out x69_3 p449 q449
                                                    cases e449
                                                    replace hx449_0 := (HB.out.cell (World.block_lt_of_cell? w _ hx449_0)).trans hx449_0
                                                    replace p449 := eq_true p449
                                                    replace q449 := eq_true q449
                                                    have p450 : 0 ≤ (x32_1 : Int) := of_decide_eq_true (by first | (with_reducible assumption) | assumption)
                                                    have q450 : x32_1 < (l0.length : Int) := of_decide_eq_true (by first | (with_reducible assumption) | assumption)
                                                    obtain ⟨ad450, e450, hx450_0⟩ := Kd.at_int HR0.out x32_1 p450 q450
                                                    obtain rfl : ad449 = ad450 := (by injection e450)
                                                    replace hx450_0 := (HB.out.cell (World.block_lt_of_cell? w _ hx450_0)).trans hx450_0
                                                    replace p450 := eq_true p450
                                                    replace q450 := eq_true q450
                                                    have p451 : 0 ≤ (x32_1 : Int) := of_decide_eq_true (by first | (with_reducible assumption) | assumption)
                                                    have q451 : x32_1 < (t431.length : Int) := of_decide_eq_true (by first | (with_reducible assumption) | assumption)
                                                    obtain ⟨ad451, e451, hx451_0⟩ := Kd.at_int (Kd.R_reads' HO_3.out).2.2 x32_1 p451 q451
                                                    obtain rfl : ad448 = ad451 := (by injection e451)
                                                    replace p451 := eq_true p451
                                                    replace q451 := eq_true q451
                                                    have p452 : 0 ≤ (x32_1 : Int) := of_decide_eq_true (by first | (with_reducible assumption) | assumption)
                                                    have q452 : x32_1 < (t431.length : Int) := of_decide_eq_true (by first | (with_reducible assumption) | assumption)
                                                    obtain ⟨ad452, e452, hx452_0⟩ := Kd.at_int (Kd.R_reads' HO_3.out).2.2 x32_1 p452 q452
                                                    obtain rfl : ad448 = ad452 := (by injection e452)
                                                    replace p452 := eq_true p452
                                                    replace q452 := eq_true q452
                                                    have p453 : 0 ≤ (x69_3 : Int) := of_decide_eq_true (by first | (with_reducible assumption) | assumption)
                                                    have q453 : x69_3 < (l0.length : Int) := of_decide_eq_true (by first | (with_reducible assumption) | assumption)
                                                    obtain ⟨ad453, e453, hx453_0⟩ := Kd.at_int HR0.out x69_3 p453 q453
                                                    obtain rfl : ad449 = ad453 := (by injection e453)
                                                    replace hx453_0 := (HB.out.cell (World.block_lt_of_cell? w _ hx453_0)).trans hx453_0
                                                    replace p453 := eq_true p453
                                                    replace q453 := eq_true q453
                                                    have p454 : 0 ≤ (x32_1 : Int) := of_decide_eq_true (by first | (with_reducible assumption) | assumption)
                                                    have q454 : x32_1 < (l0.length : Int) := of_decide_eq_true (by first | (with_reducible assumption) | assumption)
                                                    obtain ⟨ad454, e454, hx454_0⟩ := Kd.at_int HR0.out x32_1 p454 q454
                                                    obtain rfl : ad449 = ad454 := (by injection e454)
                                                    replace hx454_0 := (HB.out.cell (World.block_lt_of_cell? w _ hx454_0)).trans hx454_0
                                                    replace p454 := eq_true p454
                                                    replace q454 := eq_true q454
                                                    go_wp2
                                                    repeat (go_quiet (fail); try go_wp2)
                                                    go_roundg kj27
                                                    case measure => have := HK1.out; have := HJ10.out; have := HK3.out; have := HJ27.out; omega
                                                    case rel => exact ⟨(wrap64 (x69_3 + 1)), (by first | rfl | (simp; done) | (simp [*]; done)), H', ⟨by have := HK1.out; have := HJ10.out; have := HK3.out; have := HJ27.out; omega⟩, ⟨by (with_reducible repeat (first | apply Kd.R_alloc | apply Kd.R_drewN | apply Kd.R_drew)); exact HO_3.out⟩, ⟨by repeat (first | (with_reducible first | exact HB.out | apply below_alloc | apply pw_below_drewN | apply below_drew1) | exact HB.out)⟩⟩
                                            · rw [if_neg c44] at H
                                              exact absurd H (by simp)
                                          · rw [if_neg c42] at H
                                            exact absurd H (by simp)
                                        · rw [if_neg c40] at H
                                          exact absurd H (by simp)
                                      · rw [if_neg c39] at H
                                        exact absurd H (by simp)
                                    · rw [if_neg c38] at H
                                      exact absurd H (by simp)
                                  · rw [if_neg c37] at H
                                    exact absurd H (by simp)
                                · rw [if_neg c36] at H
                                  exact absurd H (by simp)
                        · rw [if_neg c27] at H
                          have c27b0 : decide (x69_3 < (t431.length : Int)) = false := decide_eq_false c27
                          clear c27
                          have H' := Aside0.mk H
                          clear H
                          go_wp2
                          repeat (go_quiet (fail); try go_wp2)
                          go_roundg k3
                          case measure => have := HK1.out; have := HJ10.out; have := HK3.out; omega
                          case rel => exact ⟨(wrap64 (x32_1 + 1)), (by first | rfl | (simp; done) | (simp [*]; done)), H', ⟨by have := HK1.out; have := HJ10.out; have := HK3.out; omega⟩, ⟨by (with_reducible repeat (first | apply Kd.R_alloc | apply Kd.R_drewN | apply Kd.R_drew)); exact HO_3.out⟩, ⟨by repeat (first | (with_reducible first | exact HB.out | apply below_alloc | apply pw_below_drewN | apply below_drew1) | exact HB.out)⟩⟩
            · rw [if_neg c10] at H
              have c10b0 : decide (x32_1 < (t431.length : Int)) = false := decide_eq_false c10
              clear c10
              replace H := Option.bind_eq_some_iff.mp H
              obtain ⟨t436, A490, H⟩ := H
              replace H : (some t436) = some r := H
              have A49 := Aside0.mk A490
              clear A490
              obtain rfl := Option.some.inj H
              go_wp2_with (first | (go_at_call 16; (with_reducible refine (barscanlaw33_alive.calls k1  t436 _ A49.out).mono ?_); rintro e w50 ⟨rfl, hb⟩; have n0_ := Aside0.mk (Kd.R_below (by (with_reducible repeat (first | apply Kd.R_alloc | apply Kd.R_drewN | apply Kd.R_drew)); exact HO_3.out) hb); have n1_ := Aside0.mk (below_step (by repeat (first | (with_reducible first | exact HB.out | apply below_alloc | apply pw_below_drewN | apply below_drew1) | exact HB.out)) hb); clear HO_3; clear HB; have HO_3 := n0_; have HB := n1_; clear n0_ n1_; (try clear hb); (try clear hb2); (try clear hk); (try clear hi)))
              repeat (go_quiet (first | (go_at_call 16; (with_reducible refine (barscanlaw33_alive.calls k1  t436 _ A49.out).mono ?_); rintro e w50 ⟨rfl, hb⟩; have n0_ := Aside0.mk (Kd.R_below (by (with_reducible repeat (first | apply Kd.R_alloc | apply Kd.R_drewN | apply Kd.R_drew)); exact HO_3.out) hb); have n1_ := Aside0.mk (below_step (by repeat (first | (with_reducible first | exact HB.out | apply below_alloc | apply pw_below_drewN | apply below_drew1) | exact HB.out)) hb); clear HO_3; clear HB; have HO_3 := n0_; have HB := n1_; clear n0_ n1_; (try clear hb); (try clear hb2); (try clear hk); (try clear hi))); try go_wp2_with (first | (go_at_call 16; (with_reducible refine (barscanlaw33_alive.calls k1  t436 _ A49.out).mono ?_); rintro e w50 ⟨rfl, hb⟩; have n0_ := Aside0.mk (Kd.R_below (by (with_reducible repeat (first | apply Kd.R_alloc | apply Kd.R_drewN | apply Kd.R_drew)); exact HO_3.out) hb); have n1_ := Aside0.mk (below_step (by repeat (first | (with_reducible first | exact HB.out | apply below_alloc | apply pw_below_drewN | apply below_drew1) | exact HB.out)) hb); clear HO_3; clear HB; have HO_3 := n0_; have HB := n1_; clear n0_ n1_; (try clear hb); (try clear hb2); (try clear hk); (try clear hi))))
              go_ret
              exact ⟨by first | rfl | (simp [errW_none, errW_some] <;> rfl) | (simp [*, errW_none, errW_some] <;> rfl), by repeat (first | (with_reducible first | exact HB.out | apply below_alloc | apply pw_below_drewN | apply below_drew1) | exact HB.out)⟩
      · rw [if_neg c7] at H
        have c7b0 : ((t431.length : Int) == (l0.length : Int)) = false := beq_eq_false_iff_ne.mpr c7
        have c7b1 : ((t431.length : Int) != (l0.length : Int)) = true := bne_iff_ne.mpr c7
        have c7b2 : (t431.length == l0.length) = false := by first | simpa using c7 | (simp at c7 ⊢; omega)
        obtain rfl := Option.some.inj H
        go_enter Try.func8, Try.ntmps8
        go_wp2_with (first | (go_at_call 20; (with_reducible refine (prefix_Codes.calls k _ _ l0 t431 t432 _ ?side1 ?side2 A5.out).mono ?_); (case side1 => repeat (first | exact HR0.out | (with_reducible refine Kd.C_alloc ?_ _) | (with_reducible refine Kd.C_drewN ?_ _) | (with_reducible refine Kd.C_drew ?_))); (case side2 => exact HC0.out); rintro e w51 ⟨v433, rfl, ho0, hb⟩; have n0_ := Aside0.mk (Kd.R_lower ho0 (below_size (by repeat (first | (with_reducible first | exact HB.out | apply below_alloc | apply pw_below_drewN | apply below_drew1) | exact HB.out)))); have n1_ := Aside0.mk (below_step (by repeat (first | (with_reducible first | exact HB.out | apply below_alloc | apply pw_below_drewN | apply below_drew1) | exact HB.out)) hb); clear HB; have HO434 := n0_; have HB := n1_; clear n0_ n1_; (try clear hb); (try clear hb2); (try clear hk); (try clear hi); (try clear ho0); obtain ⟨Ao52, co52, eo52⟩ := Kd.R_slice HO434.out; subst eo52))
        repeat (go_quiet (first | (go_at_call 20; (with_reducible refine (prefix_Codes.calls k _ _ l0 t431 t432 _ ?side1 ?side2 A5.out).mono ?_); (case side1 => repeat (first | exact HR0.out | (with_reducible refine Kd.C_alloc ?_ _) | (with_reducible refine Kd.C_drewN ?_ _) | (with_reducible refine Kd.C_drew ?_))); (case side2 => exact HC0.out); rintro e w51 ⟨v433, rfl, ho0, hb⟩; have n0_ := Aside0.mk (Kd.R_lower ho0 (below_size (by repeat (first | (with_reducible first | exact HB.out | apply below_alloc | apply pw_below_drewN | apply below_drew1) | exact HB.out)))); have n1_ := Aside0.mk (below_step (by repeat (first | (with_reducible first | exact HB.out | apply below_alloc | apply pw_below_drewN | apply below_drew1) | exact HB.out)) hb); clear HB; have HO434 := n0_; have HB := n1_; clear n0_ n1_; (try clear hb); (try clear hb2); (try clear hk); (try clear hi); (try clear ho0); obtain ⟨Ao52, co52, eo52⟩ := Kd.R_slice HO434.out; subst eo52)); try go_wp2_with (first | (go_at_call 20; (with_reducible refine (prefix_Codes.calls k _ _ l0 t431 t432 _ ?side1 ?side2 A5.out).mono ?_); (case side1 => repeat (first | exact HR0.out | (with_reducible refine Kd.C_alloc ?_ _) | (with_reducible refine Kd.C_drewN ?_ _) | (with_reducible refine Kd.C_drew ?_))); (case side2 => exact HC0.out); rintro e w51 ⟨v433, rfl, ho0, hb⟩; have n0_ := Aside0.mk (Kd.R_lower ho0 (below_size (by repeat (first | (with_reducible first | exact HB.out | apply below_alloc | apply pw_below_drewN | apply below_drew1) | exact HB.out)))); have n1_ := Aside0.mk (below_step (by repeat (first | (with_reducible first | exact HB.out | apply below_alloc | apply pw_below_drewN | apply below_drew1) | exact HB.out)) hb); clear HB; have HO434 := n0_; have HB := n1_; clear n0_ n1_; (try clear hb); (try clear hb2); (try clear hk); (try clear hi); (try clear ho0); obtain ⟨Ao52, co52, eo52⟩ := Kd.R_slice HO434.out; subst eo52)))
        go_ret
        exact ⟨by first | rfl | (simp [errW_none, errW_some] <;> rfl) | (simp [*, errW_none, errW_some] <;> rfl), by repeat (first | (with_reducible first | exact HB.out | apply below_alloc | apply pw_below_drewN | apply below_drew1) | exact HB.out)⟩
    · rw [if_neg c6] at H
      have c6b0 : (t432 == 0) = false := beq_eq_false_iff_ne.mpr c6
      have c6b1 : (t432 != 0) = true := bne_iff_ne.mpr c6
      by_cases c53 : (t431.length : Int) = 0
      · rw [if_pos c53] at H
        have c53b0 : ((t431.length : Int) == 0) = true := beq_iff_eq.mpr c53
        have c53b1 : ((t431.length : Int) != 0) = false := bne_eq_false_iff_eq.mpr c53
        clear c53
        replace H := Option.bind_eq_some_iff.mp H
        obtain ⟨t435, A540, H⟩ := H
        replace H : (some t435) = some r := H
        have A54 := Aside0.mk A540
        clear A540
        obtain rfl := Option.some.inj H
        go_enter Try.func8, Try.ntmps8
        go_wp2_with (first | (go_at_call 20; (with_reducible refine (prefix_Codes.calls k _ _ l0 t431 t432 _ ?side1 ?side2 A5.out).mono ?_); (case side1 => repeat (first | exact HR0.out | (with_reducible refine Kd.C_alloc ?_ _) | (with_reducible refine Kd.C_drewN ?_ _) | (with_reducible refine Kd.C_drew ?_))); (case side2 => exact HC0.out); rintro e w55 ⟨v433, rfl, ho0, hb⟩; have n0_ := Aside0.mk (Kd.R_lower ho0 (below_size (by repeat (first | (with_reducible first | exact HB.out | apply below_alloc | apply pw_below_drewN | apply below_drew1) | exact HB.out)))); have n1_ := Aside0.mk (below_step (by repeat (first | (with_reducible first | exact HB.out | apply below_alloc | apply pw_below_drewN | apply below_drew1) | exact HB.out)) hb); clear HB; have HO434 := n0_; have HB := n1_; clear n0_ n1_; (try clear hb); (try clear hb2); (try clear hk); (try clear hi); (try clear ho0); obtain ⟨Ao56, co56, eo56⟩ := Kd.R_slice HO434.out; subst eo56) | (go_at_call 16; (with_reducible refine (barscanlaw33_alive.calls k  t435 _ A54.out).mono ?_); rintro e w57 ⟨rfl, hb⟩; have n0_ := Aside0.mk (Kd.R_below (by (with_reducible repeat (first | apply Kd.R_alloc | apply Kd.R_drewN | apply Kd.R_drew)); exact HO434.out) hb); have n1_ := Aside0.mk (below_step (by repeat (first | (with_reducible first | exact HB.out | apply below_alloc | apply pw_below_drewN | apply below_drew1) | exact HB.out)) hb); clear HO434; clear HB; have HO434 := n0_; have HB := n1_; clear n0_ n1_; (try clear hb); (try clear hb2); (try clear hk); (try clear hi)))
        repeat (go_quiet (first | (go_at_call 20; (with_reducible refine (prefix_Codes.calls k _ _ l0 t431 t432 _ ?side1 ?side2 A5.out).mono ?_); (case side1 => repeat (first | exact HR0.out | (with_reducible refine Kd.C_alloc ?_ _) | (with_reducible refine Kd.C_drewN ?_ _) | (with_reducible refine Kd.C_drew ?_))); (case side2 => exact HC0.out); rintro e w55 ⟨v433, rfl, ho0, hb⟩; have n0_ := Aside0.mk (Kd.R_lower ho0 (below_size (by repeat (first | (with_reducible first | exact HB.out | apply below_alloc | apply pw_below_drewN | apply below_drew1) | exact HB.out)))); have n1_ := Aside0.mk (below_step (by repeat (first | (with_reducible first | exact HB.out | apply below_alloc | apply pw_below_drewN | apply below_drew1) | exact HB.out)) hb); clear HB; have HO434 := n0_; have HB := n1_; clear n0_ n1_; (try clear hb); (try clear hb2); (try clear hk); (try clear hi); (try clear ho0); obtain ⟨Ao56, co56, eo56⟩ := Kd.R_slice HO434.out; subst eo56) | (go_at_call 16; (with_reducible refine (barscanlaw33_alive.calls k  t435 _ A54.out).mono ?_); rintro e w57 ⟨rfl, hb⟩; have n0_ := Aside0.mk (Kd.R_below (by (with_reducible repeat (first | apply Kd.R_alloc | apply Kd.R_drewN | apply Kd.R_drew)); exact HO434.out) hb); have n1_ := Aside0.mk (below_step (by repeat (first | (with_reducible first | exact HB.out | apply below_alloc | apply pw_below_drewN | apply below_drew1) | exact HB.out)) hb); clear HO434; clear HB; have HO434 := n0_; have HB := n1_; clear n0_ n1_; (try clear hb); (try clear hb2); (try clear hk); (try clear hi))); try go_wp2_with (first | (go_at_call 20; (with_reducible refine (prefix_Codes.calls k _ _ l0 t431 t432 _ ?side1 ?side2 A5.out).mono ?_); (case side1 => repeat (first | exact HR0.out | (with_reducible refine Kd.C_alloc ?_ _) | (with_reducible refine Kd.C_drewN ?_ _) | (with_reducible refine Kd.C_drew ?_))); (case side2 => exact HC0.out); rintro e w55 ⟨v433, rfl, ho0, hb⟩; have n0_ := Aside0.mk (Kd.R_lower ho0 (below_size (by repeat (first | (with_reducible first | exact HB.out | apply below_alloc | apply pw_below_drewN | apply below_drew1) | exact HB.out)))); have n1_ := Aside0.mk (below_step (by repeat (first | (with_reducible first | exact HB.out | apply below_alloc | apply pw_below_drewN | apply below_drew1) | exact HB.out)) hb); clear HB; have HO434 := n0_; have HB := n1_; clear n0_ n1_; (try clear hb); (try clear hb2); (try clear hk); (try clear hi); (try clear ho0); obtain ⟨Ao56, co56, eo56⟩ := Kd.R_slice HO434.out; subst eo56) | (go_at_call 16; (with_reducible refine (barscanlaw33_alive.calls k  t435 _ A54.out).mono ?_); rintro e w57 ⟨rfl, hb⟩; have n0_ := Aside0.mk (Kd.R_below (by (with_reducible repeat (first | apply Kd.R_alloc | apply Kd.R_drewN | apply Kd.R_drew)); exact HO434.out) hb); have n1_ := Aside0.mk (below_step (by repeat (first | (with_reducible first | exact HB.out | apply below_alloc | apply pw_below_drewN | apply below_drew1) | exact HB.out)) hb); clear HO434; clear HB; have HO434 := n0_; have HB := n1_; clear n0_ n1_; (try clear hb); (try clear hb2); (try clear hk); (try clear hi))))
        go_ret
        exact ⟨by first | rfl | (simp [errW_none, errW_some] <;> rfl) | (simp [*, errW_none, errW_some] <;> rfl), by repeat (first | (with_reducible first | exact HB.out | apply below_alloc | apply pw_below_drewN | apply below_drew1) | exact HB.out)⟩
      · rw [if_neg c53] at H
        have c53b0 : ((t431.length : Int) == 0) = false := beq_eq_false_iff_ne.mpr c53
        have c53b1 : ((t431.length : Int) != 0) = true := bne_iff_ne.mpr c53
        have c53b2 : ¬ (t431 = []) := fun h_ => c53 (by rw [h_]; rfl)
        obtain rfl := Option.some.inj H
        go_enter Try.func8, Try.ntmps8
        go_wp2_with (first | (go_at_call 20; (with_reducible refine (prefix_Codes.calls k _ _ l0 t431 t432 _ ?side1 ?side2 A5.out).mono ?_); (case side1 => repeat (first | exact HR0.out | (with_reducible refine Kd.C_alloc ?_ _) | (with_reducible refine Kd.C_drewN ?_ _) | (with_reducible refine Kd.C_drew ?_))); (case side2 => exact HC0.out); rintro e w58 ⟨v433, rfl, ho0, hb⟩; have n0_ := Aside0.mk (Kd.R_lower ho0 (below_size (by repeat (first | (with_reducible first | exact HB.out | apply below_alloc | apply pw_below_drewN | apply below_drew1) | exact HB.out)))); have n1_ := Aside0.mk (below_step (by repeat (first | (with_reducible first | exact HB.out | apply below_alloc | apply pw_below_drewN | apply below_drew1) | exact HB.out)) hb); clear HB; have HO434 := n0_; have HB := n1_; clear n0_ n1_; (try clear hb); (try clear hb2); (try clear hk); (try clear hi); (try clear ho0); obtain ⟨Ao59, co59, eo59⟩ := Kd.R_slice HO434.out; subst eo59))
        repeat (go_quiet (first | (go_at_call 20; (with_reducible refine (prefix_Codes.calls k _ _ l0 t431 t432 _ ?side1 ?side2 A5.out).mono ?_); (case side1 => repeat (first | exact HR0.out | (with_reducible refine Kd.C_alloc ?_ _) | (with_reducible refine Kd.C_drewN ?_ _) | (with_reducible refine Kd.C_drew ?_))); (case side2 => exact HC0.out); rintro e w58 ⟨v433, rfl, ho0, hb⟩; have n0_ := Aside0.mk (Kd.R_lower ho0 (below_size (by repeat (first | (with_reducible first | exact HB.out | apply below_alloc | apply pw_below_drewN | apply below_drew1) | exact HB.out)))); have n1_ := Aside0.mk (below_step (by repeat (first | (with_reducible first | exact HB.out | apply below_alloc | apply pw_below_drewN | apply below_drew1) | exact HB.out)) hb); clear HB; have HO434 := n0_; have HB := n1_; clear n0_ n1_; (try clear hb); (try clear hb2); (try clear hk); (try clear hi); (try clear ho0); obtain ⟨Ao59, co59, eo59⟩ := Kd.R_slice HO434.out; subst eo59)); try go_wp2_with (first | (go_at_call 20; (with_reducible refine (prefix_Codes.calls k _ _ l0 t431 t432 _ ?side1 ?side2 A5.out).mono ?_); (case side1 => repeat (first | exact HR0.out | (with_reducible refine Kd.C_alloc ?_ _) | (with_reducible refine Kd.C_drewN ?_ _) | (with_reducible refine Kd.C_drew ?_))); (case side2 => exact HC0.out); rintro e w58 ⟨v433, rfl, ho0, hb⟩; have n0_ := Aside0.mk (Kd.R_lower ho0 (below_size (by repeat (first | (with_reducible first | exact HB.out | apply below_alloc | apply pw_below_drewN | apply below_drew1) | exact HB.out)))); have n1_ := Aside0.mk (below_step (by repeat (first | (with_reducible first | exact HB.out | apply below_alloc | apply pw_below_drewN | apply below_drew1) | exact HB.out)) hb); clear HB; have HO434 := n0_; have HB := n1_; clear n0_ n1_; (try clear hb); (try clear hb2); (try clear hk); (try clear hi); (try clear ho0); obtain ⟨Ao59, co59, eo59⟩ := Kd.R_slice HO434.out; subst eo59)))
        go_ret
        exact ⟨by first | rfl | (simp [errW_none, errW_some] <;> rfl) | (simp [*, errW_none, errW_some] <;> rfl), by repeat (first | (with_reducible first | exact HB.out | apply below_alloc | apply pw_below_drewN | apply below_drew1) | exact HB.out)⟩

/-- THE ONE PURE STATEMENT of barscanlaw33_PrefixFree: yours. -/
def barscanlaw33_PrefixFree.Pure : Prop := ∀ (l0 : List Int), l0.length ≤ maxLen → l0.length * 8 ≤ 140737488351232 → (∀ x ∈ l0, (Lit.int .i64 x).wf = true) → ∃ k, barscanlaw33_PrefixFree.f k l0 = some true
theorem barscanlaw33_PrefixFree.walk (P : barscanlaw33_PrefixFree.Pure) (a0 : Option Addr) (len0 cap0 : Nat) (z0 : List Int) (w : World) (w0 : (a0 = none ∧ len0 = 0 ∧ cap0 = 0 ∧ z0 = []) ∨ ∃ x, a0 = some x ∧ len0 ≤ cap0 ∧ cap0 ≤ maxLen ∧ z0.length = cap0 ∧ (∀ i, i < z0.length → w.cell? (x.add i) = some (.int .i64 (z0.getD i 0))) ∧ ∀ n ∈ z0, (Lit.int .i64 n).wf = true) (y0 : len0 * 8 ≤ 140737488351232) :
    Calls Try.prog 8 #[.slice a0 len0 cap0] w fun e w' => e = .returned (.bool true) ∧ Below w.heap.size w w' := by
  obtain ⟨l0, rfl, hr0, hm0, hw0, hc0⟩ := ReadsInt.ofRowC w0
  obtain ⟨k, h⟩ := P l0 hm0 y0 hw0
  refine (barscanlaw33_PrefixFree.calls k _ _ l0 true w (Kd.C_of_reads (d := (0 : Int)) (h1 := fun _ => rfl) hr0) hc0 h).mono ?_
  rintro e w' ⟨rfl, hd⟩
  exact ⟨rfl, hd⟩

end Go.Proofs.Ytldhpniflnbilaa.P33
