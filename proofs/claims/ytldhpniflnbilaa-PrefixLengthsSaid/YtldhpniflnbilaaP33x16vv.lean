-- Written by a program of this session (the kit's print, turned so that some callees are taken by contracts of the session)
import Derived.Test.YtldhpniflnbilaaP33x0vv
import Derived.Test.YtldhpniflnbilaaP33x13vv
import Derived.Test.YtldhpniflnbilaaP33x14vv
import Derived.Test.YtldhpniflnbilaaP33x15vv
namespace Go.Proofs.Ytldhpniflnbilaa.P33
open Go.RowKit Go.Proofs.YtldhpniflnbilaaW.PrintWords Go.Proofs.YtldhpniflnbilaaW.PrintLast Go.Proofs.YtldhpniflnbilaaW.PrintMore
attribute [local go_sem] max2_int min2_int max_two min_two max_three min_three max_four min_four   -- for this text's walks alone
set_option linter.unusedVariables false
set_option linter.unusedSimpArgs false

/-! ### barscanref33_Lengths: function 18 -/
mutual
def barscanref33_Lengths.j0 : Nat → List Int → Int → Bool → Option (List Int × Int)
  | 0, _, _, _ => none
  | k + 1, x0, x1, x26 => if x26 = true then (some (([] : List Int), 3)) else (barscanref33_Lengths.l0 k x0 x1 ([] : List (S73)) 0)
def barscanref33_Lengths.l0 : Nat → List Int → Int → List (S73) → Int → Option (List Int × Int)
  | 0, _, _, _, _ => none
  | k + 1, x0, x1, x6, x7 => if x7 < (x0.length : Int) then (if 0 ≤ x7 then (if (rd x0 x7) > 0 then ((barscanref33_insert.f k x6 (rd x0 x7) (([x7] : List Int))).bind fun t275 => (barscanref33_Lengths.l0 k x0 x1 t275 (wrap64 (x7 + 1)))) else (barscanref33_Lengths.l0 k x0 x1 x6 (wrap64 (x7 + 1)))) else (none)) else (if 0 ≤ (IntKind.u64.wrap (x1)) then (if (x6.length : Int) > (shl .i64 1 (IntKind.u64.wrap (x1))) then (some (([] : List Int), 16)) else (if 0 ≤ (x0.length : Int) then (if ((x0.length : Int) : Int).toNat ≤ 35184372088832 then ((some (List.replicate ((x0.length : Int) : Int).toNat 0 : List Int)).bind fun y278 => (if (x6.length : Int) = 1 then (if 0 < (x6.length : Int) then (if 0 < (((rd_T73 x6 0).f1).length : Int) then (if 0 ≤ (rd ((rd_T73 x6 0).f1) 0) then (if (rd ((rd_T73 x6 0).f1) 0) < (y278.length : Int) then (barscanref33_Lengths.j2 k x1 x6 (y278.set ((rd ((rd_T73 x6 0).f1) 0) : Int).toNat 1)) else (none)) else (none)) else (none)) else (none)) else (barscanref33_Lengths.j2 k x1 x6 y278))) else (none)) else (none))) else (none))
def barscanref33_Lengths.j2 : Nat → Int → List (S73) → List Int → Option (List Int × Int)
  | 0, _, _, _ => none
  | k + 1, x1, x6, x8 => barscanref33_Lengths.l1 k x1 x6 x8 x6 1
def barscanref33_Lengths.l1 : Nat → Int → List (S73) → List Int → List (S73) → Int → Option (List Int × Int)
  | 0, _, _, _, _, _ => none
  | k + 1, x1, x6, x8, x9, x10 => if x10 < x1 then ((barscanref33_merged.f k x6 x9).bind fun t284 => (barscanref33_Lengths.l1 k x1 x6 x8 t284 (wrap64 (x10 + 1)))) else (barscanref33_Lengths.l2 k x6 x8 x9 0)
def barscanref33_Lengths.l2 : Nat → List (S73) → List Int → List (S73) → Int → Option (List Int × Int)
  | 0, _, _, _, _ => none
  | k + 1, x6, x8, x9, x11 => if x11 < (wrap64 ((wrap64 (2 * (x6.length : Int))) - 2)) then (barscanref33_Lengths.l3 k x6 x8 x9 x11 0) else (some (x8, 0))
def barscanref33_Lengths.l3 : Nat → List (S73) → List Int → List (S73) → Int → Int → Option (List Int × Int)
  | 0, _, _, _, _, _ => none
  | k + 1, x6, x8, x9, x11, x12 => if 0 ≤ x11 then (if x11 < (x9.length : Int) then (if x12 < (((rd_T73 x9 x11).f1).length : Int) then (if 0 ≤ x12 then (if 0 ≤ (rd ((rd_T73 x9 x11).f1) x12) then (if (rd ((rd_T73 x9 x11).f1) x12) < (x8.length : Int) then (barscanref33_Lengths.l3 k x6 (x8.set ((rd ((rd_T73 x9 x11).f1) x12) : Int).toNat (wrap64 ((rd x8 (rd ((rd_T73 x9 x11).f1) x12)) + 1))) x9 x11 (wrap64 (x12 + 1))) else (none)) else (none)) else (none)) else (barscanref33_Lengths.l2 k x6 x8 x9 (wrap64 (x11 + 1)))) else (none)) else (none)
end
def barscanref33_Lengths.f (k : Nat) (l0 : List Int) (a1 : Int) : Option (List Int × Int) := if (l0.length : Int) > 4096 then (some (([] : List Int), 4)) else ((barscanref33_right.f k l0 1099511627776).bind fun t269 => (if t269 = 0 then (if a1 < 1 then (barscanref33_Lengths.j0 k l0 a1 true) else (barscanref33_Lengths.j0 k l0 a1 (decide (a1 > 30)))) else (barscanref33_Lengths.j0 k l0 a1 true)))
theorem barscanref33_Lengths.mono_l : ∀ k, (∀ y0 y1 y2, LeO (barscanref33_Lengths.j0 k y0 y1 y2) (barscanref33_Lengths.j0 (k + 1) y0 y1 y2)) ∧ (∀ y0 y1 y2 y3, LeO (barscanref33_Lengths.l0 k y0 y1 y2 y3) (barscanref33_Lengths.l0 (k + 1) y0 y1 y2 y3)) ∧ (∀ y0 y1 y2, LeO (barscanref33_Lengths.j2 k y0 y1 y2) (barscanref33_Lengths.j2 (k + 1) y0 y1 y2)) ∧ (∀ y0 y1 y2 y3 y4, LeO (barscanref33_Lengths.l1 k y0 y1 y2 y3 y4) (barscanref33_Lengths.l1 (k + 1) y0 y1 y2 y3 y4)) ∧ (∀ y0 y1 y2 y3, LeO (barscanref33_Lengths.l2 k y0 y1 y2 y3) (barscanref33_Lengths.l2 (k + 1) y0 y1 y2 y3)) ∧ (∀ y0 y1 y2 y3 y4, LeO (barscanref33_Lengths.l3 k y0 y1 y2 y3 y4) (barscanref33_Lengths.l3 (k + 1) y0 y1 y2 y3 y4))
  | 0 => ⟨fun _ _ _ r h => by simp [barscanref33_Lengths.j0] at h, fun _ _ _ _ r h => by simp [barscanref33_Lengths.l0] at h, fun _ _ _ r h => by simp [barscanref33_Lengths.j2] at h, fun _ _ _ _ _ r h => by simp [barscanref33_Lengths.l1] at h, fun _ _ _ _ r h => by simp [barscanref33_Lengths.l2] at h, fun _ _ _ _ _ r h => by simp [barscanref33_Lengths.l3] at h⟩
  | k + 1 => by
    obtain ⟨ih0, ih1, ih2, ih3, ih4, ih5⟩ := barscanref33_Lengths.mono_l k
    refine ⟨?_, ?_, ?_, ?_, ?_, ?_⟩
    · intro y0 y1 y2
      unfold barscanref33_Lengths.j0
      repeat' first
      | (with_reducible exact ih0 _ _ _)
      | (with_reducible exact ih1 _ _ _ _)
      | (with_reducible exact ih2 _ _ _)
      | (with_reducible exact ih3 _ _ _ _ _)
      | (with_reducible exact ih4 _ _ _ _)
      | (with_reducible exact ih5 _ _ _ _ _)
      | (with_reducible exact barscanref33_insert.mono _ _ _ _)
      | (with_reducible exact barscanref33_merged.mono _ _ _)
      | (with_reducible exact barscanref33_right.mono _ _ _)
      | (with_reducible exact LeO.refl _)
      | (with_reducible exact LeO.none _)
      | (with_reducible refine LeO.ite ?_ ?_)
      | (with_reducible refine LeO.bind ?_ (fun _ => ?_))
      | exact ih0 _ _ _
      | exact ih1 _ _ _ _
      | exact ih2 _ _ _
      | exact ih3 _ _ _ _ _
      | exact ih4 _ _ _ _
      | exact ih5 _ _ _ _ _
      | exact barscanref33_insert.mono _ _ _ _
      | exact barscanref33_merged.mono _ _ _
      | exact barscanref33_right.mono _ _ _
      | exact LeO.none _
      | refine LeO.ite ?_ ?_
      | refine LeO.bind ?_ (fun _ => ?_)
    · intro y0 y1 y2 y3
      unfold barscanref33_Lengths.l0
      repeat' first
      | (with_reducible exact ih0 _ _ _)
      | (with_reducible exact ih1 _ _ _ _)
      | (with_reducible exact ih2 _ _ _)
      | (with_reducible exact ih3 _ _ _ _ _)
      | (with_reducible exact ih4 _ _ _ _)
      | (with_reducible exact ih5 _ _ _ _ _)
      | (with_reducible exact barscanref33_insert.mono _ _ _ _)
      | (with_reducible exact barscanref33_merged.mono _ _ _)
      | (with_reducible exact barscanref33_right.mono _ _ _)
      | (with_reducible exact LeO.refl _)
      | (with_reducible exact LeO.none _)
      | (with_reducible refine LeO.ite ?_ ?_)
      | (with_reducible refine LeO.bind ?_ (fun _ => ?_))
      | exact ih0 _ _ _
      | exact ih1 _ _ _ _
      | exact ih2 _ _ _
      | exact ih3 _ _ _ _ _
      | exact ih4 _ _ _ _
      | exact ih5 _ _ _ _ _
      | exact barscanref33_insert.mono _ _ _ _
      | exact barscanref33_merged.mono _ _ _
      | exact barscanref33_right.mono _ _ _
      | exact LeO.none _
      | refine LeO.ite ?_ ?_
      | refine LeO.bind ?_ (fun _ => ?_)
    · intro y0 y1 y2
      unfold barscanref33_Lengths.j2
      repeat' first
      | (with_reducible exact ih0 _ _ _)
      | (with_reducible exact ih1 _ _ _ _)
      | (with_reducible exact ih2 _ _ _)
      | (with_reducible exact ih3 _ _ _ _ _)
      | (with_reducible exact ih4 _ _ _ _)
      | (with_reducible exact ih5 _ _ _ _ _)
      | (with_reducible exact barscanref33_insert.mono _ _ _ _)
      | (with_reducible exact barscanref33_merged.mono _ _ _)
      | (with_reducible exact barscanref33_right.mono _ _ _)
      | (with_reducible exact LeO.refl _)
      | (with_reducible exact LeO.none _)
      | (with_reducible refine LeO.ite ?_ ?_)
      | (with_reducible refine LeO.bind ?_ (fun _ => ?_))
      | exact ih0 _ _ _
      | exact ih1 _ _ _ _
      | exact ih2 _ _ _
      | exact ih3 _ _ _ _ _
      | exact ih4 _ _ _ _
      | exact ih5 _ _ _ _ _
      | exact barscanref33_insert.mono _ _ _ _
      | exact barscanref33_merged.mono _ _ _
      | exact barscanref33_right.mono _ _ _
      | exact LeO.none _
      | refine LeO.ite ?_ ?_
      | refine LeO.bind ?_ (fun _ => ?_)
    · intro y0 y1 y2 y3 y4
      unfold barscanref33_Lengths.l1
      repeat' first
      | (with_reducible exact ih0 _ _ _)
      | (with_reducible exact ih1 _ _ _ _)
      | (with_reducible exact ih2 _ _ _)
      | (with_reducible exact ih3 _ _ _ _ _)
      | (with_reducible exact ih4 _ _ _ _)
      | (with_reducible exact ih5 _ _ _ _ _)
      | (with_reducible exact barscanref33_insert.mono _ _ _ _)
      | (with_reducible exact barscanref33_merged.mono _ _ _)
      | (with_reducible exact barscanref33_right.mono _ _ _)
      | (with_reducible exact LeO.refl _)
      | (with_reducible exact LeO.none _)
      | (with_reducible refine LeO.ite ?_ ?_)
      | (with_reducible refine LeO.bind ?_ (fun _ => ?_))
      | exact ih0 _ _ _
      | exact ih1 _ _ _ _
      | exact ih2 _ _ _
      | exact ih3 _ _ _ _ _
      | exact ih4 _ _ _ _
      | exact ih5 _ _ _ _ _
      | exact barscanref33_insert.mono _ _ _ _
      | exact barscanref33_merged.mono _ _ _
      | exact barscanref33_right.mono _ _ _
      | exact LeO.none _
      | refine LeO.ite ?_ ?_
      | refine LeO.bind ?_ (fun _ => ?_)
    · intro y0 y1 y2 y3
      unfold barscanref33_Lengths.l2
      repeat' first
      | (with_reducible exact ih0 _ _ _)
      | (with_reducible exact ih1 _ _ _ _)
      | (with_reducible exact ih2 _ _ _)
      | (with_reducible exact ih3 _ _ _ _ _)
      | (with_reducible exact ih4 _ _ _ _)
      | (with_reducible exact ih5 _ _ _ _ _)
      | (with_reducible exact barscanref33_insert.mono _ _ _ _)
      | (with_reducible exact barscanref33_merged.mono _ _ _)
      | (with_reducible exact barscanref33_right.mono _ _ _)
      | (with_reducible exact LeO.refl _)
      | (with_reducible exact LeO.none _)
      | (with_reducible refine LeO.ite ?_ ?_)
      | (with_reducible refine LeO.bind ?_ (fun _ => ?_))
      | exact ih0 _ _ _
      | exact ih1 _ _ _ _
      | exact ih2 _ _ _
      | exact ih3 _ _ _ _ _
      | exact ih4 _ _ _ _
      | exact ih5 _ _ _ _ _
      | exact barscanref33_insert.mono _ _ _ _
      | exact barscanref33_merged.mono _ _ _
      | exact barscanref33_right.mono _ _ _
      | exact LeO.none _
      | refine LeO.ite ?_ ?_
      | refine LeO.bind ?_ (fun _ => ?_)
    · intro y0 y1 y2 y3 y4
      unfold barscanref33_Lengths.l3
      repeat' first
      | (with_reducible exact ih0 _ _ _)
      | (with_reducible exact ih1 _ _ _ _)
      | (with_reducible exact ih2 _ _ _)
      | (with_reducible exact ih3 _ _ _ _ _)
      | (with_reducible exact ih4 _ _ _ _)
      | (with_reducible exact ih5 _ _ _ _ _)
      | (with_reducible exact barscanref33_insert.mono _ _ _ _)
      | (with_reducible exact barscanref33_merged.mono _ _ _)
      | (with_reducible exact barscanref33_right.mono _ _ _)
      | (with_reducible exact LeO.refl _)
      | (with_reducible exact LeO.none _)
      | (with_reducible refine LeO.ite ?_ ?_)
      | (with_reducible refine LeO.bind ?_ (fun _ => ?_))
      | exact ih0 _ _ _
      | exact ih1 _ _ _ _
      | exact ih2 _ _ _
      | exact ih3 _ _ _ _ _
      | exact ih4 _ _ _ _
      | exact ih5 _ _ _ _ _
      | exact barscanref33_insert.mono _ _ _ _
      | exact barscanref33_merged.mono _ _ _
      | exact barscanref33_right.mono _ _ _
      | exact LeO.none _
      | refine LeO.ite ?_ ?_
      | refine LeO.bind ?_ (fun _ => ?_)
theorem barscanref33_Lengths.mono : ∀ a0 a1 k, LeO (barscanref33_Lengths.f k a0 a1) (barscanref33_Lengths.f (k + 1) a0 a1) := by
  intro a0 a1 k
  obtain ⟨ih0, ih1, ih2, ih3, ih4, ih5⟩ := barscanref33_Lengths.mono_l k
  unfold barscanref33_Lengths.f
  repeat' first
      | (with_reducible exact ih0 _ _ _)
      | (with_reducible exact ih1 _ _ _ _)
      | (with_reducible exact ih2 _ _ _)
      | (with_reducible exact ih3 _ _ _ _ _)
      | (with_reducible exact ih4 _ _ _ _)
      | (with_reducible exact ih5 _ _ _ _ _)
      | (with_reducible exact barscanref33_insert.mono _ _ _ _)
      | (with_reducible exact barscanref33_merged.mono _ _ _)
      | (with_reducible exact barscanref33_right.mono _ _ _)
      | (with_reducible exact LeO.refl _)
      | (with_reducible exact LeO.none _)
      | (with_reducible refine LeO.ite ?_ ?_)
      | (with_reducible refine LeO.bind ?_ (fun _ => ?_))
      | exact ih0 _ _ _
      | exact ih1 _ _ _ _
      | exact ih2 _ _ _
      | exact ih3 _ _ _ _ _
      | exact ih4 _ _ _ _
      | exact ih5 _ _ _ _ _
      | exact barscanref33_insert.mono _ _ _ _
      | exact barscanref33_merged.mono _ _ _
      | exact barscanref33_right.mono _ _ _
      | exact LeO.none _
      | refine LeO.ite ?_ ?_
      | refine LeO.bind ?_ (fun _ => ?_)
def barscanref33_Lengths.T27 : Bool × List (List Nat × List Nat) := (true, [([], []), ([], []), ([], []), ([1, 2], [1, 2]), ([3], [3]), ([4], [4]), ([], []), ([5, 6], [5, 6]), ([7], [7]), ([], []), ([], []), ([], []), ([10, 11], [10, 11]), ([12], [12]), ([13], [13]), ([], []), ([14, 15], [14, 15]), ([16], [16]), ([9, 17], [9, 17]), ([18], [18]), ([19], [19]), ([0, 8, 0, 1, 2, 3, 4, 5, 6, 7, 8, 9, 10, 11, 12, 13, 14, 15, 16, 17, 18, 19, 20], [0, 8]), ([21, 20, 0, 1, 2, 3, 4, 5, 6, 7, 8, 9, 10, 11, 12, 13, 14, 15, 16, 17, 18, 19, 20], [20, 21])])
def barscanref33_Lengths.B27 : List Nat := [0, 0, 0, 6, 14, 30, 0, 126, 254, 0, 0, 0, 3072, 7168, 15360, 0, 64512, 130048, 261632, 523776, 1048064, 2097151, 4194303]
theorem barscanref33_Lengths.tab27 : rtab .any (opsOf Try.f18 27) = barscanref33_Lengths.T27 := by kernel_rfl
theorem barscanref33_Lengths.bits27 : waitsOk barscanref33_Lengths.T27.2 barscanref33_Lengths.B27 = true := by kernel_rfl
set_option maxHeartbeats 8000000 in
set_option maxRecDepth 100000 in
theorem barscanref33_Lengths.calls (k : Nat) (A0 : Option Addr) (c0 : Nat) (l0 : List Int) (a1 : Int) (r1 : List Int) (r2 : Int) (w : World) (hr0 : Kd.C (Kd.int .i64) w A0 l0.length l0) (hc0 : l0.length ≤ c0) (h : barscanref33_Lengths.f k l0 a1 = some (r1, r2)) :
    Calls Try.prog 18 #[.slice A0 l0.length c0, .int .i64 a1] w fun e w' => ∃ v0_ : Value, e = .returned (.tuple #[v0_, .int .i64 r2]) ∧ Kd.R (Kd.int .i64) 3 w' w.heap.size (fun _ => True) v0_ r1 ∧ Below w.heap.size w w' := by
  have hu73 := Try.underlying73
  have HR0 := Aside0.mk hr0
  have HC0 := Aside0.mk hc0
  clear hr0 hc0
  have HB := Aside0.mk (Below.refl w.heap.size w)
  have H : (if (l0.length : Int) > 4096 then (some (([] : List Int), 4)) else ((barscanref33_right.f k l0 1099511627776).bind fun t269 => (if t269 = 0 then (if a1 < 1 then (barscanref33_Lengths.j0 k l0 a1 true) else (barscanref33_Lengths.j0 k l0 a1 (decide (a1 > 30)))) else (barscanref33_Lengths.j0 k l0 a1 true)))) = some (r1, r2) := h
  clear h
  by_cases c3 : (l0.length : Int) > 4096
  · rw [if_pos c3] at H
    have c3b0 : decide (4096 < (l0.length : Int)) = true := decide_eq_true c3
    have c3b1 : decide (4096 < l0.length) = true := decide_eq_true (by omega)
    clear c3
    simp only [Option.some.injEq, Prod.mk.injEq] at H
    obtain ⟨rfl, rfl⟩ := H
    go_enter Try.func18, Try.ntmps18
    go_wp2
    go_ret2
    exact ⟨_, by first | rfl | (simp [errW_none, errW_some] <;> rfl) | (simp [*, errW_none, errW_some] <;> rfl), by first | exact Kd.R_nil _ _ _ _ _ | exact Kd.N_nil _ _ _ _ _ | exact Kd.V_nil _ _ _ _ _ | exact Kd.Q_nil _ _ _ _ _ | exact Kd.S_nil _ _ _ _ _, by repeat (first | (with_reducible first | exact HB.out | apply below_alloc | apply pw_below_drewN | apply below_drew1) | exact HB.out)⟩
  · rw [if_neg c3] at H
    have c3b0 : decide (4096 < (l0.length : Int)) = false := decide_eq_false c3
    have c3b1 : decide (4096 < l0.length) = false := decide_eq_false (by omega)
    clear c3
    have HC4 := Aside0.mk H
    clear H
    go_enter Try.func18, Try.ntmps18
    go_upto_region 3 with (fail)
    go_cut [26] (fun v26 wc => ∃ (kq : Nat) (x26_3 : Bool), v26 = .bool x26_3 ∧ Aside0 (barscanref33_Lengths.j0 kq l0 a1 x26_3 = some (r1, r2)) ∧ Aside0 (kq ≤ k) ∧ Aside0 (Below w.heap.size w wc))
    case first =>
      have H := HC4.out
      clear HC4
      replace H := Option.bind_eq_some_iff.mp H
      obtain ⟨t269, A50, H⟩ := H
      replace H : (if t269 = 0 then (if a1 < 1 then (barscanref33_Lengths.j0 k l0 a1 true) else (barscanref33_Lengths.j0 k l0 a1 (decide (a1 > 30)))) else (barscanref33_Lengths.j0 k l0 a1 true)) = some (r1, r2) := H
      have A5 := Aside0.mk A50
      clear A50
      by_cases c6 : t269 = 0
      · rw [if_pos c6] at H
        have c6b0 : (t269 == 0) = true := beq_iff_eq.mpr c6
        have c6b1 : (t269 != 0) = false := bne_eq_false_iff_eq.mpr c6
        clear c6
        (first | rw [c6b0] | (simp only [i64_w, i32_w]; rw [c6b0]) | skip)
        by_cases c7 : a1 < 1
        · rw [if_pos c7] at H
          have c7b0 : decide (a1 < 1) = true := decide_eq_true c7
          clear c7
          have H' := Aside0.mk H
          clear H
          go_wp2_with (first | ((with_reducible refine gate_callee (f := 50) rfl ?_); refine goesL_ (some 17) rfl rfl Try.func50 (by kernel_rfl) rfl #[.slice A0 l0.length c0, .int .i64 1099511627776] rfl (by (try simp only [List.map_toArray, List.map_cons, List.map_nil]); first | done | rfl | (simp only [List.length_drop, List.length_take]; rfl)) ?_; (with_reducible refine (barscanref33_right.calls k _ _ l0 1099511627776 t269 _ ?side1 ?side2 A5.out).mono ?_); (case side1 => repeat (first | exact (Kd.C_below HR0.out HB.out) | (with_reducible refine Kd.C_alloc ?_ _) | (with_reducible refine Kd.C_drewN ?_ _) | (with_reducible refine Kd.C_drew ?_))); (case side2 => exact HC0.out); rintro e w' ⟨rfl, ⟨nd, rfl⟩⟩; refine ⟨_, rfl, ?_⟩))
          go_meet
          case rel => exact ⟨_, (true), (by first | rfl | (simp; done) | (simp [*]; done)), H', ⟨by first | omega | exact Nat.le_refl _⟩, ⟨by repeat (first | (with_reducible first | exact HB.out | apply below_alloc | apply pw_below_drewN | apply below_drew1) | exact HB.out)⟩⟩
        · rw [if_neg c7] at H
          have c7b0 : decide (a1 < 1) = false := decide_eq_false c7
          clear c7
          have H' := Aside0.mk H
          clear H
          go_wp2_with (first | ((with_reducible refine gate_callee (f := 50) rfl ?_); refine goesL_ (some 17) rfl rfl Try.func50 (by kernel_rfl) rfl #[.slice A0 l0.length c0, .int .i64 1099511627776] rfl (by (try simp only [List.map_toArray, List.map_cons, List.map_nil]); first | done | rfl | (simp only [List.length_drop, List.length_take]; rfl)) ?_; (with_reducible refine (barscanref33_right.calls k _ _ l0 1099511627776 t269 _ ?side1 ?side2 A5.out).mono ?_); (case side1 => repeat (first | exact (Kd.C_below HR0.out HB.out) | (with_reducible refine Kd.C_alloc ?_ _) | (with_reducible refine Kd.C_drewN ?_ _) | (with_reducible refine Kd.C_drew ?_))); (case side2 => exact HC0.out); rintro e w' ⟨rfl, ⟨nd, rfl⟩⟩; refine ⟨_, rfl, ?_⟩))
          go_meet
          case rel => exact ⟨_, (decide (a1 > 30)), (by first | rfl | (simp; done) | (simp [*]; done)), H', ⟨by first | omega | exact Nat.le_refl _⟩, ⟨by repeat (first | (with_reducible first | exact HB.out | apply below_alloc | apply pw_below_drewN | apply below_drew1) | exact HB.out)⟩⟩
      · rw [if_neg c6] at H
        have c6b0 : (t269 == 0) = false := beq_eq_false_iff_ne.mpr c6
        have c6b1 : (t269 != 0) = true := bne_iff_ne.mpr c6
        (first | rw [c6b0] | (simp only [i64_w, i32_w]; rw [c6b0]) | skip)
        have H' := Aside0.mk H
        clear H
        go_wp2_with (first | ((with_reducible refine gate_callee (f := 50) rfl ?_); refine goesL_ (some 17) rfl rfl Try.func50 (by kernel_rfl) rfl #[.slice A0 l0.length c0, .int .i64 1099511627776] rfl (by (try simp only [List.map_toArray, List.map_cons, List.map_nil]); first | done | rfl | (simp only [List.length_drop, List.length_take]; rfl)) ?_; (with_reducible refine (barscanref33_right.calls k _ _ l0 1099511627776 t269 _ ?side1 ?side2 A5.out).mono ?_); (case side1 => repeat (first | exact (Kd.C_below HR0.out HB.out) | (with_reducible refine Kd.C_alloc ?_ _) | (with_reducible refine Kd.C_drewN ?_ _) | (with_reducible refine Kd.C_drew ?_))); (case side2 => exact HC0.out); rintro e w' ⟨rfl, ⟨nd, rfl⟩⟩; refine ⟨_, rfl, ?_⟩))
        go_meet
        case rel => exact ⟨_, (true), (by first | rfl | (simp; done) | (simp [*]; done)), H', ⟨by first | omega | exact Nat.le_refl _⟩, ⟨by repeat (first | (with_reducible first | exact HB.out | apply below_alloc | apply pw_below_drewN | apply below_drew1) | exact HB.out)⟩⟩
    case rest =>
      clear HC4
      try clear c1
      try clear p2
      try clear c3
      try clear c3b0
      try clear c3b1
      try clear c5
      try clear c6
      try clear c6b0
      try clear c6b1
      try clear c7
      try clear c7b0
      obtain ⟨kq, x26_3, rfl, HA, HJ3, HB⟩ := hcut
      cases kq with
      | zero => exact absurd HA.out (by simp [barscanref33_Lengths.j0])
      | succ kj3 =>
        have H := HA.out
        clear HA
        simp only [barscanref33_Lengths.j0] at H
        by_cases c8 : x26_3 = true
        · subst c8
          have H1 : (some (([] : List Int), 3)) = some (r1, r2) := by rw [if_pos rfl] at H; exact H
          clear H
          have H := H1
          clear H1
          simp only [Option.some.injEq, Prod.mk.injEq] at H
          obtain ⟨rfl, rfl⟩ := H
          go_wp2
          go_ret2
          exact ⟨_, by first | rfl | (simp [errW_none, errW_some] <;> rfl) | (simp [*, errW_none, errW_some] <;> rfl), by first | exact Kd.R_nil _ _ _ _ _ | exact Kd.N_nil _ _ _ _ _ | exact Kd.V_nil _ _ _ _ _ | exact Kd.Q_nil _ _ _ _ _ | exact Kd.S_nil _ _ _ _ _, by repeat (first | (with_reducible first | exact HB.out | apply below_alloc | apply pw_below_drewN | apply below_drew1) | exact HB.out)⟩
        · replace c8 := Bool.eq_false_iff.mpr c8
          subst c8
          have H1 : (barscanref33_Lengths.l0 kj3 l0 a1 ([] : List (S73)) 0) = some (r1, r2) := by rw [if_neg (show ¬ (false = true) by decide)] at H; exact H
          clear H
          have H := H1
          clear H1
          have H' := Aside0.mk H
          clear H
          go_wp2
          go_loopg [6, 7] kj3 (fun kq v6 v7 w' => ∃ (x6_2 : List (S73)) (x7_2 : Int), v7 = .int .i64 x7_2 ∧ Aside0 (barscanref33_Lengths.l0 kq l0 a1 x6_2 x7_2 = some (r1, r2)) ∧ Aside0 (kq ≤ kj3) ∧ Aside0 (Kd.N k73 73 w' w.heap.size (fun _ => True) v6 x6_2) ∧ Aside0 (Below w.heap.size w w'))
          case atStart => exact ⟨(([] : List (S73))), (0), (by first | rfl | (simp; done) | (simp [*]; done)), H', ⟨Nat.le_refl _⟩, ⟨by first | exact Kd.S_nil _ _ _ _ _ | exact Kd.N_nil _ _ _ _ _ | exact Kd.V_nil _ _ _ _ _ | exact Kd.Q_nil _ _ _ _ _ | exact Kd.R_nil _ _ _ _ _⟩, ⟨by repeat (first | (with_reducible first | exact HB.out | apply below_alloc | apply pw_below_drewN | apply below_drew1) | exact HB.out)⟩⟩
          case round =>
            clear H'
            try clear c1
            try clear p2
            try clear c3
            try clear c3b0
            try clear c3b1
            try clear c5
            try clear c6
            try clear c6b0
            try clear c6b1
            try clear c7
            try clear c7b0
            try clear c8
            try clear p2
            obtain ⟨x6_2, x7_2, rfl, HA, HK2, HO_6, HB⟩ := hrel
            cases gk with
            | zero => exact absurd HA.out (by simp [barscanref33_Lengths.l0])
            | succ k2 =>
              have H := HA.out
              clear HA
              simp only [barscanref33_Lengths.l0] at H
              by_cases c9 : x7_2 < (l0.length : Int)
              · rw [if_pos c9] at H
                have c9b0 : decide (x7_2 < (l0.length : Int)) = true := decide_eq_true c9
                clear c9
                by_cases c10 : 0 ≤ x7_2
                · rw [if_pos c10] at H
                  have c10b0 : decide (0 ≤ x7_2) = true := decide_eq_true c10
                  clear c10
                  by_cases c11 : (rd l0 x7_2) > 0
                  · rw [if_pos c11] at H
                    have c11b0 : decide (0 < (rd l0 x7_2)) = true := decide_eq_true c11
                    clear c11
                    obtain ⟨y272, hy272⟩ : ∃ y_ : List Int, y_ = (([x7_2] : List Int)) := ⟨_, rfl⟩
                    replace H : ((barscanref33_insert.f k2 x6_2 (rd l0 x7_2) y272).bind fun t275 => (barscanref33_Lengths.l0 k2 l0 a1 t275 (wrap64 (x7_2 + 1)))) = some (r1, r2) := by first | (rw [hy272]; with_reducible exact H) | (have H2_ := (Option.bind_some _ _).symm.trans H; rw [hy272]; with_reducible exact H2_) | (have H2_ := (Option.bind_some _ _).symm.trans H; with_reducible exact H2_) | with_reducible exact H | (rw [hy272]; exact H) | exact H
                    have Ny272 := Aside0.mk hy272
                    clear hy272
                    replace H := Option.bind_eq_some_iff.mp H
                    obtain ⟨t275, A120, H⟩ := H
                    replace H : (barscanref33_Lengths.l0 k2 l0 a1 t275 (wrap64 (x7_2 + 1))) = some (r1, r2) := H
                    have A12 := Aside0.mk A120
                    clear A120
                    have H' := Aside0.mk H
                    clear H
                    have p270 : 0 ≤ (x7_2 : Int) := of_decide_eq_true (by first | (with_reducible assumption) | assumption)
                    have q270 : x7_2 < (l0.length : Int) := of_decide_eq_true (by first | (with_reducible assumption) | assumption)
                    obtain ⟨ad270, e270, hx270_0⟩ := Kd.at_int HR0.out x7_2 p270 q270
                    cases e270
                    replace hx270_0 := (HB.out.cell (World.block_lt_of_cell? w _ hx270_0)).trans hx270_0
                    replace p270 := eq_true p270
                    replace q270 := eq_true q270
                    have p271 : 0 ≤ (x7_2 : Int) := of_decide_eq_true (by first | (with_reducible assumption) | assumption)
                    have q271 : x7_2 < (l0.length : Int) := of_decide_eq_true (by first | (with_reducible assumption) | assumption)
                    obtain ⟨ad271, e271, hx271_0⟩ := Kd.at_int HR0.out x7_2 p271 q271
                    obtain rfl : ad270 = ad271 := (by injection e271)
                    replace hx271_0 := (HB.out.cell (World.block_lt_of_cell? w _ hx271_0)).trans hx271_0
                    replace p271 := eq_true p271
                    replace q271 := eq_true q271
                    go_wp2_with (first | ((with_reducible refine gate_dst (N := 44) rfl ?_); refine Kd.R_lit (Kd.int .i64) _ 3 ?hg (N := 44) ?hd (xs := ([x7_2] : List Int)) (inner := [.int .i64 x7_2]) (ok := fun _ => True) (okp := fun _ => True) ?hr ?hp (fun _ hk => hk) trivial (Below.refl _ _) (Nat.le_refl _) (by simp) ?_; (case hd => rfl); (case hg => rfl); (case hr => first | (go_simp; done) | (go_simp; rfl)); (case hp => exact (Reps.one (show Kd.M (Kd.int .i64) _ _ _ x7_2 [.int .i64 x7_2] from rfl) (Reps.none _ _))); intro v273 w13 ho14 hb hg_ hnew_; clear hg_ hnew_; (first | rw [← Ny272.out] at ho14 | (simp only [Int.reduceToNat] at ho14; rw [← Ny272.out] at ho14)); have n0_ := Aside0.mk (Kd.N_elder' (by (with_reducible repeat (first | apply Kd.N_alloc | apply Kd.N_drewN | apply Kd.N_drew)); exact HO_6.out) (Kd.R_base ho14) hb); have n1_ := Aside0.mk (Kd.R_lower ho14 (below_size (by repeat (first | (with_reducible first | exact HB.out | apply below_alloc | apply pw_below_drewN | apply below_drew1) | exact HB.out)))); have n2_ := Aside0.mk (below_step (by repeat (first | (with_reducible first | exact HB.out | apply below_alloc | apply pw_below_drewN | apply below_drew1) | exact HB.out)) hb); clear HO_6; clear HB; have HO_6 := n0_; have HO274 := n1_; have HB := n2_; clear n0_ n1_ n2_; clear hb ho14; obtain ⟨Ao15, co15, eo15⟩ := Kd.R_slice HO274.out; subst eo15; obtain ⟨Ao16, co16, eo16⟩ := Kd.N_slice HO_6.out; subst eo16) | ((with_reducible refine gate_callee (f := 51) rfl ?_); refine goesL_ (some 46) rfl rfl Try.func51 (by kernel_rfl) rfl #[.slice Ao16 x6_2.length co16, .agg #[.int .i64 (rd l0 x7_2), .slice Ao15 y272.length co15]] rfl (by (try simp only [List.map_toArray, List.map_cons, List.map_nil]); first | done | rfl | (simp only [List.length_drop, List.length_take]; rfl)) ?_; (with_reducible refine (barscanref33_insert.calls k2 (fun k_ => (True ∧ some k_ ≠ (.slice Ao15 y272.length co15 : Value).ownBlock)) _ _ x6_2 (rd l0 x7_2) (fun k_ => some k_ = (.slice Ao15 y272.length co15 : Value).ownBlock) _ _ y272 t275 _ ?side1 ?side2 A12.out).mono ?_); (case side1 => exact Kd.N_V (HO_6.out)); (case side2 => exact Kd.R_V (Kd.R_tight rfl (Kd.R_apart' (HO274.out) (Kd.N_typed HO_6.out) (by decide)))); rintro e w17 ⟨v276, rfl, ho0, hb⟩; refine ⟨_, rfl, ?_⟩; have n0_ := Aside0.mk (Kd.N_elder' (by (with_reducible repeat (first | apply Kd.N_alloc | apply Kd.N_drewN | apply Kd.N_drew)); exact HO_6.out) (Kd.N_base ho0) hb); have n1_ := Aside0.mk (Kd.R_below (by (with_reducible repeat (first | apply Kd.R_alloc | apply Kd.R_drewN | apply Kd.R_drew)); exact HO274.out) hb); have n2_ := Aside0.mk (Kd.N_lower (Kd.N_mono (ok' := fun k_ => True) ho0 (fun k_ hk_ => trivial)) (below_size (by repeat (first | (with_reducible first | exact HB.out | apply below_alloc | apply pw_below_drewN | apply below_drew1) | exact HB.out)))); have n3_ := Aside0.mk (below_step (by repeat (first | (with_reducible first | exact HB.out | apply below_alloc | apply pw_below_drewN | apply below_drew1) | exact HB.out)) hb); clear HO_6; clear HO274; clear HB; have HO_6 := n0_; have HO274 := n1_; have HO277 := n2_; have HB := n3_; clear n0_ n1_ n2_ n3_; (try clear hb); (try clear hb2); (try clear hk); (try clear hi); (try clear ho0)))
                    go_roundg k2
                    case measure => have := HJ3.out; have := HK2.out; omega
                    case rel => exact ⟨(t275), (wrap64 (x7_2 + 1)), (by first | rfl | (simp; done) | (simp [*]; done)), H', ⟨by have := HJ3.out; have := HK2.out; omega⟩, ⟨by (with_reducible repeat (first | apply Kd.N_alloc | apply Kd.N_drewN | apply Kd.N_drew)); exact HO277.out⟩, ⟨by repeat (first | (with_reducible first | exact HB.out | apply below_alloc | apply pw_below_drewN | apply below_drew1) | exact HB.out)⟩⟩
                  · rw [if_neg c11] at H
                    have c11b0 : decide (0 < (rd l0 x7_2)) = false := decide_eq_false c11
                    clear c11
                    have H' := Aside0.mk H
                    clear H
                    have p270 : 0 ≤ (x7_2 : Int) := of_decide_eq_true (by first | (with_reducible assumption) | assumption)
                    have q270 : x7_2 < (l0.length : Int) := of_decide_eq_true (by first | (with_reducible assumption) | assumption)
                    obtain ⟨ad270, e270, hx270_0⟩ := Kd.at_int HR0.out x7_2 p270 q270
                    cases e270
                    replace hx270_0 := (HB.out.cell (World.block_lt_of_cell? w _ hx270_0)).trans hx270_0
                    replace p270 := eq_true p270
                    replace q270 := eq_true q270
                    go_wp2
                    go_roundg k2
                    case measure => have := HJ3.out; have := HK2.out; omega
                    case rel => exact ⟨(x6_2), (wrap64 (x7_2 + 1)), (by first | rfl | (simp; done) | (simp [*]; done)), H', ⟨by have := HJ3.out; have := HK2.out; omega⟩, ⟨by (with_reducible repeat (first | apply Kd.N_alloc | apply Kd.N_drewN | apply Kd.N_drew)); exact HO_6.out⟩, ⟨by repeat (first | (with_reducible first | exact HB.out | apply below_alloc | apply pw_below_drewN | apply below_drew1) | exact HB.out)⟩⟩
                · rw [if_neg c10] at H
                  exact absurd H (by simp)
              · rw [if_neg c9] at H
                have c9b0 : decide (x7_2 < (l0.length : Int)) = false := decide_eq_false c9
                clear c9
                obtain ⟨ji18, hji18⟩ : ∃ j_ : Int, (IntKind.u64.wrap (a1)) = j_ := ⟨_, rfl⟩
                replace H : (if 0 ≤ (ji18) then (if (x6_2.length : Int) > (shl .i64 1 (ji18)) then (some (([] : List Int), 16)) else (if 0 ≤ (l0.length : Int) then (if ((l0.length : Int) : Int).toNat ≤ 35184372088832 then ((some (List.replicate ((l0.length : Int) : Int).toNat 0 : List Int)).bind fun y278 => (if (x6_2.length : Int) = 1 then (if 0 < (x6_2.length : Int) then (if 0 < (((rd_T73 x6_2 0).f1).length : Int) then (if 0 ≤ (rd ((rd_T73 x6_2 0).f1) 0) then (if (rd ((rd_T73 x6_2 0).f1) 0) < (y278.length : Int) then (barscanref33_Lengths.j2 k2 a1 x6_2 (y278.set ((rd ((rd_T73 x6_2 0).f1) 0) : Int).toNat 1)) else (none)) else (none)) else (none)) else (none)) else (barscanref33_Lengths.j2 k2 a1 x6_2 y278))) else (none)) else (none))) else (none)) = some (r1, r2) := by first | (rw [hji18] at H; exact H) | (simp only [hji18] at H ⊢; exact H)
                by_cases c19 : 0 ≤ (ji18)
                · rw [if_pos c19] at H
                  have c19b0 := eq_true c19
                  have c19b1 : decide (0 ≤ (ji18)) = true := decide_eq_true c19
                  clear c19
                  obtain ⟨ji20, hji20⟩ : ∃ j_ : Int, (shl .i64 1 (ji18)) = j_ := ⟨_, rfl⟩
                  replace H : (if (x6_2.length : Int) > (ji20) then (some (([] : List Int), 16)) else (if 0 ≤ (l0.length : Int) then (if ((l0.length : Int) : Int).toNat ≤ 35184372088832 then ((some (List.replicate ((l0.length : Int) : Int).toNat 0 : List Int)).bind fun y278 => (if (x6_2.length : Int) = 1 then (if 0 < (x6_2.length : Int) then (if 0 < (((rd_T73 x6_2 0).f1).length : Int) then (if 0 ≤ (rd ((rd_T73 x6_2 0).f1) 0) then (if (rd ((rd_T73 x6_2 0).f1) 0) < (y278.length : Int) then (barscanref33_Lengths.j2 k2 a1 x6_2 (y278.set ((rd ((rd_T73 x6_2 0).f1) 0) : Int).toNat 1)) else (none)) else (none)) else (none)) else (none)) else (barscanref33_Lengths.j2 k2 a1 x6_2 y278))) else (none)) else (none))) = some (r1, r2) := by first | (rw [hji20] at H; exact H) | (simp only [hji20] at H ⊢; exact H)
                  have hji20_ : (IntKind.i64.wrap (1 * 2 ^ min (ji18).toNat 64)) = ji20 := hji20
                  have hji20z : (ji18) ≤ 64 → (IntKind.i64.wrap (1 * 2 ^ (ji18).toNat)) = ji20 := shl_small hji20
                  have hji20u : (IntKind.i64.wrap (2 ^ min (ji18).toNat 64)) = ji20 := by have h_ := hji20_; rw [Int.one_mul] at h_; exact h_
                  have hji20v : (ji18) ≤ 64 → (IntKind.i64.wrap (2 ^ (ji18).toNat)) = ji20 := fun hle_ => by have h_ := hji20z hle_; rw [Int.one_mul] at h_; exact h_
                  have hji20y : (wrap64 (1 * 2 ^ min (ji18).toNat 64)) = ji20 := (i64_w _).symm.trans hji20_
                  have hji20x : (ji18) ≤ 64 → (wrap64 (1 * 2 ^ (ji18).toNat)) = ji20 := fun h_ => (i64_w _).symm.trans (hji20z h_)
                  by_cases c21 : (x6_2.length : Int) > (ji20)
                  · rw [if_pos c21] at H
                    have c21b0 : decide ((ji20) < (x6_2.length : Int)) = true := decide_eq_true c21
                    clear c21
                    simp only [Option.some.injEq, Prod.mk.injEq] at H
                    obtain ⟨rfl, rfl⟩ := H
                    obtain ⟨Ao22, co22, eo22⟩ := Kd.N_slice HO_6.out
                    subst eo22
                    go_wp2
                    go_ret2
                    exact ⟨_, by first | rfl | (simp [errW_none, errW_some] <;> rfl) | (simp only [← hji18, ← hji20]; first | rfl | (simp [errW_none, errW_some] <;> rfl)) | (simp [*, errW_none, errW_some] <;> rfl), by first | exact Kd.R_nil _ _ _ _ _ | exact Kd.N_nil _ _ _ _ _ | exact Kd.V_nil _ _ _ _ _ | exact Kd.Q_nil _ _ _ _ _ | exact Kd.S_nil _ _ _ _ _, by repeat (first | (with_reducible first | exact HB.out | apply below_alloc | apply pw_below_drewN | apply below_drew1) | exact HB.out)⟩
                  · rw [if_neg c21] at H
                    have c21b0 : decide ((ji20) < (x6_2.length : Int)) = false := decide_eq_false c21
                    clear c21
                    by_cases c23 : 0 ≤ (l0.length : Int)
                    · rw [if_pos c23] at H
                      have c23b0 := eq_true c23
                      have c23b1 : decide (0 ≤ (l0.length : Int)) = true := decide_eq_true c23
                      clear c23
                      by_cases c24 : ((l0.length : Int) : Int).toNat ≤ 35184372088832
                      · rw [if_pos c24] at H
                        have c24b0 := eq_true c24
                        have c24b1 : decide (((l0.length : Int) : Int).toNat ≤ 35184372088832) = true := decide_eq_true c24
                        clear c24
                        obtain ⟨y278, hy278⟩ : ∃ y_ : List Int, y_ = (List.replicate ((l0.length : Int) : Int).toNat 0) := ⟨_, rfl⟩
                        replace H : (if (x6_2.length : Int) = 1 then (if 0 < (x6_2.length : Int) then (if 0 < (((rd_T73 x6_2 0).f1).length : Int) then (if 0 ≤ (rd ((rd_T73 x6_2 0).f1) 0) then (if (rd ((rd_T73 x6_2 0).f1) 0) < (y278.length : Int) then (barscanref33_Lengths.j2 k2 a1 x6_2 (y278.set ((rd ((rd_T73 x6_2 0).f1) 0) : Int).toNat 1)) else (none)) else (none)) else (none)) else (none)) else (barscanref33_Lengths.j2 k2 a1 x6_2 y278)) = some (r1, r2) := by first | (rw [hy278]; with_reducible exact H) | (have H2_ := (Option.bind_some _ _).symm.trans H; rw [hy278]; with_reducible exact H2_) | (have H2_ := (Option.bind_some _ _).symm.trans H; with_reducible exact H2_) | with_reducible exact H | (rw [hy278]; exact H) | exact H
                        have Ny278 := Aside0.mk hy278
                        clear hy278
                        have HC25 := Aside0.mk H
                        clear H
                        obtain ⟨Ao26, co26, eo26⟩ := Kd.N_slice HO_6.out
                        subst eo26
                        go_upto_if 58 with (first | ((with_reducible refine gate_dst (N := 55) rfl ?_); refine Kd.R_make (Kd.int .i64) _ 3 rfl (N := 55) rfl 22 _ _ rfl (l0.length : Int) rfl rfl Try.underlying22 (.int .i64 0) 8 info3 rfl (by decide) (by omega) 0 (ok := fun _ => True) (okp := fun _ => True) rfl (fun _ hk => hk) trivial (of_decide_eq_true (by first | (with_reducible assumption) | assumption)) (Nat.le_trans (Nat.mul_le_mul_right _ (of_decide_eq_true (by first | (with_reducible assumption) | assumption) : (l0.length : Int).toNat ≤ 35184372088832)) (by omega)) (Below.refl _ _) (Nat.le_refl _) ?_; intro v279 w27 ho28 hb hg_ hnew_; clear hg_ hnew_; (first | rw [← Ny278.out] at ho28 | (simp only [Int.reduceToNat] at ho28; rw [← Ny278.out] at ho28)); have n0_ := Aside0.mk (Kd.N_elder' (by (with_reducible repeat (first | apply Kd.N_alloc | apply Kd.N_drewN | apply Kd.N_drew)); exact HO_6.out) (Kd.R_base ho28) hb); have n1_ := Aside0.mk (Kd.R_lower ho28 (below_size (by repeat (first | (with_reducible first | exact HB.out | apply below_alloc | apply pw_below_drewN | apply below_drew1) | exact HB.out)))); have n2_ := Aside0.mk (below_step (by repeat (first | (with_reducible first | exact HB.out | apply below_alloc | apply pw_below_drewN | apply below_drew1) | exact HB.out)) hb); clear HO_6; clear HB; have HO_6 := n0_; have HO280 := n1_; have HB := n2_; clear n0_ n1_ n2_; clear hb ho28))
                        (try simp only [Act.put, List.setIfInBounds_toArray, List.set_cons_zero, List.set_cons_succ])
                        go_cut [] (fun wc => ∃ (kq : Nat) (x8_24 : List Int), Aside0 (barscanref33_Lengths.j2 kq a1 x6_2 x8_24 = some (r1, r2)) ∧ Aside0 (kq ≤ k2) ∧ Aside0 (Kd.N k73 73 wc w.heap.size (fun k_ => some k_ ≠ (v279 : Value).ownBlock) (.slice Ao26 x6_2.length co26) x6_2) ∧ Aside0 (Kd.R (Kd.int .i64) 3 wc w.heap.size (fun _ => True) v279 x8_24) ∧ Aside0 (Below w.heap.size w wc))
                        case first =>
                          have H := HC25.out
                          clear HC25
                          by_cases c29 : (x6_2.length : Int) = 1
                          · rw [if_pos c29] at H
                            have c29b0 : ((x6_2.length : Int) == 1) = true := beq_iff_eq.mpr c29
                            have c29b1 : ((x6_2.length : Int) != 1) = false := bne_eq_false_iff_eq.mpr c29
                            clear c29
                            (first | rw [c29b0] | (simp only [i64_w, i32_w]; rw [c29b0]) | skip)
                            by_cases c30 : 0 < (x6_2.length : Int)
                            · rw [if_pos c30] at H
                              have c30b0 : decide (0 < (x6_2.length : Int)) = true := decide_eq_true c30
                              have c30b1 : decide (0 < x6_2.length) = true := decide_eq_true (by omega)
                              clear c30
                              by_cases c31 : 0 < (((rd_T73 x6_2 0).f1).length : Int)
                              · rw [if_pos c31] at H
                                have c31b0 : decide (0 < (((rd_T73 x6_2 0).f1).length : Int)) = true := decide_eq_true c31
                                have c31b1 : decide (0 < ((rd_T73 x6_2 0).f1).length) = true := decide_eq_true (by omega)
                                clear c31
                                by_cases c32 : 0 ≤ (rd ((rd_T73 x6_2 0).f1) 0)
                                · rw [if_pos c32] at H
                                  have c32b0 : decide (0 ≤ (rd ((rd_T73 x6_2 0).f1) 0)) = true := decide_eq_true c32
                                  clear c32
                                  by_cases c33 : (rd ((rd_T73 x6_2 0).f1) 0) < (y278.length : Int)
                                  · rw [if_pos c33] at H
                                    have c33b0 : decide ((rd ((rd_T73 x6_2 0).f1) 0) < (y278.length : Int)) = true := decide_eq_true c33
                                    clear c33
                                    obtain ⟨y283, hy283⟩ : ∃ y_ : List Int, y_ = (y278.set ((rd ((rd_T73 x6_2 0).f1) 0) : Int).toNat 1) := ⟨_, rfl⟩
                                    replace H : (barscanref33_Lengths.j2 k2 a1 x6_2 y283) = some (r1, r2) := by first | (rw [hy283]; with_reducible exact H) | (have H2_ := (Option.bind_some _ _).symm.trans H; rw [hy283]; with_reducible exact H2_) | (have H2_ := (Option.bind_some _ _).symm.trans H; with_reducible exact H2_) | with_reducible exact H | (rw [hy283]; exact H) | exact H
                                    have Ny283 := Aside0.mk hy283
                                    clear hy283
                                    have H' := Aside0.mk H
                                    clear H
                                    have p281 : 0 ≤ (0 : Int) := (by omega)
                                    have q281 : 0 < (x6_2.length : Int) := of_decide_eq_true (by first | (with_reducible assumption) | assumption)
                                    obtain ⟨ad281, A281_1, c281_1, e281, hx281_0, hx281_1, hl281_1, hi281_1⟩ := at_T73 (Kd.N_reads' HO_6.out).2.2 0 p281 q281
                                    cases e281
                                    obtain ⟨ce281, hce281, hMe281, hcc281⟩ := Kd.N_get HO_6.out z73 0 p281 (by first | exact q281 | exact of_decide_eq_true (by first | (with_reducible assumption) | assumption) | (have e_ := (Kd.N_reads' HO_6.out).1; omega))
                                    obtain ⟨ua281_1, uc281_1, rfl, ul281_1, ge281_1⟩ := k73_openF hMe281
                                    have hv281_1 := hcc281 1 _ rfl
                                    rw [add_field _ _ 1 (by omega)] at hv281_1
                                    replace hv281_1 := Option.some.inj (hv281_1.symm.trans hx281_1)
                                    injection hv281_1 with hva_ hvn_ hvc_
                                    rw [hva_] at ge281_1
                                    rw [hvc_] at ul281_1
                                    have HL281_1 := Aside0.mk (show Kd.V (Kd.int .i64) 3 _ w.heap.size _ _ ((rd_T73 x6_2 0).f1) from Kd.V_mk ul281_1 ge281_1)
                                    clear hva_ hvn_ hvc_ ge281_1 ul281_1
                                    clear hcc281 hce281
                                    have qi281 : (0 < x6_2.length) = True := eq_true (by omega)
                                    (try rw [show ((0 : Int)).toNat = 0 from rfl] at hx281_0)
                                    (try rw [show 0 * 2 = 0 from rfl] at hx281_0)
                                    (try rw [Addr.add_zero'] at hx281_0)
                                    (try rw [show ((0 : Int)).toNat = 0 from rfl] at hx281_1)
                                    (try rw [show 0 * 2 = 0 from rfl] at hx281_1)
                                    (try rw [Addr.add_zero'] at hx281_1)
                                    have HR281_1 := Aside0.mk hi281_1
                                    have HC281_1 := Aside0.mk hl281_1
                                    clear hi281_1 hl281_1
                                    replace p281 := eq_true p281
                                    replace q281 := eq_true q281
                                    have p282 : 0 ≤ (0 : Int) := (by omega)
                                    have q282 : 0 < (((rd_T73 x6_2 0).f1).length : Int) := of_decide_eq_true (by first | (with_reducible assumption) | assumption)
                                    obtain ⟨ad282, e282, hx282_0⟩ := Kd.at_int (by repeat (first | (with_reducible exact HR281_1.out) | (with_reducible refine Kd.C_alloc ?_ _) | (with_reducible refine Kd.C_drewN ?_ _) | (with_reducible refine Kd.C_drew ?_) | exact HR281_1.out)) 0 p282 q282
                                    cases e282
                                    have qi282 : (0 < ((rd_T73 x6_2 0).f1).length) = True := eq_true (by omega)
                                    (try rw [show ((0 : Int)).toNat = 0 from rfl] at hx282_0)
                                    (try rw [Addr.add_zero'] at hx282_0)
                                    replace p282 := eq_true p282
                                    replace q282 := eq_true q282
                                    have p34 : 0 ≤ ((rd ((rd_T73 x6_2 0).f1) 0) : Int) := of_decide_eq_true (by first | (with_reducible assumption) | assumption)
                                    have q34 : ((rd ((rd_T73 x6_2 0).f1) 0) : Int) < ((y278.length : Int) : Int) := of_decide_eq_true (by first | (with_reducible assumption) | assumption)
                                    obtain ⟨go34, co34, eo34, gb34, gl34, cl34, HG34⟩ := Kd.R_form HO280.out (by omega)
                                    (first | cases eo34 | (injection eo34 with ea_ en_ ec_; (first | subst ea_ | (injection ea_ with ea_; subst ea_)); subst ec_; clear en_))
                                    have GB34 := Aside0.mk gb34
                                    have GG34 := Aside0.mk HG34
                                    clear gb34 gl34 HG34
                                    obtain ⟨hx34_0, hf34_0⟩ := Kd.R_celln 0 HO280.out ((rd ((rd_T73 x6_2 0).f1) 0) : Int) p34 q34
                                    replace p34 := eq_true p34
                                    replace q34 := eq_true q34
                                    have HP35 := Kd.R_putg HO280.out ((rd ((rd_T73 x6_2 0).f1) 0) : Int) 1
                                    go_wp2_with (first | ((with_reducible refine gate_store (t := 3) (p := 66) rfl ?_); refine store_event (t := 3) (p := 66) (v := ?vo_w36) (w1 := (w27.setCell ⟨go34, ((rd ((rd_T73 x6_2 0).f1) 0) : Int).toNat, none⟩ (.int .i64 1))) ?hg ?ho ?hn ?hr ?_; (case ho => rfl); (case hg => rfl); (case hn => rfl); (case hr => first | (go_simp; done) | (go_simp; rfl)); intro w36 hw; have hg : w27.grownBy w36 (some go34) := (by rw [hw]; exact HP35.2); have hp_ : Kd.R (Kd.int .i64) 3 w36 w.heap.size (fun _ => True) (.slice (some ⟨go34, 0, none⟩) y278.length co34) y283 := (by rw [hw, Ny283.out]; exact HP35.1); clear HP35; have n0_ := Aside0.mk (Kd.N_afterv (v := (.slice (some ⟨go34, 0, none⟩) y278.length co34)) (v1 := (.slice (some ⟨go34, 0, none⟩) y278.length co34)) (ok := (fun _ => True)) (by (with_reducible repeat (first | apply Kd.N_alloc | apply Kd.N_drewN | apply Kd.N_drew)); exact HO_6.out) hg (.inl rfl)); have n1_ := Aside0.mk (hp_); have n2_ := Aside0.mk (Kd.V_afterv (v := (.slice (some ⟨go34, 0, none⟩) y278.length co34)) (v1 := (.slice (some ⟨go34, 0, none⟩) y278.length co34)) (ok := (fun k_ => some k_ ≠ (.slice (some ad281) x6_2.length co26 : Value).ownBlock)) (by (with_reducible repeat (first | apply Kd.V_alloc | apply Kd.V_drewN | apply Kd.V_drew)); exact Kd.V_mono HL281_1.out (fun _ hk => ⟨hk.2, hk.1.2⟩)) hg (.inl rfl)); have n3_ := Aside0.mk ((by rw [hw]; exact below_set (HB.out) GB34.out : Below w.heap.size w w36)); clear HO_6; clear HO280; clear HL281_1; clear HB; have HO_6 := n0_; have HO280 := n1_; have HL281_1 := n2_; have HB := n3_; clear n0_ n1_ n2_ n3_; clear hg hw hp_))
                                    go_meet
                                    case rel => exact ⟨_, (y283), H', ⟨by have := HJ3.out; have := HK2.out; first | omega | exact Nat.le_refl _⟩, ⟨by (with_reducible repeat (first | apply Kd.N_alloc | apply Kd.N_drewN | apply Kd.N_drew)); exact Kd.N_mono HO_6.out (fun _ hk => hk.2)⟩, ⟨by (with_reducible repeat (first | apply Kd.R_alloc | apply Kd.R_drewN | apply Kd.R_drew)); exact HO280.out⟩, ⟨by repeat (first | (with_reducible first | exact HB.out | apply below_alloc | apply pw_below_drewN | apply below_drew1) | exact HB.out)⟩⟩
                                  · rw [if_neg c33] at H
                                    exact absurd H (by simp)
                                · rw [if_neg c32] at H
                                  exact absurd H (by simp)
                              · rw [if_neg c31] at H
                                exact absurd H (by simp)
                            · rw [if_neg c30] at H
                              exact absurd H (by simp)
                          · rw [if_neg c29] at H
                            have c29b0 : ((x6_2.length : Int) == 1) = false := beq_eq_false_iff_ne.mpr c29
                            have c29b1 : ((x6_2.length : Int) != 1) = true := bne_iff_ne.mpr c29
                            (first | rw [c29b0] | (simp only [i64_w, i32_w]; rw [c29b0]) | skip)
                            have H' := Aside0.mk H
                            clear H
                            go_wp2
                            go_meet
                            case rel => exact ⟨_, (y278), H', ⟨by have := HJ3.out; have := HK2.out; first | omega | exact Nat.le_refl _⟩, ⟨by (with_reducible repeat (first | apply Kd.N_alloc | apply Kd.N_drewN | apply Kd.N_drew)); exact Kd.N_mono HO_6.out (fun _ hk => hk.2)⟩, ⟨by (with_reducible repeat (first | apply Kd.R_alloc | apply Kd.R_drewN | apply Kd.R_drew)); exact HO280.out⟩, ⟨by repeat (first | (with_reducible first | exact HB.out | apply below_alloc | apply pw_below_drewN | apply below_drew1) | exact HB.out)⟩⟩
                        case rest =>
                          clear HC25
                          try clear c1
                          try clear c2
                          try clear p2
                          try clear q2
                          try clear hx2
                          try clear qi2
                          try clear c3
                          try clear c3b0
                          try clear c3b1
                          try clear p3
                          try clear q3
                          try clear hx3
                          try clear hf3
                          try clear c5
                          try clear c6
                          try clear c6b0
                          try clear c6b1
                          try clear p6
                          try clear c7
                          try clear c7b0
                          try clear c8
                          try clear c9
                          try clear c9b0
                          try clear c10
                          try clear c10b0
                          try clear c11
                          try clear c11b0
                          try clear c18
                          try clear c19
                          try clear c19b0
                          try clear c19b1
                          try clear c21
                          try clear c21b0
                          try clear c23
                          try clear c23b0
                          try clear c23b1
                          try clear c24
                          try clear c24b0
                          try clear c24b1
                          try clear p27
                          try clear q27
                          try clear hx27
                          try clear c28
                          try clear p28
                          try clear q28
                          try clear hx28
                          try clear qi28
                          try clear c29
                          try clear c29b0
                          try clear c29b1
                          try clear c30
                          try clear c30b0
                          try clear c30b1
                          try clear c31
                          try clear c31b0
                          try clear c31b1
                          try clear c32
                          try clear c32b0
                          try clear c33
                          try clear c33b0
                          try clear p34
                          try clear q34
                          try clear hx34
                          try clear hf34
                          try clear hx270_0
                          try clear hx271_0
                          try clear hx281_0
                          try clear hx281_1
                          try clear hx282_0
                          try clear hx34_0
                          try clear p2
                          try clear p270
                          try clear p271
                          try clear p281
                          try clear p282
                          try clear p34
                          try clear q270
                          try clear q271
                          try clear q281
                          try clear q282
                          try clear q34
                          obtain ⟨kq, x8_24, HA, HJ24, HO_6, HO_8, HB⟩ := hcut
                          cases kq with
                          | zero => exact absurd HA.out (by simp [barscanref33_Lengths.j2])
                          | succ kj24 =>
                            have H := HA.out
                            clear HA
                            simp only [barscanref33_Lengths.j2] at H
                            have H' := Aside0.mk H
                            clear H
                            go_wp2
                            go_loopg [9, 10] kj24 (fun kq v9 v10 w' => ∃ (x9_4 : List (S73)) (x10_4 : Int), v10 = .int .i64 x10_4 ∧ Aside0 (barscanref33_Lengths.l1 kq a1 x6_2 x8_24 x9_4 x10_4 = some (r1, r2)) ∧ Aside0 (kq ≤ kj24) ∧ Aside0 (Kd.N k73 73 w' w.heap.size (fun k_ => some k_ ≠ (v279 : Value).ownBlock) (.slice Ao26 x6_2.length co26) x6_2) ∧ Aside0 (Kd.R (Kd.int .i64) 3 w' w.heap.size (fun _ => True) v279 x8_24) ∧ Aside0 (Kd.N k73 73 w' w.heap.size (fun k_ => some k_ ≠ (v279 : Value).ownBlock) v9 x9_4) ∧ Aside0 (Below w.heap.size w w'))
                            case atStart => exact ⟨(x6_2), (1), (by first | rfl | (simp; done) | (simp [*]; done)), H', ⟨Nat.le_refl _⟩, ⟨by (with_reducible repeat (first | apply Kd.N_alloc | apply Kd.N_drewN | apply Kd.N_drew)); exact HO_6.out⟩, ⟨by (with_reducible repeat (first | apply Kd.R_alloc | apply Kd.R_drewN | apply Kd.R_drew)); exact HO_8.out⟩, ⟨by (with_reducible repeat (first | apply Kd.N_alloc | apply Kd.N_drewN | apply Kd.N_drew)); exact HO_6.out⟩, ⟨by repeat (first | (with_reducible first | exact HB.out | apply below_alloc | apply pw_below_drewN | apply below_drew1) | exact HB.out)⟩⟩
                            case round =>
                              clear H'
                              try clear c1
                              try clear c2
                              try clear p2
                              try clear q2
                              try clear hx2
                              try clear qi2
                              try clear c3
                              try clear c3b0
                              try clear c3b1
                              try clear p3
                              try clear q3
                              try clear hx3
                              try clear hf3
                              try clear c5
                              try clear c6
                              try clear c6b0
                              try clear c6b1
                              try clear p6
                              try clear c7
                              try clear c7b0
                              try clear c8
                              try clear c9
                              try clear c9b0
                              try clear c10
                              try clear c10b0
                              try clear c11
                              try clear c11b0
                              try clear c18
                              try clear c19
                              try clear c19b0
                              try clear c19b1
                              try clear c21
                              try clear c21b0
                              try clear c23
                              try clear c23b0
                              try clear c23b1
                              try clear c24
                              try clear c24b0
                              try clear c24b1
                              try clear p27
                              try clear q27
                              try clear hx27
                              try clear c28
                              try clear p28
                              try clear q28
                              try clear hx28
                              try clear qi28
                              try clear c29
                              try clear c29b0
                              try clear c29b1
                              try clear c30
                              try clear c30b0
                              try clear c30b1
                              try clear c31
                              try clear c31b0
                              try clear c31b1
                              try clear c32
                              try clear c32b0
                              try clear c33
                              try clear c33b0
                              try clear p34
                              try clear q34
                              try clear hx34
                              try clear hf34
                              try clear hx270_0
                              try clear hx271_0
                              try clear hx281_0
                              try clear hx281_1
                              try clear hx282_0
                              try clear hx34_0
                              try clear p2
                              try clear p27
                              try clear p270
                              try clear p271
                              try clear p28
                              try clear p281
                              try clear p282
                              try clear p3
                              try clear p34
                              try clear p6
                              try clear q2
                              try clear q27
                              try clear q270
                              try clear q271
                              try clear q28
                              try clear q281
                              try clear q282
                              try clear q3
                              try clear q34
                              obtain ⟨x9_4, x10_4, rfl, HA, HK4, HO_6, HO_8, HO_9, HB⟩ := hrel
                              cases gk with
                              | zero => exact absurd HA.out (by simp [barscanref33_Lengths.l1])
                              | succ k4 =>
                                have H := HA.out
                                clear HA
                                simp only [barscanref33_Lengths.l1] at H
                                by_cases c37 : x10_4 < a1
                                · rw [if_pos c37] at H
                                  have c37b0 : decide (x10_4 < a1) = true := decide_eq_true c37
                                  clear c37
                                  replace H := Option.bind_eq_some_iff.mp H
                                  obtain ⟨t284, A380, H⟩ := H
                                  replace H : (barscanref33_Lengths.l1 k4 a1 x6_2 x8_24 t284 (wrap64 (x10_4 + 1))) = some (r1, r2) := H
                                  have A38 := Aside0.mk A380
                                  clear A380
                                  have H' := Aside0.mk H
                                  clear H
                                  obtain ⟨Ao39, co39, eo39⟩ := Kd.N_slice HO_9.out
                                  subst eo39
                                  go_wp2_with (first | ((with_reducible refine gate_callee (f := 52) rfl ?_); refine goesL_ (some 75) rfl rfl Try.func52 (by kernel_rfl) rfl #[.slice Ao26 x6_2.length co26, .slice Ao39 x9_4.length co39] rfl (by (try simp only [List.map_toArray, List.map_cons, List.map_nil]); first | done | rfl | (simp only [List.length_drop, List.length_take]; rfl)) ?_; (with_reducible refine (barscanref33_merged.calls k4 (fun k_ => some k_ ≠ (v279 : Value).ownBlock) _ _ x6_2 _ _ x9_4 t284 _ ?side1 ?side2 ?side3 A38.out).mono ?_); (case side1 => exact Kd.N_V (HO_6.out)); (case side2 => repeat (first | exact (Kd.N_reads' HO_9.out).2.2 | (with_reducible refine Kd.C_alloc ?_ _) | (with_reducible refine Kd.C_drewN ?_ _) | (with_reducible refine Kd.C_drew ?_))); (case side3 => exact (Kd.N_reads' HO_9.out).2.1); rintro e w40 ⟨v285, rfl, ho0, hb⟩; refine ⟨_, rfl, ?_⟩; have n0_ := Aside0.mk (Kd.N_elder' (by (with_reducible repeat (first | apply Kd.N_alloc | apply Kd.N_drewN | apply Kd.N_drew)); exact HO_6.out) (Kd.N_base ho0) hb); have n1_ := Aside0.mk (Kd.R_below (by (with_reducible repeat (first | apply Kd.R_alloc | apply Kd.R_drewN | apply Kd.R_drew)); exact HO_8.out) hb); have n2_ := Aside0.mk (Kd.N_elder' (by (with_reducible repeat (first | apply Kd.N_alloc | apply Kd.N_drewN | apply Kd.N_drew)); exact HO_9.out) (Kd.N_base ho0) hb); have n3_ := Aside0.mk (Kd.N_lower (Kd.N_mono (ok' := fun k_ => some k_ ≠ (v279 : Value).ownBlock) ho0 (fun k_ hk_ => Or.elim hk_ (fun hs_ => hs_) (fun hn_ => (Kd.fresh' (Kd.R_lt (by (with_reducible repeat (first | apply Kd.R_alloc | apply Kd.R_drewN | apply Kd.R_drew)); exact HO_8.out)) k_ hn_)))) (below_size (by repeat (first | (with_reducible first | exact HB.out | apply below_alloc | apply pw_below_drewN | apply below_drew1) | exact HB.out)))); have n4_ := Aside0.mk (below_step (by repeat (first | (with_reducible first | exact HB.out | apply below_alloc | apply pw_below_drewN | apply below_drew1) | exact HB.out)) hb); clear HO_6; clear HO_8; clear HO_9; clear HB; have HO_6 := n0_; have HO_8 := n1_; have HO_9 := n2_; have HO286 := n3_; have HB := n4_; clear n0_ n1_ n2_ n3_ n4_; (try clear hb); (try clear hb2); (try clear hk); (try clear hi); (try clear ho0)))
                                  go_roundg k4
                                  case measure => have := HJ3.out; have := HK2.out; have := HJ24.out; have := HK4.out; omega
                                  case rel => exact ⟨(t284), (wrap64 (x10_4 + 1)), (by first | rfl | (simp; done) | (simp [*]; done)), H', ⟨by have := HJ3.out; have := HK2.out; have := HJ24.out; have := HK4.out; omega⟩, ⟨by (with_reducible repeat (first | apply Kd.N_alloc | apply Kd.N_drewN | apply Kd.N_drew)); exact Kd.N_mono HO_6.out (fun _ hk => hk.1)⟩, ⟨by (with_reducible repeat (first | apply Kd.R_alloc | apply Kd.R_drewN | apply Kd.R_drew)); exact HO_8.out⟩, ⟨by (with_reducible repeat (first | apply Kd.N_alloc | apply Kd.N_drewN | apply Kd.N_drew)); exact HO286.out⟩, ⟨by repeat (first | (with_reducible first | exact HB.out | apply below_alloc | apply pw_below_drewN | apply below_drew1) | exact HB.out)⟩⟩
                                · rw [if_neg c37] at H
                                  have c37b0 : decide (x10_4 < a1) = false := decide_eq_false c37
                                  clear c37
                                  have H' := Aside0.mk H
                                  clear H
                                  go_wp2
                                  go_loopg [11] k4 (fun kq v11 w' => ∃ (x8_5 : List Int) (x11_5 : Int), v11 = .int .i64 x11_5 ∧ Aside0 (barscanref33_Lengths.l2 kq x6_2 x8_5 x9_4 x11_5 = some (r1, r2)) ∧ Aside0 (kq ≤ k4) ∧ Aside0 (Kd.N k73 73 w' w.heap.size (fun k_ => some k_ ≠ (v279 : Value).ownBlock) (.slice Ao26 x6_2.length co26) x6_2) ∧ Aside0 (Kd.R (Kd.int .i64) 3 w' w.heap.size (fun _ => True) v279 x8_5) ∧ Aside0 (Kd.N k73 73 w' w.heap.size (fun k_ => some k_ ≠ (v279 : Value).ownBlock) u9 x9_4) ∧ Aside0 (Below w.heap.size w w'))
                                  case atStart => exact ⟨(x8_24), (0), (by first | rfl | (simp; done) | (simp [*]; done)), H', ⟨Nat.le_refl _⟩, ⟨by (with_reducible repeat (first | apply Kd.N_alloc | apply Kd.N_drewN | apply Kd.N_drew)); exact HO_6.out⟩, ⟨by (with_reducible repeat (first | apply Kd.R_alloc | apply Kd.R_drewN | apply Kd.R_drew)); exact HO_8.out⟩, ⟨by (with_reducible repeat (first | apply Kd.N_alloc | apply Kd.N_drewN | apply Kd.N_drew)); exact HO_9.out⟩, ⟨by repeat (first | (with_reducible first | exact HB.out | apply below_alloc | apply pw_below_drewN | apply below_drew1) | exact HB.out)⟩⟩
                                  case round =>
                                    clear H'
                                    try clear c1
                                    try clear c2
                                    try clear p2
                                    try clear q2
                                    try clear hx2
                                    try clear qi2
                                    try clear c3
                                    try clear c3b0
                                    try clear c3b1
                                    try clear p3
                                    try clear q3
                                    try clear hx3
                                    try clear hf3
                                    try clear c5
                                    try clear c6
                                    try clear c6b0
                                    try clear c6b1
                                    try clear p6
                                    try clear c7
                                    try clear c7b0
                                    try clear c8
                                    try clear c9
                                    try clear c9b0
                                    try clear c10
                                    try clear c10b0
                                    try clear c11
                                    try clear c11b0
                                    try clear c18
                                    try clear c19
                                    try clear c19b0
                                    try clear c19b1
                                    try clear c21
                                    try clear c21b0
                                    try clear c23
                                    try clear c23b0
                                    try clear c23b1
                                    try clear c24
                                    try clear c24b0
                                    try clear c24b1
                                    try clear p27
                                    try clear q27
                                    try clear hx27
                                    try clear c28
                                    try clear p28
                                    try clear q28
                                    try clear hx28
                                    try clear qi28
                                    try clear c29
                                    try clear c29b0
                                    try clear c29b1
                                    try clear c30
                                    try clear c30b0
                                    try clear c30b1
                                    try clear c31
                                    try clear c31b0
                                    try clear c31b1
                                    try clear c32
                                    try clear c32b0
                                    try clear c33
                                    try clear c33b0
                                    try clear p34
                                    try clear q34
                                    try clear hx34
                                    try clear hf34
                                    try clear c37
                                    try clear c37b0
                                    try clear hx270_0
                                    try clear hx271_0
                                    try clear hx281_0
                                    try clear hx281_1
                                    try clear hx282_0
                                    try clear hx34_0
                                    try clear p2
                                    try clear p27
                                    try clear p270
                                    try clear p271
                                    try clear p28
                                    try clear p281
                                    try clear p282
                                    try clear p3
                                    try clear p34
                                    try clear p6
                                    try clear q2
                                    try clear q27
                                    try clear q270
                                    try clear q271
                                    try clear q28
                                    try clear q281
                                    try clear q282
                                    try clear q3
                                    try clear q34
                                    obtain ⟨x8_5, x11_5, rfl, HA, HK5, HO_6, HO_8, HO_9, HB⟩ := hrel
                                    cases gk with
                                    | zero => exact absurd HA.out (by simp [barscanref33_Lengths.l2])
                                    | succ k5 =>
                                      have H := HA.out
                                      clear HA
                                      simp only [barscanref33_Lengths.l2] at H
                                      by_cases c41 : x11_5 < (wrap64 ((wrap64 (2 * (x6_2.length : Int))) - 2))
                                      · rw [if_pos c41] at H
                                        have c41b0 : decide (x11_5 < (wrap64 ((wrap64 (2 * (x6_2.length : Int))) - 2))) = true := decide_eq_true c41
                                        clear c41
                                        have H' := Aside0.mk H
                                        clear H
                                        go_wp2
                                        go_loopg [12] k5 (fun kq v12 w' => ∃ (x8_6 : List Int) (x12_6 : Int), v12 = .int .i64 x12_6 ∧ Aside0 (barscanref33_Lengths.l3 kq x6_2 x8_6 x9_4 x11_5 x12_6 = some (r1, r2)) ∧ Aside0 (kq ≤ k5) ∧ Aside0 (Kd.N k73 73 w' w.heap.size (fun k_ => some k_ ≠ (v279 : Value).ownBlock) (.slice Ao26 x6_2.length co26) x6_2) ∧ Aside0 (Kd.R (Kd.int .i64) 3 w' w.heap.size (fun _ => True) v279 x8_6) ∧ Aside0 (Kd.N k73 73 w' w.heap.size (fun k_ => some k_ ≠ (v279 : Value).ownBlock) u9 x9_4) ∧ Aside0 (Below w.heap.size w w'))
                                        case atStart => exact ⟨(x8_5), (0), (by first | rfl | (simp; done) | (simp [*]; done)), H', ⟨Nat.le_refl _⟩, ⟨by (with_reducible repeat (first | apply Kd.N_alloc | apply Kd.N_drewN | apply Kd.N_drew)); exact HO_6.out⟩, ⟨by (with_reducible repeat (first | apply Kd.R_alloc | apply Kd.R_drewN | apply Kd.R_drew)); exact HO_8.out⟩, ⟨by (with_reducible repeat (first | apply Kd.N_alloc | apply Kd.N_drewN | apply Kd.N_drew)); exact HO_9.out⟩, ⟨by repeat (first | (with_reducible first | exact HB.out | apply below_alloc | apply pw_below_drewN | apply below_drew1) | exact HB.out)⟩⟩
                                        case round =>
                                          clear H'
                                          try clear c1
                                          try clear c2
                                          try clear p2
                                          try clear q2
                                          try clear hx2
                                          try clear qi2
                                          try clear c3
                                          try clear c3b0
                                          try clear c3b1
                                          try clear p3
                                          try clear q3
                                          try clear hx3
                                          try clear hf3
                                          try clear c4
                                          try clear c5
                                          try clear c6
                                          try clear c6b0
                                          try clear c6b1
                                          try clear p6
                                          try clear c7
                                          try clear c7b0
                                          try clear c8
                                          try clear c9
                                          try clear c9b0
                                          try clear c10
                                          try clear c10b0
                                          try clear c11
                                          try clear c11b0
                                          try clear c18
                                          try clear c19
                                          try clear c19b0
                                          try clear c19b1
                                          try clear c21
                                          try clear c21b0
                                          try clear c23
                                          try clear c23b0
                                          try clear c23b1
                                          try clear c24
                                          try clear c24b0
                                          try clear c24b1
                                          try clear p27
                                          try clear q27
                                          try clear hx27
                                          try clear c28
                                          try clear p28
                                          try clear q28
                                          try clear hx28
                                          try clear qi28
                                          try clear c29
                                          try clear c29b0
                                          try clear c29b1
                                          try clear c30
                                          try clear c30b0
                                          try clear c30b1
                                          try clear c31
                                          try clear c31b0
                                          try clear c31b1
                                          try clear c32
                                          try clear c32b0
                                          try clear c33
                                          try clear c33b0
                                          try clear p34
                                          try clear q34
                                          try clear hx34
                                          try clear hf34
                                          try clear c37
                                          try clear c37b0
                                          try clear c41
                                          try clear c41b0
                                          try clear hx270_0
                                          try clear hx271_0
                                          try clear hx281_0
                                          try clear hx281_1
                                          try clear hx282_0
                                          try clear hx34_0
                                          try clear p2
                                          try clear p27
                                          try clear p270
                                          try clear p271
                                          try clear p28
                                          try clear p281
                                          try clear p282
                                          try clear p3
                                          try clear p34
                                          try clear p6
                                          try clear q2
                                          try clear q27
                                          try clear q270
                                          try clear q271
                                          try clear q28
                                          try clear q281
                                          try clear q282
                                          try clear q3
                                          try clear q34
                                          obtain ⟨x8_6, x12_6, rfl, HA, HK6, HO_6, HO_8, HO_9, HB⟩ := hrel
                                          cases gk with
                                          | zero => exact absurd HA.out (by simp [barscanref33_Lengths.l3])
                                          | succ k6 =>
                                            have H := HA.out
                                            clear HA
                                            simp only [barscanref33_Lengths.l3] at H
                                            by_cases c42 : 0 ≤ x11_5
                                            · rw [if_pos c42] at H
                                              have c42b0 : decide (0 ≤ x11_5) = true := decide_eq_true c42
                                              clear c42
                                              by_cases c43 : x11_5 < (x9_4.length : Int)
                                              · rw [if_pos c43] at H
                                                have c43b0 : decide (x11_5 < (x9_4.length : Int)) = true := decide_eq_true c43
                                                clear c43
                                                by_cases c44 : x12_6 < (((rd_T73 x9_4 x11_5).f1).length : Int)
                                                · rw [if_pos c44] at H
                                                  have c44b0 : decide (x12_6 < (((rd_T73 x9_4 x11_5).f1).length : Int)) = true := decide_eq_true c44
                                                  clear c44
                                                  by_cases c45 : 0 ≤ x12_6
                                                  · rw [if_pos c45] at H
                                                    have c45b0 : decide (0 ≤ x12_6) = true := decide_eq_true c45
                                                    clear c45
                                                    by_cases c46 : 0 ≤ (rd ((rd_T73 x9_4 x11_5).f1) x12_6)
                                                    · rw [if_pos c46] at H
                                                      have c46b0 : decide (0 ≤ (rd ((rd_T73 x9_4 x11_5).f1) x12_6)) = true := decide_eq_true c46
                                                      clear c46
                                                      by_cases c47 : (rd ((rd_T73 x9_4 x11_5).f1) x12_6) < (x8_6.length : Int)
                                                      · rw [if_pos c47] at H
                                                        have c47b0 : decide ((rd ((rd_T73 x9_4 x11_5).f1) x12_6) < (x8_6.length : Int)) = true := decide_eq_true c47
                                                        clear c47
                                                        obtain ⟨y293, hy293⟩ : ∃ y_ : List Int, y_ = (x8_6.set ((rd ((rd_T73 x9_4 x11_5).f1) x12_6) : Int).toNat (wrap64 ((rd x8_6 (rd ((rd_T73 x9_4 x11_5).f1) x12_6)) + 1))) := ⟨_, rfl⟩
                                                        replace H : (barscanref33_Lengths.l3 k6 x6_2 y293 x9_4 x11_5 (wrap64 (x12_6 + 1))) = some (r1, r2) := by first | (rw [hy293]; with_reducible exact H) | (have H2_ := (Option.bind_some _ _).symm.trans H; rw [hy293]; with_reducible exact H2_) | (have H2_ := (Option.bind_some _ _).symm.trans H; with_reducible exact H2_) | with_reducible exact H | (rw [hy293]; exact H) | exact H
                                                        have Ny293 := Aside0.mk hy293
                                                        clear hy293
                                                        have H' := Aside0.mk H
                                                        clear H
                                                        obtain ⟨Ao49, co49, eo49⟩ := Kd.N_slice HO_9.out
                                                        subst eo49
                                                        have p287 : 0 ≤ (x11_5 : Int) := of_decide_eq_true (by first | (with_reducible assumption) | assumption)
                                                        have q287 : x11_5 < (x9_4.length : Int) := of_decide_eq_true (by first | (with_reducible assumption) | assumption)
                                                        obtain ⟨ad287, A287_1, c287_1, e287, hx287_0, hx287_1, hl287_1, hi287_1⟩ := at_T73 (Kd.N_reads' HO_9.out).2.2 x11_5 p287 q287
                                                        cases e287
                                                        obtain ⟨ce287, hce287, hMe287, hcc287⟩ := Kd.N_get HO_9.out z73 x11_5 p287 (by first | exact q287 | exact of_decide_eq_true (by first | (with_reducible assumption) | assumption) | (have e_ := (Kd.N_reads' HO_9.out).1; omega))
                                                        obtain ⟨ua287_1, uc287_1, rfl, ul287_1, ge287_1⟩ := k73_openF hMe287
                                                        have hv287_1 := hcc287 1 _ rfl
                                                        rw [add_field _ _ 1 (by omega)] at hv287_1
                                                        replace hv287_1 := Option.some.inj (hv287_1.symm.trans hx287_1)
                                                        injection hv287_1 with hva_ hvn_ hvc_
                                                        rw [hva_] at ge287_1
                                                        rw [hvc_] at ul287_1
                                                        have HL287_1 := Aside0.mk (show Kd.V (Kd.int .i64) 3 _ w.heap.size _ _ ((rd_T73 x9_4 x11_5).f1) from Kd.V_mk ul287_1 ge287_1)
                                                        clear hva_ hvn_ hvc_ ge287_1 ul287_1
                                                        clear hcc287 hce287
                                                        have HR287_1 := Aside0.mk hi287_1
                                                        have HC287_1 := Aside0.mk hl287_1
                                                        clear hi287_1 hl287_1
                                                        replace p287 := eq_true p287
                                                        replace q287 := eq_true q287
                                                        try go_wp2
                                                        have n0_ := Aside0.mk (Kd.N_drew HO_6.out)
                                                        have n1_ := Aside0.mk (Kd.R_drew HO_8.out)
                                                        have n2_ := Aside0.mk (Kd.N_drew HO_9.out)
                                                        have n3_ := Aside0.mk (Kd.V_drew HL287_1.out)
                                                        have n4_ := Aside0.mk (Kd.C_drew HR287_1.out)
                                                        have n5_ := Aside0.mk (below_drew1 HB.out)
                                                        clear HO_6
                                                        clear HO_8
                                                        clear HO_9
                                                        clear HL287_1
                                                        clear HR287_1
                                                        clear HB
                                                        have HO_6 := n0_
                                                        have HO_8 := n1_
                                                        have HO_9 := n2_
                                                        have HL287_1 := n3_
                                                        have HR287_1 := n4_
                                                        have HB := n5_
                                                        clear n0_ n1_ n2_ n3_ n4_ n5_
                                                        have p288 : 0 ≤ (x11_5 : Int) := of_decide_eq_true (by first | (with_reducible assumption) | assumption)
                                                        have q288 : x11_5 < (x9_4.length : Int) := of_decide_eq_true (by first | (with_reducible assumption) | assumption)
                                                        obtain ⟨ad288, A288_1, c288_1, e288, hx288_0, hx288_1, hl288_1, hi288_1⟩ := at_T73 (Kd.N_reads' HO_9.out).2.2 x11_5 p288 q288
                                                        obtain rfl : ad287 = ad288 := (by injection e288)
                                                        obtain ⟨ce288, hce288, hMe288, hcc288⟩ := Kd.N_get HO_9.out z73 x11_5 p288 (by first | exact q288 | exact of_decide_eq_true (by first | (with_reducible assumption) | assumption) | (have e_ := (Kd.N_reads' HO_9.out).1; omega))
                                                        obtain ⟨ua288_1, uc288_1, rfl, ul288_1, ge288_1⟩ := k73_openF hMe288
                                                        have hv288_1 := hcc288 1 _ rfl
                                                        rw [add_field _ _ 1 (by omega)] at hv288_1
                                                        replace hv288_1 := Option.some.inj (hv288_1.symm.trans hx288_1)
                                                        injection hv288_1 with hva_ hvn_ hvc_
                                                        rw [hva_] at ge288_1
                                                        rw [hvc_] at ul288_1
                                                        have HL288_1 := Aside0.mk (show Kd.V (Kd.int .i64) 3 _ w.heap.size _ _ ((rd_T73 x9_4 x11_5).f1) from Kd.V_mk ul288_1 ge288_1)
                                                        clear hva_ hvn_ hvc_ ge288_1 ul288_1
                                                        clear hcc288 hce288
                                                        have HR288_1 := Aside0.mk hi288_1
                                                        have HC288_1 := Aside0.mk hl288_1
                                                        clear hi288_1 hl288_1
                                                        replace p288 := eq_true p288
                                                        replace q288 := eq_true q288
                                                        have p289 : 0 ≤ (x12_6 : Int) := of_decide_eq_true (by first | (with_reducible assumption) | assumption)
                                                        have q289 : x12_6 < (((rd_T73 x9_4 x11_5).f1).length : Int) := of_decide_eq_true (by first | (with_reducible assumption) | assumption)
                                                        obtain ⟨ad289, e289, hx289_0⟩ := Kd.at_int (by repeat (first | (with_reducible exact HR288_1.out) | (with_reducible refine Kd.C_alloc ?_ _) | (with_reducible refine Kd.C_drewN ?_ _) | (with_reducible refine Kd.C_drew ?_) | exact HR288_1.out)) x12_6 p289 q289
                                                        cases e289
                                                        replace p289 := eq_true p289
                                                        replace q289 := eq_true q289
                                                        have p290 : 0 ≤ (x11_5 : Int) := of_decide_eq_true (by first | (with_reducible assumption) | assumption)
                                                        have q290 : x11_5 < (x9_4.length : Int) := of_decide_eq_true (by first | (with_reducible assumption) | assumption)
                                                        obtain ⟨ad290, A290_1, c290_1, e290, hx290_0, hx290_1, hl290_1, hi290_1⟩ := at_T73 (Kd.N_reads' HO_9.out).2.2 x11_5 p290 q290
                                                        obtain rfl : ad287 = ad290 := (by injection e290)
                                                        obtain ⟨ce290, hce290, hMe290, hcc290⟩ := Kd.N_get HO_9.out z73 x11_5 p290 (by first | exact q290 | exact of_decide_eq_true (by first | (with_reducible assumption) | assumption) | (have e_ := (Kd.N_reads' HO_9.out).1; omega))
                                                        obtain ⟨ua290_1, uc290_1, rfl, ul290_1, ge290_1⟩ := k73_openF hMe290
                                                        have hv290_1 := hcc290 1 _ rfl
                                                        rw [add_field _ _ 1 (by omega)] at hv290_1
                                                        replace hv290_1 := Option.some.inj (hv290_1.symm.trans hx290_1)
                                                        injection hv290_1 with hva_ hvn_ hvc_
                                                        rw [hva_] at ge290_1
                                                        rw [hvc_] at ul290_1
                                                        have HL290_1 := Aside0.mk (show Kd.V (Kd.int .i64) 3 _ w.heap.size _ _ ((rd_T73 x9_4 x11_5).f1) from Kd.V_mk ul290_1 ge290_1)
                                                        clear hva_ hvn_ hvc_ ge290_1 ul290_1
                                                        clear hcc290 hce290
                                                        have HR290_1 := Aside0.mk hi290_1
                                                        have HC290_1 := Aside0.mk hl290_1
                                                        clear hi290_1 hl290_1
                                                        replace p290 := eq_true p290
                                                        replace q290 := eq_true q290
                                                        have ea_ := Option.some.inj (hx288_1.symm.trans hx290_1)
                                                        injection ea_ with ea_ en_ ec_
                                                        subst ea_
                                                        subst ec_
                                                        clear en_
                                                        have p291 : 0 ≤ (x12_6 : Int) := of_decide_eq_true (by first | (with_reducible assumption) | assumption)
                                                        have q291 : x12_6 < (((rd_T73 x9_4 x11_5).f1).length : Int) := of_decide_eq_true (by first | (with_reducible assumption) | assumption)
                                                        obtain ⟨ad291, e291, hx291_0⟩ := Kd.at_int (by repeat (first | (with_reducible exact HR290_1.out) | (with_reducible refine Kd.C_alloc ?_ _) | (with_reducible refine Kd.C_drewN ?_ _) | (with_reducible refine Kd.C_drew ?_) | exact HR290_1.out)) x12_6 p291 q291
                                                        cases e291
                                                        replace p291 := eq_true p291
                                                        replace q291 := eq_true q291
                                                        obtain ⟨Ao51, co51, eo51⟩ := Kd.R_slice HO_8.out
                                                        (first | subst eo51 | (injection eo51 with f1_ f2_ f3_; have f4_ := f1_.symm; have f5_ := f3_.symm; clear f1_ f2_ f3_; subst f4_; subst f5_))
                                                        have p292 : 0 ≤ ((rd ((rd_T73 x9_4 x11_5).f1) x12_6) : Int) := of_decide_eq_true (by first | (with_reducible assumption) | assumption)
                                                        have q292 : (rd ((rd_T73 x9_4 x11_5).f1) x12_6) < (x8_6.length : Int) := of_decide_eq_true (by first | (with_reducible assumption) | assumption)
                                                        obtain ⟨ad292, e292, hx292_0⟩ := Kd.at_int (Kd.R_reads' HO_8.out).2.2 (rd ((rd_T73 x9_4 x11_5).f1) x12_6) p292 q292
                                                        cases e292
                                                        replace p292 := eq_true p292
                                                        replace q292 := eq_true q292
                                                        have p48 : 0 ≤ ((rd ((rd_T73 x9_4 x11_5).f1) x12_6) : Int) := of_decide_eq_true (by first | (with_reducible assumption) | assumption)
                                                        have q48 : ((rd ((rd_T73 x9_4 x11_5).f1) x12_6) : Int) < ((x8_6.length : Int) : Int) := of_decide_eq_true (by first | (with_reducible assumption) | assumption)
                                                        obtain ⟨go48, co48, eo48, gb48, gl48, cl48, HG48⟩ := Kd.R_form HO_8.out (by omega)
                                                        (first | cases eo48 | (injection eo48 with ea_ en_ ec_; (first | subst ea_ | (injection ea_ with ea_; subst ea_)); subst ec_; clear en_))
                                                        have GB48 := Aside0.mk gb48
                                                        have GG48 := Aside0.mk HG48
                                                        clear gb48 gl48 HG48
                                                        (first | simp only [add_plain] at hx292_0 | skip)
                                                        obtain ⟨hx48_0, hf48_0⟩ := Kd.R_celln 0 HO_8.out ((rd ((rd_T73 x9_4 x11_5).f1) x12_6) : Int) p48 q48
                                                        replace p48 := eq_true p48
                                                        replace q48 := eq_true q48
                                                        have HP52 := Kd.R_putn HO_8.out ((rd ((rd_T73 x9_4 x11_5).f1) x12_6) : Int) (wrap64 ((rd x8_6 (rd ((rd_T73 x9_4 x11_5).f1) x12_6)) + 1))
                                                        rw [← Ny293.out] at HP52
                                                        have HQ52 := Aside0.mk HP52
                                                        clear HP52
                                                        refine start_ (n := 23) (S := fun w' => w'.cell? (ad287.add ((x11_5).toNat * 2)) = some (.int .i64 ((rd_T73 x9_4 x11_5).f0)) ∧ w'.cell? ⟨(ad287.add ((x11_5).toNat * 2)).block, (ad287.add ((x11_5).toNat * 2)).off + 1, none⟩ = some (.slice (some ad289) ((rd_T73 x9_4 x11_5).f1).length c288_1) ∧ w'.cell? (ad289.add (x12_6).toNat) = some (.int .i64 (rd ((rd_T73 x9_4 x11_5).f1) x12_6)) ∧ w'.cell? (ad287.add ((x11_5).toNat * 2)) = some (.int .i64 ((rd_T73 x9_4 x11_5).f0)) ∧ w'.cell? ⟨(ad287.add ((x11_5).toNat * 2)).block, (ad287.add ((x11_5).toNat * 2)).off + 1, none⟩ = some (.slice (some ad289) ((rd_T73 x9_4 x11_5).f1).length c288_1) ∧ w'.cell? (ad289.add (x12_6).toNat) = some (.int .i64 (rd ((rd_T73 x9_4 x11_5).f1) x12_6)) ∧ w'.cell? (⟨go48, ((rd ((rd_T73 x9_4 x11_5).f1) x12_6) : Int).toNat, none⟩ : Addr) = some (.int .i64 (rd x8_6 (rd ((rd_T73 x9_4 x11_5).f1) x12_6)))) (ds := [22]) #[false, false, false, false, false, false, false, false, false, false, false, false, false, false, false, false, false, false, false, false, false, false, false] (by kernel_rfl) rfl rfl ⟨hx288_0, hx288_1, hx289_0, hx290_0, hx290_1, hx291_0, hx292_0⟩ (fun hHeld => ?_); refine with_tabW barscanref33_Lengths.tab27 barscanref33_Lengths.bits27 (fun HT_ HW_ => ?_)
                                                        generalize wr.drew = w50 at HO_6 HO_8 HO_9 HL287_1 HR287_1 HB GG48 HL288_1 HL290_1 HQ52 HR288_1 HR290_1 hf48_0 hx288_0 hx288_1 hx289_0 hx290_0 hx290_1 hx291_0 hx292_0 hx48_0 hHeld ⊢
                                                        refine pure_ (i := 0) (N := some 94) (v := ?_) (a' := ?_) #[true, false, false, false, false, false, false, false, false, false, false, false, false, false, false, false, false, false, false, false, false, false, false] rfl rfl (any_of HT_.out (by kernel_rfl)) (fun _ _ _ h => h) (Or.inl ⟨by rfl, ?_⟩) ?_ ?_
                                                        rotate_left
                                                        · intro w'
                                                          go_simp
                                                          with_reducible rfl
                                                        rotate_left
                                                        · simp only [Act.put, List.setIfInBounds_toArray, List.set_cons_zero, List.set_cons_succ, i64_w, i32_w]
                                                          rfl
                                                        refine pure_ (i := 1) (N := some 95) (v := ?_) (a' := ?_) #[true, true, false, false, false, false, false, false, false, false, false, false, false, false, false, false, false, false, false, false, false, false, false] rfl rfl (any_of HT_.out (by kernel_rfl)) (fun _ _ _ h => h) (Or.inl ⟨by rfl, ?_⟩) ?_ ?_
                                                        rotate_left
                                                        · intro w'
                                                          go_simp
                                                          with_reducible rfl
                                                        rotate_left
                                                        · simp only [Act.put, List.setIfInBounds_toArray, List.set_cons_zero, List.set_cons_succ, i64_w, i32_w]
                                                          rfl
                                                        refine pure_ (i := 2) (N := some 96) (v := ?_) (a' := ?_) #[true, true, true, false, false, false, false, false, false, false, false, false, false, false, false, false, false, false, false, false, false, false, false] rfl rfl (any_of HT_.out (by kernel_rfl)) (fun _ _ _ h => h) (Or.inl ⟨by rfl, ?_⟩) ?_ ?_
                                                        rotate_left
                                                        · intro w'
                                                          go_simp
                                                          with_reducible rfl
                                                        rotate_left
                                                        · simp only [Act.put, List.setIfInBounds_toArray, List.set_cons_zero, List.set_cons_succ, i64_w, i32_w]
                                                          rfl
                                                        refine pure_ (i := 3) (N := some 97) (v := ?_) (a' := ?_) #[true, true, true, true, false, false, false, false, false, false, false, false, false, false, false, false, false, false, false, false, false, false, false] rfl rfl (any_of HT_.out (by kernel_rfl)) (fun _ _ _ h => h) (Or.inl ⟨by rfl, ?_⟩) ?_ ?_
                                                        rotate_left
                                                        · intro w'
                                                          go_simp
                                                          with_reducible rfl
                                                        rotate_left
                                                        · simp only [Act.put, List.setIfInBounds_toArray, List.set_cons_zero, List.set_cons_succ, i64_w, i32_w]
                                                          rfl
                                                        refine pure_ (i := 4) (N := some 98) (v := ?_) (a' := ?_) #[true, true, true, true, true, false, false, false, false, false, false, false, false, false, false, false, false, false, false, false, false, false, false] rfl rfl (any_of HT_.out (by kernel_rfl)) (fun _ _ _ h => h) (Or.inl ⟨by rfl, ?_⟩) ?_ ?_
                                                        rotate_left
                                                        · intro w'
                                                          go_simp
                                                          with_reducible rfl
                                                        rotate_left
                                                        · simp only [Act.put, List.setIfInBounds_toArray, List.set_cons_zero, List.set_cons_succ, i64_w, i32_w]
                                                          rfl
                                                        refine pure_ (i := 6) (N := some 100) (v := ?_) (a' := ?_) #[true, true, true, true, true, false, true, false, false, false, false, false, false, false, false, false, false, false, false, false, false, false, false] rfl rfl (any_of HT_.out (by kernel_rfl)) (fun _ _ _ h => h) (Or.inl ⟨by rfl, ?_⟩) ?_ ?_
                                                        rotate_left
                                                        · intro w'
                                                          go_simp
                                                          with_reducible rfl
                                                        rotate_left
                                                        · simp only [Act.put, List.setIfInBounds_toArray, List.set_cons_zero, List.set_cons_succ, i64_w, i32_w]
                                                          rfl
                                                        refine pure_ (i := 9) (N := some 103) (v := ?_) (a' := ?_) #[true, true, true, true, true, false, true, false, false, true, false, false, false, false, false, false, false, false, false, false, false, false, false] rfl rfl (any_of HT_.out (by kernel_rfl)) (fun _ _ _ h => h) (Or.inl ⟨by rfl, ?_⟩) ?_ ?_
                                                        rotate_left
                                                        · intro w'
                                                          go_simp
                                                          with_reducible rfl
                                                        rotate_left
                                                        · simp only [Act.put, List.setIfInBounds_toArray, List.set_cons_zero, List.set_cons_succ, i64_w, i32_w]
                                                          rfl
                                                        refine pure_ (i := 10) (N := some 104) (v := ?_) (a' := ?_) #[true, true, true, true, true, false, true, false, false, true, true, false, false, false, false, false, false, false, false, false, false, false, false] rfl rfl (any_of HT_.out (by kernel_rfl)) (fun _ _ _ h => h) (Or.inl ⟨by rfl, ?_⟩) ?_ ?_
                                                        rotate_left
                                                        · intro w'
                                                          go_simp
                                                          with_reducible rfl
                                                        rotate_left
                                                        · simp only [Act.put, List.setIfInBounds_toArray, List.set_cons_zero, List.set_cons_succ, i64_w, i32_w]
                                                          rfl
                                                        refine pure_ (i := 11) (N := some 105) (v := ?_) (a' := ?_) #[true, true, true, true, true, false, true, false, false, true, true, true, false, false, false, false, false, false, false, false, false, false, false] rfl rfl (any_of HT_.out (by kernel_rfl)) (fun _ _ _ h => h) (Or.inl ⟨by rfl, ?_⟩) ?_ ?_
                                                        rotate_left
                                                        · intro w'
                                                          go_simp
                                                          with_reducible rfl
                                                        rotate_left
                                                        · simp only [Act.put, List.setIfInBounds_toArray, List.set_cons_zero, List.set_cons_succ, i64_w, i32_w]
                                                          rfl
                                                        refine pure_ (i := 12) (N := some 106) (v := ?_) (a' := ?_) #[true, true, true, true, true, false, true, false, false, true, true, true, true, false, false, false, false, false, false, false, false, false, false] rfl rfl (any_of HT_.out (by kernel_rfl)) (fun _ _ _ h => h) (Or.inl ⟨by rfl, ?_⟩) ?_ ?_
                                                        rotate_left
                                                        · intro w'
                                                          go_simp
                                                          with_reducible rfl
                                                        rotate_left
                                                        · simp only [Act.put, List.setIfInBounds_toArray, List.set_cons_zero, List.set_cons_succ, i64_w, i32_w]
                                                          rfl
                                                        refine pure_ (i := 13) (N := some 107) (v := ?_) (a' := ?_) #[true, true, true, true, true, false, true, false, false, true, true, true, true, true, false, false, false, false, false, false, false, false, false] rfl rfl (any_of HT_.out (by kernel_rfl)) (fun _ _ _ h => h) (Or.inl ⟨by rfl, ?_⟩) ?_ ?_
                                                        rotate_left
                                                        · intro w'
                                                          go_simp
                                                          with_reducible rfl
                                                        rotate_left
                                                        · simp only [Act.put, List.setIfInBounds_toArray, List.set_cons_zero, List.set_cons_succ, i64_w, i32_w]
                                                          rfl
                                                        refine pure_ (i := 15) (N := some 109) (v := ?_) (a' := ?_) #[true, true, true, true, true, false, true, false, false, true, true, true, true, true, false, true, false, false, false, false, false, false, false] rfl rfl (any_of HT_.out (by kernel_rfl)) (fun _ _ _ h => h) (Or.inl ⟨by rfl, ?_⟩) ?_ ?_
                                                        rotate_left
                                                        · intro w'
                                                          go_simp
                                                          with_reducible rfl
                                                        rotate_left
                                                        · simp only [Act.put, List.setIfInBounds_toArray, List.set_cons_zero, List.set_cons_succ, i64_w, i32_w]
                                                          rfl
                                                        refine take_ (i := 5) (N := some 99) (v := ?_) (a' := ?_) #[true, true, true, true, true, true, true, false, false, true, true, true, true, true, false, true, false, false, false, false, false, false, false] rfl rfl (take_ofW HT_.out HW_.out (by kernel_rfl)) (fun _ _ _ h => h) (Or.inl ⟨by rfl, ?_⟩) hHeld ?_ ?_
                                                        rotate_left
                                                        · rintro w' ⟨s0, s1, s2, s3, s4, s5, s6⟩
                                                          go_simp
                                                          with_reducible rfl
                                                        rotate_left
                                                        · simp only [Act.put, List.setIfInBounds_toArray, List.set_cons_zero, List.set_cons_succ, i64_w, i32_w]
                                                          rfl
                                                        refine pure_ (i := 7) (N := some 101) (v := ?_) (a' := ?_) #[true, true, true, true, true, true, true, true, false, true, true, true, true, true, false, true, false, false, false, false, false, false, false] rfl rfl (any_of HT_.out (by kernel_rfl)) (fun _ _ _ h => h) (Or.inl ⟨by rfl, ?_⟩) ?_ ?_
                                                        rotate_left
                                                        · intro w'
                                                          go_simp
                                                          with_reducible rfl
                                                        rotate_left
                                                        · simp only [Act.put, List.setIfInBounds_toArray, List.set_cons_zero, List.set_cons_succ, i64_w, i32_w]
                                                          rfl
                                                        refine take_ (i := 8) (N := some 102) (v := ?_) (a' := ?_) #[true, true, true, true, true, true, true, true, true, true, true, true, true, true, false, true, false, false, false, false, false, false, false] rfl rfl (take_ofW HT_.out HW_.out (by kernel_rfl)) (fun _ _ _ h => h) (Or.inl ⟨by rfl, ?_⟩) hHeld ?_ ?_
                                                        rotate_left
                                                        · rintro w' ⟨s0, s1, s2, s3, s4, s5, s6⟩
                                                          go_simp
                                                          with_reducible rfl
                                                        rotate_left
                                                        · simp only [Act.put, List.setIfInBounds_toArray, List.set_cons_zero, List.set_cons_succ, i64_w, i32_w]
                                                          rfl
                                                        refine take_ (i := 14) (N := some 108) (v := ?_) (a' := ?_) #[true, true, true, true, true, true, true, true, true, true, true, true, true, true, true, true, false, false, false, false, false, false, false] rfl rfl (take_ofW HT_.out HW_.out (by kernel_rfl)) (fun _ _ _ h => h) (Or.inl ⟨by rfl, ?_⟩) hHeld ?_ ?_
                                                        rotate_left
                                                        · rintro w' ⟨s0, s1, s2, s3, s4, s5, s6⟩
                                                          go_simp
                                                          with_reducible rfl
                                                        rotate_left
                                                        · simp only [Act.put, List.setIfInBounds_toArray, List.set_cons_zero, List.set_cons_succ, i64_w, i32_w]
                                                          rfl
                                                        refine pure_ (i := 16) (N := some 110) (v := ?_) (a' := ?_) #[true, true, true, true, true, true, true, true, true, true, true, true, true, true, true, true, true, false, false, false, false, false, false] rfl rfl (any_of HT_.out (by kernel_rfl)) (fun _ _ _ h => h) (Or.inl ⟨by rfl, ?_⟩) ?_ ?_
                                                        rotate_left
                                                        · intro w'
                                                          go_simp
                                                          with_reducible rfl
                                                        rotate_left
                                                        · simp only [Act.put, List.setIfInBounds_toArray, List.set_cons_zero, List.set_cons_succ, i64_w, i32_w]
                                                          rfl
                                                        refine take_ (i := 17) (N := some 111) (v := ?_) (a' := ?_) #[true, true, true, true, true, true, true, true, true, true, true, true, true, true, true, true, true, true, false, false, false, false, false] rfl rfl (take_ofW HT_.out HW_.out (by kernel_rfl)) (fun _ _ _ h => h) (Or.inl ⟨by rfl, ?_⟩) hHeld ?_ ?_
                                                        rotate_left
                                                        · rintro w' ⟨s0, s1, s2, s3, s4, s5, s6⟩
                                                          go_simp
                                                          with_reducible rfl
                                                        rotate_left
                                                        · simp only [Act.put, List.setIfInBounds_toArray, List.set_cons_zero, List.set_cons_succ, i64_w, i32_w]
                                                          rfl
                                                        refine pure_ (i := 18) (N := some 112) (v := ?_) (a' := ?_) #[true, true, true, true, true, true, true, true, true, true, true, true, true, true, true, true, true, true, true, false, false, false, false] rfl rfl (any_of HT_.out (by kernel_rfl)) (fun _ _ _ h => h) (Or.inl ⟨by rfl, ?_⟩) ?_ ?_
                                                        rotate_left
                                                        · intro w'
                                                          go_simp
                                                          with_reducible rfl
                                                        rotate_left
                                                        · simp only [Act.put, List.setIfInBounds_toArray, List.set_cons_zero, List.set_cons_succ, i64_w, i32_w]
                                                          rfl
                                                        refine take_ (i := 19) (N := some 113) (v := ?_) (a' := ?_) #[true, true, true, true, true, true, true, true, true, true, true, true, true, true, true, true, true, true, true, true, false, false, false] rfl rfl (take_ofW HT_.out HW_.out (by kernel_rfl)) (fun _ _ _ h => h) (Or.inl ⟨by rfl, ?_⟩) hHeld ?_ ?_
                                                        rotate_left
                                                        · rintro w' ⟨s0, s1, s2, s3, s4, s5, s6⟩
                                                          go_simp
                                                          with_reducible rfl
                                                        rotate_left
                                                        · simp only [Act.put, List.setIfInBounds_toArray, List.set_cons_zero, List.set_cons_succ, i64_w, i32_w]
                                                          rfl
                                                        refine pure_ (i := 20) (N := some 114) (v := ?_) (a' := ?_) #[true, true, true, true, true, true, true, true, true, true, true, true, true, true, true, true, true, true, true, true, true, false, false] rfl rfl (any_of HT_.out (by kernel_rfl)) (fun _ _ _ h => h) (Or.inl ⟨by rfl, ?_⟩) ?_ ?_
                                                        rotate_left
                                                        · intro w'
                                                          go_simp
                                                          with_reducible rfl
                                                        rotate_left
                                                        · simp only [Act.put, List.setIfInBounds_toArray, List.set_cons_zero, List.set_cons_succ, i64_w, i32_w]
                                                          rfl
                                                        refine pure_ (i := 21) (N := some 115) (v := ?_) (a' := ?_) #[true, true, true, true, true, true, true, true, true, true, true, true, true, true, true, true, true, true, true, true, true, true, false] rfl rfl (any_of HT_.out (by kernel_rfl)) (fun _ _ _ h => h) (Or.inl ⟨by rfl, ?_⟩) ?_ ?_
                                                        rotate_left
                                                        · intro w'
                                                          go_simp
                                                          with_reducible rfl
                                                        rotate_left
                                                        · simp only [Act.put, List.setIfInBounds_toArray, List.set_cons_zero, List.set_cons_succ, i64_w, i32_w]
                                                          rfl
                                                        refine last_ (i := 22) (N := none) #[true, true, true, true, true, true, true, true, true, true, true, true, true, true, true, true, true, true, true, true, true, true, true] rfl rfl (one_of HT_.out (by kernel_rfl)) (by decide) (fun K hK => ?_)
                                                        refine skip_ (w1 := ?_) (by rfl) rfl ?_ ?_
                                                        rotate_left
                                                        · go_simp
                                                          rfl
                                                        refine hK.out _ _ ?_
                                                        clear hK K
                                                        refine done_ (done_of HT_.out (by kernel_rfl)) ?_
                                                        try go_wp2
                                                        go_roundg k6
                                                        case measure => have := HJ3.out; have := HK2.out; have := HJ24.out; have := HK4.out; have := HK5.out; have := HK6.out; omega
                                                        case rel => exact ⟨(y293), (wrap64 (x12_6 + 1)), (by first | rfl | (simp; done) | (simp [*]; done)), H', ⟨by have := HJ3.out; have := HK2.out; have := HJ24.out; have := HK4.out; have := HK5.out; have := HK6.out; omega⟩, ⟨by (with_reducible repeat (first | apply Kd.N_alloc | apply Kd.N_drewN | apply Kd.N_drew)); exact Kd.N_mono (Kd.N_far (p := ⟨go48, ((rd ((rd_T73 x9_4 x11_5).f1) x12_6) : Int).toNat, none⟩) (Kd.N_mono HO_6.out (fun k_ hk => (⟨hk, fun e_ => hk (by rw [e_]; rfl)⟩ : _ ∧ k_ ≠ go48))) (fun _ hk => hk.2) (.int .i64 (wrap64 ((rd x8_6 (rd ((rd_T73 x9_4 x11_5).f1) x12_6)) + 1)))) (fun _ hk => hk.1)⟩, ⟨by (with_reducible repeat (first | apply Kd.R_alloc | apply Kd.R_drewN | apply Kd.R_drew)); exact HQ52.out⟩, ⟨by (with_reducible repeat (first | apply Kd.N_alloc | apply Kd.N_drewN | apply Kd.N_drew)); exact Kd.N_mono (Kd.N_far (p := ⟨go48, ((rd ((rd_T73 x9_4 x11_5).f1) x12_6) : Int).toNat, none⟩) (Kd.N_mono HO_9.out (fun k_ hk => (⟨hk, fun e_ => hk (by rw [e_]; rfl)⟩ : _ ∧ k_ ≠ go48))) (fun _ hk => hk.2) (.int .i64 (wrap64 ((rd x8_6 (rd ((rd_T73 x9_4 x11_5).f1) x12_6)) + 1)))) (fun _ hk => hk.1)⟩, ⟨by repeat (first | (with_reducible first | exact HB.out | apply below_alloc | apply pw_below_drewN | apply below_drew1 | refine below_set ?_ GB48.out) | exact HB.out)⟩⟩
                                                      · rw [if_neg c47] at H
                                                        exact absurd H (by simp)
                                                    · rw [if_neg c46] at H
                                                      exact absurd H (by simp)
                                                  · rw [if_neg c45] at H
                                                    exact absurd H (by simp)
                                                · rw [if_neg c44] at H
                                                  have c44b0 : decide (x12_6 < (((rd_T73 x9_4 x11_5).f1).length : Int)) = false := decide_eq_false c44
                                                  clear c44
                                                  have H' := Aside0.mk H
                                                  clear H
                                                  obtain ⟨Ao53, co53, eo53⟩ := Kd.N_slice HO_9.out
                                                  subst eo53
                                                  have p287 : 0 ≤ (x11_5 : Int) := of_decide_eq_true (by first | (with_reducible assumption) | assumption)
                                                  have q287 : x11_5 < (x9_4.length : Int) := of_decide_eq_true (by first | (with_reducible assumption) | assumption)
                                                  obtain ⟨ad287, A287_1, c287_1, e287, hx287_0, hx287_1, hl287_1, hi287_1⟩ := at_T73 (Kd.N_reads' HO_9.out).2.2 x11_5 p287 q287
                                                  cases e287
                                                  obtain ⟨ce287, hce287, hMe287, hcc287⟩ := Kd.N_get HO_9.out z73 x11_5 p287 (by first | exact q287 | exact of_decide_eq_true (by first | (with_reducible assumption) | assumption) | (have e_ := (Kd.N_reads' HO_9.out).1; omega))
                                                  obtain ⟨ua287_1, uc287_1, rfl, ul287_1, ge287_1⟩ := k73_openF hMe287
                                                  have hv287_1 := hcc287 1 _ rfl
                                                  rw [add_field _ _ 1 (by omega)] at hv287_1
                                                  replace hv287_1 := Option.some.inj (hv287_1.symm.trans hx287_1)
                                                  injection hv287_1 with hva_ hvn_ hvc_
                                                  rw [hva_] at ge287_1
                                                  rw [hvc_] at ul287_1
                                                  have HL287_1 := Aside0.mk (show Kd.V (Kd.int .i64) 3 _ w.heap.size _ _ ((rd_T73 x9_4 x11_5).f1) from Kd.V_mk ul287_1 ge287_1)
                                                  clear hva_ hvn_ hvc_ ge287_1 ul287_1
                                                  clear hcc287 hce287
                                                  have HR287_1 := Aside0.mk hi287_1
                                                  have HC287_1 := Aside0.mk hl287_1
                                                  clear hi287_1 hl287_1
                                                  replace p287 := eq_true p287
                                                  replace q287 := eq_true q287
                                                  go_wp2
                                                  go_roundg k6
                                                  case measure => have := HJ3.out; have := HK2.out; have := HJ24.out; have := HK4.out; have := HK5.out; have := HK6.out; omega
                                                  case rel => exact ⟨(x8_6), (wrap64 (x11_5 + 1)), (by first | rfl | (simp; done) | (simp [*]; done)), H', ⟨by have := HJ3.out; have := HK2.out; have := HJ24.out; have := HK4.out; have := HK5.out; have := HK6.out; omega⟩, ⟨by (with_reducible repeat (first | apply Kd.N_alloc | apply Kd.N_drewN | apply Kd.N_drew)); exact HO_6.out⟩, ⟨by (with_reducible repeat (first | apply Kd.R_alloc | apply Kd.R_drewN | apply Kd.R_drew)); exact HO_8.out⟩, ⟨by (with_reducible repeat (first | apply Kd.N_alloc | apply Kd.N_drewN | apply Kd.N_drew)); exact HO_9.out⟩, ⟨by repeat (first | (with_reducible first | exact HB.out | apply below_alloc | apply pw_below_drewN | apply below_drew1) | exact HB.out)⟩⟩
                                              · rw [if_neg c43] at H
                                                exact absurd H (by simp)
                                            · rw [if_neg c42] at H
                                              exact absurd H (by simp)
                                      · rw [if_neg c41] at H
                                        have c41b0 : decide (x11_5 < (wrap64 ((wrap64 (2 * (x6_2.length : Int))) - 2))) = false := decide_eq_false c41
                                        clear c41
                                        simp only [Option.some.injEq, Prod.mk.injEq] at H
                                        obtain ⟨rfl, rfl⟩ := H
                                        go_wp2
                                        go_ret2
                                        exact ⟨_, by first | rfl | (simp [errW_none, errW_some] <;> rfl) | (simp only [← hji18, ← hji20]; first | rfl | (simp [errW_none, errW_some] <;> rfl)) | (simp [*, errW_none, errW_some] <;> rfl), by (with_reducible repeat (first | apply Kd.R_alloc | apply Kd.R_drewN | apply Kd.R_drew)); exact HO_8.out, by repeat (first | (with_reducible first | exact HB.out | apply below_alloc | apply pw_below_drewN | apply below_drew1) | exact HB.out)⟩
                      · rw [if_neg c24] at H
                        exact absurd H (by simp)
                    · rw [if_neg c23] at H
                      exact absurd H (by simp)
                · rw [if_neg c19] at H
                  exact absurd H (by simp)

end Go.Proofs.Ytldhpniflnbilaa.P33
