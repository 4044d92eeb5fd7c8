/- The closed form of Expand; what it makes of the tokens of data. -/
import Derived.Test.YtldhpniflnbilaaPLx40vv
import Derived.Test.YtldhpniflnbilaaPLx33vv
set_option linter.unusedVariables false
set_option linter.unusedSimpArgs false
set_option linter.unusedSectionVars false
namespace Go.Proofs.Ytldhpniflnbilaa.Pure
open Go.RowKit Go.Proofs.Ytldhpniflnbilaa.PL Go.Proofs.Ytldhpniflnbilaa Go.Proofs.YtldhpniflnbilaaW.PrintWords Go.Proofs.YtldhpniflnbilaaW.PrintLast Go.Proofs.YtldhpniflnbilaaW.PrintMore

theorem wr (x : Int) (h0 : -9223372036854775808 ≤ x) (h1 : x ≤ 9223372036854775807) : wrap64 x = x := by unfold wrap64; omega
theorem wsucc (i : Nat) (h : i ≤ 4611686018427387904) : wrap64 ((i : Int) + 1) = ((i + 1 : Nat) : Int) := by rw [wr _ (by omega) (by omega)]; omega
theorem rd_at (l : List Int) (i : Nat) (h : i < l.length) : rd l (i : Int) = l[i] := by simp [rd, List.getD_eq_getElem?_getD, List.getElem?_eq_getElem h]

/-! ### Expand -/
def copyN (d : Nat) : Nat → List Int → List Int
  | 0, out => out
  | n + 1, out => copyN d n (out ++ [rd out ((out.length - d : Nat) : Int)])
theorem copyN_length (d : Nat) : ∀ n out, (copyN d n out).length = out.length + n
  | 0, out => rfl
  | n + 1, out => by rw [copyN, copyN_length d n]; simp; omega
def expL : List Int → List Int → List Int × Int
  | out, [] => (out, 0)
  | out, t :: r => if 0 ≤ t ∧ t ≤ 255 then (if (out.length : Int) < 16777216 then expL (out ++ [t]) r else ([], 4)) else
    if t < 0 ∨ t / 65536 < 3 ∨ 258 < t / 65536 ∨ t % 65536 < 1 ∨ 32768 < t % 65536 then ([], 9) else if (out.length : Int) < t % 65536 then ([], 28) else if 16777216 < (out.length : Int) + t / 65536 then ([], 4) else
    expL (copyN (t % 65536).toNat (t / 65536).toNat out) r
theorem and16 (t : Int) (h0 : 0 ≤ t) (h1 : t < 9223372036854775808) : Go.bits .and .i64 t 65535 = t % 65536 := by
  have := bits_mask .i64 63 (by decide) (fun n h0 h1 => by rw [IntKind.wrap_i64]; omega) 16 (by decide) t h0 (by simpa using h1)
  simpa using this
section
variable (l : List Int) (hl : l.length ≤ 2000000) (hw : ∀ t ∈ l, -9223372036854775808 ≤ t ∧ t < 9223372036854775808)
include hl
theorem exp_l1 (d j : Nat) (hd : 1 ≤ d) (hj : j < l.length) (R : List Int × Int) (m : Nat) : ∀ (n : Nat) (out : List Int), d ≤ out.length → out.length + n ≤ 30000000 → n ≤ m → m ≤ 1000 →
    Ev (fun k => deflate_Expand.l0 k (copyN d n out) l (l.length : Int) ((j + 1 : Nat) : Int)) R → Ev (fun k => deflate_Expand.l1 k out (d : Int) l (l.length : Int) (j : Int) (m : Int) ((m - n : Nat) : Int)) R := by
  intro n
  induction n with
  | zero =>
    intro out _ _ _ _ hR
    refine Ev.step (fun k => ?_) hR
    rw [deflate_Expand.l1, if_neg (by omega), wsucc j (by omega)]
    rfl
  | succ n ih =>
    intro out hdo hlo hnm hm hR
    have h1 : wrap64 ((out.length : Int) - (d : Int)) = ((out.length - d : Nat) : Int) := by rw [wr _ (by omega) (by omega)]; omega
    refine Ev.step (fun k => ?_) (ih (out ++ [rd out ((out.length - d : Nat) : Int)]) (by simp; omega) (by simp; omega) (by omega) hm (by rw [copyN] at hR; exact hR))
    rw [deflate_Expand.l1, if_pos (by omega), h1, if_pos (by omega), if_pos (by omega), if_pos (by omega), wsucc (m - (n + 1)) (by omega), show m - (n + 1) + 1 = m - n by omega]
include hw
theorem exp_l0 : ∀ (q j : Nat) (out : List Int), q + j = l.length → out.length ≤ 16777216 → Ev (fun k => deflate_Expand.l0 k out l (l.length : Int) (j : Int)) (expL out (l.drop j)) := by
  intro q
  induction q with
  | zero =>
    intro j out hj _
    rw [List.drop_eq_nil_of_le (by omega), expL]
    exact Ev.step (f := fun _ => some (out, 0)) (fun k => by rw [deflate_Expand.l0, if_neg (by omega)]) (Ev.now _)
  | succ q ih =>
    intro j out hj ho
    have hlt : j < l.length := by omega
    rw [List.drop_eq_getElem_cons hlt, expL]
    have ht := hw l[j] (List.getElem_mem hlt)
    have er := rd_at l j hlt
    generalize l[j] = t at *
    have j3t : ∀ (x8 : Int), Ev (fun k => deflate_Expand.j3 k out (t / 65536) x8 l (l.length : Int) (j : Int) true) ([], 9) := fun x8 => Ev.step (f := fun _ => some ([], 9)) (fun k => by rw [deflate_Expand.j3, if_pos rfl]) (Ev.now _)
    by_cases h0 : 0 ≤ t
    · by_cases h1 : t ≤ 255
      · rw [if_pos ⟨h0, h1⟩]
        by_cases h2 : (out.length : Int) < 16777216
        · rw [if_pos h2]
          refine Ev.step (f := fun k => deflate_Expand.j1 k out t (t / 65536) (Go.bits .and .i64 t 65535) l (l.length : Int) (j : Int) true) (fun k => by rw [deflate_Expand.l0, if_pos (by omega), if_pos (by omega), if_pos (by omega), er, if_pos h0, if_pos h1, decide_eq_true h2]) ?_
          refine Ev.step (fun k => ?_) (ih (j + 1) (out ++ [t]) (by omega) (by simp; omega))
          rw [deflate_Expand.j1, if_pos rfl, if_pos (by omega), wsucc j (by omega), show t % 256 = t by omega]
        · rw [if_neg h2]
          refine Ev.step (f := fun k => deflate_Expand.j1 k out t (t / 65536) (Go.bits .and .i64 t 65535) l (l.length : Int) (j : Int) false) (fun k => by rw [deflate_Expand.l0, if_pos (by omega), if_pos (by omega), if_pos (by omega), er, if_pos h0, if_pos h1, decide_eq_false h2]) ?_
          refine Ev.step (f := fun k => deflate_Expand.j2 k out t (t / 65536) (Go.bits .and .i64 t 65535) l (l.length : Int) (j : Int) true) (fun k => by rw [deflate_Expand.j1, if_neg (by decide), if_pos h0, decide_eq_true h1]) ?_
          exact Ev.step (f := fun _ => some ([], 4)) (fun k => by rw [deflate_Expand.j2, if_pos rfl]) (Ev.now _)
      · rw [if_neg (fun h => h1 h.2)]
        refine Ev.step (f := fun k => deflate_Expand.j1 k out t (t / 65536) (t % 65536) l (l.length : Int) (j : Int) false) (fun k => by rw [deflate_Expand.l0, if_pos (by omega), if_pos (by omega), if_pos (by omega), er, if_pos h0, if_neg h1, and16 t h0 ht.2]) ?_
        refine Ev.step (f := fun k => deflate_Expand.j2 k out t (t / 65536) (t % 65536) l (l.length : Int) (j : Int) false) (fun k => by rw [deflate_Expand.j1, if_neg (by decide), if_pos h0, decide_eq_false h1]) ?_
        by_cases c1 : t / 65536 < 3
        · rw [if_pos (by omega)]
          exact Ev.step (fun k => by rw [deflate_Expand.j2, if_neg (by decide), if_neg (by omega), if_pos c1]) (j3t _)
        by_cases c2 : 258 < t / 65536
        · rw [if_pos (by omega)]
          exact Ev.step (fun k => by rw [deflate_Expand.j2, if_neg (by decide), if_neg (by omega), if_neg c1, if_pos c2]) (j3t _)
        by_cases c3 : t % 65536 < 1
        · rw [if_pos (by omega)]
          exact Ev.step (fun k => by rw [deflate_Expand.j2, if_neg (by decide), if_neg (by omega), if_neg c1, if_neg c2, if_pos c3]) (j3t _)
        by_cases c4 : 32768 < t % 65536
        · rw [if_pos (by omega)]
          exact Ev.step (fun k => by rw [deflate_Expand.j2, if_neg (by decide), if_neg (by omega), if_neg c1, if_neg c2, if_neg c3, decide_eq_true c4]) (j3t _)
        rw [if_neg (by omega)]
        refine Ev.step (f := fun k => deflate_Expand.j3 k out (t / 65536) (t % 65536) l (l.length : Int) (j : Int) false) (fun k => by rw [deflate_Expand.j2, if_neg (by decide), if_neg (by omega), if_neg c1, if_neg c2, if_neg c3, decide_eq_false c4]) ?_
        by_cases c5 : (out.length : Int) < t % 65536
        · rw [if_pos c5]
          exact Ev.step (f := fun _ => some ([], 28)) (fun k => by rw [deflate_Expand.j3, if_neg (by decide), if_pos c5]) (Ev.now _)
        rw [if_neg c5]
        by_cases c6 : 16777216 < (out.length : Int) + t / 65536
        · rw [if_pos c6]
          exact Ev.step (f := fun _ => some ([], 4)) (fun k => by rw [deflate_Expand.j3, if_neg (by decide), if_neg c5, wr _ (by omega) (by omega), if_pos c6]) (Ev.now _)
        rw [if_neg c6]
        obtain ⟨d, hd⟩ : ∃ d : Nat, t % 65536 = (d : Int) := ⟨(t % 65536).toNat, by omega⟩
        obtain ⟨n, hn⟩ : ∃ n : Nat, t / 65536 = (n : Int) := ⟨(t / 65536).toNat, by omega⟩
        have h5 := exp_l1 l hl d j (by omega) hlt _ n n out (by omega) (by omega) (Nat.le_refl _) (by omega) (ih (j + 1) (copyN d n out) (by omega) (by rw [copyN_length]; omega))
        rw [Nat.sub_self] at h5
        rw [hd, hn, Int.toNat_natCast, Int.toNat_natCast]
        refine Ev.step (fun k => ?_) h5
        rw [deflate_Expand.j3, if_neg (by decide), if_neg (by omega), wr _ (by omega) (by omega), if_neg (by omega)]
        rfl
    · rw [if_neg (fun h => h0 h.1), if_pos (.inl (by omega))]
      refine Ev.step (f := fun k => deflate_Expand.j1 k out t (t / 65536) (Go.bits .and .i64 t 65535) l (l.length : Int) (j : Int) false) (fun k => by rw [deflate_Expand.l0, if_pos (by omega), if_pos (by omega), if_pos (by omega), er, if_neg h0]) ?_
      refine Ev.step (f := fun k => deflate_Expand.j2 k out t (t / 65536) (Go.bits .and .i64 t 65535) l (l.length : Int) (j : Int) false) (fun k => by rw [deflate_Expand.j1, if_neg (by decide), if_neg h0]) ?_
      exact Ev.step (fun k => by rw [deflate_Expand.j2, if_neg (by decide), if_pos (by omega)]) (j3t _)
theorem Expand_ev : Ev (fun k => deflate_Expand.f k l) (expL [] l) := by
  have := exp_l0 l hl hw l.length 0 [] rfl (by simp)
  rwa [List.drop_zero] at this
end
end Go.Proofs.Ytldhpniflnbilaa.Pure
