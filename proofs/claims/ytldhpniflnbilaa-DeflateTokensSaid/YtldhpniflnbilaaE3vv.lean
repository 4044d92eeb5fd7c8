/- DeflateTokens: the reference finds the same tokens and expands alike. -/
import Derived.Test.YtldhpniflnbilaaE2vv
import Derived.Test.YtldhpniflnbilaaPLx43vv
set_option linter.unusedVariables false
set_option linter.unusedSimpArgs false
set_option linter.unusedSectionVars false
namespace Go.Proofs.Ytldhpniflnbilaa.Pure
open Go.RowKit Go.Proofs.Ytldhpniflnbilaa.PL Go.Proofs.Ytldhpniflnbilaa Go.Proofs.YtldhpniflnbilaaW.PrintWords Go.Proofs.YtldhpniflnbilaaW.PrintLast Go.Proofs.YtldhpniflnbilaaW.PrintMore

/-! ### The reference's Expand -/
section
variable (l : List Int) (hl : l.length ≤ 2000000) (hw : ∀ t ∈ l, -9223372036854775808 ≤ t ∧ t < 9223372036854775808)
include hl
theorem rexp_l1 (d j : Nat) (t : Int) (er : rd l (j : Int) = t) (ht : 255 < t) (hd : 1 ≤ d) (hj : j < l.length) (R : List Int × Int) (m : Nat) : ∀ (n : Nat) (out : List Int), d ≤ out.length → out.length + n ≤ 30000000 → n ≤ m → m ≤ 1000 →
    Ev (fun k => barscanref34_Expand.l0 k l (copyN d n out) ((j + 1 : Nat) : Int)) R → Ev (fun k => barscanref34_Expand.l1 k l out (j : Int) (m : Int) (d : Int) ((m - n : Nat) : Int)) R := by
  intro n
  induction n with
  | zero =>
    intro out _ _ _ _ hR
    refine Ev.step (fun k => ?_) hR
    rw [barscanref34_Expand.l1, if_neg (by omega), wsucc j (by omega)]
    rfl
  | succ n ih =>
    intro out hdo hlo hnm hm hR
    have h1 : wrap64 ((out.length : Int) - (d : Int)) = ((out.length - d : Nat) : Int) := by rw [wr _ (by omega) (by omega)]; omega
    refine Ev.step (fun k => ?_) (ih (out ++ [rd out ((out.length - d : Nat) : Int)]) (by simp; omega) (by simp; omega) (by omega) hm (by rw [copyN] at hR; exact hR))
    rw [barscanref34_Expand.l1, if_pos (by omega), if_pos (by omega), if_pos (by omega), er, if_pos ht, h1, if_pos (by omega), if_pos (by omega), if_pos (by omega), wsucc (m - (n + 1)) (by omega), show m - (n + 1) + 1 = m - n by omega]
include hw
theorem rexp_l0 : ∀ (q j : Nat) (out : List Int), q + j = l.length → out.length ≤ 16777216 → Ev (fun k => barscanref34_Expand.l0 k l out (j : Int)) (expL out (l.drop j)) := by
  intro q
  induction q with
  | zero =>
    intro j out hj _
    rw [List.drop_eq_nil_of_le (by omega), expL]
    exact Ev.step (f := fun _ => some (out, 0)) (fun k => by rw [barscanref34_Expand.l0, if_neg (by omega)]) (Ev.now _)
  | succ q ih =>
    intro j out hj ho
    have hlt : j < l.length := by omega
    rw [List.drop_eq_getElem_cons hlt, expL]
    have ht := hw l[j] (List.getElem_mem hlt)
    have er := rd_at l j hlt
    generalize l[j] = t at *
    have j1t : ∀ (a b : Int), Ev (fun k => barscanref34_Expand.j1 k l out (j : Int) a b true) ([], 9) := fun a b => Ev.step (f := fun _ => some ([], 9)) (fun k => by rw [barscanref34_Expand.j1, if_pos rfl]) (Ev.now _)
    by_cases h0 : 0 ≤ t
    · have q1 : Int.tdiv t 65536 = t / 65536 := Int.tdiv_eq_ediv_of_nonneg h0
      have q2 : Int.tmod t 65536 = t % 65536 := Int.tmod_eq_emod_of_nonneg h0
      by_cases h1 : t ≤ 255
      · rw [if_pos ⟨h0, h1⟩]
        refine Ev.step (f := fun k => barscanref34_Expand.j1 k l out (j : Int) (t / 65536) (t % 65536) false) (fun k => by rw [barscanref34_Expand.l0, if_pos (by omega), if_pos (by omega), er, if_neg (by omega), if_neg (by omega), q1, q2, wr _ (by omega) (by omega)]) ?_
        refine Ev.step (f := fun k => barscanref34_Expand.j2 k l out (j : Int) 1 (t % 65536)) (fun k => by rw [barscanref34_Expand.j1, if_neg (by decide), if_pos (by omega), if_pos (by omega), er, if_pos (by omega)]) ?_
        refine Ev.step (f := fun k => barscanref34_Expand.j3 k l out (j : Int) 1 (t % 65536) false) (fun k => by rw [barscanref34_Expand.j2, if_pos (by omega), if_pos (by omega), er, if_neg (by omega)]) ?_
        by_cases h2 : (out.length : Int) < 16777216
        · rw [if_pos h2]
          refine Ev.step (f := fun k => barscanref34_Expand.l1 k l out (j : Int) 1 (t % 65536) 0) (fun k => by rw [barscanref34_Expand.j3, if_neg (by decide), wr _ (by omega) (by omega), if_neg (by omega)]) ?_
          refine Ev.step (f := fun k => barscanref34_Expand.l1 k l (out ++ [t]) (j : Int) 1 (t % 65536) 1) (fun k => by rw [barscanref34_Expand.l1, if_pos (by omega), if_pos (by omega), if_pos (by omega), er, if_neg (by omega), if_pos (by omega), show wrap64 ((0:Int) + 1) = 1 from wr 1 (by omega) (by omega), show t % 256 = t by omega]) ?_
          refine Ev.step (fun k => ?_) (ih (j + 1) (out ++ [t]) (by omega) (by simp; omega))
          rw [barscanref34_Expand.l1, if_neg (by omega), wsucc j (by omega)]
        · rw [if_neg h2]
          exact Ev.step (f := fun _ => some ([], 4)) (fun k => by rw [barscanref34_Expand.j3, if_neg (by decide), wr _ (by omega) (by omega), if_pos (by omega)]) (Ev.now _)
      · rw [if_neg (fun h => h1 h.2)]
        by_cases c1 : t / 65536 < 3
        · rw [if_pos (by omega)]
          exact Ev.step (fun k => by rw [barscanref34_Expand.l0, if_pos (by omega), if_pos (by omega), er, if_neg (by omega), if_pos (by omega), q1, q2, wr _ (by omega) (by omega), if_pos c1]) (j1t _ _)
        by_cases c2 : 258 < t / 65536
        · rw [if_pos (by omega)]
          exact Ev.step (fun k => by rw [barscanref34_Expand.l0, if_pos (by omega), if_pos (by omega), er, if_neg (by omega), if_pos (by omega), q1, q2, wr _ (by omega) (by omega), if_neg c1, if_pos c2]) (j1t _ _)
        by_cases c3 : t % 65536 < 1
        · rw [if_pos (by omega)]
          exact Ev.step (fun k => by rw [barscanref34_Expand.l0, if_pos (by omega), if_pos (by omega), er, if_neg (by omega), if_pos (by omega), q1, q2, wr _ (by omega) (by omega), if_neg c1, if_neg c2, if_pos c3]) (j1t _ _)
        by_cases c4 : 32768 < t % 65536
        · rw [if_pos (by omega)]
          exact Ev.step (fun k => by rw [barscanref34_Expand.l0, if_pos (by omega), if_pos (by omega), er, if_neg (by omega), if_pos (by omega), q1, q2, wr _ (by omega) (by omega), if_neg c1, if_neg c2, if_neg c3, decide_eq_true c4]) (j1t _ _)
        rw [if_neg (by omega)]
        refine Ev.step (f := fun k => barscanref34_Expand.j1 k l out (j : Int) (t / 65536) (t % 65536) false) (fun k => by rw [barscanref34_Expand.l0, if_pos (by omega), if_pos (by omega), er, if_neg (by omega), if_pos (by omega), q1, q2, wr _ (by omega) (by omega), if_neg c1, if_neg c2, if_neg c3, decide_eq_false c4]) ?_
        refine Ev.step (f := fun k => barscanref34_Expand.j2 k l out (j : Int) (t / 65536) (t % 65536)) (fun k => by rw [barscanref34_Expand.j1, if_neg (by decide), if_pos (by omega), if_pos (by omega), er, if_neg (by omega)]) ?_
        by_cases c5 : (out.length : Int) < t % 65536
        · rw [if_pos c5]
          refine Ev.step (f := fun k => barscanref34_Expand.j3 k l out (j : Int) (t / 65536) (t % 65536) true) (fun k => by rw [barscanref34_Expand.j2, if_pos (by omega), if_pos (by omega), er, if_pos (by omega), decide_eq_true c5]) ?_
          exact Ev.step (f := fun _ => some ([], 28)) (fun k => by rw [barscanref34_Expand.j3, if_pos rfl]) (Ev.now _)
        rw [if_neg c5]
        refine Ev.step (f := fun k => barscanref34_Expand.j3 k l out (j : Int) (t / 65536) (t % 65536) false) (fun k => by rw [barscanref34_Expand.j2, if_pos (by omega), if_pos (by omega), er, if_pos (by omega), decide_eq_false c5]) ?_
        by_cases c6 : 16777216 < (out.length : Int) + t / 65536
        · rw [if_pos c6]
          exact Ev.step (f := fun _ => some ([], 4)) (fun k => by rw [barscanref34_Expand.j3, if_neg (by decide), wr _ (by omega) (by omega), if_pos c6]) (Ev.now _)
        rw [if_neg c6]
        obtain ⟨d, hd⟩ : ∃ d : Nat, t % 65536 = (d : Int) := ⟨(t % 65536).toNat, by omega⟩
        obtain ⟨n, hn⟩ : ∃ n : Nat, t / 65536 = (n : Int) := ⟨(t / 65536).toNat, by omega⟩
        have h5 := rexp_l1 l hl d j t er (by omega) (by omega) hlt _ n n out (by omega) (by omega) (Nat.le_refl _) (by omega) (ih (j + 1) (copyN d n out) (by omega) (by rw [copyN_length]; omega))
        rw [Nat.sub_self] at h5
        rw [hd, hn, Int.toNat_natCast, Int.toNat_natCast]
        refine Ev.step (fun k => ?_) h5
        rw [barscanref34_Expand.j3, if_neg (by decide), wr _ (by omega) (by omega), if_neg (by omega)]
        rfl
    · rw [if_neg (fun h => h0 h.1), if_pos (.inl (by omega))]
      exact Ev.step (fun k => by rw [barscanref34_Expand.l0, if_pos (by omega), if_pos (by omega), er, if_pos (by omega)]) (j1t _ _)
theorem rExpand_ev : Ev (fun k => barscanref34_Expand.f k l) (expL [] l) := by
  have := rexp_l0 l hl hw l.length 0 [] rfl (by simp)
  rwa [List.drop_zero] at this
end
/-! ### The reference's search -/
/-- The places before i that begin with the three bytes k, the last one first. -/
def cand (p : List Int) (k : K3) : Nat → List Int
  | 0 => []
  | i + 1 => if i + 3 ≤ p.length ∧ keyAt p i = k then (i : Int) :: cand p k i else cand p k i
theorem last32_rev (l : List Int) : (last32 l).reverse = l.reverse.take 32 := by
  unfold last32
  rw [List.reverse_drop]
  by_cases h : l.length ≤ 32
  · rw [show l.length - (l.length - 32) = l.length by omega, List.take_of_length_le (by simp), List.take_of_length_le (by simpa using h)]
  · rw [show l.length - (l.length - 32) = 32 by omega]
theorem headsN_rev (p : List Int) : ∀ i k, (headsN p i k).reverse = (cand p k i).take 32
  | 0, k => rfl
  | i + 1, k => by
    have ih := headsN_rev p i k
    unfold headsN cand
    by_cases h : i + 3 ≤ p.length
    · rw [if_pos h]
      unfold addH
      by_cases hk : k = keyAt p i
      · rw [if_pos hk, if_pos ⟨h, hk.symm⟩, last32_rev, List.reverse_append, ← hk, ih]
        show List.take 32 ((i : Int) :: List.take 32 (cand p k i)) = _
        rw [List.take_succ_cons, List.take_succ_cons, List.take_take]
        rfl
      · rw [if_neg hk, if_neg (fun h => hk h.2.symm), ih]
    · rw [if_neg h, if_neg (fun h2 => h h2.1), ih]
theorem req_l0 (p : List Int) (a b : Nat) (hab : a < b) (hl : p.length ≤ 2000000) (hb : b ≤ p.length) : ∀ (f n : Nat), f + n = 259 → n ≤ 258 → Ev (fun k => barscanref34_equal.l0 k p (a : Int) (b : Int) (n : Int)) (((sameGo p a b f n) : Nat) : Int)
  | 0, n, h, h1 => by omega
  | f + 1, n, h, h1 => by
    unfold sameGo
    have ea : wrap64 ((a : Int) + n) = ((a + n : Nat) : Int) := by rw [wr _ (by omega) (by omega)]; omega
    have eb : wrap64 ((b : Int) + n) = ((b + n : Nat) : Int) := by rw [wr _ (by omega) (by omega)]; omega
    by_cases c0 : n < 258
    · by_cases c1 : b + n < p.length
      · by_cases c2 : rd p ((a + n : Nat) : Int) = rd p ((b + n : Nat) : Int)
        · rw [if_pos ⟨c0, c1, c2⟩]
          refine Ev.step (fun k => ?_) (req_l0 p a b hab hl hb f (n + 1) (by omega) (by omega))
          rw [barscanref34_equal.l0, if_pos (by omega), ea, eb, if_pos (by omega), if_pos (by omega), if_pos (by omega), if_pos (by omega), if_pos c2, wsucc n (by omega)]
        · rw [if_neg (fun h => c2 h.2.2)]
          exact Ev.step (f := fun _ => some (n : Int)) (fun k => by rw [barscanref34_equal.l0, if_pos (by omega), ea, eb, if_pos (by omega), if_pos (by omega), if_pos (by omega), if_pos (by omega), if_neg c2]) (Ev.now _)
      · rw [if_neg (fun h => c1 h.2.1)]
        exact Ev.step (f := fun _ => some (n : Int)) (fun k => by rw [barscanref34_equal.l0, if_pos (by omega), ea, eb, if_neg (by omega)]) (Ev.now _)
    · rw [if_neg (fun h => c0 h.1)]
      exact Ev.step (f := fun _ => some (n : Int)) (fun k => by rw [barscanref34_equal.l0, if_neg (by omega)]) (Ev.now _)
theorem req_ev (p : List Int) (a b : Nat) (hab : a < b) (hl : p.length ≤ 2000000) (hb : b ≤ p.length) : Ev (fun k => barscanref34_equal.f k p (a : Int) (b : Int)) ((sameN p a b : Nat) : Int) :=
  req_l0 p a b hab hl hb 259 0 rfl (by omega)
theorem key_of_same (p : List Int) (a b : Nat) (h : 3 ≤ sameN p a b) : keyAt p a = keyAt p b := by
  have e0 := sameGo_eq p a b 259 0 0 (by omega) (by show 0 < sameN p a b; omega)
  have e1 := sameGo_eq p a b 259 0 1 (by omega) (by show 1 < sameN p a b; omega)
  have e2 := sameGo_eq p a b 259 0 2 (by omega) (by show 2 < sameN p a b; omega)
  unfold keyAt
  simp only [Nat.add_zero] at e0
  rw [e0, show ((a : Int) + 1) = ((a + 1 : Nat) : Int) by omega, show ((a : Int) + 2) = ((a + 2 : Nat) : Int) by omega, e1, e2]
  rfl
/-- The reference's search from j down, with c candidates seen. -/
theorem rbest_l0 (p : List Int) (i : Nat) (hi : i ≤ p.length) (hl : p.length ≤ 30000) : ∀ (j c : Nat) (s : Int × Int), j ≤ i → c ≤ 32 → 0 ≤ s.1 →
    Ev (fun k => barscanref34_best.l0 k p (i : Int) s.1 s.2 (c : Int) ((j : Int) - 1)) (if i + 3 ≤ p.length then bestGo p i ((cand p (keyAt p i) j).take (32 - c)) s else s)
  | 0, c, s, hj, hc, hs => by
    have e : (if i + 3 ≤ p.length then bestGo p i ((cand p (keyAt p i) 0).take (32 - c)) s else s) = s := by simp [cand, bestGo]
    rw [e]
    refine Ev.step (f := fun k => barscanref34_best.j1 k p (i : Int) s.1 s.2 (c : Int) ((0 : Nat) - 1 : Int) false) (fun k => by rw [barscanref34_best.l0, if_neg (by omega)]) ?_
    exact Ev.step (f := fun _ => some s) (fun k => by rw [barscanref34_best.j1, if_neg (by decide)]) (Ev.now _)
  | j + 1, c, s, hj, hc, hs => by
    have e1 : (((j + 1 : Nat) : Int) - 1) = (j : Int) := by omega
    rw [e1]
    by_cases hc32 : c < 32
    · refine Ev.step (f := fun k => barscanref34_best.j1 k p (i : Int) s.1 s.2 (c : Int) (j : Int) true) (fun k => by rw [barscanref34_best.l0, if_pos (by omega), wr _ (by omega) (by omega), if_pos (by omega), decide_eq_true (by omega)]) ?_
      have he := req_ev p j i (by omega) (by omega) hi
      have hlen := sameGo_len p j i 259 0 (by omega)
      have hsn : sameGo p j i 259 0 = sameN p j i := rfl
      rw [hsn] at hlen
      refine Ev.step (fun k => by rw [barscanref34_best.j1, if_pos rfl]) (he.bind (f := fun k t252 => (if t252 ≥ 3 then (if t252 > s.1 then (barscanref34_best.l0 k p (i : Int) t252 (wrap64 ((i : Int) - j)) (wrap64 ((c : Int) + 1)) (wrap64 ((j : Int) - 1))) else (barscanref34_best.l0 k p (i : Int) s.1 s.2 (wrap64 ((c : Int) + 1)) (wrap64 ((j : Int) - 1)))) else (barscanref34_best.l0 k p (i : Int) s.1 s.2 (c : Int) (wrap64 ((j : Int) - 1))))) ?_)
      rw [wr ((j : Int) - 1) (by omega) (by omega), wr ((i : Int) - j) (by omega) (by omega), wsucc c (by omega)]
      by_cases h3 : 3 ≤ sameN p j i
      · have hk := key_of_same p j i h3
        have hi3 : i + 3 ≤ p.length := by omega
        simp only [if_pos hi3, if_pos (show (3 : Int) ≤ ((sameN p j i : Nat) : Int) by omega), ge_iff_le]
        have ec : (cand p (keyAt p i) (j + 1)).take (32 - c) = (j : Int) :: (cand p (keyAt p i) j).take (32 - (c + 1)) := by
          show List.take (32 - c) (if j + 3 ≤ p.length ∧ keyAt p j = keyAt p i then (j : Int) :: cand p (keyAt p i) j else cand p (keyAt p i) j) = _
          rw [if_pos ⟨by omega, hk⟩, show 32 - c = (32 - (c + 1)) + 1 by omega, List.take_succ_cons]
        rw [ec]
        unfold bestGo
        rw [if_neg (by omega), Int.toNat_natCast]
        by_cases hg : s.1 < ((sameN p j i : Nat) : Int)
        · have := rbest_l0 p i hi hl j (c + 1) (((sameN p j i : Nat) : Int), (i : Int) - j) (by omega) (by omega) (by simp)
          rw [if_pos hi3] at this
          rw [if_pos hg]
          refine Ev.congr (fun k => ?_) this
          rw [if_pos (by omega)]
        · have := rbest_l0 p i hi hl j (c + 1) s (by omega) (by omega) hs
          rw [if_pos hi3] at this
          rw [if_neg hg]
          refine Ev.congr (fun k => ?_) this
          rw [if_neg (by omega)]
      · have := rbest_l0 p i hi hl j c s (by omega) hc hs
        have ec : (if i + 3 ≤ p.length then bestGo p i ((cand p (keyAt p i) (j + 1)).take (32 - c)) s else s) = (if i + 3 ≤ p.length then bestGo p i ((cand p (keyAt p i) j).take (32 - c)) s else s) := by
          by_cases hi3 : i + 3 ≤ p.length
          · have : cand p (keyAt p i) (j + 1) = cand p (keyAt p i) j := by
              show (if j + 3 ≤ p.length ∧ keyAt p j = keyAt p i then (j : Int) :: cand p (keyAt p i) j else cand p (keyAt p i) j) = _
              rw [if_neg (fun h => h3 (same3 p j i h.2 hi3))]
            rw [this]
          · rw [if_neg hi3, if_neg hi3]
        rw [ec]
        refine Ev.congr (fun k => ?_) this
        rw [if_neg (by omega)]
    · have e : (if i + 3 ≤ p.length then bestGo p i ((cand p (keyAt p i) (j + 1)).take (32 - c)) s else s) = s := by
        rw [show 32 - c = 0 by omega, List.take_zero]; simp [bestGo]
      rw [e]
      refine Ev.step (f := fun k => barscanref34_best.j1 k p (i : Int) s.1 s.2 (c : Int) (j : Int) false) (fun k => by rw [barscanref34_best.l0, if_pos (by omega), wr _ (by omega) (by omega), if_pos (by omega), decide_eq_false (by omega)]) ?_
      exact Ev.step (f := fun _ => some s) (fun k => by rw [barscanref34_best.j1, if_neg (by decide)]) (Ev.now _)
theorem rbest_ev (p : List Int) (i : Nat) (hi : i ≤ p.length) (hl : p.length ≤ 30000) : Ev (fun k => barscanref34_best.f k p (i : Int)) (bestAt p i) := by
  have h := rbest_l0 p i hi hl i 0 (0, 0) (Nat.le_refl _) (by omega) (by simp)
  refine Ev.congr (f := fun k => barscanref34_best.l0 k p (i : Int) 0 0 0 ((i : Int) - 1)) (fun k => by rw [barscanref34_best.f, wr _ (by omega) (by omega)]) ?_
  unfold bestAt bestF
  rw [headsN_rev]
  exact h
theorem rtok_l0 (p : List Int) (hb : Bytes p) (hl : p.length ≤ 30000) : ∀ (f i : Nat) (out : List Int), p.length ≤ f + i → i ≤ p.length → out.length ≤ i → Ev (fun k => barscanref34_Matches.l0 k p out (i : Int)) (out ++ tokGo p f i, 0)
  | 0, i, out, h, h1, h2 => by
    rw [tokGo, List.append_nil]
    exact Ev.step (f := fun _ => some (out, 0)) (fun k => by rw [barscanref34_Matches.l0, if_neg (by omega)]) (Ev.now _)
  | f + 1, i, out, h, h1, h2 => by
    rw [tokGo_succ]
    by_cases c : i < p.length
    · rw [if_pos c]
      refine Ev.step (fun k => by rw [barscanref34_Matches.l0, if_pos (by omega)]) ((rbest_ev p i h1 hl).bind (f := fun k bt253 => (if bt253.1 = 0 then (if 0 ≤ (i : Int) then (if out.length < 17592186044416 then (barscanref34_Matches.l0 k p (out ++ [wrap64 (rd p i)]) (wrap64 ((i : Int) + 1))) else (none)) else (none)) else (if out.length < 17592186044416 then (barscanref34_Matches.l0 k p (out ++ [wrap64 ((wrap64 (bt253.1 * 65536)) + bt253.2)]) (wrap64 ((i : Int) + bt253.1))) else (none)))) ?_)
      have hok := bestAt_ok p i h1
      have hr := hb (i : Int)
      by_cases c0 : (bestAt p i).1 = 0
      · have := rtok_l0 p hb hl f (i + 1) (out ++ [rd p i]) (by omega) (by omega) (by simp; omega)
        rw [if_pos c0]
        rw [List.append_assoc] at this
        refine Ev.congr (fun k => ?_) this
        rw [if_pos c0, if_pos (by omega), if_pos (by omega), wr _ (by omega) (by omega), wsucc i (by omega)]
      · have h3 := bestAt_three p i
        have := rtok_l0 p hb hl f (i + (bestAt p i).1.toNat) (out ++ [(bestAt p i).1 * 65536 + (bestAt p i).2]) (by omega) (by omega) (by simp; omega)
        rw [if_neg c0]
        rw [List.append_assoc] at this
        refine Ev.congr (fun k => ?_) this
        rw [if_neg c0, if_pos (by omega), wr ((bestAt p i).1 * 65536) (by omega) (by omega), wr _ (by omega) (by omega), wr _ (by omega) (by omega), show (i : Int) + (bestAt p i).1 = ((i + (bestAt p i).1.toNat : Nat) : Int) by omega]
    · rw [if_neg c, List.append_nil]
      exact Ev.step (f := fun _ => some (out, 0)) (fun k => by rw [barscanref34_Matches.l0, if_neg (by omega)]) (Ev.now _)
theorem rMatches_ev (p : List Int) (hb : Bytes p) (hl : p.length ≤ 30000) : Ev (fun k => barscanref34_Matches.f k p) (tokL p, 0) :=
  Ev.congr (fun k => by rw [barscanref34_Matches.f, if_neg (by omega)]; rfl) (rtok_l0 p hb hl p.length 0 [] (by omega) (by omega) (by simp))
theorem ints_l0 (l : List Int) (hl : l.length ≤ 2000000) : ∀ q j, q + j = l.length → Ev (fun k => barscanlaw34_ints.l0 k l l (l.length : Int) (j : Int)) true
  | 0, j, h => Ev.step (f := fun _ => some true) (fun k => by rw [barscanlaw34_ints.l0, if_neg (by omega)]) (Ev.now _)
  | q + 1, j, h => Ev.step (fun k => by rw [barscanlaw34_ints.l0, if_pos (by omega), if_pos (by omega), if_pos (by omega), if_pos (by omega), if_pos rfl, wsucc j (by omega)]) (ints_l0 l hl q (j + 1) (by omega))
theorem ints_ev (l : List Int) (hl : l.length ≤ 2000000) : Ev (fun k => barscanlaw34_ints.f k l l) true :=
  Ev.congr (fun k => by rw [barscanlaw34_ints.f, if_pos rfl]; rfl) (ints_l0 l hl l.length 0 rfl)
theorem wf_ints {l : List Int} (h : ∀ x ∈ l, (Lit.int .i64 x).wf = true) : ∀ x ∈ l, -9223372036854775808 ≤ x ∧ x < 9223372036854775808 := by
  intro x hx
  have := h x hx
  simp [Lit.wf, IntKind.min, IntKind.max, IntKind.bits, IntKind.signed] at this
  omega
theorem DeflateTokens : barscanlaw34_DeflateTokens.Pure := by
  intro l0 l1 _ _ hw _ _ hw1
  have hb := wf_bytes hw
  have yes : Ev (fun k => barscanlaw34_DeflateTokens.j0 k l0 l1 true) true := Ev.step (f := fun _ => some true) (fun k => by rw [barscanlaw34_DeflateTokens.j0, if_pos rfl]; rfl) (Ev.now _)
  refine Ev.rounds (g := fun k => barscanlaw34_DeflateTokens.f k l0 l1) ?_
  by_cases h : (l0.length : Int) > 400
  · exact Ev.congr (fun k => by rw [barscanlaw34_DeflateTokens.f, if_pos h]) yes
  by_cases h1 : (l1.length : Int) > 100
  · exact Ev.congr (fun k => by rw [barscanlaw34_DeflateTokens.f, if_neg h, decide_eq_true h1]) yes
  refine Ev.congr (f := fun k => barscanlaw34_DeflateTokens.j0 k l0 l1 false) (fun k => by rw [barscanlaw34_DeflateTokens.f, if_neg h, decide_eq_false h1]) ?_
  have hm : deflate_Matches.f l0 = some (tokL l0, 0) := by
    rw [deflate_Matches.f, if_neg (by omega), deflate_tokens.f, if_pos ⟨by omega, hb⟩]; rfl
  have hln : (tokL l0).length ≤ 2000000 := by have := tokGo_len l0 l0.length 0; unfold tokL; omega
  have hR := rMatches_ev l0 (isBytes_rd hb) (by omega)
  have hE := Expand_ev l1 (by omega) (wf_ints hw1)
  have hRE := rExpand_ev l1 (by omega) (wf_ints hw1)
  have hI := ints_ev (tokL l0) hln
  refine Ev.step (fun k => by rw [barscanlaw34_DeflateTokens.j0, if_neg (by decide), hm]; rfl) (hR.bind (f := fun k bt292 => ((deflate_Expand.f k l1).bind fun bt296 => ((barscanref34_Expand.f k l1).bind fun bt300 => ((barscanlaw34_ints.f k (tokL l0) bt292.1).bind fun t304 => (if t304 = true then (if 0 = bt292.2 then (if (strOfNums bt296.1).toList = (strOfNums bt300.1).toList then (if bt296.2 = bt300.2 then ((barscanlaw34_examples.f).bind fun t305 => (some t305)) else (some false)) else (some false)) else (some false)) else (some false)))))) ?_)
  refine hE.bind (f := fun k bt296 => ((barscanref34_Expand.f k l1).bind fun bt300 => ((barscanlaw34_ints.f k (tokL l0) (tokL l0)).bind fun t304 => (if t304 = true then (if (0 : Int) = 0 then (if (strOfNums bt296.1).toList = (strOfNums bt300.1).toList then (if bt296.2 = bt300.2 then ((barscanlaw34_examples.f).bind fun t305 => (some t305)) else (some false)) else (some false)) else (some false)) else (some false))))) ?_
  refine hRE.bind (f := fun k bt300 => ((barscanlaw34_ints.f k (tokL l0) (tokL l0)).bind fun t304 => (if t304 = true then (if (0 : Int) = 0 then (if (strOfNums (expL [] l1).1).toList = (strOfNums bt300.1).toList then (if (expL [] l1).2 = bt300.2 then ((barscanlaw34_examples.f).bind fun t305 => (some t305)) else (some false)) else (some false)) else (some false)) else (some false)))) ?_
  refine hI.bind (f := fun k t304 => (if t304 = true then (if (0 : Int) = 0 then (if (strOfNums (expL [] l1).1).toList = (strOfNums (expL [] l1).1).toList then (if (expL [] l1).2 = (expL [] l1).2 then ((barscanlaw34_examples.f).bind fun t305 => (some t305)) else (some false)) else (some false)) else (some false)) else (some false))) ?_
  exact Ev.congr (f := fun _ => some true) (fun k => by simp [barscanlaw34_examples.f]) (Ev.now _)
end Go.Proofs.Ytldhpniflnbilaa.Pure
