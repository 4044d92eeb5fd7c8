/- DeflateFactors: what Expand makes of the tokens of data. -/
import Derived.Test.YtldhpniflnbilaaE1vv
import Derived.Test.YtldhpniflnbilaaPLx44vv
set_option linter.unusedVariables false
set_option linter.unusedSimpArgs false
set_option linter.unusedSectionVars false
namespace Go.Proofs.Ytldhpniflnbilaa.Pure
open Go.RowKit Go.Proofs.Ytldhpniflnbilaa.PL Go.Proofs.Ytldhpniflnbilaa Go.Proofs.YtldhpniflnbilaaW.PrintWords Go.Proofs.YtldhpniflnbilaaW.PrintLast Go.Proofs.YtldhpniflnbilaaW.PrintMore

theorem sameGo_eq (p : List Int) (a b : Nat) : ∀ f n m, n ≤ m → m < sameGo p a b f n → rd p ((a + m : Nat) : Int) = rd p ((b + m : Nat) : Int)
  | 0, n, m, h, h1 => by simp [sameGo] at h1; omega
  | f + 1, n, m, h, h1 => by
    unfold sameGo at h1
    split at h1
    · rename_i hc
      by_cases e : m = n
      · subst e; exact hc.2.2
      · exact sameGo_eq p a b f (n + 1) m (by omega) h1
    · omega
theorem bestGo_src (p : List Int) (i : Nat) : ∀ (l : List Int) (s : Int × Int), (∀ j ∈ l, 0 ≤ j ∧ j < (i : Int)) → (0 < s.1 → ∃ j : Nat, j < i ∧ s.2 = (i : Int) - j ∧ s.1 = (sameN p j i : Int)) → 0 < (bestGo p i l s).1 → ∃ j : Nat, j < i ∧ (bestGo p i l s).2 = (i : Int) - j ∧ (bestGo p i l s).1 = (sameN p j i : Int)
  | [], s, _, h => h
  | j :: r, s, hl, h => by
    unfold bestGo
    split
    · exact h
    · have hj := hl j (by simp)
      refine bestGo_src p i r _ (fun x hx => hl x (by simp [hx])) ?_
      split
      · exact fun _ => ⟨j.toNat, by omega, by simp only; omega, rfl⟩
      · exact h
theorem bestAt_src (p : List Int) (i : Nat) (h : (bestAt p i).1 ≠ 0) (hi : i ≤ p.length) : ∃ j : Nat, j < i ∧ (bestAt p i).2 = (i : Int) - j ∧ (bestAt p i).1 = (sameN p j i : Int) := by
  have hok := bestAt_ok p i hi
  have hp : 0 < (bestAt p i).1 := by omega
  unfold bestAt at hp ⊢
  split at hp
  · rename_i hc
    rw [if_pos hc]
    exact bestGo_src p i _ (0, 0) (fun j hj => headsN_mem p i _ j (List.mem_reverse.1 hj)) (fun h => by simp at h) hp
  · simp at hp
theorem take_snoc (p : List Int) (k : Nat) (h : k < p.length) : p.take k ++ [rd p (k : Int)] = p.take (k + 1) := by
  rw [rd_at p k h, List.take_succ_eq_append_getElem h]
theorem copyN_take (p : List Int) (i j : Nat) (hj : j < i) (hs : i + sameN p j i ≤ p.length) : ∀ m k, i ≤ k → k + m ≤ i + sameN p j i → copyN (i - j) m (p.take k) = p.take (k + m)
  | 0, k, _, _ => rfl
  | m + 1, k, h, h1 => by
    have hl : (p.take k).length = k := by rw [List.length_take]; omega
    have e : rd (p.take k) ((k - (i - j) : Nat) : Int) = rd p (k : Int) := by
      have e1 := sameGo_eq p j i 259 0 (k - i) (by omega) (by show k - i < sameN p j i; omega)
      rw [show j + (k - i) = k - (i - j) by omega, show i + (k - i) = k by omega] at e1
      rw [← e1, rd_at _ _ (by omega), rd_at p _ (by omega)]
      simp
    rw [copyN, hl, e, take_snoc p k (by omega), copyN_take p i j hj hs m (k + 1) (by omega) (by omega), show k + 1 + m = k + (m + 1) by omega]
theorem expL_toks (p : List Int) (hb : Bytes p) (hl : p.length ≤ 2000000) : ∀ f i, i ≤ p.length → p.length ≤ f + i → expL (p.take i) (tokGo p f i) = (p, 0)
  | 0, i, h, h1 => by rw [List.take_of_length_le (by omega)]; rfl
  | f + 1, i, h, h1 => by
    rw [tokGo_succ]
    have hlt : (p.take i).length = i := by rw [List.length_take]; omega
    by_cases c : i < p.length
    · rw [if_pos c]
      by_cases c0 : (bestAt p i).1 = 0
      · have hr := hb (i : Int)
        rw [if_pos c0, expL, if_pos (by omega), if_pos (by omega), take_snoc p i c]
        exact expL_toks p hb hl f (i + 1) (by omega) (by omega)
      · rw [if_neg c0]
        have hok := bestAt_ok p i h
        have h3 := bestAt_three p i
        obtain ⟨j, hj, e2, e1⟩ := bestAt_src p i c0 h
        have hc := copyN_take p i j hj (by omega) (sameN p j i) i (Nat.le_refl _) (Nat.le_refl _)
        have hn := expL_toks p hb hl f (i + sameN p j i) (by omega) (by omega)
        rw [e2, e1]
        generalize sameN p j i = n at *
        have q1 : ((n : Int) * 65536 + ((i : Int) - j)) / 65536 = n := by omega
        have q2 : ((n : Int) * 65536 + ((i : Int) - j)) % 65536 = (i : Int) - j := by omega
        rw [expL, q1, q2, if_neg (by omega), if_neg (by omega), if_neg (by omega), if_neg (by omega), Int.toNat_natCast, show ((i : Int) - j).toNat = i - j by omega, hc]
        exact hn
    · rw [if_neg c, List.take_of_length_le (by omega)]; rfl
def TokOf (p : List Int) (t : Int) : Prop := (0 ≤ t ∧ t ≤ 255) ∨ ∃ n d : Int, t = n * 65536 + d ∧ 3 ≤ n ∧ n ≤ 258 ∧ 1 ≤ d ∧ d ≤ 32768 ∧ d ≤ p.length
theorem tokGo_of (p : List Int) (hb : Bytes p) : ∀ f i, ∀ t ∈ tokGo p f i, TokOf p t
  | 0, i, t, h => by cases h
  | f + 1, i, t, h => by
    rw [tokGo_succ] at h
    by_cases c : i < p.length
    · rw [if_pos c] at h
      by_cases c0 : (bestAt p i).1 = 0
      · rw [if_pos c0] at h
        rcases List.mem_cons.1 h with h | h
        · have hr := hb (i : Int)
          exact .inl (by omega)
        · exact tokGo_of p hb f _ t h
      · rw [if_neg c0] at h
        rcases List.mem_cons.1 h with h | h
        · have hok := bestAt_ok p i (by omega)
          have h3 := bestAt_three p i
          exact .inr ⟨_, _, h, by omega, by omega, by omega, by omega, by omega⟩
        · exact tokGo_of p hb f _ t h
    · rw [if_neg c] at h; cases h
theorem TokOf.range {p : List Int} {t : Int} (h : TokOf p t) : -9223372036854775808 ≤ t ∧ t < 9223372036854775808 := by
  rcases h with h | ⟨n, d, e, h⟩ <;> omega
theorem tokGo_len (p : List Int) : ∀ f i, (tokGo p f i).length ≤ f
  | 0, i => Nat.le_refl _
  | f + 1, i => by
    rw [tokGo_succ]
    split
    · split
      · have := tokGo_len p f (i + 1); simp; omega
      · have := tokGo_len p f (i + (bestAt p i).1.toNat); simp; omega
    · simp
theorem fac_loop (p l : List Int) (hl : l.length ≤ 2000000) (hp : p.length ≤ 2000000) (ht : ∀ t ∈ l, TokOf p t) : ∀ q j, q + j = l.length → Ev (fun k => barscanlaw34_DeflateFactors.l0 k p l (l.length : Int) (j : Int)) true
  | 0, j, h => Ev.step (f := fun _ => some true) (fun k => by rw [barscanlaw34_DeflateFactors.l0, if_neg (by omega)]; rfl) (Ev.now _)
  | q + 1, j, h => by
    have hj : j < l.length := by omega
    have hR := fac_loop p l hl hp ht q (j + 1) (by omega)
    have ho := ht l[j] (List.getElem_mem hj)
    have er := rd_at l j hj
    generalize l[j] = t at *
    refine Ev.step (fun k => ?_) hR
    rw [barscanlaw34_DeflateFactors.l0, if_pos (by omega), if_pos (by omega), if_pos (by omega), er, wsucc j (by omega)]
    rcases ho with ho | ⟨n, d, e, ho⟩
    · rw [if_neg (by omega), if_neg (by omega)]
    · have q1 : Int.tdiv t 65536 = n := by rw [Int.tdiv_eq_ediv_of_nonneg (by omega)]; omega
      have q2 : Int.tmod t 65536 = d := by rw [Int.tmod_eq_emod_of_nonneg (by omega)]; omega
      rw [q1, q2, wr n (by omega) (by omega), if_neg (by omega), if_pos (by omega), if_neg (by omega), if_neg (by omega), if_neg (by omega), if_neg (by omega)]
theorem wf_bytes {l : List Int} (h : ∀ x ∈ l, (Lit.int .u8 x).wf = true) : isBytes l = true := by
  refine List.all_eq_true.2 fun x hx => ?_
  have := h x hx
  simp [Lit.wf, IntKind.min, IntKind.max, IntKind.bits, IntKind.signed] at this
  simp only [Bool.and_eq_true, decide_eq_true_eq]; omega
theorem DeflateFactors : barscanlaw34_DeflateFactors.Pure := by
  intro l0 _ _ hw
  have hb := wf_bytes hw
  by_cases h : (l0.length : Int) > 2000
  · exact ⟨0, by rw [barscanlaw34_DeflateFactors.f, if_pos h]; rfl⟩
  · have hbr := isBytes_rd hb
    have hm : deflate_Matches.f l0 = some (tokL l0, 0) := by
      rw [deflate_Matches.f, if_neg (by omega), deflate_tokens.f, if_pos ⟨by omega, hb⟩]; rfl
    have hln : (tokL l0).length ≤ 2000000 := by have := tokGo_len l0 l0.length 0; unfold tokL; omega
    have hof : ∀ t ∈ tokL l0, TokOf l0 t := tokGo_of l0 hbr _ _
    have he : expL [] (tokL l0) = (l0, 0) := expL_toks l0 hbr (by omega) l0.length 0 (by omega) (by omega)
    have hE := Expand_ev (tokL l0) hln (fun t ht => (hof t ht).range)
    rw [he] at hE
    have hF : Ev (fun k => barscanlaw34_DeflateFactors.f k l0) true := by
      refine Ev.congr (fun k => by rw [barscanlaw34_DeflateFactors.f, if_neg h, hm]; rfl) (hE.bind (f := fun k bt => if (0:Int) = 0 then (if bt.2 = 0 then (barscanlaw34_DeflateFactors.j0 k l0 (tokL l0) ((strOfNums l0).toList != (strOfNums bt.1).toList)) else (barscanlaw34_DeflateFactors.j0 k l0 (tokL l0) true)) else (barscanlaw34_DeflateFactors.j0 k l0 (tokL l0) true)) ?_)
      refine Ev.congr (f := fun k => barscanlaw34_DeflateFactors.j0 k l0 (tokL l0) false) (fun k => by simp) ?_
      exact Ev.step (fun k => by rw [barscanlaw34_DeflateFactors.j0, if_neg (by decide)]; rfl) (fac_loop l0 (tokL l0) hln (by omega) hof (tokL l0).length 0 rfl)
    exact hF.rounds
end Go.Proofs.Ytldhpniflnbilaa.Pure
