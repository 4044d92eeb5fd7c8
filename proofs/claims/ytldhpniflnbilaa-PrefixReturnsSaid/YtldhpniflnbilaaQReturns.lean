/- PrefixReturns: what Encode returns is decoded, symbol by symbol. -/
import Derived.Test.YtldhpniflnbilaaQ4
import Derived.Test.YtldhpniflnbilaaQ6
import Derived.Test.YtldhpniflnbilaaP33x32
set_option linter.unusedVariables false
set_option linter.unusedSimpArgs false
set_option linter.unusedSectionVars false
namespace Go.Proofs.Ytldhpniflnbilaa.Pure
open Go.RowKit Go.Proofs.Ytldhpniflnbilaa.P33 Go.Proofs.Ytldhpniflnbilaa Go.Proofs.YtldhpniflnbilaaW.PrintWords Go.Proofs.YtldhpniflnbilaaW.PrintLast Go.Proofs.YtldhpniflnbilaaW.PrintMore

/-! ### What Decode reads from a code -/
theorem bitsOf_get (v : Int) : ∀ (m n : Nat) (h : n < (bitsOf v m).length), (bitsOf v m)[n] = bit v (m - 1 - n)
  | 0, n, h => by rw [bitsOf_length] at h; omega
  | m + 1, 0, h => by simp [bitsOf]
  | m + 1, n + 1, h => by
    simp only [bitsOf, List.getElem_cons_succ]
    rw [bitsOf_get v m n]
    congr 1
    omega
theorem half (v : Int) (n : Nat) : v / 2 ^ n = 2 * (v / 2 ^ (n + 1)) + v / 2 ^ n % 2 := by
  rw [Int.pow_succ, ← Int.ediv_ediv_of_nonneg (Int.le_of_lt (pow_pos' n))]
  omega
theorem valB_bits (pre rest : List Bool) (v : Int) (m : Nat) (h0 : 0 ≤ v) (hm : v < 2 ^ m) : ∀ n, n ≤ m → valB (pre ++ (bitsOf v m ++ rest)) pre.length n = v / 2 ^ (m - n) := by
  intro n
  induction n with
  | zero => intro _; rw [valB, Nat.sub_zero, Int.ediv_eq_zero_of_lt h0 hm]
  | succ n ih =>
    intro hn
    have hl : n < (bitsOf v m).length := by rw [bitsOf_length]; omega
    have e : (pre ++ (bitsOf v m ++ rest)).getD (pre.length + n) false = bit v (m - 1 - n) := by
      rw [List.getD_eq_getElem?_getD, List.getElem?_append_right (by omega), Nat.add_sub_cancel_left, List.getElem?_append_left hl, List.getElem?_eq_getElem hl, Option.getD_some, bitsOf_get]
    rw [valB, ih (by omega), e, show m - n = (m - 1 - n) + 1 by omega, show m - (n + 1) = m - 1 - n by omega, half v (m - 1 - n)]
    unfold bit
    have h2 : v / 2 ^ (m - 1 - n) % 2 = 0 ∨ v / 2 ^ (m - 1 - n) % 2 = 1 := by omega
    rcases h2 with h2 | h2 <;> rw [h2] <;> simp
theorem findL_none (l c : List Int) (n v : Int) : ∀ d i, (∀ j : Nat, i ≤ j → j < i + d → ¬ (0 < n ∧ rd l (j : Int) = n ∧ rd c (j : Int) = v)) → findL l c n v d i = none
  | 0, i, _ => rfl
  | d + 1, i, h => by
    rw [findL, if_neg (h i (by omega) (by omega))]
    exact findL_none l c n v d (i + 1) (fun j h1 h2 => h j (by omega) (by omega))
theorem findL_some (l c : List Int) (n v : Int) (s : Nat) : ∀ d i, i ≤ s → s < i + d → (0 < n ∧ rd l (s : Int) = n ∧ rd c (s : Int) = v) → (∀ j : Nat, i ≤ j → j < s → ¬ (0 < n ∧ rd l (j : Int) = n ∧ rd c (j : Int) = v)) → findL l c n v d i = some s
  | 0, i, h1, h2, _, _ => by omega
  | d + 1, i, h1, h2, h3, h4 => by
    rw [findL]
    by_cases e : i = s
    · subst e
      rw [if_pos h3]
    · rw [if_neg (h4 i (by omega) (by omega))]
      exact findL_some l c n v s d (i + 1) (by omega) (by omega) h3 (fun j q1 q2 => h4 j (by omega) q2)
theorem begL_true (l c : List Int) (v n : Int) (s : Nat) : ∀ d i, i ≤ s → s < i + d → (0 < rd l (s : Int) ∧ n ≤ rd l (s : Int) ∧ rd c (s : Int) / 2 ^ (rd l (s : Int) - n).toNat = v) → begL l c v n d i = true
  | 0, i, h1, h2, _ => by omega
  | d + 1, i, h1, h2, h3 => by
    rw [begL]
    by_cases e : i = s
    · subst e
      rw [if_pos h3]
    · split
      · rfl
      · exact begL_true l c v n s d (i + 1) (by omega) (by omega) h3
theorem decL_code (l : List Int) (hw : withinL l 30 = true) (hk : kraftS l ≤ 1073741824) (s : Nat) (hs : s < l.length) (hp : 0 < l[s]) (pre rest : List Bool) :
    ∀ (d n : Nat), d + n = 32 → (n : Int) ≤ l[s] → decL l (codesL l) (pre ++ (bitsOf (codeAt l s) (l[s]).toNat ++ rest)) pre.length d n = ((s : Int), l[s], 0) := by
  obtain ⟨m, hm⟩ : ∃ m : Nat, l[s] = (m : Int) := ⟨(l[s]).toNat, by omega⟩
  have h30 := withinL_mem hw s hs
  have hpow := codeAt_pow l hk hw s hs hp
  have h0 := codeAt_nonneg l s
  have ers := rd_at l s hs
  have ecs : rd (codesL l) (s : Int) = codeAt l s := by rw [codesL_at l s hs, if_pos hp]
  have miss (n : Nat) (hn : n ≤ m) (j : Nat) (hj : j < l.length) (hjs : j ≠ s) : ¬ (0 < (n : Int) ∧ rd l (j : Int) = n ∧ rd (codesL l) (j : Int) = codeAt l s / 2 ^ (m - n)) := by
    rintro ⟨p, q, r⟩
    rw [rd_at l j hj] at q
    rw [codesL_at l j hj, if_pos (by omega)] at r
    have hf := front_facts l j s hj hs hjs (by omega) (by omega)
    have e : (l[s] - l[j]).toNat = m - n := by omega
    rw [e] at hf
    exact hf.1 r.symm
  rw [hm, Int.toNat_natCast]
  rw [hm, Int.toNat_natCast] at hpow
  intro d
  induction d with
  | zero => intro n hd hn; omega
  | succ d ih =>
    intro n hd hn
    have hv := valB_bits pre rest (codeAt l s) m h0 hpow n (by omega)
    rw [decL, hv]
    by_cases he : n = m
    · subst he
      rw [findL_some l (codesL l) _ _ s l.length 0 (by omega) (by omega) ⟨by omega, by rw [ers, hm], by rw [ecs, Nat.sub_self, Int.pow_zero, Int.ediv_one]⟩ (fun j _ hj => miss n (by omega) j (by omega) (by omega))]
      rfl
    · rw [findL_none l (codesL l) _ _ l.length 0 (fun j _ hj => by
        by_cases hjs : j = s
        · subst hjs
          rintro ⟨p, q, r⟩
          rw [ers, hm] at q
          omega
        · exact miss n (by omega) j (by omega) hjs)]
      rw [decS, hv, begL_true l (codesL l) _ _ s l.length 0 (by omega) (by omega) ⟨by rw [ers]; exact hp, by rw [ers, hm]; omega, by rw [ecs, ers, hm, show ((m : Int) - (n : Int)).toNat = m - n by omega]⟩, if_pos rfl, if_neg (by simp only [List.length_append, bitsOf_length]; omega)]
      exact ih (n + 1) (by omega) (by omega)
/-- What Encode returns when it succeeds. -/
def segs (l c : List Int) (syms : List Int) : List Bool := syms.flatMap fun s => bitsOf (rd c s) (rd l s).toNat
theorem encL_good (l c : List Int) (hw : withinL l 30 = true) : ∀ (syms : List Int) (out : List Bool), ((encL l c out syms).2 = 0 → (encL l c out syms).1 = out ++ segs l c syms ∧ ∀ s ∈ syms, 0 ≤ s ∧ s < (l.length : Int) ∧ 0 < rd l s) ∧ ((encL l c out syms).2 ≠ 0 → (encL l c out syms).1 = [])
  | [], out => by simp [encL, segs]
  | s :: r, out => by
    rw [encL]
    by_cases h1 : s < 0 ∨ (l.length : Int) ≤ s
    · rw [if_pos h1]; exact ⟨fun h => absurd h (by decide), fun _ => rfl⟩
    rw [if_neg h1]
    by_cases h2 : rd l s = 0
    · rw [if_pos h2]; exact ⟨fun h => absurd h (by decide), fun _ => rfl⟩
    rw [if_neg h2]
    by_cases h3 : 1048576 < (out.length : Int) + rd l s
    · rw [if_pos h3]; exact ⟨fun h => absurd h (by decide), fun _ => rfl⟩
    rw [if_neg h3]
    have ih := encL_good l c hw r (out ++ bitsOf (rd c s) (rd l s).toNat)
    refine ⟨fun h => ?_, ih.2⟩
    obtain ⟨p, q⟩ := ih.1 h
    refine ⟨by rw [p, segs, segs, List.flatMap_cons, List.append_assoc], fun x hx => ?_⟩
    rcases List.mem_cons.1 hx with rfl | hx
    · obtain ⟨t, rfl⟩ : ∃ t : Nat, x = (t : Int) := ⟨x.toNat, by omega⟩
      have := withinL_mem hw t (by omega)
      have er := rd_at l t (by omega)
      rw [er] at h2 ⊢
      omega
    · exact q x hx
theorem returns_loop (l syms : List Int) (hl : l.length ≤ 200) (hsy : syms.length ≤ 200) (hC : (CodesL l).2 = 0) (hw : withinL l 30 = true) (hk : kraftS l ≤ 1073741824) (b : List Bool) (hbl : b.length ≤ 2000000) (hb : b = segs l (codesL l) syms) (hv : ∀ s ∈ syms, 0 ≤ s ∧ s < (l.length : Int) ∧ 0 < rd l s) :
    ∀ (d i : Nat) (pre : List Bool), d + i = syms.length → b = pre ++ segs l (codesL l) (syms.drop i) → Ev (fun k => barscanlaw33_PrefixReturns.l0 k l syms b (pre.length : Int) (syms.length : Int) (i : Int)) true := by
  intro d
  induction d with
  | zero =>
    intro i pre hd hp
    rw [List.drop_eq_nil_of_le (by omega), segs, List.flatMap_nil, List.append_nil] at hp
    refine Ev.step (fun k => ?_) alive_end
    rw [barscanlaw33_PrefixReturns.l0, if_neg (by omega), if_pos (by rw [hp])]
  | succ d ih =>
    intro i pre hd hp
    have hi : i < syms.length := by omega
    rw [List.drop_eq_getElem_cons hi, segs, List.flatMap_cons] at hp
    obtain ⟨p, q, r⟩ := hv _ (List.getElem_mem hi)
    obtain ⟨t, ht⟩ : ∃ t : Nat, syms[i] = (t : Int) := ⟨(syms[i]).toNat, by omega⟩
    rw [ht] at p q r hp
    have htl : t < l.length := by omega
    have er := rd_at l t htl
    rw [er] at r hp
    rw [codesL_at l t htl, if_pos r] at hp
    have hdec : DecodeL l b (pre.length : Int) = ((t : Int), l[t], 0) := by
      unfold DecodeL
      rw [if_pos hC, if_neg (by rw [hp, List.length_append]; omega), Int.toNat_natCast, hp]
      exact decL_code l hw hk t htl r pre _ 32 0 rfl (by omega)
    have hle : pre.length + (l[t]).toNat ≤ b.length := by rw [hp]; simp only [List.length_append, bitsOf_length]; omega
    have next := ih (i + 1) (pre ++ bitsOf (codeAt l t) (l[t]).toNat) (by omega) (by rw [hp, List.append_assoc]; rfl)
    have el : ((pre ++ bitsOf (codeAt l t) (l[t]).toNat).length : Int) = (pre.length : Int) + l[t] := by rw [List.length_append, bitsOf_length]; omega
    rw [el] at next
    refine Ev.step (f := fun k => (prefix_Decode.f k l b (pre.length : Int)).bind fun bt424 => (if bt424.2.2 = 0 then (if 0 ≤ (i : Int) then (if (i : Int) < (syms.length : Int) then (if bt424.1 = (rd syms (i : Int)) then (if bt424.1 < 0 then (some false) else (if bt424.1 ≥ (l.length : Int) then (some false) else (if 0 ≤ bt424.1 then (if bt424.1 < (l.length : Int) then (if bt424.2.1 = (rd l bt424.1) then (barscanlaw33_PrefixReturns.l0 k l syms b (wrap64 ((pre.length : Int) + bt424.2.1)) (syms.length : Int) (wrap64 ((i : Int) + 1))) else (some false)) else (none)) else (none)))) else (some false)) else (none)) else (none)) else (some false))) (fun k => by rw [barscanlaw33_PrefixReturns.l0, if_pos (by omega)]) ?_
    refine Ev.bind (Decode_ev l b _ hbl) ?_
    rw [hdec]
    refine Ev.congr (fun k => ?_) next
    have h30 := withinL_mem hw t htl
    simp only
    rw [if_pos trivial, if_pos (by omega), if_pos (by omega), rd_at _ i hi, ht, if_pos rfl, if_neg (by omega), if_neg (by omega), if_pos (by omega), if_pos (by omega), er, if_pos rfl, wsucc i (by omega), wr _ (by omega) (by omega)]
theorem PrefixReturns : barscanlaw33_PrefixReturns.Pure := by
  intro l syms _ _ _ _ _ _
  apply Ev.rounds
  have yes : Ev (fun k => barscanlaw33_PrefixReturns.j0 k l syms true) true := Ev.step (fun k => by rw [barscanlaw33_PrefixReturns.j0, if_pos rfl]) alive_end
  by_cases h1 : (l.length : Int) > 200
  · exact Ev.congr (fun k => by rw [barscanlaw33_PrefixReturns.f, if_pos h1]) yes
  by_cases h2 : (syms.length : Int) > 200
  · exact Ev.congr (fun k => by rw [barscanlaw33_PrefixReturns.f, if_neg h1, decide_eq_true h2]) yes
  refine Ev.congr (f := fun k => barscanlaw33_PrefixReturns.j0 k l syms false) (fun k => by rw [barscanlaw33_PrefixReturns.f, if_neg h1, decide_eq_false h2]) ?_
  refine Ev.step (fun k => by rw [barscanlaw33_PrefixReturns.j0, if_neg (by decide)]) ?_
  refine Ev.bind (Encode_ev l syms (by omega)) ?_
  have hlen := EncodeL_length l syms
  by_cases hC : (CodesL l).2 = 0
  · obtain ⟨q1, q2, q3, q4⟩ := CodesL_ok hC
    have e : EncodeL l syms = encL l (codesL l) [] syms := by unfold EncodeL; rw [if_pos hC]
    rw [e] at hlen ⊢
    obtain ⟨g1, g2⟩ := encL_good l (codesL l) q2 syms []
    by_cases h3 : (encL l (codesL l) [] syms).2 = 0
    · simp only [if_pos h3]
      obtain ⟨p1, p2⟩ := g1 h3
      exact returns_loop l syms (by omega) (by omega) hC q2 q3 _ hlen p1 p2 syms.length 0 [] rfl p1
    · simp only [if_neg h3]
      rw [g2 h3]
      exact alive_end
  · have e : EncodeL l syms = ([], (CodesL l).2) := by unfold EncodeL; rw [if_neg hC]
    rw [e]
    simp only [if_neg hC]
    exact alive_end
end Go.Proofs.Ytldhpniflnbilaa.Pure
