/- The closed forms of the references of Encode and Decode. -/
import Derived.Test.YtldhpniflnbilaaQ6vv
import Derived.Test.YtldhpniflnbilaaP33x25vv
import Derived.Test.YtldhpniflnbilaaP33x28vv
import Derived.Test.YtldhpniflnbilaaP33x29vv
set_option linter.unusedVariables false
set_option linter.unusedSimpArgs false
set_option linter.unusedSectionVars false
namespace Go.Proofs.Ytldhpniflnbilaa.Pure
open Go.RowKit Go.Proofs.Ytldhpniflnbilaa.P33 Go.Proofs.Ytldhpniflnbilaa Go.Proofs.YtldhpniflnbilaaW.PrintWords Go.Proofs.YtldhpniflnbilaaW.PrintLast Go.Proofs.YtldhpniflnbilaaW.PrintMore
theorem app_l0 (v : Int) (h0 : 0 ≤ v) (h1 : v < 9223372036854775808) : ∀ (n : Nat) (out : List Bool), n ≤ 31 → out.length + n ≤ 2000000 → Ev (fun k => barscanref01_Append.l0 k v out ((n : Int) - 1)) (out ++ bitsOf v n, 0) := by
  intro n
  induction n with
  | zero =>
    intro out _ _
    rw [bitsOf, List.append_nil]
    exact Ev.step (f := fun _ => some (out, 0)) (fun k => by rw [barscanref01_Append.l0, if_neg (by omega)]) (Ev.now _)
  | succ n ih =>
    intro out hn ho
    have e : ((n + 1 : Nat) : Int) - 1 = (n : Int) := by omega
    rw [e]
    have := ih (out ++ [bit v n]) (by omega) (by simp; omega)
    rw [bitsOf, show out ++ bit v n :: bitsOf v n = (out ++ [bit v n]) ++ bitsOf v n by simp]
    refine Ev.step (fun k => ?_) this
    rw [barscanref01_Append.l0, if_pos (by omega), if_pos (u64_nonneg _), if_pos (by omega), bit_prog _ n (by omega) h0 h1, wr _ (by omega) (by omega)]
theorem app_ev (out : List Bool) (v : Int) (n : Nat) (h0 : 0 ≤ v) (h1 : v < 9223372036854775808) (hn : n ≤ 31) (ho : out.length ≤ 1048576) : Ev (fun k => barscanref01_Append.f k out v (n : Int)) (if 1048576 < (out.length : Int) + n then ([], 4) else (out ++ bitsOf v n, 0)) := by
  refine Ev.congr (f := fun k => barscanref01_Append.j0 k out v (n : Int) false) (fun k => by rw [barscanref01_Append.f, if_neg (by omega), decide_eq_false (by omega)]) ?_
  by_cases h : 1048576 < (out.length : Int) + n
  · rw [if_pos h]
    exact Ev.step (f := fun _ => some ([], 4)) (fun k => by rw [barscanref01_Append.j0, if_neg (by decide), wr _ (by omega) (by omega), if_pos (by omega)]) (Ev.now _)
  · rw [if_neg h]
    refine Ev.step (fun k => ?_) (app_l0 v h0 h1 n out hn (by omega))
    rw [barscanref01_Append.j0, if_neg (by decide), wr _ (by omega) (by omega), if_neg (by omega), if_pos (by simp; omega), List.nil_append, wr _ (by omega) (by omega)]
section
variable (l c : List Int) (hl : l.length ≤ 4096) (hcl : c.length = l.length) (hw : withinL l 30 = true) (hc : ∀ i, 0 ≤ rd c i ∧ rd c i < 9223372036854775808)
include hl hcl hw hc
theorem encR_l0 (syms : List Int) (hsy : syms.length ≤ 2000000) : ∀ (d j : Nat) (out : List Bool), d + j = syms.length → out.length ≤ 1048576 → Ev (fun k => barscanref33_Encode.l0 k l syms c out (j : Int)) (encL l c out (syms.drop j)) := by
  intro d
  induction d with
  | zero =>
    intro j out hd ho
    rw [List.drop_eq_nil_of_le (by omega), encL]
    exact Ev.step (f := fun _ => some (out, 0)) (fun k => by rw [barscanref33_Encode.l0, if_neg (by omega)]) (Ev.now _)
  | succ d ih =>
    intro j out hd ho
    have hj : j < syms.length := by omega
    rw [List.drop_eq_getElem_cons hj, encL]
    generalize hs : syms[j] = s
    have bad : Ev (fun k => barscanref33_Encode.j1 k l syms c out (j : Int) s true) ([], 3) := Ev.step (f := fun _ => some ([], 3)) (fun k => by rw [barscanref33_Encode.j1, if_pos rfl]) (Ev.now _)
    by_cases h1 : s < 0
    · rw [if_pos (.inl h1)]
      exact Ev.step (fun k => by rw [barscanref33_Encode.l0, if_pos (by omega), if_pos (by omega), rd_at _ j hj, hs, if_pos h1]) bad
    by_cases h2 : (l.length : Int) ≤ s
    · rw [if_pos (.inr h2)]
      exact Ev.step (fun k => by rw [barscanref33_Encode.l0, if_pos (by omega), if_pos (by omega), rd_at _ j hj, hs, if_neg h1, decide_eq_true (by omega)]) bad
    rw [if_neg (by omega)]
    refine Ev.step (f := fun k => barscanref33_Encode.j1 k l syms c out (j : Int) s false) (fun k => by rw [barscanref33_Encode.l0, if_pos (by omega), if_pos (by omega), rd_at _ j hj, hs, if_neg h1, decide_eq_false (by omega)]) ?_
    obtain ⟨t, rfl⟩ : ∃ t : Nat, s = (t : Int) := ⟨s.toNat, by omega⟩
    have ht : t < l.length := by omega
    obtain ⟨p, q⟩ := withinL_mem hw t ht
    have er := rd_at l t ht
    rw [er]
    by_cases h3 : l[t] = 0
    · rw [if_pos h3]
      exact Ev.step (f := fun _ => some ([], 29)) (fun k => by rw [barscanref33_Encode.j1, if_neg (by decide), if_pos (by omega), if_pos (by omega), er, if_pos h3]) (Ev.now _)
    rw [if_neg h3]
    obtain ⟨n, hn⟩ : ∃ n : Nat, l[t] = (n : Int) := ⟨(l[t]).toNat, by omega⟩
    have ha := app_ev out (rd c (t : Int)) n (hc _).1 (hc _).2 (by omega) ho
    refine Ev.step (f := fun k => (barscanref01_Append.f k out (rd c (t : Int)) (n : Int)).bind fun bt352 => (if bt352.2 = 0 then (barscanref33_Encode.l0 k l syms c bt352.1 ((j + 1 : Nat) : Int)) else (some (([] : List Bool), bt352.2)))) (fun k => by rw [barscanref33_Encode.j1, if_neg (by decide), if_pos (by omega), if_pos (by omega), er, if_neg h3, if_pos (by omega), hn, wsucc j (by omega)]) ?_
    refine Ev.bind ha ?_
    rw [hn, Int.toNat_natCast]
    by_cases h4 : 1048576 < (out.length : Int) + n
    · rw [if_pos h4, if_pos h4]
      exact Ev.now _
    · rw [if_neg h4, if_neg h4]
      exact ih (j + 1) (out ++ bitsOf (rd c (t : Int)) n) (by omega) (by simp [bitsOf_length]; omega)
end
theorem EncodeR_ev (l syms : List Int) (hs : syms.length ≤ 2000000) : Ev (fun k => barscanref33_Encode.f k l syms) (EncodeL l syms) := by
  refine Ev.bind (CodesR_ev l) ?_
  unfold EncodeL
  by_cases h : (CodesL l).2 = 0
  · obtain ⟨h1, h2, h3, h4⟩ := CodesL_ok h
    rw [h4]
    simp only [if_pos h]
    exact encR_l0 l (codesL l) h1 (codesL_length l) h2 (codeAt_top l h1 h2 h3) syms hs syms.length 0 [] rfl (by simp)
  · simp only [if_neg h]
    exact Ev.now _

theorem take_ev (b : List Bool) (at_ n : Nat) (hb : b.length ≤ 2000000) (hat : at_ ≤ b.length) (hn : n ≤ 32) : Ev (fun k => barscanref01_Take.f k b (at_ : Int) (n : Int)) (if b.length < at_ + n then (0, 10) else (valB b at_ n, 0)) := by
  refine Ev.congr (f := fun k => barscanref01_Take.j0 k b (at_ : Int) (n : Int) false) (fun k => by rw [barscanref01_Take.f, if_neg (by omega), if_neg (by omega), if_neg (by omega), decide_eq_false (by omega)]) ?_
  by_cases h : b.length < at_ + n
  · rw [if_pos h]
    exact Ev.step (f := fun _ => some (0, 10)) (fun k => by rw [barscanref01_Take.j0, if_neg (by decide), wr _ (by omega) (by omega), if_pos (by omega)]) (Ev.now _)
  · rw [if_neg h]
    have loop : ∀ d i : Nat, d + i = n → Ev (fun k => barscanref01_Take.l0 k b (at_ : Int) (n : Int) (valB b at_ i) ((at_ + i : Nat) : Int)) (valB b at_ n, 0) := by
      intro d
      induction d with
      | zero =>
        intro i hi
        obtain rfl : i = n := by omega
        exact Ev.step (f := fun _ => some (valB b at_ i, 0)) (fun k => by rw [barscanref01_Take.l0, wr _ (by omega) (by omega), if_neg (by omega)]) (Ev.now _)
      | succ d ih =>
        intro i hi
        obtain ⟨p, q⟩ := valB_small b at_ i (by omega)
        refine Ev.step (fun k => ?_) (ih (i + 1) (by omega))
        have eg : b.getD (at_ + i) false = b[at_ + i] := by simp [List.getD_eq_getElem?_getD, List.getElem?_eq_getElem (show at_ + i < b.length by omega)]
        rw [barscanref01_Take.l0, wr ((at_ : Int) + (n : Int)) (by omega) (by omega), if_pos (by omega), if_pos (by omega), if_pos (by omega), rdOf_at b (at_ + i) (by omega), wsucc (at_ + i) (by omega), wr (2 * valB b at_ i) (by omega) (by omega), wr (2 * valB b at_ i + 1) (by omega) (by omega), valB, eg, Nat.add_assoc]
        by_cases h3 : b[at_ + i] = true
        · rw [if_pos h3, if_pos h3]
        · rw [if_neg h3, if_neg h3, Int.add_zero]
    refine Ev.step (fun k => ?_) (loop n 0 rfl)
    rw [barscanref01_Take.j0, if_neg (by decide), wr _ (by omega) (by omega), if_neg (by omega)]
    rfl
section
variable (l c : List Int) (hl : l.length ≤ 4096) (hcl : c.length = l.length) (hw : withinL l 30 = true)
include hl hcl hw
theorem begR_loop (v : Int) (n : Nat) : ∀ d i, d + i = l.length → Ev (fun k => barscanref33_begins.l0 k l c v (n : Int) (i : Int)) (begL l c v n d i) := by
  intro d
  induction d with
  | zero =>
    intro i h
    exact Ev.step (f := fun _ => some false) (fun k => by rw [barscanref33_begins.l0, if_neg (by omega)]) (Ev.now _)
  | succ d ih =>
    intro i h
    have hi : i < l.length := by omega
    obtain ⟨p, q⟩ := withinL_mem hw i hi
    have next := ih (i + 1) (by omega)
    have er := rd_at l i hi
    rw [begL, er]
    by_cases h1 : 0 < l[i]
    · by_cases h2 : (n : Int) ≤ l[i]
      · by_cases h3 : rd c (i : Int) / 2 ^ (l[i] - n).toNat = v
        · rw [if_pos ⟨h1, h2, h3⟩]
          exact Ev.step (f := fun _ => some true) (fun k => by rw [barscanref33_begins.l0, if_pos (by omega), if_pos (by omega), er, if_pos h1, if_pos (by omega), if_pos (by omega), if_pos (u64_nonneg _), wr _ (by omega) (by omega), shr_nat _ _ (by omega) (by omega), if_pos h3]) (Ev.now _)
        · rw [if_neg (fun x => h3 x.2.2)]
          exact Ev.step (fun k => by rw [barscanref33_begins.l0, if_pos (by omega), if_pos (by omega), er, if_pos h1, if_pos (by omega), if_pos (by omega), if_pos (u64_nonneg _), wr (l[i] - (n : Int)) (by omega) (by omega), shr_nat _ _ (by omega) (by omega), if_neg h3, wsucc i (by omega)]) next
      · rw [if_neg (fun x => h2 x.2.1)]
        exact Ev.step (fun k => by rw [barscanref33_begins.l0, if_pos (by omega), if_pos (by omega), er, if_pos h1, if_neg (by omega), wsucc i (by omega)]) next
    · rw [if_neg (fun x => h1 x.1)]
      exact Ev.step (fun k => by rw [barscanref33_begins.l0, if_pos (by omega), if_pos (by omega), er, if_neg h1, wsucc i (by omega)]) next
theorem decR_l1 (b : List Bool) (at_ n : Nat) (hb : b.length ≤ 2000000) (hat : at_ + n ≤ b.length) (hn : n ≤ 31) (R : Int × Int × Int)
    (hR : begL l c (valB b at_ n) n l.length 0 = true → Ev (fun k => barscanref33_Decode.l0 k l b (at_ : Int) c ((n + 1 : Nat) : Int)) (if at_ + n = b.length then (0, 0, 10) else R)) :
    ∀ d i, d + i = l.length → Ev (fun k => barscanref33_Decode.l1 k l b (at_ : Int) c (n : Int) (valB b at_ n) (i : Int)) (decS l c b at_ n R (findL l c n (valB b at_ n) d i)) := by
  intro d
  induction d with
  | zero =>
    intro i h
    refine Ev.step (f := fun k => (barscanref33_begins.f k l c (valB b at_ n) (n : Int)).bind fun t369 => (if t369 = true then (barscanref33_Decode.l0 k l b (at_ : Int) c (wrap64 ((n : Int) + 1))) else (some (0, 0, 18)))) (fun k => by rw [barscanref33_Decode.l1, if_neg (by omega)]) ?_
    refine Ev.bind (begR_loop l c hl hcl hw (valB b at_ n) n l.length 0 rfl) ?_
    rw [findL, decS]
    by_cases h1 : begL l c (valB b at_ n) n l.length 0 = true
    · simp only [if_pos h1, wsucc n (show n ≤ 4611686018427387904 by omega)]
      exact hR h1
    · simp only [if_neg h1]
      exact Ev.now _
  | succ d ih =>
    intro i h
    have hi : i < l.length := by omega
    have er := rd_at l i hi
    have next := ih (i + 1) (by omega)
    rw [findL, er]
    by_cases h1 : 0 < (n : Int)
    · by_cases h2 : l[i] = (n : Int)
      · by_cases h3 : rd c (i : Int) = valB b at_ n
        · rw [if_pos ⟨h1, h2, h3⟩, decS]
          exact Ev.step (f := fun _ => some _) (fun k => by rw [barscanref33_Decode.l1, if_pos (by omega), if_pos h1, if_pos (by omega), er, if_pos h2, if_pos (by omega), if_pos h3]) (Ev.now _)
        · rw [if_neg (fun x => h3 x.2.2)]
          exact Ev.step (fun k => by rw [barscanref33_Decode.l1, if_pos (by omega), if_pos h1, if_pos (by omega), er, if_pos h2, if_pos (by omega), if_neg h3, wsucc i (by omega)]) next
      · rw [if_neg (fun x => h2 x.2.1)]
        exact Ev.step (fun k => by rw [barscanref33_Decode.l1, if_pos (by omega), if_pos h1, if_pos (by omega), er, if_neg h2, wsucc i (by omega)]) next
    · rw [if_neg (fun x => h1 x.1)]
      exact Ev.step (fun k => by rw [barscanref33_Decode.l1, if_pos (by omega), if_neg (by omega), wsucc i (by omega)]) next
theorem decR_l0 (b : List Bool) (at_ : Nat) (hb : b.length ≤ 2000000) (hat0 : at_ ≤ b.length) : ∀ d n, d + 1 + n = 32 → at_ + n ≤ b.length → Ev (fun k => barscanref33_Decode.l0 k l b (at_ : Int) c (n : Int)) (decL l c b at_ (d + 1) n) := by
  have one (n : Nat) (hn : n ≤ 31) (hat : at_ + n ≤ b.length) (r : Int × Int × Int) (h : Ev (fun k => barscanref33_Decode.l1 k l b (at_ : Int) c (n : Int) (valB b at_ n) 0) r) : Ev (fun k => barscanref33_Decode.l0 k l b (at_ : Int) c (n : Int)) r := by
    refine Ev.step (fun k => by rw [barscanref33_Decode.l0]) ?_
    refine Ev.bind (take_ev b at_ n hb hat0 (by omega)) ?_
    rw [if_neg (by omega)]
    simp only [if_pos]
    exact h
  intro d
  induction d with
  | zero =>
    intro n hd hat
    have hbeg := begL_end l c hl hcl hw (valB b at_ n) (n : Int) (by omega) l.length 0 rfl
    exact one n (by omega) hat _ (decR_l1 l c hl hcl hw b at_ n hb hat (by omega) _ (fun h => absurd (hbeg ▸ h) (by decide)) l.length 0 rfl)
  | succ d ih =>
    intro n hd hat
    refine one n (by omega) hat _ (decR_l1 l c hl hcl hw b at_ n hb hat (by omega) _ (fun _ => ?_) l.length 0 rfl)
    by_cases h : at_ + n = b.length
    · rw [if_pos h]
      refine Ev.step (fun k => by rw [barscanref33_Decode.l0]) ?_
      refine Ev.bind (take_ev b at_ (n + 1) hb hat0 (by omega)) ?_
      rw [if_pos (by omega)]
      exact Ev.now _
    · rw [if_neg h]
      exact ih (n + 1) (by omega) (by omega)
end
theorem DecodeR_ev (l : List Int) (b : List Bool) (at_ : Int) (hb : b.length ≤ 2000000) : Ev (fun k => barscanref33_Decode.f k l b at_) (DecodeL l b at_) := by
  refine Ev.bind (CodesR_ev l) ?_
  unfold DecodeL
  by_cases h : (CodesL l).2 = 0
  · obtain ⟨h1, h2, h3, h4⟩ := CodesL_ok h
    rw [h4]
    simp only [if_pos h]
    have bad : Ev (fun k => barscanref33_Decode.j0 k l b at_ (codesL l) true) (0, 0, 3) := Ev.step (f := fun _ => some (0, 0, 3)) (fun k => by rw [barscanref33_Decode.j0, if_pos rfl]) (Ev.now _)
    by_cases a1 : at_ < 0
    · rw [if_pos (.inl a1)]
      exact Ev.congr (fun k => by rw [if_pos a1]) bad
    by_cases a2 : (b.length : Int) < at_
    · rw [if_pos (.inr a2)]
      exact Ev.congr (fun k => by rw [if_neg a1, decide_eq_true (by omega)]) bad
    rw [if_neg (by omega)]
    refine Ev.congr (f := fun k => barscanref33_Decode.j0 k l b at_ (codesL l) false) (fun k => by rw [if_neg a1, decide_eq_false (by omega)]) ?_
    refine Ev.step (fun k => by rw [barscanref33_Decode.j0, if_neg (by decide)]) ?_
    have := decR_l0 l (codesL l) h1 (codesL_length l) h2 b at_.toNat hb (by omega) 31 0 rfl (by omega)
    rw [Int.toNat_of_nonneg (by omega)] at this
    exact this
  · simp only [if_neg h]
    exact Ev.now _
theorem same_loop (a b : List Bool) (hl : a.length ≤ 2000000) (he : a = b) : ∀ n i, n + i = a.length → Ev (fun k => barscanref01_Same.l0 k a b (i : Int)) true := by
  subst he
  intro n
  induction n with
  | zero =>
    intro i h
    exact Ev.step (f := fun _ => some true) (fun k => by rw [barscanref01_Same.l0, if_neg (by omega)]) (Ev.now _)
  | succ n ih =>
    intro i h
    exact Ev.step (fun k => by rw [barscanref01_Same.l0, if_pos (by omega), if_pos (by omega), if_pos (by omega), if_neg (by simp), wsucc i (by omega)]) (ih (i + 1) (by omega))
theorem same_ev (a : List Bool) (hl : a.length ≤ 2000000) : Ev (fun k => barscanref01_Same.f k a a) true :=
  Ev.congr (fun k => by rw [barscanref01_Same.f, if_pos rfl]; rfl) (same_loop a a hl rfl a.length 0 rfl)
end Go.Proofs.Ytldhpniflnbilaa.Pure
