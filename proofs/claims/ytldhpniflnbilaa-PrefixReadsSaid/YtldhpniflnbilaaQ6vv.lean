/- The closed forms of Encode and Decode and of their references. -/
import Derived.Test.YtldhpniflnbilaaQ3vv
set_option linter.unusedVariables false
set_option linter.unusedSimpArgs false
set_option linter.unusedSectionVars false
namespace Go.Proofs.Ytldhpniflnbilaa.Pure
open Go.RowKit Go.Proofs.Ytldhpniflnbilaa.P33 Go.Proofs.Ytldhpniflnbilaa Go.Proofs.YtldhpniflnbilaaW.PrintWords Go.Proofs.YtldhpniflnbilaaW.PrintLast Go.Proofs.YtldhpniflnbilaaW.PrintMore

/-! ### Encode -/
def bit (v : Int) (i : Nat) : Bool := decide (v / 2 ^ i % 2 = 1)
def bitsOf (v : Int) : Nat → List Bool
  | 0 => []
  | n + 1 => bit v n :: bitsOf v n
theorem bitsOf_length (v : Int) : ∀ n, (bitsOf v n).length = n
  | 0 => rfl
  | n + 1 => by rw [bitsOf, List.length_cons, bitsOf_length v n]
theorem and_one (x : Int) (h0 : 0 ≤ x) (h1 : x < 9223372036854775808) : Go.bits .and .i64 x 1 = x % 2 := by
  have := bits_mask .i64 63 (by decide) (fun n h0 h1 => by rw [IntKind.wrap_i64]; omega) 1 (by decide) x h0 (by simpa using h1)
  simpa using this
theorem pow_pos' (n : Nat) : (0 : Int) < 2 ^ n := by have : (0 : Int) < ((2 ^ n : Nat) : Int) := by exact_mod_cast Nat.two_pow_pos n
                                                     simpa using this
theorem ediv_small (v : Int) (n : Nat) (h0 : 0 ≤ v) (h1 : v < 9223372036854775808) : 0 ≤ v / 2 ^ n ∧ v / 2 ^ n < 9223372036854775808 := by
  have := Int.ediv_le_self (2 ^ n) h0
  have := Int.ediv_nonneg h0 (Int.le_of_lt (pow_pos' n))
  omega
theorem bit_prog (v : Int) (i : Nat) (hi : i ≤ 62) (h0 : 0 ≤ v) (h1 : v < 9223372036854775808) : ((Go.bits .and .i64 (shr .i64 v (IntKind.u64.wrap (i : Int))) 1) == 1) = bit v i := by
  obtain ⟨p, q⟩ := ediv_small v i h0 h1
  rw [shr_nat v _ (by omega) (by omega), Int.toNat_natCast, and_one _ p q]
  show (decide (v / 2 ^ i % 2 = 1)) = bit v i
  rfl
def encL (l c : List Int) : List Bool → List Int → List Bool × Int
  | out, [] => (out, 0)
  | out, s :: r => if s < 0 ∨ (l.length : Int) ≤ s then ([], 3) else if rd l s = 0 then ([], 29) else if 1048576 < (out.length : Int) + rd l s then ([], 4) else encL l c (out ++ bitsOf (rd c s) (rd l s).toNat) r
section
variable (l c : List Int) (hl : l.length ≤ 4096) (hcl : c.length = l.length) (hw : withinL l 30 = true) (hc : ∀ i, 0 ≤ rd c i ∧ rd c i < 9223372036854775808)
include hl hcl hw hc
theorem enc_l1 (syms : List Int) (s : Int) (hs0 : 0 ≤ s) (hs1 : s < (l.length : Int)) (j : Nat) (hj : j ≤ 2000000) (R : List Bool × Int) :
    ∀ (n : Nat) (out : List Bool), n ≤ 31 → out.length + n ≤ 2000000 → Ev (fun k => prefix_Encode.l0 k l c (out ++ bitsOf (rd c s) n) syms (syms.length : Int) ((j + 1 : Nat) : Int)) R →
      Ev (fun k => prefix_Encode.l1 k l c out s ((n : Int) - 1) syms (syms.length : Int) (j : Int)) R := by
  intro n
  induction n with
  | zero =>
    intro out _ _ hR
    rw [bitsOf, List.append_nil] at hR
    refine Ev.step (fun k => ?_) hR
    rw [prefix_Encode.l1, if_neg (by omega), wsucc j (by omega)]
  | succ n ih =>
    intro out hn ho hR
    have e : ((n + 1 : Nat) : Int) - 1 = (n : Int) := by omega
    rw [e]
    rw [bitsOf, show out ++ bit (rd c s) n :: bitsOf (rd c s) n = (out ++ [bit (rd c s) n]) ++ bitsOf (rd c s) n by simp] at hR
    refine Ev.step (fun k => ?_) (ih (out ++ [bit (rd c s) n]) (by omega) (by simp; omega) hR)
    rw [prefix_Encode.l1, if_pos (by omega), if_pos (by omega), if_pos (by omega), if_pos (u64_nonneg _), if_pos (by omega), bit_prog _ n (by omega) (hc s).1 (hc s).2, wr _ (by omega) (by omega)]
theorem enc_l0 (syms : List Int) (hsy : syms.length ≤ 2000000) : ∀ (d j : Nat) (out : List Bool), d + j = syms.length → out.length ≤ 1048576 → Ev (fun k => prefix_Encode.l0 k l c out syms (syms.length : Int) (j : Int)) (encL l c out (syms.drop j)) := by
  intro d
  induction d with
  | zero =>
    intro j out hd ho
    rw [List.drop_eq_nil_of_le (by omega), encL]
    exact Ev.step (f := fun _ => some (out, 0)) (fun k => by rw [prefix_Encode.l0, if_neg (by omega)]) (Ev.now _)
  | succ d ih =>
    intro j out hd ho
    have hj : j < syms.length := by omega
    rw [List.drop_eq_getElem_cons hj, encL]
    generalize hs : syms[j] = s
    have bad : Ev (fun k => prefix_Encode.j1 k l c out s syms (syms.length : Int) (j : Int) true) ([], 3) := Ev.step (f := fun _ => some ([], 3)) (fun k => by rw [prefix_Encode.j1, if_pos rfl]) (Ev.now _)
    by_cases h1 : s < 0
    · rw [if_pos (.inl h1)]
      exact Ev.step (fun k => by rw [prefix_Encode.l0, if_pos (by omega), if_pos (by omega), if_pos (by omega), rd_at _ j hj, hs, if_pos h1]) bad
    by_cases h2 : (l.length : Int) ≤ s
    · rw [if_pos (.inr h2)]
      exact Ev.step (fun k => by rw [prefix_Encode.l0, if_pos (by omega), if_pos (by omega), if_pos (by omega), rd_at _ j hj, hs, if_neg h1, decide_eq_true (by omega)]) bad
    rw [if_neg (by omega)]
    refine Ev.step (f := fun k => prefix_Encode.j1 k l c out s syms (syms.length : Int) (j : Int) false) (fun k => by rw [prefix_Encode.l0, if_pos (by omega), if_pos (by omega), if_pos (by omega), rd_at _ j hj, hs, if_neg h1, decide_eq_false (by omega)]) ?_
    obtain ⟨t, rfl⟩ : ∃ t : Nat, s = (t : Int) := ⟨s.toNat, by omega⟩
    have ht : t < l.length := by omega
    obtain ⟨p, q⟩ := withinL_mem hw t ht
    have er := rd_at l t ht
    rw [er]
    by_cases h3 : l[t] = 0
    · rw [if_pos h3]
      exact Ev.step (f := fun _ => some ([], 29)) (fun k => by rw [prefix_Encode.j1, if_neg (by decide), if_pos (by omega), if_pos (by omega), er, if_pos h3]) (Ev.now _)
    rw [if_neg h3]
    by_cases h4 : 1048576 < (out.length : Int) + l[t]
    · rw [if_pos h4]
      exact Ev.step (f := fun _ => some ([], 4)) (fun k => by rw [prefix_Encode.j1, if_neg (by decide), if_pos (by omega), if_pos (by omega), er, if_neg h3, wr _ (by omega) (by omega), if_pos (by omega)]) (Ev.now _)
    rw [if_neg h4]
    obtain ⟨n, hn⟩ : ∃ n : Nat, l[t] = (n : Int) := ⟨(l[t]).toNat, by omega⟩
    have := enc_l1 l c hl hcl hw hc syms (t : Int) (by omega) (by omega) j (by omega) _ n out (by omega) (by omega) (ih (j + 1) (out ++ bitsOf (rd c (t : Int)) n) (by omega) (by simp [bitsOf_length]; omega))
    rw [hn, Int.toNat_natCast]
    refine Ev.step (fun k => ?_) this
    rw [prefix_Encode.j1, if_neg (by decide), if_pos (by omega), if_pos (by omega), er, if_neg h3, wr _ (by omega) (by omega), if_neg (by omega), hn, wr _ (by omega) (by omega)]
end
theorem codeAt_top (l : List Int) (hl : l.length ≤ 4096) (hw : withinL l 30 = true) (hk : kraftS l ≤ 1073741824) (i : Int) : 0 ≤ rd (codesL l) i ∧ rd (codesL l) i < 9223372036854775808 := by
  by_cases h : i.toNat < l.length
  · have e : rd (codesL l) i = if 0 < l[i.toNat] then codeAt l i.toNat else 0 := by
      unfold rd
      rw [List.getD_eq_getElem?_getD, List.getElem?_eq_getElem (by rw [codesL_length]; exact h), Option.getD_some]
      simp only [codesL, List.getElem_map, List.getElem_range, getD_at l _ h]
    rw [e]
    split
    · unfold codeAt
      have h2 := withinL_mem hw _ h
      have h3 := firstN_small l hk ((l.getD i.toNat 0).toNat - 1) (by rw [getD_at l _ h]; omega)
      have h4 := count_le l i.toNat (l.getD i.toNat 0)
      omega
    · omega
  · have e : rd (codesL l) i = 0 := by
      unfold rd
      rw [List.getD_eq_getElem?_getD, List.getElem?_eq_none (by rw [codesL_length]; omega)]
      rfl
    omega
def EncodeL (l syms : List Int) : List Bool × Int := if (CodesL l).2 = 0 then encL l (codesL l) [] syms else ([], (CodesL l).2)
theorem CodesL_ok {l : List Int} (h : (CodesL l).2 = 0) : l.length ≤ 4096 ∧ withinL l 30 = true ∧ kraftS l ≤ 1073741824 ∧ (CodesL l).1 = codesL l := by
  unfold CodesL at *
  by_cases hc : checkL l = 0
  · simp only [if_pos hc] at h ⊢
    obtain ⟨h1, h2⟩ := checkL_zero hc
    by_cases hk : 1073741824 < kraftS l
    · simp only [if_pos hk] at h; omega
    · simp only [if_neg hk] at h ⊢
      exact ⟨h1, h2, by omega, trivial⟩
  · simp only [if_neg hc] at h
    exact absurd h hc
theorem Encode_ev (l syms : List Int) (hs : syms.length ≤ 2000000) : Ev (fun k => prefix_Encode.f k l syms) (EncodeL l syms) := by
  refine Ev.bind (Codes_ev l) ?_
  unfold EncodeL
  by_cases h : (CodesL l).2 = 0
  · obtain ⟨h1, h2, h3, h4⟩ := CodesL_ok h
    rw [h4]
    simp only [if_pos h]
    exact enc_l0 l (codesL l) h1 (codesL_length l) h2 (codeAt_top l h1 h2 h3) syms hs syms.length 0 [] rfl (by simp)
  · simp only [if_neg h]
    exact Ev.now _
/-! ### Decode -/
def valB (b : List Bool) (at_ : Nat) : Nat → Int
  | 0 => 0
  | n + 1 => 2 * valB b at_ n + (if b.getD (at_ + n) false = true then 1 else 0)
theorem valB_range (b : List Bool) (at_ : Nat) : ∀ n, 0 ≤ valB b at_ n ∧ valB b at_ n < 2 ^ n
  | 0 => by simp [valB]
  | n + 1 => by
    obtain ⟨p, q⟩ := valB_range b at_ n
    rw [valB, Int.pow_succ]
    split <;> omega
theorem valB_small (b : List Bool) (at_ n : Nat) (hn : n ≤ 31) : 0 ≤ valB b at_ n ∧ valB b at_ n < 2147483648 := by
  obtain ⟨p, q⟩ := valB_range b at_ n
  have h1 : 2 ^ n ≤ 2 ^ 31 := Nat.pow_le_pow_right (by decide) hn
  have e : ((2 : Int) ^ n) = ((2 ^ n : Nat) : Int) := by simp
  omega
def findL (l c : List Int) (n v : Int) : Nat → Nat → Option Nat
  | 0, _ => none
  | d + 1, i => if 0 < n ∧ rd l (i : Int) = n ∧ rd c (i : Int) = v then some i else findL l c n v d (i + 1)
def begL (l c : List Int) (v n : Int) : Nat → Nat → Bool
  | 0, _ => false
  | d + 1, i => if 0 < rd l (i : Int) ∧ n ≤ rd l (i : Int) ∧ rd c (i : Int) / 2 ^ (rd l (i : Int) - n).toNat = v then true else begL l c v n d (i + 1)
def decS (l c : List Int) (b : List Bool) (at_ n : Nat) (R : Int × Int × Int) : Option Nat → Int × Int × Int
  | some j => (j, n, 0)
  | none => if begL l c (valB b at_ n) n l.length 0 = true then (if at_ + n = b.length then (0, 0, 10) else R) else (0, 0, 18)
def decL (l c : List Int) (b : List Bool) (at_ : Nat) : Nat → Nat → Int × Int × Int
  | 0, _ => (0, 0, 18)
  | d + 1, n => decS l c b at_ n (decL l c b at_ d (n + 1)) (findL l c n (valB b at_ n) l.length 0)
section
variable (l c : List Int) (hl : l.length ≤ 4096) (hcl : c.length = l.length) (hw : withinL l 30 = true)
include hl hcl hw
theorem beg_loop (v : Int) (n : Nat) : ∀ d i, d + i = l.length → Ev (fun k => prefix_begins.l0 k c v (n : Int) l (l.length : Int) (i : Int)) (begL l c v n d i) := by
  intro d
  induction d with
  | zero =>
    intro i h
    exact Ev.step (f := fun _ => some false) (fun k => by rw [prefix_begins.l0, if_neg (by omega)]) (Ev.now _)
  | succ d ih =>
    intro i h
    have hi : i < l.length := by omega
    obtain ⟨p, q⟩ := withinL_mem hw i hi
    have next := ih (i + 1) (by omega)
    have er := rd_at l i hi
    rw [begL, er]
    by_cases h1 : 0 < l[i]
    · by_cases h2 : (n : Int) ≤ l[i]
      · by_cases h3 : rd c (i : Int) / 2 ^ (l[i] - n).toNat = v
        · rw [if_pos ⟨h1, h2, h3⟩]
          exact Ev.step (f := fun _ => some true) (fun k => by rw [prefix_begins.l0, if_pos (by omega), if_pos (by omega), if_pos (by omega), er, if_pos h1, if_pos (by omega), if_pos (by omega), if_pos (u64_nonneg _), wr _ (by omega) (by omega), shr_nat _ _ (by omega) (by omega), if_pos h3]) (Ev.now _)
        · rw [if_neg (fun x => h3 x.2.2)]
          exact Ev.step (fun k => by rw [prefix_begins.l0, if_pos (by omega), if_pos (by omega), if_pos (by omega), er, if_pos h1, if_pos (by omega), if_pos (by omega), if_pos (u64_nonneg _), wr (l[i] - (n : Int)) (by omega) (by omega), shr_nat _ _ (by omega) (by omega), if_neg h3, wsucc i (by omega)]) next
      · rw [if_neg (fun x => h2 x.2.1)]
        exact Ev.step (fun k => by rw [prefix_begins.l0, if_pos (by omega), if_pos (by omega), if_pos (by omega), er, if_pos h1, if_neg (by omega), wsucc i (by omega)]) next
    · rw [if_neg (fun x => h1 x.1)]
      exact Ev.step (fun k => by rw [prefix_begins.l0, if_pos (by omega), if_pos (by omega), if_pos (by omega), er, if_neg h1, wsucc i (by omega)]) next
theorem begL_end (v n : Int) (hn : 30 < n) : ∀ d i, d + i = l.length → begL l c v n d i = false := by
  intro d
  induction d with
  | zero => intro i _; rfl
  | succ d ih =>
    intro i h
    have hi : i < l.length := by omega
    obtain ⟨p, q⟩ := withinL_mem hw i hi
    rw [begL, rd_at l i hi, if_neg (by omega)]
    exact ih (i + 1) (by omega)
theorem dec_l1 (b : List Bool) (at_ n : Nat) (hb : b.length ≤ 2000000) (hat : at_ + n ≤ b.length) (hn : n ≤ 31) (R : Int × Int × Int)
    (hR : begL l c (valB b at_ n) n l.length 0 = true → at_ + n < b.length → Ev (fun k => prefix_Decode.l0 k l b (at_ : Int) c (valB b at_ (n + 1)) ((n + 1 : Nat) : Int)) R) :
    ∀ d i, d + i = l.length → Ev (fun k => prefix_Decode.l1 k l b (at_ : Int) c (valB b at_ n) (n : Int) l (l.length : Int) (i : Int)) (decS l c b at_ n R (findL l c n (valB b at_ n) d i)) := by
  intro d
  induction d with
  | zero =>
    intro i h
    refine Ev.step (f := fun k => (prefix_begins.f k l c (valB b at_ n) (n : Int)).bind fun t140 => (if t140 = true then (if (wrap64 ((at_ : Int) + (n : Int))) = (b.length : Int) then (some (0, 0, 10)) else (if 0 ≤ (wrap64 ((at_ : Int) + (n : Int))) then (if (wrap64 ((at_ : Int) + (n : Int))) < (b.length : Int) then (if rdOf false b (wrap64 ((at_ : Int) + (n : Int))) = true then (prefix_Decode.l0 k l b (at_ : Int) c (wrap64 ((wrap64 ((valB b at_ n) * 2)) + 1)) (wrap64 ((n : Int) + 1))) else (prefix_Decode.l0 k l b (at_ : Int) c (wrap64 ((valB b at_ n) * 2)) (wrap64 ((n : Int) + 1)))) else (none)) else (none))) else (some (0, 0, 18)))) (fun k => by rw [prefix_Decode.l1, if_neg (by omega)]) ?_
    refine Ev.bind (beg_loop l c hl hcl hw (valB b at_ n) n l.length 0 rfl) ?_
    rw [findL, decS]
    obtain ⟨p, q⟩ := valB_small b at_ n hn
    by_cases h1 : begL l c (valB b at_ n) n l.length 0 = true
    · simp only [if_pos h1]
      have ea : wrap64 ((at_ : Int) + (n : Int)) = ((at_ + n : Nat) : Int) := by rw [wr _ (by omega) (by omega)]; omega
      rw [ea]
      by_cases h2 : at_ + n = b.length
      · rw [if_pos h2]
        exact Ev.congr (f := fun _ => some (0, 0, 10)) (fun k => by rw [if_pos (by omega)]) (Ev.now _)
      · rw [if_neg h2]
        refine Ev.congr (fun k => ?_) (hR h1 (by omega))
        rw [if_neg (by omega), if_pos (by omega), if_pos (by omega), rdOf_at b (at_ + n) (by omega), wsucc n (by omega), wr (valB b at_ n * 2) (by omega) (by omega), wr (valB b at_ n * 2 + 1) (by omega) (by omega)]
        have eg : b.getD (at_ + n) false = b[at_ + n] := by simp [List.getD_eq_getElem?_getD, List.getElem?_eq_getElem (show at_ + n < b.length by omega)]
        rw [valB, eg]
        by_cases h3 : b[at_ + n] = true
        · rw [if_pos h3, if_pos h3, Int.mul_comm]
        · rw [if_neg h3, if_neg h3, Int.mul_comm, Int.add_zero]
    · simp only [if_neg h1]
      exact Ev.now _
  | succ d ih =>
    intro i h
    have hi : i < l.length := by omega
    have er := rd_at l i hi
    have next := ih (i + 1) (by omega)
    rw [findL, er]
    by_cases h1 : 0 < (n : Int)
    · by_cases h2 : l[i] = (n : Int)
      · by_cases h3 : rd c (i : Int) = valB b at_ n
        · rw [if_pos ⟨h1, h2, h3⟩, decS]
          exact Ev.step (f := fun _ => some _) (fun k => by rw [prefix_Decode.l1, if_pos (by omega), if_pos (by omega), if_pos (by omega), if_pos h1, er, if_pos h2, if_pos (by omega), if_pos h3]) (Ev.now _)
        · rw [if_neg (fun x => h3 x.2.2)]
          exact Ev.step (fun k => by rw [prefix_Decode.l1, if_pos (by omega), if_pos (by omega), if_pos (by omega), if_pos h1, er, if_pos h2, if_pos (by omega), if_neg h3, wsucc i (by omega)]) next
      · rw [if_neg (fun x => h2 x.2.1)]
        exact Ev.step (fun k => by rw [prefix_Decode.l1, if_pos (by omega), if_pos (by omega), if_pos (by omega), if_pos h1, er, if_neg h2, wsucc i (by omega)]) next
    · rw [if_neg (fun x => h1 x.1)]
      exact Ev.step (fun k => by rw [prefix_Decode.l1, if_pos (by omega), if_pos (by omega), if_pos (by omega), if_neg (by omega), wsucc i (by omega)]) next
theorem dec_l0 (b : List Bool) (at_ : Nat) (hb : b.length ≤ 2000000) : ∀ d n, d + 1 + n = 32 → at_ + n ≤ b.length → Ev (fun k => prefix_Decode.l0 k l b (at_ : Int) c (valB b at_ n) (n : Int)) (decL l c b at_ (d + 1) n) := by
  intro d
  induction d with
  | zero =>
    intro n hd hat
    have hbeg := begL_end l c hl hcl hw (valB b at_ n) (n : Int) (by omega) l.length 0 rfl
    refine Ev.step (fun k => by rw [prefix_Decode.l0]) ?_
    exact dec_l1 l c hl hcl hw b at_ n hb hat (by omega) _ (fun h _ => absurd (hbeg ▸ h) (by decide)) l.length 0 rfl
  | succ d ih =>
    intro n hd hat
    refine Ev.step (fun k => by rw [prefix_Decode.l0]) ?_
    exact dec_l1 l c hl hcl hw b at_ n hb hat (by omega) _ (fun _ h => ih (n + 1) (by omega) (by omega)) l.length 0 rfl
end
def DecodeL (l : List Int) (b : List Bool) (at_ : Int) : Int × Int × Int :=
  if (CodesL l).2 = 0 then (if at_ < 0 ∨ (b.length : Int) < at_ then (0, 0, 3) else decL l (codesL l) b at_.toNat 32 0) else (0, 0, (CodesL l).2)
theorem Decode_ev (l : List Int) (b : List Bool) (at_ : Int) (hb : b.length ≤ 2000000) : Ev (fun k => prefix_Decode.f k l b at_) (DecodeL l b at_) := by
  refine Ev.bind (Codes_ev l) ?_
  unfold DecodeL
  by_cases h : (CodesL l).2 = 0
  · obtain ⟨h1, h2, h3, h4⟩ := CodesL_ok h
    rw [h4]
    simp only [if_pos h]
    have bad : Ev (fun k => prefix_Decode.j0 k l b at_ (codesL l) true) (0, 0, 3) := Ev.step (f := fun _ => some (0, 0, 3)) (fun k => by rw [prefix_Decode.j0, if_pos rfl]) (Ev.now _)
    by_cases a1 : at_ < 0
    · rw [if_pos (.inl a1)]
      exact Ev.congr (fun k => by rw [if_pos a1]) bad
    by_cases a2 : (b.length : Int) < at_
    · rw [if_pos (.inr a2)]
      exact Ev.congr (fun k => by rw [if_neg a1, decide_eq_true (by omega)]) bad
    rw [if_neg (by omega)]
    refine Ev.congr (f := fun k => prefix_Decode.j0 k l b at_ (codesL l) false) (fun k => by rw [if_neg a1, decide_eq_false (by omega)]) ?_
    refine Ev.step (fun k => by rw [prefix_Decode.j0, if_neg (by decide)]) ?_
    have := dec_l0 l (codesL l) h1 (codesL_length l) h2 b at_.toNat hb 31 0 rfl (by omega)
    rw [Int.toNat_of_nonneg (by omega)] at this
    exact this
  · simp only [if_neg h]
    exact Ev.now _
/-! ### Same -/
theorem encL_length (l c : List Int) : ∀ (syms : List Int) (out : List Bool), out.length ≤ 1048576 → (encL l c out syms).1.length ≤ 1048576 + 100
  | [], out, h => by rw [encL]; simp only; omega
  | s :: r, out, h => by
    rw [encL]
    split
    · simp
    · split
      · simp
      · split
        · simp
        · apply encL_length l c r
          rw [List.length_append, bitsOf_length]
          omega
theorem EncodeL_length (l syms : List Int) : (EncodeL l syms).1.length ≤ 2000000 := by
  unfold EncodeL
  split
  · have := encL_length l (codesL l) syms [] (by simp); omega
  · simp
end Go.Proofs.Ytldhpniflnbilaa.Pure
