/- PrefixLengths: the reference's package-merge on lists gives the same lengths. -/
import Derived.Test.YtldhpniflnbilaaQ3vv
import Derived.Test.YtldhpniflnbilaaP33x17vv
set_option linter.unusedVariables false
set_option linter.unusedSimpArgs false
set_option linter.unusedSectionVars false
namespace Go.Proofs.Ytldhpniflnbilaa.Pure
open Go.RowKit Go.Proofs.Ytldhpniflnbilaa.P33 Go.Proofs.Ytldhpniflnbilaa Go.Proofs.YtldhpniflnbilaaW.PrintWords Go.Proofs.YtldhpniflnbilaaW.PrintLast Go.Proofs.YtldhpniflnbilaaW.PrintMore

def phi (t : Tr) : S73 := ⟨t.wt, t.syms⟩
theorem rdT_at (ts : List Tr) (i : Nat) (h : i < ts.length) : rd_T73 (ts.map phi) (i : Int) = phi ts[i] := by
  simp [rd_T73, List.getD_eq_getElem?_getD, List.getElem?_eq_getElem h]
theorem rdT0 (ts : List Tr) (i : Nat) (h : i < ts.length) : (rd_T73 (ts.map phi) (i : Int)).f0 = (ts[i]).wt := by rw [rdT_at ts i h]; rfl
theorem rdT1 (ts : List Tr) (i : Nat) (h : i < ts.length) : (rd_T73 (ts.map phi) (i : Int)).f1 = (ts[i]).syms := by rw [rdT_at ts i h]; rfl
def SortedT (l : List Tr) : Prop := l.Pairwise fun x y => x.wt ≤ y.wt
theorem insT_sorted (x : Tr) : ∀ l, SortedT l → SortedT (insT x l)
  | [], _ => by simp [insT, SortedT]
  | y :: ys, h => by
    have h' := List.pairwise_cons.1 h
    unfold insT
    split
    · refine List.pairwise_cons.2 ⟨fun z hz => ?_, insT_sorted x ys h'.2⟩
      rcases mem_insT x ys z hz with rfl | hz
      · assumption
      · exact h'.1 z hz
    · refine List.pairwise_cons.2 ⟨fun z hz => ?_, h⟩
      rcases List.mem_cons.1 hz with rfl | hz
      · omega
      · have := h'.1 z hz; omega
theorem insT_at (x : Tr) : ∀ (k : Nat) (ts : List Tr), k ≤ ts.length → (∀ j (hj : j < ts.length), j < k → ts[j].wt ≤ x.wt) → (∀ j (hj : j < ts.length), k ≤ j → x.wt < ts[j].wt) → insT x ts = ts.take k ++ x :: ts.drop k
  | 0, [], _, _, _ => rfl
  | 0, y :: ys, _, _, h => by
    have := h 0 (by simp) (by omega)
    simp only [List.getElem_cons_zero] at this
    unfold insT
    rw [if_neg (by omega)]
    rfl
  | k + 1, [], hk, _, _ => by simp at hk
  | k + 1, y :: ys, hk, h1, h2 => by
    have := h1 0 (by simp) (by omega)
    simp only [List.getElem_cons_zero] at this
    unfold insT
    rw [if_pos this, insT_at x k ys (by simpa using hk) (fun j hj hjk => by have h := h1 (j + 1) (by simpa using hj) (by omega); rw [List.getElem_cons_succ] at h; exact h) (fun j hj hjk => by have h := h2 (j + 1) (by simpa using hj) (by omega); rw [List.getElem_cons_succ] at h; exact h)]
    rfl
theorem sorted_le {ts : List Tr} (h : SortedT ts) (i j : Nat) (hij : i ≤ j) (hj : j < ts.length) : (ts[i]'(by omega)).wt ≤ ts[j].wt := by
  by_cases e : i = j
  · subst e; omega
  · exact List.pairwise_iff_getElem.1 h i j (by omega) hj (by omega)
theorem insert_cut (x : Tr) (ts : List Tr) (k : Nat) (hl : ts.length ≤ 4096) (hk : k ≤ ts.length) (hs : SortedT ts) (h1 : ∀ h0 : 0 < k, (ts[k - 1]'(by omega)).wt ≤ x.wt) (h2 : ∀ j (hj : j < ts.length), k ≤ j → x.wt < ts[j].wt) :
    (if 0 ≤ (k : Int) then (if (k : Int) ≤ ((ts.map phi).length : Int) then ((some ((ts.map phi).take (k : Int).toNat : List (S73))).bind fun y201 => (if ([] : List (S73)).length + y201.length < 4398046511104 then ((some (([] : List (S73)) ++ y201 : List (S73))).bind fun y206 => (if y206.length < 4398046511104 then ((some (y206 ++ [(⟨x.wt, x.syms⟩ : S73)] : List (S73))).bind fun y209 => ((some ((ts.map phi).drop (k : Int).toNat : List (S73))).bind fun y212 => (if y209.length + y212.length < 4398046511104 then (some (y209 ++ y212)) else (none)))) else (none))) else (none))) else (none)) else (none)) = some ((insT x ts).map phi) := by
  rw [insT_at x k ts hk (fun j hj hjk => by have := sorted_le hs j (k - 1) (by omega) (by omega); have := h1 (by omega); omega) h2]
  simp only [Option.bind_some, Int.toNat_natCast, List.nil_append, List.length_nil, List.length_take, List.length_map, List.length_append, List.length_drop, List.length_cons]
  rw [if_pos (by omega), if_pos (by omega), if_pos (by omega), if_pos (by omega), if_pos (by omega)]
  simp [phi, List.map_take, List.map_drop]
theorem insert_loop (x : Tr) (ts : List Tr) (hl : ts.length ≤ 4096) (hs : SortedT ts) : ∀ k, k ≤ ts.length → (∀ j (hj : j < ts.length), k ≤ j → x.wt < ts[j].wt) → Ev (fun q => barscanref33_insert.l0 q (ts.map phi) (k : Int) x.wt x.syms) ((insT x ts).map phi) := by
  intro k
  induction k with
  | zero =>
    intro hk h2
    refine Ev.step (f := fun _ => some ((insT x ts).map phi)) (fun q => ?_) (Ev.now _)
    rw [barscanref33_insert.l0, if_neg (by omega)]
    exact insert_cut x ts 0 hl hk hs (fun h => absurd h (by omega)) h2
  | succ k ih =>
    intro hk h2
    have e : wrap64 (((k + 1 : Nat) : Int) - 1) = (k : Int) := by rw [wr _ (by omega) (by omega)]; omega
    by_cases h : x.wt < (ts[k]'(by omega)).wt
    · refine Ev.step (fun q => ?_) (ih (by omega) (fun j hj hkj => ?_))
      · rw [barscanref33_insert.l0, if_pos (by omega), e, if_pos (by omega), if_pos (by rw [List.length_map]; omega), rdT0 ts k (by omega), if_pos h]
      · by_cases ej : j = k
        · subst ej; exact h
        · exact h2 j hj (by omega)
    · refine Ev.step (f := fun _ => some ((insT x ts).map phi)) (fun q => ?_) (Ev.now _)
      rw [barscanref33_insert.l0, if_pos (by omega), e, if_pos (by omega), if_pos (by rw [List.length_map]; omega), rdT0 ts k (by omega), if_neg h]
      exact insert_cut x ts (k + 1) hl hk hs (fun _ => by simp only [Nat.add_sub_cancel]; omega) h2
theorem insert_ev (x : Tr) (ts : List Tr) (hl : ts.length ≤ 4096) (hs : SortedT ts) : Ev (fun q => barscanref33_insert.f q (ts.map phi) x.wt x.syms) ((insT x ts).map phi) := by
  have := insert_loop x ts hl hs ts.length (Nat.le_refl _) (fun j hj h => absurd hj (by omega))
  refine Ev.congr (fun q => ?_) this
  rw [barscanref33_insert.f, List.length_map]

/-! ### merged -/
theorem mergeT_nil_cons (y : Tr) (ys : List Tr) : mergeT [] (y :: ys) = y :: mergeT [] ys := rfl
section
variable (S L : List Tr) (hS : S.length ≤ 4096) (hL : L.length ≤ 8192) (hsy : ∀ t ∈ L, t.syms.length ≤ 1073741824)
include hS hL hsy
omit hsy in
theorem merged_in (p : Tr) (k : Nat) (hk : k + 1 < L.length) (r : List S73)
    (hR : ∀ (i : Nat) (out : List S73), i ≤ S.length → out.length + (S.length - i) + (L.length - (k + 2)) ≤ 12288 → out ++ (mergeT (S.drop i) (packT (L.drop (k + 2)))).map phi = r → Ev (fun q => barscanref33_merged.l0 q (S.map phi) (L.map phi) out (i : Int) ((k + 2 : Nat) : Int)) r) :
    ∀ (d i : Nat) (out : List S73), d + i = S.length → out.length + (S.length - i) + (L.length - k) ≤ 12288 → out ++ (mergeT (S.drop i) (p :: packT (L.drop (k + 2)))).map phi = r →
      Ev (fun q => barscanref33_merged.l1 q (S.map phi) (L.map phi) out (i : Int) (k : Int) p.wt p.syms) r := by
  have ek : wrap64 ((k : Int) + 2) = ((k + 2 : Nat) : Int) := by rw [wr _ (by omega) (by omega)]; omega
  intro d
  induction d with
  | zero =>
    intro i out hd ho hr
    refine Ev.step (fun q => ?_) (hR i (out ++ [phi p]) (by omega) (by simp; omega) ?_)
    · rw [barscanref33_merged.l1, if_neg (by rw [List.length_map]; omega), if_pos (by omega), ek]
      rfl
    · rw [← hr, List.drop_eq_nil_of_le (by omega : S.length ≤ i), mergeT_nil, mergeT_nil]
      simp
  | succ d ih =>
    intro i out hd ho hr
    have hi : i < S.length := by omega
    by_cases h : (S[i]).wt ≤ p.wt
    · refine Ev.step (fun q => ?_) (ih (i + 1) (out ++ [phi S[i]]) (by omega) (by simp; omega) ?_)
      · rw [barscanref33_merged.l1, if_pos (by rw [List.length_map]; omega), if_pos (by omega), rdT0 S i hi, if_pos h, if_pos (by omega), wsucc i (by omega), rdT1 S i hi]
        rfl
      · rw [← hr, List.drop_eq_getElem_cons hi, mergeT_cons, if_pos h]
        simp
    · refine Ev.step (fun q => ?_) (hR i (out ++ [phi p]) (by omega) (by simp; omega) ?_)
      · rw [barscanref33_merged.l1, if_pos (by rw [List.length_map]; omega), if_pos (by omega), rdT0 S i hi, if_neg h, if_pos (by omega), ek]
        rfl
      · rw [← hr, List.drop_eq_getElem_cons hi, mergeT_cons, if_neg h]
        simp
theorem merged_out (r : List S73) : ∀ (d k i : Nat) (out : List S73), L.length ≤ d + k → i ≤ S.length → k ≤ L.length + 1 → out.length + (S.length - i) + (L.length - k) ≤ 12288 → out ++ (mergeT (S.drop i) (packT (L.drop k))).map phi = r →
    Ev (fun q => barscanref33_merged.l0 q (S.map phi) (L.map phi) out (i : Int) (k : Int)) r := by
  intro d
  induction d using Nat.strongRecOn with
  | _ d ih =>
    intro k i out hd hi hk ho hr
    have e1 := wsucc k (by omega)
    by_cases h : k + 1 < L.length
    · rw [packT_drop L k h] at hr
      have l1 := hsy L[k] (List.getElem_mem _)
      have l2 := hsy L[k + 1] (List.getElem_mem _)
      have := merged_in S L hS hL (.node (wrap64 ((L[k]).wt + (L[k + 1]).wt)) L[k] L[k + 1]) k h r (fun i' out' hi' ho' hr' => ih (d - 2) (by omega) (k + 2) i' out' (by omega) hi' (by omega) ho' hr') (S.length - i) i out (by omega) ho hr
      refine Ev.step (fun q => ?_) this
      rw [barscanref33_merged.l0, e1, if_pos (by rw [List.length_map]; omega), if_pos (by omega), if_pos (by rw [List.length_map]; omega), if_pos (by omega), rdT0 L k (by omega), rdT0 L (k + 1) h, rdT1 L k (by omega), rdT1 L (k + 1) h, if_pos (by simp only [List.length_nil]; omega), List.nil_append, Option.bind_some, if_pos (by omega)]
      rfl
    · rw [packT_drop_end L k h, mergeT_nil_right] at hr
      refine Ev.step (f := fun _ => some r) (fun q => ?_) (Ev.now _)
      rw [barscanref33_merged.l0, e1, if_neg (by rw [List.length_map]; omega), if_pos (by omega), if_pos (by rw [List.length_map]; omega), Int.toNat_natCast]
      simp only [Option.bind_some]
      rw [if_pos (by simp only [List.length_drop, List.length_map]; omega), ← hr, List.map_drop]
theorem merged_ev : Ev (fun q => barscanref33_merged.f q (S.map phi) (L.map phi)) ((mergeT S (packT L)).map phi) :=
  merged_out S L hS hL hsy _ L.length 0 0 [] (by omega) (by omega) (by omega) (by simp only [List.length_nil]; omega) rfl
end
/-! ### The loops of the reference -/
theorem ref_l3 (S : List Tr) (L : List Tr) (hL : L.length ≤ 8192) (i : Nat) (hi : i < L.length) (hsy : (L[i]).syms.length ≤ 1073741824) (n : Nat) (hin : ∀ s ∈ (L[i]).syms, 0 ≤ s ∧ s < (n : Int)) (r : List Int × Int)
    (hR : ∀ o : List Int, o.length = n → Ev (fun q => barscanref33_Lengths.l2 q (S.map phi) o (L.map phi) ((i + 1 : Nat) : Int)) r → True) :
    ∀ (d c : Nat) (o : List Int), d + c = (L[i]).syms.length → o.length = n → Ev (fun q => barscanref33_Lengths.l2 q (S.map phi) (bumps o ((L[i]).syms.drop c)) (L.map phi) ((i + 1 : Nat) : Int)) r →
      Ev (fun q => barscanref33_Lengths.l3 q (S.map phi) o (L.map phi) (i : Int) (c : Int)) r := by
  intro d
  induction d with
  | zero =>
    intro c o hd ho hr
    rw [List.drop_eq_nil_of_le (by omega), bumps] at hr
    refine Ev.step (fun q => ?_) hr
    rw [barscanref33_Lengths.l3, if_pos (by omega), if_pos (by rw [List.length_map]; omega), rdT1 L i hi, if_neg (by omega), wsucc i (by omega)]
  | succ d ih =>
    intro c o hd ho hr
    have hc : c < (L[i]).syms.length := by omega
    rw [List.drop_eq_getElem_cons hc, bumps] at hr
    obtain ⟨p, q⟩ := hin _ (List.getElem_mem hc)
    refine Ev.step (fun k => ?_) (ih (c + 1) (bump o (L[i]).syms[c]) (by omega) (by rw [bump_length]; exact ho) hr)
    rw [barscanref33_Lengths.l3, if_pos (by omega), if_pos (by rw [List.length_map]; omega), rdT1 L i hi, if_pos (by omega), if_pos (by omega), rd_at _ c hc, if_pos p, if_pos (by omega), wsucc c (by omega)]
    rfl
theorem ref_l2 (S L : List Tr) (N : Nat) (hN : N = 2 * S.length - 2) (hS : S.length ≤ 4096) (hL : L.length ≤ 8192) (hNL : N ≤ L.length) (hsy : ∀ t ∈ L, t.syms.length ≤ 1073741824) (n : Nat) (hin : SymsIn n L) :
    ∀ (d i : Nat) (o : List Int), d + i = N → o.length = n → Ev (fun q => barscanref33_Lengths.l2 q (S.map phi) o (L.map phi) (i : Int)) (bumps o (((L.take N).drop i).flatMap Tr.syms), 0) := by
  have eN : wrap64 (wrap64 (2 * ((S.map phi).length : Int)) - 2) = 2 * (S.length : Int) - 2 := by
    rw [List.length_map, wr (2 * (S.length : Int)) (by omega) (by omega), wr _ (by omega) (by omega)]
  intro d
  induction d with
  | zero =>
    intro i o hd ho
    rw [List.drop_eq_nil_of_le (by rw [List.length_take]; omega)]
    refine Ev.step (f := fun _ => some (o, 0)) (fun q => ?_) (Ev.now _)
    rw [barscanref33_Lengths.l2, eN, if_neg (by omega)]
  | succ d ih =>
    intro i o hd ho
    have hi : i < L.length := by omega
    have e : (L.take N).drop i = L[i] :: (L.take N).drop (i + 1) := by
      rw [List.drop_eq_getElem_cons (by rw [List.length_take]; omega), List.getElem_take]
    rw [e, List.flatMap_cons, bumps_append]
    have hin' := hin L[i] (List.getElem_mem hi)
    have := ref_l3 S L hL i hi (hsy _ (List.getElem_mem hi)) n hin' _ (fun _ _ _ => trivial) (L[i]).syms.length 0 o (by omega) ho (by rw [List.drop_zero]; exact ih (i + 1) (bumps o (L[i]).syms) (by omega) (by rw [bumps_length]; exact ho))
    refine Ev.step (fun q => ?_) this
    rw [barscanref33_Lengths.l2, eN, if_pos (by omega)]
    rfl
theorem ref_l1 (S : List Tr) (m n : Nat) (hm : 1 ≤ m) (hm2 : m ≤ 30) (hS : S.length ≤ 4096) (hk : S.length ≤ 2 ^ m) (h1 : ∀ t ∈ S, t.syms.length = 1) (hin : SymsIn n S) (o : List Int) (ho : o.length = n) :
    ∀ d i, d + i = m → 1 ≤ i → Ev (fun q => barscanref33_Lengths.l1 q (m : Int) (S.map phi) o ((treeLists S (i - 1)).map phi) (i : Int)) (bumps o (((treeLists S (m - 1)).take (2 * S.length - 2)).flatMap Tr.syms), 0) := by
  have hsy (j : Nat) (hj : j ≤ 30) : ∀ t ∈ treeLists S j, t.syms.length ≤ 1073741824 := fun t ht => by
    have := lists_syms S h1 j t ht
    have : 2 ^ j ≤ 2 ^ 30 := Nat.pow_le_pow_right (by decide) hj
    omega
  have hle (j : Nat) : (treeLists S j).length ≤ 8192 := by have := treeLists_le S j; omega
  intro d
  induction d with
  | zero =>
    intro i hd hi
    obtain rfl : i = m := by omega
    have hen := treeLists_enough S (i - 1) (by rw [Nat.sub_add_cancel hi]; exact hk)
    have := ref_l2 S (treeLists S (i - 1)) _ rfl hS (hle _) hen (hsy _ (by omega)) n (hin.lists _) _ 0 o rfl ho
    rw [List.drop_zero] at this
    refine Ev.step (fun q => ?_) this
    rw [barscanref33_Lengths.l1, if_neg (by omega)]
    rfl
  | succ d ih =>
    intro i hd hi
    have := ih (i + 1) (by omega) (by omega)
    rw [Nat.add_sub_cancel, show i = (i - 1) + 1 by omega, treeLists, show i - 1 + 1 = i by omega] at this
    refine Ev.step (fun q => ?_) (Ev.bind (f := fun q t => barscanref33_Lengths.l1 q (m : Int) (S.map phi) o t ((i + 1 : Nat) : Int)) (merged_ev S (treeLists S (i - 1)) hS (hle _) (hsy _ (by omega))) this)
    rw [barscanref33_Lengths.l1, if_pos (by omega), wsucc i (by omega)]
/-- What follows the list of singles. -/
theorem ref_end (l : List Int) (m : Nat) (S : List Tr) (hl : l.length ≤ 4096) (hm : 1 ≤ m) (hm2 : m ≤ 30) (hSe : isT (leafs l 0) = S) (hS : S.length ≤ 4096) :
    Ev (fun k => barscanref33_Lengths.l0 k l (m : Int) (S.map phi) (l.length : Int)) (if 2 ^ m < S.length then ([], 16) else (lengthsS l m, 0)) := by
  have hin : SymsIn l.length S := hSe ▸ syms_leafs l
  have h1 : ∀ t ∈ S, t.syms.length = 1 := hSe ▸ leafs_one l
  have e : ((2 : Int) ^ m) = ((2 ^ m : Nat) : Int) := by simp
  have start (q : Nat) : barscanref33_Lengths.l0 (q + 1) l (m : Int) (S.map phi) (l.length : Int) = if ((S.map phi).length : Int) > 2 ^ m then (some (([] : List Int), 16)) else (if ((S.map phi).length : Int) = 1 then (if 0 < ((S.map phi).length : Int) then (if 0 < (((rd_T73 (S.map phi) 0).f1).length : Int) then (if 0 ≤ (rd ((rd_T73 (S.map phi) 0).f1) 0) then (if (rd ((rd_T73 (S.map phi) 0).f1) 0) < ((List.replicate l.length (0 : Int)).length : Int) then (barscanref33_Lengths.j2 q (m : Int) (S.map phi) ((List.replicate l.length (0 : Int)).set ((rd ((rd_T73 (S.map phi) 0).f1) 0) : Int).toNat 1)) else (none)) else (none)) else (none)) else (none)) else (barscanref33_Lengths.j2 q (m : Int) (S.map phi) (List.replicate l.length (0 : Int)))) := by
    rw [barscanref33_Lengths.l0, if_neg (by omega), if_pos (u64_nonneg _), shl_one _ (by omega) (by omega), Int.toNat_natCast, if_pos (by omega : (0 : Int) ≤ (l.length : Int)), Int.toNat_natCast, if_pos (show l.length ≤ 35184372088832 by omega)]
    rfl
  by_cases hk : 2 ^ m < S.length
  · rw [if_pos hk]
    refine Ev.step (f := fun _ => some ([], 16)) (fun q => ?_) (Ev.now _)
    have hk2 : ((S.map phi).length : Int) > 2 ^ m := by rw [List.length_map, e]; omega
    rw [start, if_pos hk2]
  · rw [if_neg hk]
    have hne : ¬ ((S.map phi).length : Int) > 2 ^ m := by rw [List.length_map, e]; omega
    have main (o : List Int) (ho : o.length = l.length) : Ev (fun q => barscanref33_Lengths.j2 q (m : Int) (S.map phi) o) (bumps o (((treeLists S (m - 1)).take (2 * S.length - 2)).flatMap Tr.syms), 0) := by
      have := ref_l1 S m l.length hm hm2 hS (by omega) h1 hin o ho (m - 1) 1 (by omega) (by omega)
      refine Ev.step (fun q => ?_) this
      rw [barscanref33_Lengths.j2]
      rfl
    unfold lengthsS
    simp only [hSe]
    by_cases h : S.length = 1
    · rw [if_pos h]
      obtain ⟨t, rfl⟩ : ∃ t, S = [t] := List.length_eq_one_iff.1 h
      obtain ⟨s, f, rfl, q1, q2⟩ := leafs_in l 0 t (mem_isT _ _ (by rw [hSe]; simp))
      have := main ((List.replicate l.length 0).set s 1) (by simp)
      simp only [List.length_singleton] at this
      rw [show 2 * 1 - 2 = 0 by omega, List.take_zero, List.flatMap_nil, bumps] at this
      have er : rd_T73 (([Tr.leaf (s : Int) f] : List Tr).map phi) 0 = phi (Tr.leaf (s : Int) f) := rfl
      have es : rd ((phi (Tr.leaf (s : Int) f)).f1) 0 = (s : Int) := rfl
      refine Ev.step (fun q => ?_) this
      rw [start, if_neg hne, if_pos (by simp), if_pos (by simp), er, if_pos (by simp [phi, Tr.syms]), es, if_pos (by omega), if_pos (by rw [List.length_replicate]; omega), Int.toNat_natCast]
    · rw [if_neg h]
      have := main (List.replicate l.length 0) (by simp)
      refine Ev.step (fun q => by rw [start, if_neg hne, if_neg (by rw [List.length_map]; omega)]) ?_
      by_cases h2 : S.length < 2
      · rw [if_pos h2]
        have h0 : 2 * S.length - 2 = 0 := by omega
        rw [h0, List.take_zero, List.flatMap_nil, bumps] at this
        exact this
      · rw [if_neg h2]
        exact this
theorem ref_l0 (l : List Int) (m : Nat) (hl : l.length ≤ 4096) (r : List Int × Int) (S : List Tr)
    (hR : Ev (fun k => barscanref33_Lengths.l0 k l (m : Int) (S.map phi) (l.length : Int)) r) :
    ∀ (d i : Nat) (acc : List Tr), d + i = l.length → acc.length ≤ i → SortedT acc → (leafs (l.drop i) i).foldl (fun acc x => insT x acc) acc = S → Ev (fun k => barscanref33_Lengths.l0 k l (m : Int) (acc.map phi) (i : Int)) r := by
  intro d
  induction d with
  | zero =>
    intro i acc hd ha hs hf
    rw [List.drop_eq_nil_of_le (by omega), leafs, List.foldl_nil] at hf
    subst hf
    obtain rfl : i = l.length := by omega
    exact hR
  | succ d ih =>
    intro i acc hd ha hs hf
    have hi : i < l.length := by omega
    rw [leafs_step l i i hi] at hf
    by_cases h : 0 < rd l (i : Int)
    · rw [if_pos h, List.foldl_cons] at hf
      have := ih (i + 1) (insT (.leaf (i : Int) (rd l (i : Int))) acc) (by omega) (by rw [insT_length]; omega) (insT_sorted _ _ hs) hf
      refine Ev.step (fun k => ?_) (Ev.bind (f := fun k t => barscanref33_Lengths.l0 k l (m : Int) t ((i + 1 : Nat) : Int)) (insert_ev (.leaf (i : Int) (rd l (i : Int))) acc (by omega) hs) this)
      rw [barscanref33_Lengths.l0, if_pos (by omega), if_pos (by omega), if_pos h, wsucc i (by omega)]
      rfl
    · rw [if_neg h] at hf
      refine Ev.step (fun k => ?_) (ih (i + 1) acc (by omega) (by omega) hs hf)
      rw [barscanref33_Lengths.l0, if_pos (by omega), if_pos (by omega), if_neg h, wsucc i (by omega)]
theorem LengthsR_ev (l : List Int) (m : Int) : Ev (fun k => barscanref33_Lengths.f k l m) (lengthsF l m) := by
  unfold lengthsF
  by_cases hl : 4096 < l.length
  · rw [if_pos hl]
    exact Ev.congr (f := fun _ => some ([], 4)) (fun k => by rw [barscanref33_Lengths.f, if_pos (by omega)]) (Ev.now _)
  rw [if_neg hl]
  refine Ev.congr (fun k => by rw [barscanref33_Lengths.f, if_neg (by omega)]) ?_
  refine Ev.bind (right_ev _ l (by omega)) ?_
  have yes : Ev (fun k => barscanref33_Lengths.j0 k l m true) ([], 3) := Ev.step (f := fun _ => some ([], 3)) (fun k => by rw [barscanref33_Lengths.j0, if_pos rfl]) (Ev.now _)
  by_cases hw : withinL l 1099511627776 = true
  · simp only [if_pos hw]
    by_cases h1 : m < 1
    · rw [if_pos (.inr (.inl h1))]
      exact Ev.congr (fun k => by rw [if_pos trivial, if_pos h1]) yes
    by_cases h2 : 30 < m
    · rw [if_pos (.inr (.inr h2))]
      exact Ev.congr (fun k => by rw [if_pos trivial, if_neg h1, decide_eq_true (by omega)]) yes
    rw [if_neg (by rw [hw]; simp; omega)]
    refine Ev.congr (f := fun k => barscanref33_Lengths.j0 k l m false) (fun k => by rw [if_pos trivial, if_neg h1, decide_eq_false (by omega)]) ?_
    obtain ⟨n, rfl⟩ : ∃ n : Nat, m = (n : Int) := ⟨m.toNat, by omega⟩
    rw [Int.toNat_natCast]
    have hlen : (isT (leafs l 0)).length ≤ 4096 := by rw [isT_length]; have := leafs_length l 0; omega
    have he := ref_end l n _ (by omega) (by omega) (by omega) rfl hlen
    have := ref_l0 l n (by omega) _ _ he l.length 0 [] rfl (by simp) (by simp [SortedT]) rfl
    refine Ev.step (fun k => ?_) this
    rw [barscanref33_Lengths.j0, if_neg (by decide)]
    rfl
  · rw [if_pos (show withinL l 1099511627776 = false ∨ m < 1 ∨ 30 < m from .inl (by simpa using hw))]
    exact Ev.congr (fun k => by rw [if_neg hw, if_neg (by decide)]) yes
theorem lengthsF_length (l : List Int) (m : Int) : (lengthsF l m).1.length ≤ 4096 := by
  unfold lengthsF
  split
  · simp
  · split
    · simp
    · split
      · simp
      · simp only [lengthsS]
        split
        · simp; omega
        · split
          · simp; omega
          · rw [bumps_length]; simp; omega
theorem PrefixLengths : barscanlaw33_PrefixLengths.Pure := by
  intro l m _ _ _ _
  apply Ev.rounds
  by_cases h1 : (l.length : Int) > 60
  · exact Ev.congr (fun k => by rw [barscanlaw33_PrefixLengths.f, if_pos h1]) alive_end
  refine Ev.congr (fun k => by rw [barscanlaw33_PrefixLengths.f, if_neg h1]) ?_
  refine Ev.bind (a := lengthsF l m) (Ev.now _) ?_
  refine Ev.bind (LengthsR_ev l m) ?_
  refine Ev.bind (ints_same _ (by have := lengthsF_length l m; omega)) ?_
  simp only [if_pos]
  exact alive_end
end Go.Proofs.Ytldhpniflnbilaa.Pure
