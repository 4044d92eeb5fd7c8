/- Plain laws on what slices.SortStableFunc's loops do to lists. -/
import Derived.Test.YtldhpniflnbilaaProg
import Derived.Below
import Derived.Deep.Draws
import Derived.Deep.AppendLies
import Derived.Maps.AppendAt
import Derived.OwnWalk
import Derived.Laws.BytesArg
import Derived.Laws.MakeOwn
import Derived.Laws.OwnMore
import Derived.Deep.OwnRows
import Derived.Tactics
import Derived.Lib.ConvBytes
import Derived.Laws.Slices
import Derived.WalkKit
import Derived.KernelRfl
import Derived.RowKit3
import Derived.Deep.LoopGhost
import Derived.Deep.QuietTactic
import Derived.BigQuiet
import Derived.WideLaws
import Derived.Deep.DeepCutAuto
import Derived.Deep.CutBlock
import Derived.Deep.RegionHeld3
import Derived.Laws.Rows
import Derived.Lib.AppendStr
import Derived.ArgAppend
import Derived.Laws.IdiomCopy
import Derived.OrdersHeld
import Derived.Laws.BitsLemmas
import Derived.RowKit
import Derived.Outline
import Derived.Test.YtldhpniflnbilaaV34s
import Derived.Test.YtldhpniflnbilaaKBvv
import Derived.Test.YtldhpniflnbilaaKAvv
set_option linter.unusedVariables false
set_option linter.unusedSimpArgs false
namespace Go.Proofs.Ytldhpniflnbilaa
open Go.RowKit Go.Proofs.YtldhpniflnbilaaW.PrintWords Go.Proofs.YtldhpniflnbilaaW.PrintLast Go.Proofs.YtldhpniflnbilaaW.PrintMore

/-! ### Exchanges on lists that are written as joins -/
theorem swp_join {α : Type} (P M Q : List α) (u v : α) (i j : Nat) (hi : i = P.length) (hj : j = P.length + 1 + M.length) : swp (P ++ u :: (M ++ v :: Q)) i j = P ++ v :: (M ++ u :: Q) := by
  subst hi
  subst hj
  have e1 : (P ++ u :: (M ++ v :: Q))[P.length]? = some u := by simp
  have e2 : (P ++ u :: (M ++ v :: Q))[P.length + 1 + M.length]? = some v := by
    rw [List.getElem?_append_right (by omega), show P.length + 1 + M.length - P.length = M.length + 1 by omega, List.getElem?_cons_succ, List.getElem?_append_right (Nat.le_refl _)]
    simp
  unfold swp
  rw [e1, e2]
  show ((P ++ u :: (M ++ v :: Q)).set P.length v).set (P.length + 1 + M.length) u = _
  rw [List.set_append_right _ _ (Nat.le_refl _), Nat.sub_self, List.set_cons_zero, List.set_append_right _ _ (by omega), show P.length + 1 + M.length - P.length = M.length + 1 by omega, List.set_cons_succ, List.set_append_right _ _ (Nat.le_refl _), Nat.sub_self, List.set_cons_zero]
theorem swp_join' {α : Type} (P M Q : List α) (u v : α) (i j : Nat) (hi : i = P.length) (hj : j = P.length + 1 + M.length) : swp (P ++ u :: (M ++ v :: Q)) j i = P ++ v :: (M ++ u :: Q) := by
  subst hi
  subst hj
  have e1 : (P ++ u :: (M ++ v :: Q))[P.length]? = some u := by simp
  have e2 : (P ++ u :: (M ++ v :: Q))[P.length + 1 + M.length]? = some v := by
    rw [List.getElem?_append_right (by omega), show P.length + 1 + M.length - P.length = M.length + 1 by omega, List.getElem?_cons_succ, List.getElem?_append_right (Nat.le_refl _)]
    simp
  unfold swp
  rw [e1, e2]
  show ((P ++ u :: (M ++ v :: Q)).set (P.length + 1 + M.length) u).set P.length v = _
  rw [List.set_append_right _ _ (by omega), show P.length + 1 + M.length - P.length = M.length + 1 by omega, List.set_cons_succ, List.set_append_right _ _ (Nat.le_refl _), Nat.sub_self, List.set_cons_zero, List.set_append_right _ _ (Nat.le_refl _), Nat.sub_self, List.set_cons_zero]

/-- Neighbouring rows X, Y of the same length n, M between them. -/
theorem swapN_join {α : Type} (P M Q : List α) (a b : Nat) : ∀ (n : Nat) (X Y : List α), X.length = n → Y.length = n → a = P.length → b = P.length + n + M.length →
    ∀ k, k ≤ n → swapN (P ++ (X ++ (M ++ (Y ++ Q)))) a b k = P ++ ((Y.take k ++ X.drop k) ++ (M ++ ((X.take k ++ Y.drop k) ++ Q))) := by
  intro n X Y hX hY ha hb k
  induction k with
  | zero => intro _; simp [swapN]
  | succ k ih =>
    intro hk
    rw [swapN, ih (by omega)]
    have hx : k < X.length := by omega
    have hy : k < Y.length := by omega
    rw [List.drop_eq_getElem_cons hx, List.drop_eq_getElem_cons hy, List.take_succ_eq_append_getElem hx, List.take_succ_eq_append_getElem hy]
    have e := swp_join (P ++ Y.take k) (X.drop (k + 1) ++ (M ++ X.take k)) (Y.drop (k + 1) ++ Q) X[k] Y[k] (a + k) (b + k) (by simp; omega) (by simp; omega)
    simp only [List.append_assoc, List.cons_append, List.nil_append] at e ⊢
    exact e
theorem swapN_whole {α : Type} (P X M Y Q : List α) (a b n : Nat) (hX : X.length = n) (hY : Y.length = n) (ha : a = P.length) (hb : b = P.length + n + M.length) :
    swapN (P ++ (X ++ (M ++ (Y ++ Q)))) a b n = P ++ (Y ++ (M ++ (X ++ Q))) := by
  rw [swapN_join P M Q a b n X Y hX hY ha hb n (Nat.le_refl _), List.take_of_length_le (by omega), List.take_of_length_le (by omega), List.drop_eq_nil_of_le (by omega), List.drop_eq_nil_of_le (by omega), List.append_nil, List.append_nil]

theorem rotM_join {α : Type} (m : Nat) : ∀ (k : Nat) (P U V Q : List α), P.length + U.length = m → 0 < U.length → 0 < V.length → U.length + V.length ≤ k →
    rotM m k (P ++ (U ++ (V ++ Q))) U.length V.length = P ++ (V ++ (U ++ Q)) := by
  intro k
  induction k with
  | zero => intro P U V Q _ h1 h2 h3; omega
  | succ k ih =>
    intro P U V Q hm hu hv hk
    unfold rotM
    by_cases he : U.length = V.length
    · rw [if_pos he]
      exact swapN_whole P U [] V Q _ _ _ rfl he.symm (by omega) (by simp; omega)
    · rw [if_neg he]
      by_cases hlt : V.length < U.length
      · rw [if_pos hlt]
        obtain ⟨U1, U2, rfl, h1⟩ : ∃ U1 U2, U = U1 ++ U2 ∧ U1.length = V.length := ⟨U.take V.length, U.drop V.length, (List.take_append_drop _ _).symm, by rw [List.length_take]; omega⟩
        have e := swapN_whole P U1 U2 V Q (m - (U1 ++ U2).length) m V.length h1 rfl (by omega) (by simp at hm; omega)
        simp only [List.append_assoc] at e ⊢
        rw [e]
        have e2 := ih (P ++ V) U2 U1 Q (by simp at hm ⊢; omega) (by simp at hlt; omega) (by omega) (by simp at hk; omega)
        simp only [List.append_assoc] at e2
        rw [show (U1 ++ U2).length - V.length = U2.length by simp; omega, ← h1]
        exact e2
      · rw [if_neg hlt]
        obtain ⟨V1, V2, rfl, h1⟩ : ∃ V1 V2, V = V1 ++ V2 ∧ V2.length = U.length := ⟨V.take (V.length - U.length), V.drop (V.length - U.length), (List.take_append_drop _ _).symm, by rw [List.length_drop]; omega⟩
        have e := swapN_whole P U V1 V2 Q (m - U.length) (m + (V1 ++ V2).length - U.length) U.length rfl h1 (by omega) (by simp; omega)
        simp only [List.append_assoc] at e ⊢
        rw [e]
        have e2 := ih P V2 V1 (U ++ Q) (by omega) (by omega) (by simp at hlt he; omega) (by simp at hk; omega)
        rw [show (V1 ++ V2).length - U.length = V1.length by simp; omega, ← h1]
        exact e2

/-! ### Insertion and merging, as such -/
def insZ (x : Z) : List Z → List Z
  | [] => [x]
  | y :: ys => if y.2.wt ≤ x.2.wt then y :: insZ x ys else x :: y :: ys
def isZ (l : List Z) : List Z := l.foldl (fun acc x => insZ x acc) []
def SortedZ (l : List Z) : Prop := l.Pairwise fun x y => x.2.wt ≤ y.2.wt
def mergeGoZ (x : Z) (xs : List Z) (next : List Z → List Z) : List Z → List Z
  | [] => x :: xs
  | y :: ys => if x.2.wt ≤ y.2.wt then x :: next (y :: ys) else y :: mergeGoZ x xs next ys
def mergeZ : List Z → List Z → List Z
  | [] => fun b => b
  | x :: xs => mergeGoZ x xs (mergeZ xs)
theorem mergeZ_nil (b : List Z) : mergeZ [] b = b := rfl
theorem mergeZ_nil_right (a : List Z) : mergeZ a [] = a := by cases a <;> rfl
theorem mergeZ_cons (x : Z) (xs : List Z) (y : Z) (ys : List Z) :
    mergeZ (x :: xs) (y :: ys) = if x.2.wt ≤ y.2.wt then x :: mergeZ xs (y :: ys) else y :: mergeZ (x :: xs) ys := rfl
theorem insZ_length (x : Z) : ∀ l, (insZ x l).length = l.length + 1
  | [] => rfl
  | y :: ys => by
    unfold insZ
    split
    · rw [List.length_cons, insZ_length x ys, List.length_cons]
    · rfl
theorem mem_insZ (x : Z) : ∀ (l : List Z) (z : Z), z ∈ insZ x l ↔ z = x ∨ z ∈ l
  | [], z => by simp [insZ]
  | y :: ys, z => by
    unfold insZ
    split
    · rw [List.mem_cons, mem_insZ x ys, List.mem_cons]
      constructor
      · rintro (h | h | h) <;> simp [h]
      · rintro (h | h | h) <;> simp [h]
    · rw [List.mem_cons]
theorem insZ_sorted (x : Z) : ∀ l, SortedZ l → SortedZ (insZ x l)
  | [], _ => List.pairwise_singleton _ _
  | y :: ys, h => by
    have hy := List.pairwise_cons.1 h
    unfold insZ
    split
    · rename_i hle
      refine List.pairwise_cons.2 ⟨fun z hz => ?_, insZ_sorted x ys hy.2⟩
      rcases (mem_insZ x ys z).1 hz with rfl | hz
      · exact hle
      · exact hy.1 z hz
    · rename_i hle
      refine List.pairwise_cons.2 ⟨fun z hz => ?_, h⟩
      rcases List.mem_cons.1 hz with rfl | hz
      · omega
      · have := hy.1 z hz; omega
theorem insZ_snoc_lt (x y : Z) (h : x.2.wt < y.2.wt) : ∀ l, insZ x (l ++ [y]) = insZ x l ++ [y]
  | [] => by simp only [List.nil_append, insZ]; rw [if_neg (by omega)]; rfl
  | z :: l => by
    simp only [List.cons_append, insZ]
    split
    · rw [insZ_snoc_lt x y h l]; rfl
    · rfl
theorem insZ_all (x : Z) : ∀ l, (∀ y ∈ l, y.2.wt ≤ x.2.wt) → insZ x l = l ++ [x]
  | [], _ => rfl
  | z :: l, h => by
    simp only [insZ, List.cons_append]
    rw [if_pos (h z (by simp)), insZ_all x l fun y hy => h y (by simp [hy])]
theorem insZ_merge (x : Z) (A : List Z) : ∀ B, insZ x (mergeZ A B) = mergeZ A (insZ x B) := by
  induction A with
  | nil => intro B; rfl
  | cons a A ih =>
    intro B
    induction B with
    | nil =>
      rw [mergeZ_nil_right]
      show insZ x (a :: A) = mergeZ (a :: A) [x]
      rw [mergeZ_cons, mergeZ_nil_right, insZ]
      have := ih []
      rw [mergeZ_nil_right] at this
      rw [this]
      rfl
    | cons b B ihb =>
      rw [mergeZ_cons]
      by_cases hab : a.2.wt ≤ b.2.wt
      · rw [if_pos hab]
        by_cases hax : a.2.wt ≤ x.2.wt
        · rw [insZ, if_pos hax, ih (b :: B)]
          simp only [insZ]
          split
          · rw [mergeZ_cons, if_pos hab]
          · rw [mergeZ_cons, if_pos hax]
        · rw [insZ, if_neg hax]
          simp only [insZ]
          rw [if_neg (by omega), mergeZ_cons, if_neg hax, mergeZ_cons, if_pos hab]
      · rw [if_neg hab]
        by_cases hbx : b.2.wt ≤ x.2.wt
        · rw [insZ, if_pos hbx, ihb]
          simp only [insZ]
          rw [if_pos hbx, mergeZ_cons, if_neg hab]
        · rw [insZ, if_neg hbx]
          simp only [insZ]
          rw [if_neg hbx, mergeZ_cons, if_neg (by omega), mergeZ_cons, if_neg hab]
theorem isZ_snoc (l : List Z) (x : Z) : isZ (l ++ [x]) = insZ x (isZ l) := by simp [isZ, List.foldl_append]
theorem isZ_length (l : List Z) : (isZ l).length = l.length := by
  suffices ∀ r : List Z, ∀ acc, (r.foldl (fun acc x => insZ x acc) acc).length = acc.length + r.length by simpa [isZ] using this l []
  intro r
  induction r with
  | nil => intro acc; rfl
  | cons x r ih => intro acc; rw [List.foldl_cons, ih, insZ_length, List.length_cons]; omega
theorem isZ_sorted (l : List Z) : SortedZ (isZ l) := by
  suffices ∀ r : List Z, ∀ acc, SortedZ acc → SortedZ (r.foldl (fun acc x => insZ x acc) acc) from this l [] List.Pairwise.nil
  intro r
  induction r with
  | nil => intro acc h; exact h
  | cons x r ih => intro acc h; exact ih _ (insZ_sorted x acc h)
/-- Sorting a join is merging what is sorted. -/
theorem isZ_append (A : List Z) : ∀ B, isZ (A ++ B) = mergeZ (isZ A) (isZ B) := by
  intro B
  suffices ∀ (n : Nat) (B : List Z), B.length = n → isZ (A ++ B) = mergeZ (isZ A) (isZ B) from this _ B rfl
  intro n
  induction n with
  | zero => intro B hB; rw [List.eq_nil_of_length_eq_zero hB, List.append_nil]; exact (mergeZ_nil_right _).symm
  | succ n ih =>
    intro B hB
    obtain ⟨C, x, rfl⟩ : ∃ C x, B = C ++ [x] := ⟨B.dropLast, B.getLast (by intro h; simp [h] at hB), (List.dropLast_concat_getLast _).symm⟩
    rw [← List.append_assoc, isZ_snoc, isZ_snoc, ih C (by simp at hB; omega), insZ_merge]
theorem mergeZ_length (a : List Z) : ∀ b, (mergeZ a b).length = a.length + b.length := by
  induction a with
  | nil => intro b; simp [mergeZ_nil]
  | cons x xs ih =>
    intro b
    induction b with
    | nil => simp [mergeZ_nil_right]
    | cons y ys ihb =>
      rw [mergeZ_cons]
      split
      · simp only [List.length_cons, ih]; omega
      · simp only [List.length_cons] at ihb ⊢; omega

/-! ### What the loops of insertion do -/
theorem insD_join (x : Z) : ∀ (n : Nat) (P S R : List Z), S.length = n → SortedZ S → insD (P ++ (S ++ x :: R)) P.length (P.length + S.length) = P ++ (insZ x S ++ R) := by
  intro n
  induction n with
  | zero =>
    intro P S R hS _
    have : S = [] := List.eq_nil_of_length_eq_zero hS
    subst this
    rw [List.length_nil, Nat.add_zero, insD_stop]
    rfl
  | succ n ih =>
    intro P S R hS hs
    obtain ⟨C, y, rfl⟩ : ∃ C y, S = C ++ [y] := ⟨S.dropLast, S.getLast (by intro h; simp [h] at hS), (List.dropLast_concat_getLast _).symm⟩
    have hC : C.length = n := by simpa using hS
    have hs' := List.pairwise_append.1 hs
    rw [show P.length + (C ++ [y]).length = (P.length + C.length) + 1 by simp; omega]
    have e1 : (P ++ (C ++ [y] ++ x :: R))[P.length + C.length + 1]? = some x := by
      rw [List.getElem?_append_right (by omega), List.getElem?_append_right (by simp; omega)]
      simp
      rw [show P.length + C.length + 1 - P.length - (C.length + 1) = 0 by omega]
      rfl
    have e2 : (P ++ (C ++ [y] ++ x :: R))[P.length + C.length]? = some y := by
      rw [List.getElem?_append_right (by omega), List.append_assoc, List.getElem?_append_right (by omega)]
      simp
    rw [insD, if_pos (by omega), e1, e2]
    show (if x.2.wt < y.2.wt then _ else _) = _
    by_cases hlt : x.2.wt < y.2.wt
    · rw [if_pos hlt]
      have e3 := swp_join' (P ++ C) [] R y x (P.length + C.length) (P.length + C.length + 1) (by simp) (by simp)
      have e4 : P ++ (C ++ [y] ++ x :: R) = (P ++ C) ++ y :: ([] ++ x :: R) := by simp
      rw [e4, e3]
      have e5 := ih P C (y :: R) hC hs'.1
      have e6 : (P ++ C) ++ x :: ([] ++ y :: R) = P ++ (C ++ x :: y :: R) := by simp
      rw [e6, e5, insZ_snoc_lt x y hlt]
      simp
    · rw [if_neg hlt, insZ_all x (C ++ [y])]
      · simp
      · intro z hz
        rcases List.mem_append.1 hz with hz | hz
        · have := hs'.2.2 z hz y (by simp); omega
        · rw [List.mem_singleton] at hz; subst hz; omega
theorem insO_join : ∀ (k : Nat) (P S R : List Z), S.length = k + 1 → insO (P ++ (S ++ R)) P.length k = P ++ (isZ S ++ R) := by
  intro k
  induction k with
  | zero =>
    intro P S R hS
    obtain ⟨x, rfl⟩ : ∃ x, S = [x] := by
      cases S with
      | nil => simp at hS
      | cons x S => cases S with
        | nil => exact ⟨x, rfl⟩
        | cons _ _ => simp at hS
    rfl
  | succ k ih =>
    intro P S R hS
    obtain ⟨C, x, rfl⟩ : ∃ C x, S = C ++ [x] := ⟨S.dropLast, S.getLast (by intro h; simp [h] at hS), (List.dropLast_concat_getLast _).symm⟩
    have hC : C.length = k + 1 := by simpa using hS
    rw [insO, List.append_assoc, ih P C ([x] ++ R) hC, show P.length + (k + 1) = P.length + (isZ C).length by rw [isZ_length]; omega]
    have := insD_join x _ P (isZ C) R rfl (isZ_sorted C)
    rw [isZ_snoc]
    exact this
end Go.Proofs.Ytldhpniflnbilaa
/- Plain laws: the searches of symMerge, one item before or behind an ordered list. -/
set_option linter.unusedVariables false
set_option linter.unusedSimpArgs false
namespace Go.Proofs.Ytldhpniflnbilaa
open Go.RowKit Go.Proofs.YtldhpniflnbilaaW.PrintWords Go.Proofs.YtldhpniflnbilaaW.PrintLast Go.Proofs.YtldhpniflnbilaaW.PrintMore

theorem bsN_spec (P : Nat → Bool) : ∀ (k i j : Nat), i ≤ j → j - i + 1 ≤ k → (∀ h h', i ≤ h → h ≤ h' → h' < j → P h' = true → P h = true) →
    i ≤ bsN P k i j ∧ bsN P k i j ≤ j ∧ (∀ h, i ≤ h → h < bsN P k i j → P h = true) ∧ (∀ h, bsN P k i j ≤ h → h < j → P h = false) := by
  intro k
  induction k with
  | zero => intro i j _ h; omega
  | succ k ih =>
    intro i j hij hk hm
    unfold bsN
    by_cases hlt : i < j
    · rw [if_pos hlt]
      by_cases hp : P ((i + j) / 2) = true
      · rw [if_pos hp]
        obtain ⟨h1, h2, h3, h4⟩ := ih ((i + j) / 2 + 1) j (by omega) (by omega) (fun h h' a b c d => hm h h' (by omega) b c d)
        refine ⟨by omega, h2, fun h ha hb => ?_, h4⟩
        by_cases hle : h ≤ (i + j) / 2
        · exact hm h _ ha hle (by omega) hp
        · exact h3 h (by omega) hb
      · rw [if_neg hp]
        obtain ⟨h1, h2, h3, h4⟩ := ih i ((i + j) / 2) (by omega) (by omega) (fun h h' a b c d => hm h h' a b (by omega) d)
        refine ⟨h1, by omega, h3, fun h ha hb => ?_⟩
        by_cases hle : h < (i + j) / 2
        · exact h4 h ha hle
        · cases hph : P h with
          | false => rfl
          | true => exact absurd (hm _ h (by omega) (by omega) hb hph) hp
    · rw [if_neg hlt]
      exact ⟨Nat.le_refl _, hij, fun h a b => by omega, fun h a b => by omega⟩

theorem upN_join (P L R : List Z) (x : Z) : ∀ k, k ≤ L.length → upN (P ++ x :: (L ++ R)) P.length k = P ++ (L.take k ++ x :: (L.drop k ++ R)) := by
  intro k
  induction k with
  | zero => intro _; simp [upN]
  | succ k ih =>
    intro hk
    have hl : k < L.length := by omega
    rw [upN, ih (by omega), List.drop_eq_getElem_cons hl, List.take_succ_eq_append_getElem hl]
    have e := swp_join (P ++ L.take k) [] (L.drop (k + 1) ++ R) x L[k] (P.length + k) (P.length + k + 1) (by simp; omega) (by simp; omega)
    simp only [List.append_assoc, List.cons_append, List.nil_append] at e ⊢
    exact e
theorem dnN_join (P L R : List Z) (y : Z) (m : Nat) (hm : m = P.length + L.length) : ∀ k, k ≤ L.length → dnN (P ++ (L ++ y :: R)) m k = P ++ (L.take (L.length - k) ++ y :: (L.drop (L.length - k) ++ R)) := by
  intro k
  induction k with
  | zero => intro _; simp [dnN]
  | succ k ih =>
    intro hk
    have hl : L.length - (k + 1) < L.length := by omega
    rw [dnN, ih (by omega)]
    have e1 : L.take (L.length - k) = L.take (L.length - (k + 1)) ++ [L[L.length - (k + 1)]] := by
      rw [← List.take_succ_eq_append_getElem hl]
      congr 1
      omega
    have e2 : L.drop (L.length - (k + 1)) = L[L.length - (k + 1)] :: L.drop (L.length - k) := by
      rw [List.drop_eq_getElem_cons hl]
      congr 2
      omega
    rw [e1, e2]
    have e := swp_join' (P ++ L.take (L.length - (k + 1))) [] (L.drop (L.length - k) ++ R) L[L.length - (k + 1)] y (m - k - 1) (m - k) (by simp; omega) (by simp; omega)
    simp only [List.append_assoc, List.cons_append, List.nil_append] at e ⊢
    exact e

theorem mergeZ_skip (A : List Z) : ∀ (B1 B2 : List Z), (∀ b ∈ B1, ∀ a ∈ A, b.2.wt < a.2.wt) → mergeZ A (B1 ++ B2) = B1 ++ mergeZ A B2
  | [], _, _ => rfl
  | b :: B1, B2, h => by
    cases A with
    | nil => rfl
    | cons a A =>
      rw [List.cons_append, mergeZ_cons, if_neg (by have := h b (by simp) a (by simp); omega), mergeZ_skip (a :: A) B1 B2 fun c hc => h c (by simp [hc])]
      rfl
theorem mergeZ_split : ∀ (A1 A2 B1 B2 : List Z), (∀ a ∈ A1, ∀ b ∈ B2, a.2.wt ≤ b.2.wt) → (∀ b ∈ B1, ∀ a ∈ A2, b.2.wt < a.2.wt) → mergeZ (A1 ++ A2) (B1 ++ B2) = mergeZ A1 B1 ++ mergeZ A2 B2 := by
  intro A1
  induction A1 with
  | nil => intro A2 B1 B2 _ h; exact mergeZ_skip A2 B1 B2 h
  | cons a A1 ih =>
    intro A2 B1
    induction B1 with
    | nil =>
      intro B2 h1 h2
      rw [mergeZ_nil_right]
      cases B2 with
      | nil => rw [List.nil_append, mergeZ_nil_right, mergeZ_nil_right]
      | cons b B2 =>
        have e := ih A2 [] (b :: B2) (fun x hx => h1 x (by simp [hx])) h2
        rw [mergeZ_nil_right] at e
        rw [List.nil_append, List.cons_append, mergeZ_cons, if_pos (h1 a (by simp) b (by simp)), List.cons_append]
        exact congrArg (a :: ·) e
    | cons b B1 ihb =>
      intro B2 h1 h2
      rw [List.cons_append, List.cons_append, mergeZ_cons, mergeZ_cons]
      by_cases hab : a.2.wt ≤ b.2.wt
      · rw [if_pos hab, if_pos hab, List.cons_append]
        have e := ih A2 (b :: B1) B2 (fun x hx => h1 x (by simp [hx])) h2
        exact congrArg (a :: ·) e
      · rw [if_neg hab, if_neg hab, List.cons_append]
        exact congrArg (b :: ·) (ihb B2 h1 fun c hc => h2 c (by simp [hc]))
theorem mem_mergeZ (a : List Z) : ∀ (b : List Z) (z : Z), z ∈ mergeZ a b ↔ z ∈ a ∨ z ∈ b := by
  induction a with
  | nil => intro b z; simp [mergeZ_nil]
  | cons x xs ih =>
    intro b z
    induction b with
    | nil => simp [mergeZ_nil_right]
    | cons y ys ihb =>
      rw [mergeZ_cons]
      split
      · simp only [List.mem_cons, ih]; constructor
        · rintro (h | h | h | h) <;> simp [h]
        · rintro ((h | h) | h | h) <;> simp [h]
      · simp only [List.mem_cons, ihb]; constructor
        · rintro (h | (h | h) | h) <;> simp [h]
        · rintro ((h | h) | h | h) <;> simp [h]
theorem mergeZ_sorted (a : List Z) (ha : SortedZ a) : ∀ b, SortedZ b → SortedZ (mergeZ a b) := by
  induction a with
  | nil => intro b hb; exact hb
  | cons x xs ih =>
    intro b
    have hx := List.pairwise_cons.1 ha
    induction b with
    | nil => intro _; rw [mergeZ_nil_right]; exact ha
    | cons y ys ihb =>
      intro hb
      have hy := List.pairwise_cons.1 hb
      rw [mergeZ_cons]
      split
      · rename_i hle
        refine List.pairwise_cons.2 ⟨fun z hz => ?_, ih hx.2 _ hb⟩
        rcases (mem_mergeZ _ _ _).1 hz with h | h
        · exact hx.1 z h
        · rcases List.mem_cons.1 h with rfl | h
          · exact hle
          · have := hy.1 z h; omega
      · rename_i hle
        refine List.pairwise_cons.2 ⟨fun z hz => ?_, ihb hy.2⟩
        rcases (mem_mergeZ _ _ _).1 hz with h | h
        · rcases List.mem_cons.1 h with rfl | h
          · omega
          · have := hx.1 z h; omega
        · exact hy.1 z h

theorem SortedZ.at {l : List Z} (h : SortedZ l) {i j : Nat} (hij : i ≤ j) (hj : j < l.length) : (l[i]'(by omega)).2.wt ≤ (l[j]).2.wt := by
  rcases Nat.lt_or_ge i j with hlt | hge
  · exact List.pairwise_iff_getElem.1 h i j (by omega) hj hlt
  · have : i = j := by omega
    subst this
    exact Int.le_refl _
theorem kz_left (P A B Q : List Z) (c : Nat) (h : c < A.length) : kz (P ++ (A ++ (B ++ Q))) (P.length + c) = (A[c]).2.wt := by
  unfold kz
  rw [List.getElem?_append_right (by omega), show P.length + c - P.length = c by omega, List.getElem?_append_left h, List.getElem?_eq_getElem h]
  rfl
theorem kz_right (P A B Q : List Z) (c : Nat) (h : c < B.length) : kz (P ++ (A ++ (B ++ Q))) (P.length + A.length + c) = (B[c]).2.wt := by
  unfold kz
  rw [List.getElem?_append_right (by omega), List.getElem?_append_right (by omega), show P.length + A.length + c - P.length - A.length = c by omega, List.getElem?_append_left h, List.getElem?_eq_getElem h]
  rfl

theorem mem_take_at {l : List Z} {n : Nat} {z : Z} (h : z ∈ l.take n) : ∃ i, ∃ hi : i < l.length, i < n ∧ l[i] = z := by
  obtain ⟨i, hi, e⟩ := List.getElem_of_mem h
  rw [List.length_take] at hi
  exact ⟨i, by omega, by omega, by rw [← e, List.getElem_take]⟩
theorem mem_drop_at {l : List Z} {n : Nat} {z : Z} (h : z ∈ l.drop n) : ∃ i, ∃ hi : i < l.length, n ≤ i ∧ l[i] = z := by
  obtain ⟨i, hi, e⟩ := List.getElem_of_mem h
  rw [List.length_drop] at hi
  exact ⟨n + i, by omega, by omega, by rw [← e, List.getElem_drop]⟩

/-- One item before an ordered list. -/
theorem sym_one_law (P B Q : List Z) (x : Z) (hB : SortedZ B) (k : Nat) (hk : B.length + 1 ≤ k) :
    upN (P ++ ([x] ++ (B ++ Q))) P.length (bsN (fun h => decide (kz (P ++ ([x] ++ (B ++ Q))) h < kz (P ++ ([x] ++ (B ++ Q))) P.length)) k (P.length + 1) (P.length + 1 + B.length) - 1 - P.length) = P ++ (mergeZ [x] B ++ Q) := by
  have hx : kz (P ++ ([x] ++ (B ++ Q))) P.length = x.2.wt := kz_left P [x] B Q 0 (by simp)
  have hb : ∀ c (hc : c < B.length), kz (P ++ ([x] ++ (B ++ Q))) (P.length + 1 + c) = (B[c]).2.wt := fun c hc => kz_right P [x] B Q c hc
  rw [hx]
  obtain ⟨h1, h2, h3, h4⟩ := bsN_spec (fun h => decide (kz (P ++ ([x] ++ (B ++ Q))) h < x.2.wt)) k (P.length + 1) (P.length + 1 + B.length) (by omega) (by omega) (by
    intro h h' ha hh hb' hp
    obtain ⟨c, rfl⟩ : ∃ c, h = P.length + 1 + c := ⟨h - P.length - 1, by omega⟩
    obtain ⟨c', rfl⟩ : ∃ c', h' = P.length + 1 + c' := ⟨h' - P.length - 1, by omega⟩
    rw [hb c' (by omega)] at hp
    rw [hb c (by omega)]
    have := of_decide_eq_true hp
    have := hB.at (i := c) (j := c') (by omega) (by omega)
    exact decide_eq_true (by omega))
  generalize bsN (fun h => decide (kz (P ++ ([x] ++ (B ++ Q))) h < x.2.wt)) k (P.length + 1) (P.length + 1 + B.length) = r at *
  have hr : r - 1 - P.length ≤ B.length := by omega
  have e := upN_join P B Q x (r - 1 - P.length) hr
  have e0 : P ++ ([x] ++ (B ++ Q)) = P ++ x :: (B ++ Q) := rfl
  rw [e0, e]
  have hs := mergeZ_split [] [x] (B.take (r - 1 - P.length)) (B.drop (r - 1 - P.length)) (fun a ha => by cases ha) (by
    intro b hb' a ha
    rw [List.mem_singleton] at ha
    subst ha
    obtain ⟨i, hi, hin, rfl⟩ := mem_take_at hb'
    have := h3 (P.length + 1 + i) (by omega) (by omega)
    rw [hb i hi] at this
    exact of_decide_eq_true this)
  rw [List.nil_append, List.take_append_drop, mergeZ_nil] at hs
  have ht : mergeZ [x] (B.drop (r - 1 - P.length)) = x :: B.drop (r - 1 - P.length) := by
    cases hd : B.drop (r - 1 - P.length) with
    | nil => rfl
    | cons b B2 =>
      rw [mergeZ_cons, if_pos]
      · rfl
      · obtain ⟨i, hi, hin, e⟩ := mem_drop_at (l := B) (n := r - 1 - P.length) (z := b) (by rw [hd]; simp)
        have := h4 (P.length + 1 + i) (by omega) (by omega)
        rw [hb i hi, e] at this
        have := of_decide_eq_false this
        omega
  rw [hs, ht]
  simp
/-- One item behind an ordered list. -/
theorem sym_two_law (P A Q : List Z) (y : Z) (hA : SortedZ A) (k : Nat) (hk : A.length + 1 ≤ k) :
    dnN (P ++ (A ++ ([y] ++ Q))) (P.length + A.length) (P.length + A.length - bsN (fun h => !decide (kz (P ++ (A ++ ([y] ++ Q))) (P.length + A.length) < kz (P ++ (A ++ ([y] ++ Q))) h)) k P.length (P.length + A.length)) = P ++ (mergeZ A [y] ++ Q) := by
  have hy : kz (P ++ (A ++ ([y] ++ Q))) (P.length + A.length) = y.2.wt := kz_right P A [y] Q 0 (by simp)
  have ha : ∀ c (hc : c < A.length), kz (P ++ (A ++ ([y] ++ Q))) (P.length + c) = (A[c]).2.wt := fun c hc => kz_left P A [y] Q c hc
  rw [hy]
  obtain ⟨h1, h2, h3, h4⟩ := bsN_spec (fun h => !decide (y.2.wt < kz (P ++ (A ++ ([y] ++ Q))) h)) k P.length (P.length + A.length) (by omega) (by omega) (by
    intro h h' hh1 hh hb' hp
    obtain ⟨c, rfl⟩ : ∃ c, h = P.length + c := ⟨h - P.length, by omega⟩
    obtain ⟨c', rfl⟩ : ∃ c', h' = P.length + c' := ⟨h' - P.length, by omega⟩
    rw [ha c' (by omega)] at hp
    rw [ha c (by omega)]
    rw [Bool.not_eq_true', decide_eq_false_iff_not] at hp ⊢
    have := hA.at (i := c) (j := c') (by omega) (by omega)
    omega)
  generalize bsN (fun h => !decide (y.2.wt < kz (P ++ (A ++ ([y] ++ Q))) h)) k P.length (P.length + A.length) = r at *
  have e := dnN_join P A Q y (P.length + A.length) rfl (P.length + A.length - r) (by omega)
  have e0 : P ++ (A ++ ([y] ++ Q)) = P ++ (A ++ y :: Q) := rfl
  rw [e0, e, show A.length - (P.length + A.length - r) = r - P.length by omega]
  have hs := mergeZ_split (A.take (r - P.length)) (A.drop (r - P.length)) [] [y] (by
    intro a ha' b hb'
    rw [List.mem_singleton] at hb'
    subst hb'
    obtain ⟨i, hi, hin, rfl⟩ := mem_take_at ha'
    have := h3 (P.length + i) (by omega) (by omega)
    rw [ha i hi, Bool.not_eq_true', decide_eq_false_iff_not] at this
    omega) (fun b hb' => by cases hb')
  rw [List.nil_append, List.take_append_drop, mergeZ_nil_right] at hs
  have ht : mergeZ (A.drop (r - P.length)) [y] = y :: A.drop (r - P.length) := by
    cases hd : A.drop (r - P.length) with
    | nil => rfl
    | cons a A2 =>
      rw [mergeZ_cons, if_neg]
      · rw [mergeZ_nil_right]
      · obtain ⟨i, hi, hin, e⟩ := mem_drop_at (l := A) (n := r - P.length) (z := a) (by rw [hd]; simp)
        have := h4 (P.length + i) (by omega) (by omega)
        rw [ha i hi, e, Bool.not_eq_false', decide_eq_true_eq] at this
        omega
  rw [hs, ht]
  simp
end Go.Proofs.Ytldhpniflnbilaa
/- Plain law: what symMerge does to two ordered neighbours. -/
set_option linter.unusedVariables false
set_option linter.unusedSimpArgs false
namespace Go.Proofs.Ytldhpniflnbilaa
open Go.RowKit Go.Proofs.YtldhpniflnbilaaW.PrintWords Go.Proofs.YtldhpniflnbilaaW.PrintLast Go.Proofs.YtldhpniflnbilaaW.PrintMore

theorem symStart_law (P A B Q : List Z) (hA : SortedZ A) (hB : SortedZ B) (h1 : 2 ≤ A.length) (h2 : 2 ≤ B.length) (a m b mid s : Nat) (ha : a = P.length) (hm : m = a + A.length) (hb : b = m + B.length) (hmid : (a + b) / 2 = mid)
    (hs : symStart (P ++ (A ++ (B ++ Q))) a m b = s) :
    a ≤ s ∧ s ≤ m ∧ m ≤ mid + m - s ∧ mid + m - s ≤ b ∧ s ≤ mid ∧ (∀ x ∈ A.take (s - a), ∀ y ∈ B.drop (mid - s), x.2.wt ≤ y.2.wt) ∧ (∀ y ∈ B.take (mid - s), ∀ x ∈ A.drop (s - a), y.2.wt < x.2.wt) := by
  have kA : ∀ c (hc : c < A.length), kz (P ++ (A ++ (B ++ Q))) (a + c) = (A[c]).2.wt := fun c hc => by rw [ha]; exact kz_left P A B Q c hc
  have kB : ∀ c (hc : c < B.length), kz (P ++ (A ++ (B ++ Q))) (m + c) = (B[c]).2.wt := fun c hc => by rw [hm, ha]; exact kz_right P A B Q c hc
  generalize P ++ (A ++ (B ++ Q)) = l at *
  obtain ⟨p, hp⟩ : ∃ p, mid + m - 1 = p := ⟨_, rfl⟩
  obtain ⟨s0, hs0⟩ : ∃ s0, (if mid < m then mid + m - b else a) = s0 := ⟨_, rfl⟩
  obtain ⟨r0, hr0⟩ : ∃ r0, (if mid < m then mid else m) = r0 := ⟨_, rfl⟩
  have hF : (mid < m ∧ s0 = mid + m - b ∧ r0 = mid) ∨ (¬ mid < m ∧ s0 = a ∧ r0 = m) := by
    rw [← hs0, ← hr0]
    split
    · exact .inl ⟨by assumption, rfl, rfl⟩
    · exact .inr ⟨by assumption, rfl, rfl⟩
  rw [symStart, hmid, hp, hs0, hr0] at hs
  clear hs0 hr0
  have hr : r0 ≤ p ∧ r0 < b ∧ s0 ≤ r0 ∧ p + 1 ≤ s0 + b ∧ a ≤ s0 ∧ r0 ≤ m ∧ r0 ≤ mid := by
    rcases hF with ⟨g1, g2, g3⟩ | ⟨g1, g2, g3⟩ <;> omega
  -- the two sides, at a place c of the search
  have uA : ∀ c, s0 ≤ c → c < r0 → ∃ hc : c - a < A.length, kz l c = (A[c - a]).2.wt := by
    intro c g1 g2
    have hc : c - a < A.length := by omega
    refine ⟨hc, ?_⟩
    have := kA (c - a) hc
    rwa [show a + (c - a) = c by omega] at this
  have uB : ∀ c, s0 ≤ c → c < r0 → ∃ hc : p - c - m < B.length, kz l (p - c) = (B[p - c - m]).2.wt := by
    intro c g1 g2
    have hpm : m ≤ p - c := by rcases hF with ⟨g1, g2, g3⟩ | ⟨g1, g2, g3⟩ <;> omega
    have hc : p - c - m < B.length := by omega
    refine ⟨hc, ?_⟩
    have := kB (p - c - m) hc
    rwa [show m + (p - c - m) = p - c by omega] at this
  obtain ⟨b1, b2, b3, b4⟩ := bsN_spec (fun c => !decide (kz l (p - c) < kz l c)) (b - a + 1) s0 r0 (by omega) (by omega) (by
    intro h h' g1 g2 g3 hp'
    obtain ⟨c1, e1⟩ := uA h g1 (by omega)
    obtain ⟨c2, e2⟩ := uA h' (by omega) g3
    obtain ⟨d1, f1⟩ := uB h g1 (by omega)
    obtain ⟨d2, f2⟩ := uB h' (by omega) g3
    rw [Bool.not_eq_true', decide_eq_false_iff_not] at hp' ⊢
    have := hA.at (i := h - a) (j := h' - a) (by omega) c2
    have := hB.at (i := p - h' - m) (j := p - h - m) (by omega) d1
    omega)
  rw [hs] at b1 b2 b3 b4
  have hpm : ∀ c, s0 ≤ c → c < r0 → m ≤ p - c := by
    intro c g1 g2
    rcases hF with ⟨g1, g2, g3⟩ | ⟨g1, g2, g3⟩ <;> omega
  refine ⟨by omega, by omega, by omega, by omega, by omega, ?_, ?_⟩
  · intro x hx y hy
    obtain ⟨i, hi, hin, rfl⟩ := mem_take_at hx
    obtain ⟨j, hj, hjn, rfl⟩ := mem_drop_at hy
    by_cases h0 : s0 < s
    · have h3 := b3 (s - 1) (by omega) (by omega)
      obtain ⟨c1, e1⟩ := uA (s - 1) (by omega) (by omega)
      obtain ⟨d1, f1⟩ := uB (s - 1) (by omega) (by omega)
      rw [Bool.not_eq_true', decide_eq_false_iff_not] at h3
      have := hA.at (i := i) (j := s - 1 - a) (by omega) c1
      have := hB.at (i := p - (s - 1) - m) (j := j) (by omega) hj
      omega
    · exfalso
      rcases hF with ⟨g1, g2, g3⟩ | ⟨g1, g2, g3⟩ <;> omega
  · intro y hy x hx
    obtain ⟨i, hi, hin, rfl⟩ := mem_drop_at hx
    obtain ⟨j, hj, hjn, rfl⟩ := mem_take_at hy
    by_cases h0 : s < r0
    · have h3 := b4 s (Nat.le_refl _) h0
      obtain ⟨c1, e1⟩ := uA s b1 h0
      obtain ⟨d1, f1⟩ := uB s b1 h0
      have hpm' := hpm s b1 h0
      rw [Bool.not_eq_false', decide_eq_true_eq] at h3
      have := hA.at (i := s - a) (j := i) (by omega) hi
      have := hB.at (i := j) (j := p - s - m) (by omega) d1
      omega
    · exfalso
      rcases hF with ⟨g1, g2, g3⟩ | ⟨g1, g2, g3⟩ <;> omega

theorem SortedZ.take {l : List Z} (h : SortedZ l) (n : Nat) : SortedZ (l.take n) := List.Pairwise.sublist (List.take_sublist n l) h
theorem SortedZ.drop {l : List Z} (h : SortedZ l) (n : Nat) : SortedZ (l.drop n) := List.Pairwise.sublist (List.drop_sublist n l) h

/-- What symMerge does to two ordered neighbours. -/
theorem symM_join : ∀ (K : Nat) (P A B Q : List Z), SortedZ A → SortedZ B → 0 < A.length → 0 < B.length → A.length + B.length ≤ K →
    symM K (P ++ (A ++ (B ++ Q))) P.length (P.length + A.length) (P.length + A.length + B.length) = P ++ (mergeZ A B ++ Q) := by
  intro K
  induction K with
  | zero => intro P A B Q _ _ h1 h2 h3; omega
  | succ K ih =>
    intro P A B Q hA hB h1 h2 hK
    by_cases hone : A.length = 1
    · obtain ⟨x, rfl⟩ : ∃ x, A = [x] := by
        cases A with
        | nil => simp at hone
        | cons x A => cases A with
          | nil => exact ⟨x, rfl⟩
          | cons _ _ => simp at hone
      rw [symM, if_pos (by simp), show [x].length = 1 from rfl]
      exact sym_one_law P B Q x hB _ (by omega)
    · by_cases htwo : B.length = 1
      · obtain ⟨y, rfl⟩ : ∃ y, B = [y] := by
          cases B with
          | nil => simp at htwo
          | cons x A => cases A with
            | nil => exact ⟨x, rfl⟩
            | cons _ _ => simp at htwo
        rw [symM, if_neg (by omega), if_pos (by simp)]
        exact sym_two_law P A Q y hA _ (by omega)
      · rw [symM, if_neg (by omega), if_neg (by omega)]
        obtain ⟨a, ha⟩ : ∃ a, P.length = a := ⟨_, rfl⟩
        obtain ⟨m, hm⟩ : ∃ m, a + A.length = m := ⟨_, rfl⟩
        obtain ⟨b, hb⟩ : ∃ b, m + B.length = b := ⟨_, rfl⟩
        obtain ⟨mid, hmid⟩ : ∃ mid, (a + b) / 2 = mid := ⟨_, rfl⟩
        rw [ha, hm, hb, hmid]
        obtain ⟨s, hs⟩ : ∃ s, symStart (P ++ (A ++ (B ++ Q))) a m b = s := ⟨_, rfl⟩
        obtain ⟨g1, g2, g3, g4, g5, g6, g7⟩ := symStart_law P A B Q hA hB (by omega) (by omega) a m b mid s ha.symm hm.symm hb.symm hmid hs
        rw [hs]
        dsimp only
        obtain ⟨A1, A2, eA, lA⟩ : ∃ A1 A2, A = A1 ++ A2 ∧ A1.length = s - a := ⟨A.take (s - a), A.drop (s - a), (List.take_append_drop _ _).symm, by rw [List.length_take]; omega⟩
        obtain ⟨B1, B2, eB, lB⟩ : ∃ B1 B2, B = B1 ++ B2 ∧ B1.length = mid - s := ⟨B.take (mid - s), B.drop (mid - s), (List.take_append_drop _ _).symm, by rw [List.length_take]; omega⟩
        have eA1 : A.take (s - a) = A1 := by rw [eA, ← lA, List.take_left']; rfl
        have eA2 : A.drop (s - a) = A2 := by rw [eA, ← lA, List.drop_left']; rfl
        have eB1 : B.take (mid - s) = B1 := by rw [eB, ← lB, List.take_left']; rfl
        have eB2 : B.drop (mid - s) = B2 := by rw [eB, ← lB, List.drop_left']; rfl
        have sA1 : SortedZ A1 := eA1 ▸ hA.take _
        have sA2 : SortedZ A2 := eA2 ▸ hA.drop _
        have sB1 : SortedZ B1 := eB1 ▸ hB.take _
        have sB2 : SortedZ B2 := eB2 ▸ hB.drop _
        rw [eA1, eB2] at g6
        rw [eA2, eB1] at g7
        have lA' : A.length = A1.length + A2.length := by rw [eA, List.length_append]
        have lB' : B.length = B1.length + B2.length := by rw [eB, List.length_append]
        subst eA
        subst eB
        clear eA1 eA2 eB1 eB2 hs
        -- the rotation
        have hrot : (if s < m ∧ m < mid + m - s then rotM m (mid + m - s - s) (P ++ (A1 ++ A2 ++ (B1 ++ B2 ++ Q))) (m - s) (mid + m - s - m) else P ++ (A1 ++ A2 ++ (B1 ++ B2 ++ Q))) = P ++ (A1 ++ (B1 ++ (A2 ++ (B2 ++ Q)))) := by
          by_cases hc : s < m ∧ m < mid + m - s
          · rw [if_pos hc]
            have e := rotM_join m (mid + m - s - s) (P ++ A1) A2 B1 (B2 ++ Q) (by rw [List.length_append]; omega) (by omega) (by omega) (by omega)
            rw [show A2.length = m - s by omega, show B1.length = mid + m - s - m by omega] at e
            simp only [List.append_assoc] at e ⊢
            exact e
          · rw [if_neg hc]
            rcases Nat.lt_or_ge s m with hsm | hsm
            · have : B1 = [] := List.eq_nil_of_length_eq_zero (by omega)
              subst this
              simp
            · have : A2 = [] := List.eq_nil_of_length_eq_zero (by omega)
              subst this
              simp
        rw [hrot]
        -- the left half
        have hleft : (if a < s ∧ s < mid then symM K (P ++ (A1 ++ (B1 ++ (A2 ++ (B2 ++ Q))))) a s mid else P ++ (A1 ++ (B1 ++ (A2 ++ (B2 ++ Q))))) = P ++ (mergeZ A1 B1 ++ (A2 ++ (B2 ++ Q))) := by
          by_cases hc : a < s ∧ s < mid
          · rw [if_pos hc]
            have e := ih P A1 B1 (A2 ++ (B2 ++ Q)) sA1 sB1 (by omega) (by omega) (by omega)
            rw [ha, show a + A1.length = s by omega, show s + B1.length = mid by omega] at e
            exact e
          · rw [if_neg hc]
            rcases Nat.lt_or_ge a s with hsm | hsm
            · have : B1 = [] := List.eq_nil_of_length_eq_zero (by omega)
              subst this
              rw [mergeZ_nil_right]
              simp
            · have : A1 = [] := List.eq_nil_of_length_eq_zero (by omega)
              subst this
              rw [mergeZ_nil]
              simp
        rw [hleft]
        have hfin : mergeZ (A1 ++ A2) (B1 ++ B2) = mergeZ A1 B1 ++ mergeZ A2 B2 := mergeZ_split A1 A2 B1 B2 g6 g7
        rw [hfin]
        by_cases hc : mid < mid + m - s ∧ mid + m - s < b
        · rw [if_pos hc]
          have e := ih (P ++ mergeZ A1 B1) A2 B2 Q sA2 sB2 (by omega) (by omega) (by omega)
          rw [List.length_append, mergeZ_length, ha, show a + (A1.length + B1.length) = mid by omega, show mid + A2.length = mid + m - s by omega, show mid + m - s + B2.length = b by omega] at e
          simp only [List.append_assoc] at e ⊢
          exact e
        · rw [if_neg hc]
          rcases Nat.lt_or_ge mid (mid + m - s) with hsm | hsm
          · have : B2 = [] := List.eq_nil_of_length_eq_zero (by omega)
            subst this
            rw [mergeZ_nil_right]
            simp
          · have : A2 = [] := List.eq_nil_of_length_eq_zero (by omega)
            subst this
            rw [mergeZ_nil]
            simp
end Go.Proofs.Ytldhpniflnbilaa
/- Plain law: slices.SortStableFunc as an insertion sort. -/
set_option linter.unusedVariables false
set_option linter.unusedSimpArgs false
namespace Go.Proofs.Ytldhpniflnbilaa
open Go.RowKit Go.Proofs.YtldhpniflnbilaaW.PrintWords Go.Proofs.YtldhpniflnbilaaW.PrintLast Go.Proofs.YtldhpniflnbilaaW.PrintMore

/-- l is zs with each block of s sorted. -/
inductive Blk (s : Nat) : List Z → List Z → Prop
  | last (R : List Z) : R.length ≤ s → Blk s (isZ R) R
  | cons (R1 l R : List Z) : R1.length = s → Blk s l R → Blk s (isZ R1 ++ l) (R1 ++ R)
theorem Blk.length {s : Nat} {l R : List Z} (h : Blk s l R) : l.length = R.length := by
  induction h with
  | last R _ => exact isZ_length R
  | cons R1 l R _ _ ih => rw [List.length_append, List.length_append, isZ_length, ih]
theorem Blk.whole {s : Nat} {l R : List Z} (h : Blk s l R) (hs : R.length ≤ s) : l = isZ R := by
  cases h with
  | last R _ => rfl
  | cons R1 l R h1 h2 =>
    rw [List.length_append] at hs
    have hR : R = [] := List.eq_nil_of_length_eq_zero (by omega)
    have hl := h2.length
    subst hR
    have hl : l = [] := List.eq_nil_of_length_eq_zero hl
    subst hl
    simp
theorem stI_law (n : Nat) : ∀ (k : Nat) (P R : List Z), P.length + R.length = n → R.length + 1 ≤ k → ∃ l, stI n k (P ++ R) P.length = P ++ l ∧ Blk 20 l R := by
  intro k
  induction k with
  | zero => intro P R _ h; omega
  | succ k ih =>
    intro P R hn hk
    unfold stI
    by_cases hc : P.length + 20 ≤ n
    · rw [if_pos hc]
      obtain ⟨R1, R2, rfl, h1⟩ : ∃ R1 R2, R = R1 ++ R2 ∧ R1.length = 20 := ⟨R.take 20, R.drop 20, (List.take_append_drop _ _).symm, by rw [List.length_take]; omega⟩
      rw [List.length_append] at hn hk
      rw [insO_join 19 P R1 R2 h1]
      obtain ⟨l, e, hb⟩ := ih (P ++ isZ R1) R2 (by rw [List.length_append, isZ_length]; omega) (by omega)
      rw [List.length_append, isZ_length, h1, List.append_assoc] at e
      exact ⟨isZ R1 ++ l, by rw [e, List.append_assoc], .cons R1 l R2 h1 hb⟩
    · rw [if_neg hc]
      cases R with
      | nil =>
        refine ⟨[], ?_, .last [] (by simp)⟩
        have : n - P.length - 1 = 0 := by simp at hn; omega
        rw [this]
        rfl
      | cons x R =>
        have e := insO_join (n - P.length - 1) P (x :: R) [] (by simp at hn ⊢; omega)
        rw [List.append_nil, List.append_nil] at e
        exact ⟨isZ (x :: R), e, .last _ (by omega)⟩
theorem stP_law (n s : Nat) (hs : 0 < s) : ∀ (k : Nat) (P l R : List Z), P.length + R.length = n → R.length + 1 ≤ k → Blk s l R → ∃ l', stP n s k (P ++ l) P.length = P ++ l' ∧ Blk (2 * s) l' R := by
  intro k
  induction k with
  | zero => intro P l R _ h; omega
  | succ k ih =>
    intro P l R hn hk hb
    unfold stP
    cases hb with
    | last R hR =>
      rw [if_neg (by omega), if_neg (by omega)]
      exact ⟨isZ R, rfl, .last R (by omega)⟩
    | cons R1 l1 R' h1 hb' =>
      have hl1 := hb'.length
      rw [List.length_append] at hn hk
      cases hb' with
      | last R' hR =>
        by_cases hc : P.length + 2 * s ≤ n
        · rw [if_pos hc]
          have hm := symM_join n P (isZ R1) (isZ R') [] (isZ_sorted _) (isZ_sorted _) (by rw [isZ_length]; omega) (by rw [isZ_length]; omega) (by rw [isZ_length, isZ_length]; omega)
          rw [List.append_nil, List.append_nil, isZ_length, isZ_length, h1, show P.length + s + R'.length = P.length + 2 * s by omega, ← isZ_append] at hm
          rw [hm]
          cases k with
          | zero => omega
          | succ k =>
            rw [stP, if_neg (by omega), if_neg (by omega)]
            exact ⟨_, rfl, .last _ (by rw [List.length_append]; omega)⟩
        · rw [if_neg hc]
          by_cases hc2 : P.length + s < n
          · rw [if_pos hc2]
            have hm := symM_join n P (isZ R1) (isZ R') [] (isZ_sorted _) (isZ_sorted _) (by rw [isZ_length]; omega) (by rw [isZ_length]; omega) (by rw [isZ_length, isZ_length]; omega)
            rw [List.append_nil, List.append_nil, isZ_length, isZ_length, h1, show P.length + s + R'.length = n by omega, ← isZ_append] at hm
            rw [hm]
            exact ⟨_, rfl, .last _ (by rw [List.length_append]; omega)⟩
          · rw [if_neg hc2]
            have hR : R' = [] := List.eq_nil_of_length_eq_zero (by omega)
            subst hR
            exact ⟨_, rfl, by rw [List.append_nil]; show Blk (2 * s) (isZ R1 ++ []) R1; rw [List.append_nil]; exact .last _ (by omega)⟩
      | cons R2 l2 R'' h2 hb2 =>
        rw [List.length_append] at hn hk
        rw [if_pos (by omega)]
        have hm := symM_join n P (isZ R1) (isZ R2) l2 (isZ_sorted _) (isZ_sorted _) (by rw [isZ_length]; omega) (by rw [isZ_length]; omega) (by rw [isZ_length, isZ_length]; omega)
        rw [isZ_length, isZ_length, h1, h2, show P.length + s + s = P.length + 2 * s by omega, ← isZ_append] at hm
        rw [hm]
        obtain ⟨l', e, hb3⟩ := ih (P ++ isZ (R1 ++ R2)) l2 R'' (by rw [List.length_append, isZ_length, List.length_append]; omega) (by omega) hb2
        rw [List.length_append, isZ_length, List.length_append, h1, h2, show P.length + (s + s) = P.length + 2 * s by omega, List.append_assoc] at e
        refine ⟨isZ (R1 ++ R2) ++ l', by rw [e, List.append_assoc], ?_⟩
        rw [← List.append_assoc]
        exact .cons (R1 ++ R2) l' R'' (by rw [List.length_append]; omega) hb3
theorem stO_law (n : Nat) : ∀ (k s : Nat) (l R : List Z), R.length = n → n + 1 ≤ k + s → 0 < s → Blk s l R → stO n k l s = isZ R := by
  intro k
  induction k with
  | zero => intro s l R hn hk _ hb; exact hb.whole (by omega)
  | succ k ih =>
    intro s l R hn hk hs hb
    unfold stO
    by_cases hc : s < n
    · rw [if_pos hc]
      obtain ⟨l', e, hb'⟩ := stP_law n s hs (n + 1) [] l R (by simpa using hn) (by omega) hb
      rw [List.nil_append, List.nil_append, List.length_nil] at e
      rw [e]
      exact ih (2 * s) l' R hn (by omega) (by omega) hb'
    · rw [if_neg hc]
      exact hb.whole (by omega)
/-- slices.SortStableFunc sorts, and keeps the order of equal items. -/
theorem stM_law (zs : List Z) : stM zs.length zs = isZ zs := by
  obtain ⟨l, e, hb⟩ := stI_law zs.length (zs.length + 1) [] zs (by simp) (by omega)
  rw [List.nil_append, List.nil_append, List.length_nil] at e
  rw [stM, e]
  exact stO_law zs.length (zs.length + 1) 20 l zs rfl (by omega) (by omega) hb

/-! ### The same on trees alone -/
def insT (x : Tr) : List Tr → List Tr
  | [] => [x]
  | y :: ys => if y.wt ≤ x.wt then y :: insT x ys else x :: y :: ys
def isT (l : List Tr) : List Tr := l.foldl (fun acc x => insT x acc) []
theorem insZ_map (x : Z) : ∀ l, (insZ x l).map (·.2) = insT x.2 (l.map (·.2))
  | [] => rfl
  | y :: ys => by
    simp only [insZ, List.map_cons, insT]
    split
    · rw [List.map_cons, insZ_map x ys]
    · rfl
theorem isZ_map (l : List Z) : (isZ l).map (·.2) = isT (l.map (·.2)) := by
  suffices ∀ (r acc : List Z), (r.foldl (fun acc x => insZ x acc) acc).map (·.2) = (r.map (·.2)).foldl (fun acc x => insT x acc) (acc.map (·.2)) from this l []
  intro r
  induction r with
  | nil => intro acc; rfl
  | cons x r ih => intro acc; rw [List.foldl_cons, ih, insZ_map]; rfl
end Go.Proofs.Ytldhpniflnbilaa
/- prefix.Lengths. -/
set_option linter.unusedVariables false
set_option linter.unusedSimpArgs false
namespace Go.Proofs.Ytldhpniflnbilaa
open Go.RowKit Go.Proofs.YtldhpniflnbilaaW.PrintWords Go.Proofs.YtldhpniflnbilaaW.PrintLast Go.Proofs.YtldhpniflnbilaaW.PrintMore

theorem long_calls (A : Option Addr) (c : Nat) (l : List Int) (w : World) : Calls Try.prog 43 #[.slice A l.length c] w fun e w' => e = .returned (.bool (decide (4096 < (l.length : Int)))) ∧ w = w' := by
  go_enter Try.func43, Try.ntmps43
  go_wp2
  go_ret
  exact ⟨rfl, rfl⟩
def withinL (l : List Int) (m : Int) : Bool := l.all fun x => decide (0 ≤ x) && decide (x ≤ m)
theorem within_calls (A : Option Addr) (c : Nat) (l : List Int) (m : Int) (w : World) (hr : Kd.C (Kd.int .i64) w A l.length l) (hl : l.length ≤ 1000000) : Calls Try.prog 44 #[.slice A l.length c, .int .i64 m] w fun e w' => e = .returned (.bool (withinL l m)) ∧ w = w' := by
  have HR := Aside0.mk hr
  clear hr
  obtain ⟨r, hr⟩ : ∃ r, withinL l m = r := ⟨_, rfl⟩
  rw [hr]
  have HE := Aside0.mk (show withinL (l.drop 0) m = r from hr)
  clear hr
  go_enter Try.func44, Try.ntmps44
  go_wp2
  go_loopg [9] (l.length + 1) (fun q v9 w' => ∃ i : Nat, v9 = .int .i64 (i : Int) ∧ Aside0 (q + i = l.length + 1 ∧ i ≤ l.length) ∧ Aside0 (withinL (l.drop i) m = r) ∧ w = w')
  case atStart => exact ⟨0, rfl, ⟨by omega, by omega⟩, HE, rfl⟩
  case round =>
    clear HE
    obtain ⟨i, rfl, HK, HE, rfl⟩ := hrel
    by_cases hlt : i < l.length
    · obtain ⟨ad, rfl, hcell⟩ := Kd.at_int HR.out (i : Int) (by omega) (by omega)
      rw [Int.toNat_natCast] at hcell
      have hst : withinL (l.drop i) m = ((decide (0 ≤ rd l i) && decide (rd l i ≤ m)) && withinL (l.drop (i + 1)) m) := by
        rw [List.drop_eq_getElem_cons hlt]
        have e : rd l i = l[i] := by simp [rd, List.getD_eq_getElem?_getD, List.getElem?_eq_getElem hlt]
        rw [e]
        show ((l[i] :: l.drop (i + 1)).all fun x => decide (0 ≤ x) && decide (x ≤ m)) = _
        rw [List.all_cons]
        rfl
      rw [HE.out] at hst
      have HST := Aside0.mk hst
      clear hst HE
      generalize rd l i = x at *
      by_cases h1 : x < 0
      · have HF := Aside0.mk (show r = false by rw [HST.out]; simp; omega)
        go_wp2
        refine bodyPost_ret (results_tmp rfl _ _ _) rfl ?_
        exact ⟨by rw [HF.out]; rfl, rfl⟩
      · by_cases h2 : m < x
        · have HF := Aside0.mk (show r = false by rw [HST.out]; simp; omega)
          go_wp2
          refine bodyPost_ret (results_tmp rfl _ _ _) rfl ?_
          exact ⟨by rw [HF.out]; rfl, rfl⟩
        · have HF := Aside0.mk (show withinL (l.drop (i + 1)) m = r by rw [HST.out]; simp; omega)
          go_wp2
          go_roundg (gk - 1)
          case measure => have := HK.out; omega
          case rel => exact ⟨i + 1, (by go_num), ⟨by have := HK.out; omega, by omega⟩, HF, rfl⟩
    · have hd : l.drop i = [] := List.drop_eq_nil_of_le (by omega)
      have HF := Aside0.mk (show true = r by rw [← HE.out, hd]; rfl)
      clear hd
      have hi : (i : Int) ≤ 1000001 := by have := HK.out; omega
      go_wp2
      go_ret
      exact ⟨by rw [← HF.out]; rfl, rfl⟩

theorem within_callsB (A : Option Addr) (c : Nat) (l : List Int) (m : Int) (b : Bool) (w : World) (hr : Kd.C (Kd.int .i64) w A l.length l) (hl : l.length ≤ 1000000) (hb : withinL l m = b) : Calls Try.prog 44 #[.slice A l.length c, .int .i64 m] w fun e w' => e = .returned (.bool b) ∧ w = w' := by
  rw [← hb]
  exact within_calls A c l m w hr hl
/-! ### The lists, the numbers of their items -/
def treeLists (S : List Tr) : Nat → List Tr
  | 0 => S
  | n + 1 => mergeT S (packT (treeLists S n))
theorem mergeT_length (a : List Tr) : ∀ b, (mergeT a b).length = a.length + b.length := by
  induction a with
  | nil => intro b; simp [mergeT_nil]
  | cons x xs ih =>
    intro b
    induction b with
    | nil => simp [mergeT_nil_right]
    | cons y ys ihb =>
      rw [mergeT_cons]
      split
      · simp only [List.length_cons, ih]; omega
      · simp only [List.length_cons] at ihb ⊢; omega
theorem packT_length : ∀ a : List Tr, (packT a).length = a.length / 2
  | [] => rfl
  | [_] => by simp [packT]
  | x :: y :: r => by simp only [packT, List.length_cons, packT_length r]; omega
theorem treeLists_length (S : List Tr) (n : Nat) : (treeLists S n).length + (S.length + 2 ^ n - 1) / 2 ^ n = 2 * S.length := by
  induction n with
  | zero => simp [treeLists]; omega
  | succ n ih =>
    rw [treeLists, mergeT_length, packT_length]
    have h2 : (S.length + 2 ^ (n + 1) - 1) / 2 ^ (n + 1) = ((S.length + 2 ^ n - 1) / 2 ^ n + 1) / 2 := by
      rw [Nat.pow_succ, ← Nat.div_div_eq_div_mul]
      have hp : 0 < 2 ^ n := Nat.two_pow_pos n
      have : (S.length + 2 ^ n * 2 - 1) = (S.length + 2 ^ n - 1) + 2 ^ n := by omega
      rw [this, Nat.add_div_right _ hp]
    rw [h2]
    generalize (S.length + 2 ^ n - 1) / 2 ^ n = q at *
    omega
theorem treeLists_le (S : List Tr) (n : Nat) : (treeLists S n).length ≤ 2 * S.length := by
  have := treeLists_length S n
  generalize (S.length + 2 ^ n - 1) / 2 ^ n = q at this
  omega
theorem treeLists_enough (S : List Tr) (n : Nat) (h : S.length ≤ 2 ^ (n + 1)) : 2 * S.length - 2 ≤ (treeLists S n).length := by
  have h1 := treeLists_length S n
  have hp : 0 < 2 ^ n := Nat.two_pow_pos n
  have : (S.length + 2 ^ n - 1) / 2 ^ n ≤ 2 := by
    have h3 : S.length + 2 ^ n - 1 < 3 * 2 ^ n := by rw [Nat.pow_succ] at h; omega
    have := (Nat.div_lt_iff_lt_mul hp).2 h3
    omega
  omega
/-- All symbols of the trees are from lo to hi - 1. -/
def SymsIn (n : Nat) (ts : List Tr) : Prop := ∀ t ∈ ts, ∀ s ∈ t.syms, 0 ≤ s ∧ s < (n : Int)
theorem SymsIn.pack {n : Nat} : ∀ {ts : List Tr}, SymsIn n ts → SymsIn n (packT ts)
  | [], _ => fun t ht => by cases ht
  | [_], _ => fun t ht => by cases ht
  | x :: y :: r, h => fun t ht => by
    rcases List.mem_cons.1 ht with rfl | ht
    · intro s hs
      rcases List.mem_append.1 hs with hs | hs
      · exact h x (by simp) s hs
      · exact h y (by simp) s hs
    · exact SymsIn.pack (fun z hz => h z (by simp [hz])) t ht
theorem mem_mergeT (a : List Tr) : ∀ (b : List Tr) (z : Tr), z ∈ mergeT a b ↔ z ∈ a ∨ z ∈ b := by
  induction a with
  | nil => intro b z; simp [mergeT_nil]
  | cons x xs ih =>
    intro b z
    induction b with
    | nil => simp [mergeT_nil_right]
    | cons y ys ihb =>
      rw [mergeT_cons]
      split
      · simp only [List.mem_cons, ih]; constructor
        · rintro (h | h | h | h) <;> simp [h]
        · rintro ((h | h) | h | h) <;> simp [h]
      · simp only [List.mem_cons, ihb]; constructor
        · rintro (h | (h | h) | h) <;> simp [h]
        · rintro ((h | h) | h | h) <;> simp [h]
theorem SymsIn.lists {n : Nat} {S : List Tr} (h : SymsIn n S) : ∀ k, SymsIn n (treeLists S k)
  | 0 => h
  | k + 1 => fun t ht => by
    rcases (mem_mergeT _ _ _).1 ht with ht | ht
    · exact h t ht
    · exact (SymsIn.lists h k).pack t ht
theorem mem_insT (x : Tr) : ∀ (l : List Tr) (z : Tr), z ∈ insT x l → z = x ∨ z ∈ l
  | [], z, h => by simpa [insT] using h
  | y :: ys, z, h => by
    unfold insT at h
    split at h
    · rcases List.mem_cons.1 h with h | h
      · simp [h]
      · rcases mem_insT x ys z h with h | h <;> simp [h]
    · rcases List.mem_cons.1 h with h | h
      · simp [h]
      · exact .inr h
theorem mem_isT (l : List Tr) (z : Tr) (h : z ∈ isT l) : z ∈ l := by
  suffices ∀ (r acc : List Tr), z ∈ r.foldl (fun acc x => insT x acc) acc → z ∈ acc ∨ z ∈ r by
    rcases this l [] h with h | h
    · cases h
    · exact h
  intro r
  induction r with
  | nil => intro acc h; exact .inl h
  | cons x r ih =>
    intro acc h
    rcases ih _ h with h | h
    · rcases mem_insT x acc z h with h | h <;> simp [h]
    · simp [h]
theorem leafs_in : ∀ (l : List Int) (i : Nat) (t : Tr), t ∈ leafs l i → ∃ (s : Nat) (f : Int), t = .leaf s f ∧ i ≤ s ∧ s < i + l.length
  | [], i, t, h => by cases h
  | f :: r, i, t, h => by
    unfold leafs at h
    split at h
    · rcases List.mem_cons.1 h with rfl | h
      · exact ⟨i, f, rfl, Nat.le_refl _, by simp⟩
      · obtain ⟨s, f', e, h1, h2⟩ := leafs_in r (i + 1) t h
        exact ⟨s, f', e, by omega, by simp; omega⟩
    · obtain ⟨s, f', e, h1, h2⟩ := leafs_in r (i + 1) t h
      exact ⟨s, f', e, by omega, by simp; omega⟩
theorem leafs_length : ∀ (l : List Int) (i : Nat), (leafs l i).length ≤ l.length
  | [], _ => Nat.le_refl _
  | f :: r, i => by
    unfold leafs
    split
    · simp only [List.length_cons]; have := leafs_length r (i + 1); omega
    · simp only [List.length_cons]; have := leafs_length r (i + 1); omega
theorem syms_leafs (l : List Int) : SymsIn l.length (isT (leafs l 0)) := by
  intro t ht s hs
  obtain ⟨s', f, rfl, h1, h2⟩ := leafs_in l 0 t (mem_isT _ _ ht)
  rw [Tr.syms, List.mem_singleton] at hs
  omega
theorem insT_length (x : Tr) : ∀ l, (insT x l).length = l.length + 1
  | [] => rfl
  | y :: ys => by
    unfold insT
    split
    · rw [List.length_cons, insT_length x ys, List.length_cons]
    · rfl
theorem isT_length (l : List Tr) : (isT l).length = l.length := by
  suffices ∀ (r acc : List Tr), (r.foldl (fun acc x => insT x acc) acc).length = acc.length + r.length by simpa [isT] using this l []
  intro r
  induction r with
  | nil => intro acc; rfl
  | cons x r ih => intro acc; rw [List.foldl_cons, ih, insT_length, List.length_cons]; omega

/-- prefix.Lengths on lists. -/
def lengthsS (l : List Int) (m : Nat) : List Int :=
  let S := isT (leafs l 0)
  if S.length = 1 then (List.replicate l.length 0).set ((S.headD (.leaf 0 0)).val).toNat 1
  else if S.length < 2 then List.replicate l.length 0
  else bumps (List.replicate l.length 0) (((treeLists S (m - 1)).take (2 * S.length - 2)).flatMap Tr.syms)
def lengthsF (l : List Int) (m : Int) : List Int × Int :=
  if 4096 < l.length then ([], 4)
  else if withinL l 1099511627776 = false ∨ m < 1 ∨ 30 < m then ([], 3)
  else if 2 ^ m.toNat < (isT (leafs l 0)).length then ([], 16)
  else (lengthsS l m.toNat, 0)

set_option maxHeartbeats 8000000 in
set_option maxRecDepth 100000 in
theorem lengths_err (A : Option Addr) (c : Nat) (l : List Int) (m : Int) (w : World) (hr : Kd.C (Kd.int .i64) w A l.length l) (hc : l.length ≤ c) (he : 4096 < l.length ∨ withinL l 1099511627776 = false ∨ m < 1 ∨ 30 < m) :
    Calls Try.prog 17 #[.slice A l.length c, .int .i64 m] w fun e w' => e = .returned (.tuple #[.slice none 0 0, .int .i64 (lengthsF l m).2]) ∧ (lengthsF l m).1 = [] ∧ Below w.heap.size w w' := by
  have HR := Aside0.mk hr
  clear hr
  by_cases h0 : 4096 < l.length
  · have HF := Aside0.mk (show lengthsF l m = ([], 4) by rw [lengthsF, if_pos h0])
    have hb : decide (4096 < (l.length : Int)) = true := by simp; omega
    clear he
    go_enter Try.func17, Try.ntmps17
    go_wp2_with (go_at_call 43; refine (long_calls _ _ l _).mono ?_; rintro e w' ⟨rfl, rfl⟩)
    refine bodyPost_ret (v := .tuple #[.slice none 0 0, .int .i64 4]) (by simp [results, Try.results17, go_sem]) rfl ?_
    exact ⟨by rw [HF.out], by rw [HF.out], Below.refl _ _⟩
  · have hl : l.length ≤ 1000000 := by omega
    have HL0 := Aside0.mk h0
    have hb : decide (4096 < (l.length : Int)) = false := by simp; omega
    have HF := Aside0.mk (show lengthsF l m = ([], 3) by rw [lengthsF, if_neg h0, if_pos (by rcases he with h | h; exact absurd h h0; exact h)])
    obtain ⟨bw, hbw⟩ : ∃ b, withinL l 1099511627776 = b := ⟨_, rfl⟩
    have HW := Aside0.mk hbw
    cases bw with
    | false =>
      clear he h0 hbw
      go_enter Try.func17, Try.ntmps17
      go_wp2_with (first | (go_at_call 43; refine (long_calls _ _ l _).mono ?_; rintro e w' ⟨rfl, rfl⟩) | (go_at_call 44; refine (within_callsB _ _ l _ false _ HR.out hl HW.out).mono ?_; rintro e w' ⟨rfl, rfl⟩))
      refine bodyPost_ret (v := .tuple #[.slice none 0 0, .int .i64 3]) (by simp [results, Try.results17, go_sem]) rfl ?_
      exact ⟨by rw [HF.out], by rw [HF.out], Below.refl _ _⟩
    | true =>
      rw [hbw] at he
      by_cases hm1 : m < 1
      · clear he h0 hbw
        go_enter Try.func17, Try.ntmps17
        go_wp2_with (first | (go_at_call 43; refine (long_calls _ _ l _).mono ?_; rintro e w' ⟨rfl, rfl⟩) | (go_at_call 44; refine (within_callsB _ _ l _ true _ HR.out hl HW.out).mono ?_; rintro e w' ⟨rfl, rfl⟩))
        refine bodyPost_ret (v := .tuple #[.slice none 0 0, .int .i64 3]) (by simp [results, Try.results17, go_sem]) rfl ?_
        exact ⟨by rw [HF.out], by rw [HF.out], Below.refl _ _⟩
      · have hm2 : 30 < m := by
          rcases he with h | h | h | h
          · exact absurd h h0
          · cases h
          · exact absurd h hm1
          · exact h
        clear he h0 hbw
        go_enter Try.func17, Try.ntmps17
        go_wp2_with (first | (go_at_call 43; refine (long_calls _ _ l _).mono ?_; rintro e w' ⟨rfl, rfl⟩) | (go_at_call 44; refine (within_callsB _ _ l _ true _ HR.out hl HW.out).mono ?_; rintro e w' ⟨rfl, rfl⟩))
        refine bodyPost_ret (v := .tuple #[.slice none 0 0, .int .i64 3]) (by simp [results, Try.results17, go_sem]) rfl ?_
        exact ⟨by rw [HF.out], by rw [HF.out], Below.refl _ _⟩

theorem singles_k (A : Option Addr) (c k : Nat) (l : List Int) (w : World) (hr : Kd.C (Kd.int .i64) w A l.length l) (hc : l.length ≤ c) (hl : l.length ≤ 1000000) (hk : (isT (leafs l 0)).length = k) :
    Calls Try.prog 45 #[.slice A l.length c] w fun e w' => ∃ (A1 : Option Addr) (c1 : Nat) (ps : List Addr), e = .returned (.slice A1 k c1) ∧ ps.length = k ∧ k ≤ c1 ∧ kPtr.C w' A1 ps.length ps ∧ Ats w' (isT (leafs l 0)) ps ∧ Below w.heap.size w w' ∧ kPtr.R 62 w' w.heap.size (fun _ => True) (.slice A1 k c1) ps := by
  refine (singles_calls A c l w hr hc hl).mono ?_
  rintro e w' ⟨v, zs, rfl, h1, h2, h3, h4⟩
  obtain ⟨A1, c1, rfl, h5, h6⟩ := Kd.R_reads h2
  have e1 : (stM zs.length zs).map (·.2) = isT (leafs l 0) := by rw [stM_law, isZ_map, h1]
  have e2 : ((stM zs.length zs).map (·.1)).length = k := by rw [← hk, ← e1, List.length_map, List.length_map]
  rw [e2] at h5
  exact ⟨A1, c1, (stM zs.length zs).map (·.1), by rw [e2], e2, h5, h6, by rw [← e1]; exact h3.ats, h4, by rw [e2] at h2; exact h2⟩
theorem pow_wrap (m : Nat) (h : m ≤ 30) : ∃ M : Nat, M = 2 ^ m ∧ wrap64 ((2 : Int) ^ m) = (M : Int) ∧ M ≤ 1073741824 := by
  have h1 : 2 ^ m ≤ 2 ^ 30 := Nat.pow_le_pow_right (by omega) h
  have h2 : ((2 : Int) ^ m) = ((2 ^ m : Nat) : Int) := by simp
  refine ⟨2 ^ m, rfl, ?_, h1⟩
  rw [h2]
  generalize 2 ^ m = M at *
  unfold wrap64
  omega

set_option maxHeartbeats 8000000 in
set_option maxRecDepth 100000 in
theorem lengths_cap (A : Option Addr) (c : Nat) (l : List Int) (m : Nat) (w : World) (hr : Kd.C (Kd.int .i64) w A l.length l) (hc : l.length ≤ c) (h0 : l.length ≤ 4096) (hw : Aside0 (withinL l 1099511627776 = true)) (hm1 : 1 ≤ m) (hm2 : m ≤ 30) (hk : 2 ^ m < (isT (leafs l 0)).length) :
    Calls Try.prog 17 #[.slice A l.length c, .int .i64 m] w fun e w' => e = .returned (.tuple #[.slice none 0 0, .int .i64 16]) ∧ Below w.heap.size w w' := by
  have HR := Aside0.mk hr
  have HC := Aside0.mk hc
  clear hr
  have hb : decide (4096 < (l.length : Int)) = false := by simp; omega
  have hl : l.length ≤ 1000000 := by omega
  have hm3 : (1 : Int) ≤ (m : Int) := by omega
  have hm4 : (m : Int) ≤ 30 := by omega
  obtain ⟨k, hkk⟩ : ∃ k, (isT (leafs l 0)).length = k := ⟨_, rfl⟩
  rw [hkk] at hk
  obtain ⟨M, hM, hM2, hM3⟩ := pow_wrap m hm2
  rw [← hM] at hk
  have HKK := Aside0.mk hkk
  clear hkk hM
  go_enter Try.func17, Try.ntmps17
  go_wp2_with (first | (go_at_call 43; refine (long_calls _ _ l _).mono ?_; rintro e w' ⟨rfl, rfl⟩) | (go_at_call 44; refine (within_callsB _ _ l _ true _ HR.out hl hw.out).mono ?_; rintro e w' ⟨rfl, rfl⟩) | (go_at_call 45; refine (singles_k _ _ k l _ HR.out HC.out hl HKK.out).mono ?_; rintro e w1 ⟨A1, c1, ps, rfl, hp1, hp2, hp3, hp4, hb1, hp5⟩; have HB1 := Aside0.mk hb1; clear hp1 hp2 hp3 hp4 hb1 hp5))
  refine bodyPost_ret (v := .tuple #[.slice none 0 0, .int .i64 16]) (by simp [results, Try.results17, go_sem]) rfl ?_
  exact ⟨rfl, HB1.out⟩

theorem infoInt : (Try.prog.info? 3).map (fun i => (i.zero, i.size, i.bytes)) = some (some (.int .i64 0), 1, 8) := by kernel_rfl
theorem made_form {α : Type} {d : Kd α} {e base B : Nat} {ok : Nat → Prop} {w : World} {v : Value} {xs : List α} (h : d.R e w base ok v xs) (hn : ∃ b, v.ownBlock = some b ∧ B ≤ b) : ∃ g cap, v = .slice (some ⟨g, 0, none⟩) xs.length cap ∧ B ≤ g := by
  obtain ⟨inner, hown⟩ := Kd.R_own h
  obtain ⟨b, hb, hB⟩ := hn
  rcases hown.2 with ⟨h1, _⟩ | ⟨g, cap, cur, h1, _⟩
  · subst h1
    simp [Value.ownBlock] at hb
  · subst h1
    have : g = b := by simpa [Value.ownBlock] using hb
    subst this
    exact ⟨g, cap, rfl, hB⟩

set_option maxHeartbeats 8000000 in
set_option maxRecDepth 100000 in
theorem lengths_few (A : Option Addr) (c : Nat) (l : List Int) (m : Nat) (w : World) (hr : Kd.C (Kd.int .i64) w A l.length l) (hc : l.length ≤ c) (h0 : l.length ≤ 4096) (hw : Aside0 (withinL l 1099511627776 = true)) (hm1 : 1 ≤ m) (hm2 : m ≤ 30) (hk : (isT (leafs l 0)).length = 0) :
    Calls Try.prog 17 #[.slice A l.length c, .int .i64 m] w fun e w' => ∃ v, e = .returned (.tuple #[v, .int .i64 0]) ∧ (Kd.int .i64).R 3 w' w.heap.size (fun _ => True) v (List.replicate l.length 0) ∧ Below w.heap.size w w' := by
  have HR := Aside0.mk hr
  have HC := Aside0.mk hc
  clear hr
  have hb : decide (4096 < (l.length : Int)) = false := by simp; omega
  have hl : l.length ≤ 1000000 := by omega
  have hm3 : (1 : Int) ≤ (m : Int) := by omega
  have hm4 : (m : Int) ≤ 30 := by omega
  obtain ⟨M, hM, hM2, hM3⟩ := pow_wrap m hm2
  have hM4 : 0 < M := by rw [hM]; exact Nat.two_pow_pos m
  have HKK := Aside0.mk hk
  clear hk hM
  go_enter Try.func17, Try.ntmps17
  go_wp2_with (first | (go_at_call 43; refine (long_calls _ _ l _).mono ?_; rintro e w' ⟨rfl, rfl⟩) | (go_at_call 44; refine (within_callsB _ _ l _ true _ HR.out hl hw.out).mono ?_; rintro e w' ⟨rfl, rfl⟩) | (go_at_call 45; refine (singles_k _ _ 0 l _ HR.out HC.out hl HKK.out).mono ?_; rintro e w1 ⟨A1, c1, ps, rfl, hp1, hp2, hp3, hp4, hb1, hp5⟩; have HPL := Aside0.mk hp1; have HPC := Aside0.mk hp2; have HPR := Aside0.mk hp3; have HAT := Aside0.mk hp4; have HB := Aside0.mk hb1; have HFR := Aside0.mk hp5; clear hp1 hp2 hp3 hp4 hb1 hp5) | ((with_reducible refine gate_dst (N := 36) rfl ?_); refine Kd.R_make (Kd.int .i64) (w0 := w) w.heap.size 3 rfl (N := 36) rfl 22 _ _ rfl ((l.length : Int)) rfl rfl Try.underlying22 (.int .i64 0) 8 infoInt rfl (by decide) (by decide) (0) (ok := fun _ => True) (okp := fun _ => True) rfl (fun _ hk => hk) trivial (by omega) ?aL ?aB ?aS ?_; (case aL => omega); (case aB => repeat (first | exact HB.out | apply below_alloc | apply pw_below_drewN | apply below_drew1)); (case aS => refine below_size ?_; repeat (first | exact HB.out | apply below_alloc | apply pw_below_drewN | apply below_drew1)); intro v2 w2 ho2 hb2 hg2 hn2; rw [Int.toNat_natCast] at ho2; obtain ⟨g, c2, hv, hge⟩ := made_form ho2 hn2; subst hv; rw [List.length_replicate] at ho2 ⊢; have HO := Aside0.mk ho2; have HB2 := Aside0.mk hb2; have HG2 := Aside0.mk hg2; have HGE := Aside0.mk (show w.heap.size ≤ g from Nat.le_trans (below_size HB.out) hge); clear ho2 hb2 hg2 hn2 hge))
  refine bodyPost_ret (v := .tuple #[.slice (some ⟨g, 0, none⟩) l.length c2, .int .i64 0]) (by simp [results, Try.results17, go_sem]) rfl ?_
  exact ⟨_, rfl, Kd.R_alloc HO.out _, below_alloc HB2.out _⟩

set_option maxHeartbeats 8000000 in
set_option maxRecDepth 100000 in
theorem lengths_one (A : Option Addr) (c : Nat) (l : List Int) (m : Nat) (w : World) (hr : Kd.C (Kd.int .i64) w A l.length l) (hc : l.length ≤ c) (h0 : l.length ≤ 4096) (hw : Aside0 (withinL l 1099511627776 = true)) (hm1 : 1 ≤ m) (hm2 : m ≤ 30) (hk : (isT (leafs l 0)).length = 1) :
    Calls Try.prog 17 #[.slice A l.length c, .int .i64 m] w fun e w' => ∃ v, e = .returned (.tuple #[v, .int .i64 0]) ∧ (Kd.int .i64).R 3 w' w.heap.size (fun _ => True) v ((List.replicate l.length 0).set (((isT (leafs l 0)).headD (.leaf 0 0)).val).toNat 1) ∧ Below w.heap.size w w' := by
  obtain ⟨t, ht⟩ : ∃ t, isT (leafs l 0) = [t] := by
    match h : isT (leafs l 0), hk with
    | [t], _ => exact ⟨t, rfl⟩
  have hsy := syms_leafs l
  rw [ht] at hsy
  obtain ⟨s, f, ht2, _, hs2⟩ := leafs_in l 0 t (mem_isT _ _ (by rw [ht]; simp))
  have HT := Aside0.mk ht
  subst ht2
  have HSET := Aside0.mk (show (((isT (leafs l 0)).headD (.leaf 0 0)).val).toNat = s by rw [ht]; simp [Tr.val])
  rw [HSET.out]
  have hs3 : s < l.length := by omega
  have HR := Aside0.mk hr
  have HC := Aside0.mk hc
  clear hr ht hsy HSET
  have hb : decide (4096 < (l.length : Int)) = false := by simp; omega
  have hl : l.length ≤ 1000000 := by omega
  have hm3 : (1 : Int) ≤ (m : Int) := by omega
  have hm4 : (m : Int) ≤ 30 := by omega
  obtain ⟨M, hM, hM2, hM3⟩ := pow_wrap m hm2
  have hM4 : 1 ≤ M := by rw [hM]; exact Nat.two_pow_pos m
  have HKK := Aside0.mk hk
  clear hk hM
  go_enter Try.func17, Try.ntmps17
  go_upto_region 11 with (first | (go_at_call 43; refine (long_calls _ _ l _).mono ?_; rintro e w' ⟨rfl, rfl⟩) | (go_at_call 44; refine (within_callsB _ _ l _ true _ HR.out hl hw.out).mono ?_; rintro e w' ⟨rfl, rfl⟩) | (go_at_call 45; refine (singles_k _ _ 1 l _ HR.out HC.out hl HKK.out).mono ?_; rintro e w1 ⟨A1, c1, ps, rfl, hp1, hp2, hp3, hp4, hb1, hp5⟩; have HPL := Aside0.mk hp1; have HPC := Aside0.mk hp2; have HPR := Aside0.mk hp3; have HAT := Aside0.mk hp4; have HB := Aside0.mk hb1; have HFR := Aside0.mk hp5; clear hp1 hp2 hp3 hp4 hb1 hp5) | ((with_reducible refine gate_dst (N := 36) rfl ?_); refine Kd.R_make (Kd.int .i64) (w0 := w) w.heap.size 3 rfl (N := 36) rfl 22 _ _ rfl ((l.length : Int)) rfl rfl Try.underlying22 (.int .i64 0) 8 infoInt rfl (by decide) (by decide) (0) (ok := fun _ => True) (okp := fun _ => True) rfl (fun _ hk => hk) trivial (by omega) ?aL ?aB ?aS ?_; (case aL => omega); (case aB => repeat (first | exact HB.out | apply below_alloc | apply pw_below_drewN | apply below_drew1)); (case aS => refine below_size ?_; repeat (first | exact HB.out | apply below_alloc | apply pw_below_drewN | apply below_drew1)); intro v2 w2 ho2 hb2 hg2 hn2; rw [Int.toNat_natCast] at ho2; obtain ⟨g, c2, hv, hge⟩ := made_form ho2 hn2; subst hv; rw [List.length_replicate] at ho2 ⊢; have HO := Aside0.mk ho2; have HB2 := Aside0.mk hb2; have HG2 := Aside0.mk hg2; have HGE := Aside0.mk (show w.heap.size ≤ g from Nat.le_trans (below_size HB.out) hge); clear ho2 hb2 hg2 hn2 hge))
  rw [HT.out] at HAT
  obtain ⟨p, hp⟩ : ∃ p, ps = [p] := by
    cases ps with
    | nil => have := HPL.out; simp at this
    | cons p ps => cases ps with
      | nil => exact ⟨p, rfl⟩
      | cons _ _ => have := HPL.out; simp at this
  subst hp
  obtain ⟨b, hpb, hblk⟩ := HAT.out.1
  subst hpb
  obtain ⟨ad, hA1, hcell⟩ := kPtr_cell HPR.out 0 (by simp)
  subst hA1
  rw [Addr.add_zero'] at hcell
  simp only [List.getElem_cons_zero] at hcell
  have hv0 := (blk_cell hblk 0).trans rfl
  obtain ⟨O, hO⟩ : ∃ O, Obj.cells #[.slice (some ⟨g, 0, none⟩) l.length c2] 22 (0, 0) = O := ⟨_, rfl⟩
  have HBW : Below w1.heap.size w1 (w2.alloc O) := below_alloc ((Below.refl _ _).grown HG2.out (Nat.le_refl _) (fun k e => by cases e)) O
  have hcell := pw_cell_below HBW hcell
  have hv0 := pw_cell_below HBW hv0
  have hbox : (w2.alloc O).heap[w2.heap.size]? = some (Obj.cells #[.slice (some ⟨g, 0, none⟩) l.length c2] 22 (0, 0)) := by rw [hO]; exact blk_new w2 O
  have hI : Irow (w2.alloc O) w.heap.size g l.length c2 (List.replicate l.length 0) := Kd.R_alloc HO.out O
  have HBB := Aside0.mk (below_alloc HB2.out O)
  rw [hO]
  generalize w2.heap.size = gb at *
  generalize w2.alloc O = W at *
  have hs4 : s < (List.replicate l.length (0 : Int)).length := by simp; exact hs3
  have hcs := hI.cell s hs4
  have hfs := hI.frozen s
  have hput := hI.put s 1
  have hboxc := (blk_cell hbox 0).trans rfl
  have hbox2 := (blk_cell (Irow.blk hI hput.2 (by decide) hbox) 0).trans rfl
  have HPUT := Aside0.mk hput
  have HHI := Aside0.mk hI
  have hs5 : (s : Int) < (l.length : Int) := by omega
  have hs6 : (0 : Int) ≤ (s : Int) := by omega
  clear hO HBW hbox hI hput hs4 hblk HB HB2 HG2 HO HAT HPR HPL HPC HT
  go_region
  go_wp2
  refine bodyPost_ret (v := .tuple #[.slice (some ⟨g, 0, none⟩) l.length c2, .int .i64 0]) (by simp [results, Try.results17, go_sem]) rfl ?_
  exact ⟨_, rfl, Kd.R_drew HPUT.out.1, (below_drew1 (HBB.out.grown HPUT.out.2 (below_size HBB.out) (fun k e => by cases e; exact HGE.out)))⟩
end Go.Proofs.Ytldhpniflnbilaa
/- prefix.Lengths, two symbols and more. -/
set_option linter.unusedVariables false
set_option linter.unusedSimpArgs false
namespace Go.Proofs.Ytldhpniflnbilaa
open Go.RowKit Go.Proofs.YtldhpniflnbilaaW.PrintWords Go.Proofs.YtldhpniflnbilaaW.PrintLast Go.Proofs.YtldhpniflnbilaaW.PrintMore

def RowP (w : World) (base : Nat) (v : Value) (ps : List Addr) : Prop := kPtr.R 62 w base (fun _ => True) v ps
theorem RowP.len {w : World} {base : Nat} {A : Option Addr} {n c : Nat} {ps : List Addr} (h : RowP w base (.slice A n c) ps) : ps.length = n := by
  obtain ⟨A', c', he⟩ := Kd.R_slice h
  injection he with _ h2 _
  exact h2.symm
theorem RowP.read {w : World} {base : Nat} {A : Option Addr} {n c : Nat} {ps : List Addr} (h : RowP w base (.slice A n c) ps) : ps.length ≤ c ∧ kPtr.C w A ps.length ps := by
  obtain ⟨A', c', he, h1, h2⟩ := Kd.R_reads h
  injection he with e1 e2 e3
  subst e1
  subst e3
  exact ⟨h1, h2⟩
theorem below_trans' {w w1 w2 : World} (h : Below w.heap.size w w1) (k : Below w1.heap.size w1 w2) : Below w.heap.size w w2 := below_step h k
theorem RowP.below {w w1 : World} {base : Nat} {v : Value} {ps : List Addr} (h : RowP w base v ps) (hb : Below w.heap.size w w1) : RowP w1 base v ps := Kd.R_below h hb
theorem RowP.lower {w : World} {base base' : Nat} {v : Value} {ps : List Addr} (h : RowP w base v ps) (hb : base' ≤ base) : RowP w base' v ps := Kd.R_lower h hb
theorem RowP.apart {w w1 : World} {base base2 g n c : Nat} {v : Value} {ps : List Addr} {xs : List Int} (h : RowP w base v ps) (hI : Irow w base2 g n c xs) (hg : w.grownBy w1 (some g)) : RowP w1 base v ps := by
  obtain ⟨cells, hc⟩ := own_typed (Kd.own_of_R hI) g (by simp [Value.ownBlock])
  exact Kd.R_mono (Kd.R_grown (Kd.R_types h hc (by decide)) hg (fun k hk e => hk.2 (by injection e))) (fun _ _ => trivial)
theorem pack_R {base : Nat} {A : Option Addr} {n c : Nat} {ps : List Addr} {ts : List Tr} {w : World} (hr : RowP w base (.slice A n c) ps) (ha : Ats w ts ps) (hn : n ≤ 1000000) :
    Calls Try.prog 47 #[.slice A n c] w fun e w' => ∃ (A' : Option Addr) (n' c' : Nat) (qs : List Addr), e = .returned (.slice A' n' c') ∧ RowP w' w.heap.size (.slice A' n' c') qs ∧ Ats w' (packT ts) qs ∧ Below w.heap.size w w' := by
  have hl := RowP.len hr
  obtain ⟨h1, h2⟩ := RowP.read hr
  subst hl
  refine (pack_calls A c ps ts w h2 h1 ha hn).mono ?_
  rintro e w' ⟨v, qs, rfl, g1, g2, g3⟩
  obtain ⟨A', c', rfl⟩ := Kd.R_slice g1
  exact ⟨A', _, c', qs, rfl, g1, g2, g3⟩
theorem merge_R {base base' : Nat} {A A2 : Option Addr} {n c n2 c2 : Nat} {ps ps2 : List Addr} {ts ts2 : List Tr} {w : World} (hr : RowP w base (.slice A n c) ps) (ha : Ats w ts ps) (hr2 : RowP w base' (.slice A2 n2 c2) ps2) (ha2 : Ats w ts2 ps2) (hn : n ≤ 1000000) (hn2 : n2 ≤ 1000000) :
    Calls Try.prog 46 #[.slice A n c, .slice A2 n2 c2] w fun e w' => ∃ (A' : Option Addr) (n' c' : Nat) (qs : List Addr), e = .returned (.slice A' n' c') ∧ RowP w' w.heap.size (.slice A' n' c') qs ∧ Ats w' (mergeT ts ts2) qs ∧ Below w.heap.size w w' := by
  have hl := RowP.len hr
  obtain ⟨h1, h2⟩ := RowP.read hr
  have hl2 := RowP.len hr2
  obtain ⟨h3, h4⟩ := RowP.read hr2
  subst hl
  subst hl2
  refine (merge_calls A c ps ts A2 c2 ps2 ts2 w h2 h1 ha h4 h3 ha2 hn hn2).mono ?_
  rintro e w' ⟨v, qs, rfl, g1, g2, g3⟩
  obtain ⟨A', c', rfl⟩ := Kd.R_slice g1
  exact ⟨A', _, c', qs, rfl, g1, g2, g3⟩
theorem kPtr_take (A : Option Addr) (c n J : Nat) (ps : List Addr) (hn : ps.length = n) (hc : n ≤ c) (hJ : J ≤ n) :
    ∀ W : World, (Instr.slice 60 (.slice A n c) none (some (.int .i64 (J : Int))) none).run Try.prog W = .ok (.slice A J c) W := by
  obtain ⟨i0, hi, hzz⟩ := Option.map_eq_some_iff.1 infoPtr
  simp only [Prod.mk.injEq] at hzz
  subst hn
  have h := (print_take_of (P := Try.prog) (fun p => Value.pointer (some p)) (⟨0, 0, none⟩ : Addr) 60 62 .i64 Try.underlying60 hi hzz.2.1 A c ps (J : Int) (by omega) (by omega) hc).1
  intro W
  have h2 := h W
  rw [List.length_take, Int.toNat_natCast, Nat.min_eq_left hJ] at h2
  exact h2
theorem flatMap_take_succ (ts : List Tr) (i : Nat) (h : i < ts.length) : (ts.take (i + 1)).flatMap Tr.syms = (ts.take i).flatMap Tr.syms ++ (ts[i]).syms := by
  rw [List.take_succ_eq_append_getElem h, List.flatMap_append, List.flatMap_cons, List.flatMap_nil, List.append_nil]

set_option maxHeartbeats 8000000 in
set_option maxRecDepth 100000 in
theorem lengths_many (A : Option Addr) (c : Nat) (l : List Int) (m k : Nat) (w : World) (hr : Kd.C (Kd.int .i64) w A l.length l) (hc : l.length ≤ c) (h0 : l.length ≤ 4096) (hw : Aside0 (withinL l 1099511627776 = true)) (hm1 : 1 ≤ m) (hm2 : m ≤ 30) (hk : (isT (leafs l 0)).length = k) (hk2 : 2 ≤ k) (hkm : k ≤ 2 ^ m) :
    Calls Try.prog 17 #[.slice A l.length c, .int .i64 m] w fun e w' => ∃ v, e = .returned (.tuple #[v, .int .i64 0]) ∧ (Kd.int .i64).R 3 w' w.heap.size (fun _ => True) v (bumps (List.replicate l.length 0) (((treeLists (isT (leafs l 0)) (m - 1)).take (2 * k - 2)).flatMap Tr.syms)) ∧ Below w.heap.size w w' := by
  have hkl : k ≤ l.length := by rw [← hk, isT_length]; exact leafs_length l 0
  have HR := Aside0.mk hr
  have HC := Aside0.mk hc
  have HKL := Aside0.mk hk
  obtain ⟨S, hS⟩ : ∃ S, isT (leafs l 0) = S := ⟨_, rfl⟩
  have HSS := Aside0.mk hS
  have HSYM := Aside0.mk (hS ▸ syms_leafs l : SymsIn l.length S)
  have hen := treeLists_enough S (m - 1) (by rw [← hS, hk, show m - 1 + 1 = m by omega]; exact hkm)
  rw [← hS, hk, hS] at hen
  have HEN := Aside0.mk hen
  have HLE := Aside0.mk (fun n => treeLists_le S n)
  rw [hS] at hk ⊢
  clear hr hen hS
  have hb : decide (4096 < (l.length : Int)) = false := by simp; omega
  have hl : l.length ≤ 1000000 := by omega
  have hm3 : (1 : Int) ≤ (m : Int) := by omega
  have hm4 : (m : Int) ≤ 30 := by omega
  obtain ⟨M, hM, hM2, hM3⟩ := pow_wrap m hm2
  have hM4 : k ≤ M := by rw [hM]; exact hkm
  have HKK := Aside0.mk hk
  clear hk hM hkm
  have hd1 : decide ((m : Int) < 1) = false := by simp; omega
  have hd2 : decide (30 < (m : Int)) = false := by simp; omega
  have hd3 : decide ((k : Int) < 2) = false := by simp; omega
  have hd4 : decide ((M : Int) < (k : Int)) = false := by simp; omega
  have hk3 : ((k : Int) == 1) = false := by rw [beq_eq_false_iff_ne]; omega
  go_enter Try.func17, Try.ntmps17
  go_wp2_with (first | (go_at_call 43; refine (long_calls _ _ l _).mono ?_; rintro e w' ⟨rfl, rfl⟩) | (go_at_call 44; refine (within_callsB _ _ l _ true _ HR.out hl hw.out).mono ?_; rintro e w' ⟨rfl, rfl⟩) | (go_at_call 45; refine (singles_k _ _ k l _ HR.out HC.out hl HKL.out).mono ?_; rintro e w1 ⟨A1, c1, ps, rfl, hp1, hp2, hp3, hp4, hb1, hp5⟩; have HPL := Aside0.mk hp1; have HPC := Aside0.mk hp2; have HPR := Aside0.mk hp3; have HAT := Aside0.mk hp4; have HB := Aside0.mk hb1; have HFR := Aside0.mk hp5; clear hp1 hp2 hp3 hp4 hb1 hp5) | ((with_reducible refine gate_dst (N := 36) rfl ?_); refine Kd.R_make (Kd.int .i64) (w0 := w) w.heap.size 3 rfl (N := 36) rfl 22 _ _ rfl ((l.length : Int)) rfl rfl Try.underlying22 (.int .i64 0) 8 infoInt rfl (by decide) (by decide) (0) (ok := fun _ => True) (okp := fun _ => True) rfl (fun _ hk => hk) trivial (by omega) ?aL ?aB ?aS ?_; (case aL => omega); (case aB => repeat (first | exact HB.out | apply below_alloc | apply pw_below_drewN | apply below_drew1)); (case aS => refine below_size ?_; repeat (first | exact HB.out | apply below_alloc | apply pw_below_drewN | apply below_drew1)); intro v2 w2 ho2 hb2 hg2 hn2; rw [Int.toNat_natCast] at ho2; obtain ⟨g, c2, hv, hge⟩ := made_form ho2 hn2; subst hv; rw [List.length_replicate] at ho2 ⊢; have HO := Aside0.mk ho2; have HB2 := Aside0.mk hb2; have HG2 := Aside0.mk hg2; have HGE := Aside0.mk (show w.heap.size ≤ g from Nat.le_trans (below_size HB.out) hge); clear ho2 hb2 hg2 hn2 hge))
  obtain ⟨O, hO⟩ : ∃ O, Obj.cells #[.slice (some ⟨g, 0, none⟩) l.length c2] 22 (0, 0) = O := ⟨_, rfl⟩
  have HBW : Below w1.heap.size w1 (w2.alloc O) := below_alloc ((Below.refl _ _).grown HG2.out (Nat.le_refl _) (fun k e => by cases e)) O
  have hbox : (w2.alloc O).heap[w2.heap.size]? = some (Obj.cells #[.slice (some ⟨g, 0, none⟩) l.length c2] 22 (0, 0)) := by rw [hO]; exact blk_new w2 O
  have hI : Irow (w2.alloc O) w.heap.size g l.length c2 (List.replicate l.length 0) := Kd.R_alloc HO.out O
  have HBB := Aside0.mk (below_alloc HB2.out O)
  have HF2 := Aside0.mk (show RowP (w2.alloc O) w.heap.size (.slice A1 k c1) ps from Kd.R_below HFR.out HBW)
  have HA2 := Aside0.mk (show Ats (w2.alloc O) S ps by rw [← HSS.out]; exact HAT.out.same (Same.below HBW))
  rw [hO]
  clear HB HB2 HG2 HO HAT HPR HPL HPC HFR HBW
  generalize w2.heap.size = gb at *
  generalize w2.alloc O = W at *
  have HFR := HF2
  have HAT := HA2
  have HBX0 := Aside0.mk hbox
  have HI0 := Aside0.mk hI
  clear hbox hI HF2 HA2 hO
  have HCAP := Aside0.mk HFR.out.read.1
  go_loopg [9, 53] m (fun q v9 v53 w' => ∃ (i n c3 : Nat) (A2 : Option Addr) (qs : List Addr), v9 = .slice A2 n c3 ∧ v53 = .int .i64 (i : Int) ∧ (n ≤ 8192 ∧ i + 1 ≤ m) ∧ Aside0 (q + i = m) ∧ Aside0 (RowP w' w.heap.size (.slice A2 n c3) qs) ∧ Aside0 (Ats w' (treeLists S i) qs) ∧ Aside0 (Below W.heap.size W w'))
  case atStart => exact ⟨0, k, c1, A1, ps, rfl, rfl, ⟨by omega, by omega⟩, ⟨by omega⟩, HFR, HAT, ⟨Below.refl _ _⟩⟩
  case round =>
    obtain ⟨i, n, c3, A2, qs, rfl, rfl, ⟨hn1, hi1⟩, HK, HO1, HT1, HBL⟩ := hrel
    by_cases hlt : i + 1 < m
    · as_aux_lemma =>
      go_wp2_with (first | (go_at_call 47; refine (pack_R HO1.out HT1.out (by omega)).mono ?_; rintro e w3 ⟨A3, n3, c4, qs3, rfl, hr3, ha3, hb3⟩; have HO3 := Aside0.mk hr3; have HT3 := Aside0.mk ha3; have HB3 := Aside0.mk hb3; have HN3 := Aside0.mk (show n3 ≤ 1000000 by have := hr3.len; have h2 := ha3.length; rw [packT_length] at h2; have h3 := HT1.out.length; have h4 := HO1.out.len; omega); clear hr3 ha3 hb3) | (go_at_call 46; refine (merge_R (HFR.out.below (below_trans' HBL.out HB3.out)) (HAT.out.same (Same.below (below_trans' HBL.out HB3.out))) HO3.out HT3.out (by omega) HN3.out).mono ?_; rintro e w4 ⟨A4, n4, c5, qs4, rfl, hr4, ha4, hb4⟩; have HO4 := Aside0.mk hr4; have HT4 := Aside0.mk ha4; have HB4 := Aside0.mk hb4; clear hr4 ha4 hb4))
      go_roundg (gk - 1)
      case measure => have := HK.out; omega
      case rel => exact ⟨i + 1, n4, c5, A4, qs4, rfl, (by go_num), ⟨by have := HLE.out (i + 1); have h2 := HT4.out.length; have h3 := HO4.out.len; rw [treeLists] at this; have h4 := HKK.out; omega, by omega⟩, ⟨by have := HK.out; omega⟩, ⟨HO4.out.lower (below_size (below_trans' (below_trans' HBB.out HBL.out) HB3.out))⟩, HT4, ⟨below_trans' (below_trans' HBL.out HB3.out) HB4.out⟩⟩
    · obtain ⟨wo, hwo⟩ : ∃ wo : World, wo = wr := ⟨_, rfl⟩
      subst hwo
      have hi2 : i = m - 1 := by omega
      have HI2 := Aside0.mk hi2
      obtain ⟨ts, hts⟩ : ∃ ts, treeLists S i = ts := ⟨_, rfl⟩
      have hts2 : treeLists S (m - 1) = ts := by rw [← hi2, hts]
      rw [hts] at HT1
      have HSY0 := Aside0.mk (show SymsIn l.length ts by rw [← hts]; exact HSYM.out.lists i)
      obtain ⟨J, hJ⟩ : ∃ J, 2 * k - 2 = J := ⟨_, rfl⟩
      have hJ2 : 2 * (k : Int) - 2 = (J : Int) := by omega
      have hlenq := HO1.out.len
      have hlent := HT1.out.length
      have hJn : J ≤ n := by have := HEN.out; rw [hts2] at this; omega
      have hcn := HO1.out.read.1
      have hslice := kPtr_take A2 c3 n J qs hlenq (by omega) hJn
      have HPOST := Aside0.mk (show ((treeLists S (m - 1)).take (2 * k - 2)).flatMap Tr.syms = (ts.take J).flatMap Tr.syms by rw [hts2, hJ])
      have HIo := Aside0.mk (show Irow wo w.heap.size g l.length c2 (List.replicate l.length 0) from Kd.R_below HI0.out HBL.out)
      have HBXo := Aside0.mk (blk_below HBX0.out HBL.out)
      have HBo := Aside0.mk (below_trans' HBB.out HBL.out)
      have HLQ := Aside0.mk (show qs.length = n ∧ ts.length = n ∧ J ≤ n from ⟨hlenq, by omega, hJn⟩)
      have HJ := Aside0.mk hJ
      clear hts hts2 hJ hlenq hlent hJn hcn hi2 HEN HLE HSYM HFR HAT HBL HBB HI0 HBX0
      go_wp2
      go_loopg [66] (J + 1) (fun q v66 w' => ∃ (j : Nat), v66 = .int .i64 (j : Int) ∧ Aside0 (q + j = J + 1 ∧ j ≤ J) ∧ Aside0 (Irow w' w.heap.size g l.length c2 (bumps (List.replicate l.length 0) ((ts.take j).flatMap Tr.syms))) ∧ Aside0 (wo.grownBy w' (some g)))
      case atStart => exact ⟨0, rfl, ⟨by omega, Nat.zero_le _⟩, ⟨by simpa [bumps] using HIo.out⟩, ⟨World.grownBy.refl _ _⟩⟩
      case round =>
        obtain ⟨j, rfl, HK2, HI, HG⟩ := hrel
        by_cases hlt2 : j < J
        · have hjq : j < qs.length := by have := HLQ.out; omega
          have hjt : j < ts.length := by have := HLQ.out; omega
          have hO2 := (HO1.out.apart HIo.out HG.out).read.2
          obtain ⟨ad, hA, hcell⟩ := kPtr_cell hO2 j hjq
          subst hA
          have HTT := Aside0.mk ((HT1.out.get j hjt hjq).same (Irow.same HIo.out HG.out))
          have HBX := Aside0.mk (Irow.blk HIo.out HG.out (by decide) HBXo.out)
          have HSY := Aside0.mk (HSY0.out ts[j] (List.getElem_mem hjt))
          have HFM := Aside0.mk (flatMap_take_succ ts j hjt)
          generalize qs[j] = a at *
          generalize ts[j] = t at *
          clear hO2 hjq hjt
          go_wp2_with (first | (go_at_call 48; refine (each_calls w.heap.size g l.length c2 gb t _ _ _ HTT.out HI.out HBX.out HSY.out).mono ?_; rintro e w5 ⟨rfl, hi5, hg5⟩; have HI5 := Aside0.mk hi5; have HG5 := Aside0.mk hg5; clear hi5 hg5))
          go_roundg (gk - 1)
          case measure => have := HK2.out; omega
          case rel => exact ⟨j + 1, (by go_num), ⟨by have := HK2.out; omega, by omega⟩, ⟨by rw [HFM.out, bumps_append]; exact HI5.out⟩, ⟨HG.out.trans HG5.out⟩⟩
        · have hj : j = J := by have := HK2.out; omega
          subst hj
          have hboxc := (blk_cell (Irow.blk HIo.out HG.out (by decide) HBXo.out) 0).trans rfl
          go_wp2
          refine bodyPost_ret (v := .tuple #[.slice (some ⟨g, 0, none⟩) l.length c2, .int .i64 0]) (by simp [results, Try.results17, go_sem]) rfl ?_
          exact ⟨_, rfl, by rw [HPOST.out]; exact HI.out, HBo.out.grown HG.out (below_size HBo.out) (fun k e => by cases e; exact HGE.out)⟩

/-- prefix.Lengths: what it returns. -/
theorem lengths_calls (A : Option Addr) (c : Nat) (l : List Int) (m : Int) (w : World) (hr : Kd.C (Kd.int .i64) w A l.length l) (hc : l.length ≤ c) :
    Calls Try.prog 17 #[.slice A l.length c, .int .i64 m] w fun e w' => ∃ v, e = .returned (.tuple #[v, .int .i64 (lengthsF l m).2]) ∧ (Kd.int .i64).R 3 w' w.heap.size (fun _ => True) v (lengthsF l m).1 ∧ Below w.heap.size w w' := by
  by_cases he : 4096 < l.length ∨ withinL l 1099511627776 = false ∨ m < 1 ∨ 30 < m
  · refine (lengths_err A c l m w hr hc he).mono ?_
    rintro e w' ⟨rfl, h2, h3⟩
    exact ⟨_, rfl, by rw [h2]; exact Kd.R_nil _ _ _ _ _, h3⟩
  · have h0 : ¬ 4096 < l.length := fun h => he (.inl h)
    have h1 : withinL l 1099511627776 = true := by
      cases h : withinL l 1099511627776 with
      | true => rfl
      | false => exact absurd (.inr (.inl h)) he
    have h2 : ¬ m < 1 := fun h => he (.inr (.inr (.inl h)))
    have h3 : ¬ 30 < m := fun h => he (.inr (.inr (.inr h)))
    have hn : ¬ (withinL l 1099511627776 = false ∨ m < 1 ∨ 30 < m) := fun h => he (.inr h)
    obtain ⟨m, rfl⟩ := Int.eq_ofNat_of_zero_le (by omega : 0 ≤ m)
    rw [lengthsF, if_neg h0, if_neg hn, Int.toNat_natCast]
    by_cases hk : 2 ^ m < (isT (leafs l 0)).length
    · rw [if_pos hk]
      refine (lengths_cap A c l m w hr hc (by omega) ⟨h1⟩ (by omega) (by omega) hk).mono ?_
      rintro e w' ⟨rfl, h3⟩
      exact ⟨_, rfl, Kd.R_nil _ _ _ _ _, h3⟩
    · rw [if_neg hk]
      show Calls _ _ _ _ fun e w' => ∃ v, e = .returned (.tuple #[v, .int .i64 0]) ∧ (Kd.int .i64).R 3 w' w.heap.size (fun _ => True) v (lengthsS l m) ∧ Below w.heap.size w w'
      unfold lengthsS
      dsimp only
      by_cases k1 : (isT (leafs l 0)).length = 1
      · rw [if_pos k1]
        exact lengths_one A c l m w hr hc (by omega) ⟨h1⟩ (by omega) (by omega) k1
      · rw [if_neg k1]
        by_cases k2 : (isT (leafs l 0)).length < 2
        · rw [if_pos k2]
          exact lengths_few A c l m w hr hc (by omega) ⟨h1⟩ (by omega) (by omega) (by omega)
        · rw [if_neg k2]
          exact lengths_many A c l m _ w hr hc (by omega) ⟨h1⟩ (by omega) (by omega) rfl (by omega) (by omega)
end Go.Proofs.Ytldhpniflnbilaa
/- prefix.Lengths, in the form in which the printed callers use it. -/
set_option linter.unusedVariables false
set_option linter.unusedSimpArgs false
namespace Go.Proofs.Ytldhpniflnbilaa
open Go.RowKit Go.Proofs.YtldhpniflnbilaaW.PrintWords Go.Proofs.YtldhpniflnbilaaW.PrintLast Go.Proofs.YtldhpniflnbilaaW.PrintMore

def prefix_Lengths.f (l0 : List Int) (a1 : Int) : Option (List Int × Int) := some (lengthsF l0 a1)
theorem prefix_Lengths.calls (A0 : Option Addr) (c0 : Nat) (l0 : List Int) (a1 : Int) (r1 : List Int) (r2 : Int) (w : World) (hr0 : Kd.C (Kd.int .i64) w A0 l0.length l0) (hc0 : l0.length ≤ c0) (h : prefix_Lengths.f l0 a1 = some (r1, r2)) :
    Calls Try.prog 17 #[.slice A0 l0.length c0, .int .i64 a1] w fun e w' => ∃ v0_ : Value, e = .returned (.tuple #[v0_, .int .i64 r2]) ∧ Kd.R (Kd.int .i64) 3 w' w.heap.size (fun _ => True) v0_ r1 ∧ Below w.heap.size w w' := by
  have e : lengthsF l0 a1 = (r1, r2) := Option.some.inj h
  have h1 : (lengthsF l0 a1).1 = r1 := by rw [e]
  have h2 : (lengthsF l0 a1).2 = r2 := by rw [e]
  rw [← h1, ← h2]
  exact lengths_calls A0 c0 l0 a1 w hr0 hc0
end Go.Proofs.Ytldhpniflnbilaa
