/- Package-merge: items, packages, merges; what the first items cost and hold; no other choice of lengths costs less; the shape of the lengths. -/
import Derived.Test.YtldhpniflnbilaaProg
namespace Go.Proofs.Ytldhpniflnbilaa.Pm

abbrev Item := Int × List Int

def pack : List Item → List Item
  | x :: y :: r => (x.1 + y.1, x.2 ++ y.2) :: pack r
  | _ => []

def mergeGo (a : Item) (atl : List Item) (next : List Item → List Item) : List Item → List Item
  | [] => a :: atl
  | y :: ys => if a.1 ≤ y.1 then a :: next (y :: ys) else y :: mergeGo a atl next ys

def merge : List Item → List Item → List Item
  | [] => fun b => b
  | a :: atl => mergeGo a atl (merge atl)

theorem merge_nil (b : List Item) : merge [] b = b := rfl
theorem merge_nil_right (a : List Item) : merge a [] = a := by cases a <;> rfl
theorem merge_cons (x : Item) (xs : List Item) (y : Item) (ys : List Item) :
    merge (x :: xs) (y :: ys) = if x.1 ≤ y.1 then x :: merge xs (y :: ys) else y :: merge (x :: xs) ys := rfl

def lists (s : List Item) : Nat → List Item
  | 0 => s
  | n + 1 => merge s (pack (lists s n))

theorem merge_length (a : List Item) : ∀ b, (merge a b).length = a.length + b.length := by
  induction a with
  | nil => intro b; simp [merge_nil]
  | cons x xs ih =>
    intro b
    induction b with
    | nil => simp [merge_nil_right]
    | cons y ys ihb =>
      rw [merge_cons]
      split
      · simp only [List.length_cons, ih]; omega
      · simp only [List.length_cons] at ihb ⊢; omega

theorem pack_length : ∀ a : List Item, (pack a).length = a.length / 2
  | [] => rfl
  | [_] => by simp [pack]
  | x :: y :: r => by simp only [pack, List.length_cons, pack_length r]; omega

theorem lists_length_succ (s : List Item) (n : Nat) : (lists s (n + 1)).length = s.length + (lists s n).length / 2 := by
  simp [lists, merge_length, pack_length]

/-- How many items there are: 2k less k/2^n, rounded up. -/
theorem lists_length (s : List Item) (n : Nat) : (lists s n).length + (s.length + 2 ^ n - 1) / 2 ^ n = 2 * s.length := by
  induction n with
  | zero => simp [lists]; omega
  | succ n ih =>
    rw [lists_length_succ]
    have h2 : (s.length + 2 ^ (n + 1) - 1) / 2 ^ (n + 1) = ((s.length + 2 ^ n - 1) / 2 ^ n + 1) / 2 := by
      rw [Nat.pow_succ, ← Nat.div_div_eq_div_mul]
      have hp : 0 < 2 ^ n := Nat.two_pow_pos n
      have : (s.length + 2 ^ n * 2 - 1) = (s.length + 2 ^ n - 1) + 2 ^ n := by omega
      rw [this, Nat.add_div_right _ hp]
    rw [h2]
    generalize (s.length + 2 ^ n - 1) / 2 ^ n = q at *
    omega

theorem lists_enough (s : List Item) (n : Nat) (h : s.length ≤ 2 ^ (n + 1)) : 2 * s.length - 2 ≤ (lists s n).length := by
  have h1 := lists_length s n
  have hp : 0 < 2 ^ n := Nat.two_pow_pos n
  have : (s.length + 2 ^ n - 1) / 2 ^ n ≤ 2 := by
    have h3 : s.length + 2 ^ n - 1 < 3 * 2 ^ n := by rw [Nat.pow_succ] at h; omega
    have := (Nat.div_lt_iff_lt_mul hp).2 h3
    omega
  omega

/-! ### Sums of the first weights -/
def psum (l : List Item) (m : Nat) : Int := ((l.take m).map (·.1)).sum
def Sorted (l : List Item) : Prop := l.Pairwise (fun x y => x.1 ≤ y.1)
def Pos (l : List Item) : Prop := ∀ x ∈ l, 0 < x.1

theorem psum_zero (l : List Item) : psum l 0 = 0 := by simp [psum]
theorem psum_nil (m : Nat) : psum [] m = 0 := by simp [psum]
theorem psum_cons (x : Item) (l : List Item) (m : Nat) : psum (x :: l) (m + 1) = x.1 + psum l m := by simp [psum]

theorem mem_merge (a : List Item) : ∀ (b : List Item) (z : Item), z ∈ merge a b ↔ z ∈ a ∨ z ∈ b := by
  induction a with
  | nil => intro b z; simp [merge_nil]
  | cons x xs ih =>
    intro b z
    induction b with
    | nil => simp [merge_nil_right]
    | cons y ys ihb =>
      rw [merge_cons]
      split
      · simp only [List.mem_cons, ih]; constructor
        · rintro (h | h | h | h) <;> simp [h]
        · rintro ((h | h) | h | h) <;> simp [h]
      · simp only [List.mem_cons, ihb]; constructor
        · rintro (h | (h | h) | h) <;> simp [h]
        · rintro ((h | h) | h | h) <;> simp [h]

theorem merge_sorted (a : List Item) (ha : Sorted a) : ∀ b, Sorted b → Sorted (merge a b) := by
  induction a with
  | nil => intro b hb; exact hb
  | cons x xs ih =>
    intro b
    have hx := List.pairwise_cons.1 ha
    induction b with
    | nil => intro _; rw [merge_nil_right]; exact ha
    | cons y ys ihb =>
      intro hb
      have hy := List.pairwise_cons.1 hb
      rw [merge_cons]
      split
      · rename_i hle
        refine List.pairwise_cons.2 ⟨fun z hz => ?_, ih hx.2 _ hb⟩
        rcases (mem_merge _ _ _).1 hz with h | h
        · exact hx.1 z h
        · rcases List.mem_cons.1 h with rfl | h
          · exact hle
          · have := hy.1 z h; omega
      · rename_i hle
        refine List.pairwise_cons.2 ⟨fun z hz => ?_, ihb hy.2⟩
        rcases (mem_merge _ _ _).1 hz with h | h
        · rcases List.mem_cons.1 h with rfl | h
          · omega
          · have := hx.1 z h; omega
        · exact hy.1 z h

theorem pack_mem_ge : ∀ (a : List Item) (w : Int), (∀ x ∈ a, w ≤ x.1) → ∀ p ∈ pack a, 2 * w ≤ p.1
  | [], _, _, p, hp => by simp [pack] at hp
  | [_], _, _, p, hp => by simp [pack] at hp
  | x :: y :: r, w, h, p, hp => by
    simp only [pack, List.mem_cons] at hp
    have hx := h x (by simp)
    have hy := h y (by simp)
    rcases hp with rfl | hp
    · show 2 * w ≤ x.1 + y.1; omega
    · exact pack_mem_ge r w (fun z hz => h z (by simp [hz])) p hp

theorem pack_sorted : ∀ a : List Item, Sorted a → Sorted (pack a)
  | [], _ => List.Pairwise.nil
  | [_], _ => List.Pairwise.nil
  | x :: y :: r, h => by
    have hx := List.pairwise_cons.1 h
    have hy := List.pairwise_cons.1 hx.2
    refine List.pairwise_cons.2 ⟨fun p hp => ?_, pack_sorted r hy.2⟩
    have := pack_mem_ge r y.1 hy.1 p hp
    have := hx.1 y (by simp)
    show x.1 + y.1 ≤ p.1
    omega

theorem pack_pos : ∀ a : List Item, Pos a → Pos (pack a)
  | [], _ => fun x hx => by simp [pack] at hx
  | [_], _ => fun x hx => by simp [pack] at hx
  | x :: y :: r, h => fun p hp => by
    simp only [pack, List.mem_cons] at hp
    have hx := h x (by simp)
    have hy := h y (by simp)
    rcases hp with rfl | hp
    · show 0 < x.1 + y.1; omega
    · exact pack_pos r (fun z hz => h z (by simp [hz])) p hp

theorem lists_sorted (s : List Item) (hs : Sorted s) : ∀ n, Sorted (lists s n)
  | 0 => hs
  | n + 1 => merge_sorted s hs _ (pack_sorted _ (lists_sorted s hs n))

theorem lists_pos (s : List Item) (hs : Pos s) : ∀ n, Pos (lists s n)
  | 0 => hs
  | n + 1 => fun z hz => by
    rcases (mem_merge _ _ _).1 hz with h | h
    · exact hs z h
    · exact pack_pos _ (lists_pos s hs n) z h

theorem psum_nonneg (l : List Item) (h : Pos l) : ∀ m, 0 ≤ psum l m := by
  induction l with
  | nil => intro m; simp [psum_nil]
  | cons x xs ih =>
    intro m
    cases m with
    | zero => simp [psum_zero]
    | succ m =>
      rw [psum_cons]
      have := ih (fun z hz => h z (by simp [hz])) m
      have := h x (by simp)
      omega

theorem psum_mono (l : List Item) (h : Pos l) : ∀ m n, m ≤ n → psum l m ≤ psum l n := by
  induction l with
  | nil => intro m n _; simp [psum_nil]
  | cons x xs ih =>
    intro m n hmn
    cases m with
    | zero => rw [psum_zero]; exact psum_nonneg _ h _
    | succ m =>
      obtain ⟨n, rfl⟩ : ∃ k, n = k + 1 := ⟨n - 1, by omega⟩
      rw [psum_cons, psum_cons]
      have := ih (fun z hz => h z (by simp [hz])) m n (by omega)
      omega

/-- With all weights at least c: one item more costs c more at least. -/
theorem psum_step (l : List Item) (c : Int) (h : ∀ x ∈ l, c ≤ x.1) : ∀ m, m < l.length → psum l m + c ≤ psum l (m + 1) := by
  induction l with
  | nil => intro m hm; simp at hm
  | cons x xs ih =>
    intro m hm
    rw [psum_cons]
    cases m with
    | zero => rw [psum_zero, psum_zero]; have := h x (by simp); omega
    | succ m =>
      rw [psum_cons]
      have := ih (fun z hz => h z (by simp [hz])) m (by simpa using hm)
      omega

theorem psum_merge (a : List Item) (ha : Sorted a) : ∀ b, Sorted b → ∀ i j, i ≤ a.length → j ≤ b.length → psum (merge a b) (i + j) ≤ psum a i + psum b j := by
  induction a with
  | nil => intro b _ i j hi _; have : i = 0 := by simpa using hi
           subst this; simp [merge_nil, psum_zero]
  | cons x xs ih =>
    intro b
    have hx := List.pairwise_cons.1 ha
    induction b with
    | nil => intro _ i j _ hj; have : j = 0 := by simpa using hj
             subst this; simp [merge_nil_right, psum_zero]
    | cons y ys ihb =>
      intro hb i j hi hj
      have hy := List.pairwise_cons.1 hb
      rw [merge_cons]
      split
      · rename_i hle
        cases i with
        | zero =>
          cases j with
          | zero => simp [psum_zero]
          | succ j =>
            rw [Nat.zero_add, psum_cons, psum_zero]
            have h1 := ih hx.2 (y :: ys) hb 0 j (by omega) (by omega)
            rw [Nat.zero_add, psum_zero] at h1
            have h2 := psum_step (y :: ys) x.1 (fun z hz => by
              rcases List.mem_cons.1 hz with rfl | hz
              · exact hle
              · have := hy.1 z hz; omega) j (by omega)
            omega
        | succ i =>
          rw [show i + 1 + j = (i + j) + 1 by omega, psum_cons, psum_cons]
          have := ih hx.2 (y :: ys) hb i j (by simpa using hi) hj
          omega
      · rename_i hle
        cases j with
        | zero =>
          cases i with
          | zero => simp [psum_zero]
          | succ i =>
            rw [Nat.add_zero, psum_cons, psum_zero]
            have h1 := ihb hy.2 i 0 (by simp at hi ⊢; omega) (by omega)
            rw [Nat.add_zero, psum_zero] at h1
            have h2 := psum_step (x :: xs) y.1 (fun z hz => by
              rcases List.mem_cons.1 hz with rfl | hz
              · omega
              · have := hx.1 z hz; omega) i (by omega)
            omega
        | succ j =>
          rw [show i + (j + 1) = (i + j) + 1 by omega, psum_cons, psum_cons]
          have := ihb hy.2 i j hi (by simpa using hj)
          omega

theorem psum_pack : ∀ (a : List Item) (j : Nat), 2 * j ≤ a.length → psum (pack a) j = psum a (2 * j)
  | [], j, h => by have : j = 0 := by simp at h; omega
                   subst this; simp [psum_zero]
  | [_], j, h => by have : j = 0 := by simp at h; omega
                    subst this; simp [psum_zero]
  | x :: y :: r, 0, _ => by simp [psum_zero]
  | x :: y :: r, j + 1, h => by
    rw [pack, psum_cons, show 2 * (j + 1) = (2 * j + 1) + 1 by omega, psum_cons, psum_cons, psum_pack r j (by simp at h; omega)]
    omega

/-- Some items of a sorted list cost at least what atl many of the first do. -/
theorem psum_filter (l : List Item) (hl : Sorted l) (hp : Pos l) (p : Item → Bool) : psum l (l.filter p).length ≤ ((l.filter p).map (·.1)).sum := by
  induction l with
  | nil => simp [psum_nil]
  | cons x xs ih =>
    have hx := List.pairwise_cons.1 hl
    have ih := ih hx.2 (fun z hz => hp z (by simp [hz]))
    rw [List.filter_cons]
    split
    · simp only [List.length_cons, List.map_cons, List.sum_cons, psum_cons]; omega
    · generalize hf : xs.filter p = f at *
      cases hn : f.length with
      | zero => rw [psum_zero]; have : f = [] := List.eq_nil_of_length_eq_zero hn
                subst this; simp
      | succ n =>
        rw [psum_cons]
        rw [hn] at ih
        have hlen : n < xs.length := by
          have := List.length_filter_le p xs
          rw [hf] at this; omega
        have := psum_step xs x.1 hx.1 n hlen
        omega
end Go.Proofs.Ytldhpniflnbilaa.Pm
namespace Go.Proofs.Ytldhpniflnbilaa.Pm

/-! ### The lower bound -/
section lower
variable (S : List Item) (L : Nat) (o : Item → Nat)

def level (d : Nat) : List Item := S.filter fun x => decide (L ≤ o x + d)
def mcount : Nat → Nat
  | 0 => (level S L o 0).length
  | d + 1 => (level S L o (d + 1)).length + mcount d / 2
def lowc : Nat → Int
  | 0 => ((level S L o 0).map (·.1)).sum
  | d + 1 => ((level S L o (d + 1)).map (·.1)).sum + lowc d

theorem level_length (d : Nat) : (level S L o d).length ≤ S.length := List.length_filter_le _ _

theorem mcount_le : ∀ d, mcount S L o d ≤ (lists S d).length
  | 0 => level_length S L o 0
  | d + 1 => by
    rw [lists_length_succ, mcount]
    have := level_length S L o (d + 1)
    have := mcount_le d
    omega

theorem lower (hs : Sorted S) (hp : Pos S) : ∀ d, psum (lists S d) (mcount S L o d) ≤ lowc S L o d
  | 0 => psum_filter S hs hp _
  | d + 1 => by
    rw [mcount, lowc, lists]
    have h1 := psum_merge S hs (pack (lists S d)) (pack_sorted _ (lists_sorted S hs d)) (level S L o (d + 1)).length (mcount S L o d / 2)
      (level_length S L o (d + 1)) (by rw [pack_length]; have := mcount_le S L o d; omega)
    have h2 := psum_filter S hs hp fun x => decide (L ≤ o x + (d + 1))
    have h3 := lower hs hp d
    have h4 : psum (pack (lists S d)) (mcount S L o d / 2) = psum (lists S d) (2 * (mcount S L o d / 2)) :=
      psum_pack _ _ (by have := mcount_le S L o d; omega)
    have h5 := psum_mono (lists S d) (lists_pos S hp d) (2 * (mcount S L o d / 2)) (mcount S L o d) (by omega)
    unfold level at *
    omega

theorem lowc_eq (ho : ∀ x ∈ S, o x ≤ L) (d : Nat) : lowc S L o d = (S.map fun x => x.1 * ((o x + d + 1 - L : Nat) : Int)).sum := by
  have step : ∀ (d : Nat) (l : List Item), (∀ x ∈ l, o x ≤ L) → ((l.filter fun x => decide (L ≤ o x + (d + 1))).map (·.1)).sum + (l.map fun x => x.1 * ((o x + d + 1 - L : Nat) : Int)).sum = (l.map fun x => x.1 * ((o x + (d + 1) + 1 - L : Nat) : Int)).sum := by
    intro d l hl
    induction l with
    | nil => rfl
    | cons x xs ih =>
      have ih := ih fun z hz => hl z (by simp [hz])
      rw [List.filter_cons]
      simp only [List.map_cons, List.sum_cons]
      split
      · rename_i h
        have h : L ≤ o x + (d + 1) := of_decide_eq_true h
        simp only [List.map_cons, List.sum_cons]
        have e : ((o x + (d + 1) + 1 - L : Nat) : Int) = ((o x + d + 1 - L : Nat) : Int) + 1 := by omega
        rw [e, Int.mul_add, Int.mul_one]
        omega
      · rename_i h
        have h : ¬ L ≤ o x + (d + 1) := fun hh => h (decide_eq_true hh)
        have e : o x + (d + 1) + 1 - L = o x + d + 1 - L := by omega
        rw [e]
        omega
  have zero : ∀ (l : List Item), (∀ x ∈ l, o x ≤ L) → ((l.filter fun x => decide (L ≤ o x + 0)).map (·.1)).sum = (l.map fun x => x.1 * ((o x + 0 + 1 - L : Nat) : Int)).sum := by
    intro l hl
    induction l with
    | nil => rfl
    | cons x xs ih =>
      have ih := ih fun z hz => hl z (by simp [hz])
      have hx := hl x (by simp)
      rw [List.filter_cons]
      simp only [List.map_cons, List.sum_cons]
      split
      · rename_i h
        have h : L ≤ o x + 0 := of_decide_eq_true h
        simp only [List.map_cons, List.sum_cons]
        have e : o x + 0 + 1 - L = 1 := by omega
        rw [e, ih]; simp
      · rename_i h
        have h : ¬ L ≤ o x + 0 := fun hh => h (decide_eq_true hh)
        have e : o x + 0 + 1 - L = 0 := by omega
        rw [e, ih]; simp
  induction d with
  | zero => exact zero S ho
  | succ d ih => rw [lowc, ih]; exact step d S ho

def full (d : Nat) : Nat := (S.map fun x => 2 ^ (d + 1) - 2 ^ (L - o x)).sum

theorem mcount_eq (d : Nat) : mcount S L o d = full S L o d / 2 ^ d := by
  have step : ∀ (d : Nat) (l : List Item), (l.filter fun x => decide (L ≤ o x + (d + 1))).length * 2 ^ (d + 1) + (l.map fun x => 2 ^ (d + 1) - 2 ^ (L - o x)).sum = (l.map fun x => 2 ^ (d + 1 + 1) - 2 ^ (L - o x)).sum := by
    intro d l
    induction l with
    | nil => simp
    | cons x xs ih =>
      rw [List.filter_cons]
      simp only [List.map_cons, List.sum_cons]
      split
      · rename_i h
        have h : L ≤ o x + (d + 1) := of_decide_eq_true h
        have hle : 2 ^ (L - o x) ≤ 2 ^ (d + 1) := Nat.pow_le_pow_right (by omega) (by omega)
        rw [Nat.pow_succ 2 (d + 1)] at *
        simp only [List.length_cons, Nat.add_mul, Nat.one_mul]
        omega
      · rename_i h
        have h : ¬ L ≤ o x + (d + 1) := fun hh => h (decide_eq_true hh)
        have hle : 2 ^ (d + 1 + 1) ≤ 2 ^ (L - o x) := Nat.pow_le_pow_right (by omega) (by omega)
        have hle' : 2 ^ (d + 1) ≤ 2 ^ (d + 1 + 1) := Nat.pow_le_pow_right (by omega) (by omega)
        omega
  have zero : ∀ (l : List Item), (l.filter fun x => decide (L ≤ o x + 0)).length = (l.map fun x => 2 ^ (0 + 1) - 2 ^ (L - o x)).sum := by
    intro l
    induction l with
    | nil => simp
    | cons x xs ih =>
      rw [List.filter_cons]
      simp only [List.map_cons, List.sum_cons]
      split
      · rename_i h
        have h : L ≤ o x + 0 := of_decide_eq_true h
        have e : L - o x = 0 := by omega
        rw [e, List.length_cons, ih]; omega
      · rename_i h
        have h : ¬ L ≤ o x + 0 := fun hh => h (decide_eq_true hh)
        have hle : 2 ^ 1 ≤ 2 ^ (L - o x) := Nat.pow_le_pow_right (by omega) (by omega)
        rw [ih]; omega
  induction d with
  | zero => rw [mcount, level, zero, full]; simp
  | succ d ih =>
    have h := step d S
    have e : full S L o (d + 1) = (level S L o (d + 1)).length * 2 ^ (d + 1) + full S L o d := h.symm
    rw [mcount, ih, e, Nat.mul_comm, Nat.mul_add_div (Nat.two_pow_pos _), Nat.pow_succ, ← Nat.div_div_eq_div_mul]

theorem optimal_lower (hs : Sorted S) (hp : Pos S) (hL : 1 ≤ L) (ho : ∀ x ∈ S, o x ≤ L) (hk : (S.map fun x => 2 ^ (L - o x)).sum ≤ 2 ^ L) :
    psum (lists S (L - 1)) (2 * S.length - 2) ≤ (S.map fun x => x.1 * (o x : Int)).sum := by
  have h1 := lower S L o hs hp (L - 1)
  rw [lowc_eq S L o ho] at h1
  have e : (S.map fun x => x.1 * ((o x + (L - 1) + 1 - L : Nat) : Int)) = S.map fun x => x.1 * (o x : Int) :=
    List.map_congr_left fun x _ => by rw [show o x + (L - 1) + 1 - L = o x by omega]
  rw [e] at h1
  refine Int.le_trans (psum_mono _ (lists_pos S hp _) _ _ ?_) h1
  rw [mcount_eq]
  have hf : full S L o (L - 1) + (S.map fun x => 2 ^ (L - o x)).sum = S.length * 2 ^ L := by
    have : ∀ l : List Item, (l.map fun x => 2 ^ (L - 1 + 1) - 2 ^ (L - o x)).sum + (l.map fun x => 2 ^ (L - o x)).sum = l.length * 2 ^ L := by
      intro l
      induction l with
      | nil => simp
      | cons x xs ih =>
        simp only [List.map_cons, List.sum_cons, List.length_cons, Nat.add_mul, Nat.one_mul]
        have hle : 2 ^ (L - o x) ≤ 2 ^ L := Nat.pow_le_pow_right (by omega) (by omega)
        rw [show L - 1 + 1 = L by omega] at *
        omega
    exact this S
  obtain ⟨M, rfl⟩ : ∃ M, L = M + 1 := ⟨L - 1, by omega⟩
  rw [show M + 1 - 1 = M by omega] at *
  rw [Nat.le_div_iff_mul_le (Nat.two_pow_pos _)]
  rw [Nat.pow_succ] at hf hk
  rw [Nat.sub_mul]
  rw [← Nat.mul_assoc, Nat.mul_comm _ 2, ← Nat.mul_assoc] at hf
  omega
end lower

/-! ### What the first items hold -/
def cnt (l : List Item) (s : Int) : Nat := (l.flatMap (·.2)).count s
theorem cnt_nil (s : Int) : cnt [] s = 0 := rfl
theorem cnt_cons (x : Item) (l : List Item) (s : Int) : cnt (x :: l) s = x.2.count s + cnt l s := by simp [cnt, List.count_append]
theorem cnt_take_succ (x : Item) (l : List Item) (n : Nat) (s : Int) : cnt ((x :: l).take (n + 1)) s = x.2.count s + cnt (l.take n) s := by rw [List.take_succ_cons, cnt_cons]

theorem take_merge (a : List Item) (ha : Sorted a) : ∀ b m, m ≤ a.length + b.length → ∃ i j, i + j = m ∧ i ≤ a.length ∧ j ≤ b.length ∧
    (∀ s, cnt ((merge a b).take m) s = cnt (a.take i) s + cnt (b.take j) s) ∧ (∀ x ∈ a.take i, x ∈ (merge a b).take m) ∧ (∀ x ∈ b.take j, ∀ y ∈ a.drop i, x.1 < y.1) := by
  induction a with
  | nil => intro b m hm; exact ⟨0, m, by omega, by simp, by simpa using hm, fun s => by simp [merge_nil, cnt_nil], by simp, by simp⟩
  | cons x xs ih =>
    intro b
    have hx := List.pairwise_cons.1 ha
    induction b with
    | nil => intro m hm; exact ⟨m, 0, by omega, by simpa using hm, by simp, fun s => by simp [merge_nil_right, cnt_nil], fun z hz => by rw [merge_nil_right]; exact hz, by simp⟩
    | cons y ys ihb =>
      intro m hm
      rw [merge_cons]
      cases m with
      | zero => exact ⟨0, 0, rfl, by omega, by omega, fun s => by simp [cnt_nil], by simp, by simp⟩
      | succ m =>
        split
        · rename_i hle
          obtain ⟨i, j, h1, h2, h3, h4, h5, h6⟩ := ih hx.2 (y :: ys) m (by simp at hm ⊢; omega)
          refine ⟨i + 1, j, by omega, by simpa using h2, h3, fun s => ?_, ?_, ?_⟩
          · rw [cnt_take_succ, cnt_take_succ, h4]; omega
          · intro z hz
            rw [List.take_succ_cons] at hz ⊢
            rcases List.mem_cons.1 hz with rfl | hz
            · simp
            · exact List.mem_cons_of_mem _ (h5 z hz)
          · intro z hz w hw
            exact h6 z hz w (by simpa using hw)
        · rename_i hle
          obtain ⟨i, j, h1, h2, h3, h4, h5, h6⟩ := ihb m (by simp at hm ⊢; omega)
          refine ⟨i, j + 1, by omega, h2, by simpa using h3, fun s => ?_, ?_, ?_⟩
          · rw [cnt_take_succ, cnt_take_succ, h4]; omega
          · intro z hz
            rw [List.take_succ_cons]
            exact List.mem_cons_of_mem _ (h5 z hz)
          · intro z hz w hw
            rw [List.take_succ_cons] at hz
            rcases List.mem_cons.1 hz with rfl | hz
            · have hw := List.mem_of_mem_drop hw
              rcases List.mem_cons.1 hw with rfl | hw
              · omega
              · have := hx.1 w hw; omega
            · exact h6 z hz w hw

theorem cnt_pack : ∀ (a : List Item) (j : Nat) (s : Int), 2 * j ≤ a.length → cnt ((pack a).take j) s = cnt (a.take (2 * j)) s
  | [], j, s, h => by have : j = 0 := by simp at h; omega
                      subst this; simp
  | [_], j, s, h => by have : j = 0 := by simp at h; omega
                       subst this; simp
  | x :: y :: r, 0, s, _ => by simp
  | x :: y :: r, j + 1, s, h => by
    rw [pack, cnt_take_succ, show 2 * (j + 1) = (2 * j + 1) + 1 by omega, cnt_take_succ, cnt_take_succ, cnt_pack r j s (by simp at h; omega)]
    simp only [List.count_append]; omega

/-- An item among the first 2j lies in a package among the first j, which weighs more. -/
theorem mem_pack : ∀ (a : List Item), Pos a → ∀ (j : Nat) (x : Item), 2 * j ≤ a.length → x ∈ a.take (2 * j) → ∃ p ∈ (pack a).take j, x.1 < p.1
  | [], _, j, x, h, hx => by simp at hx
  | [_], _, j, x, h, hx => by have : j = 0 := by simp at h; omega
                              subst this; simp at hx
  | a :: b :: r, _, 0, x, _, hx => by simp at hx
  | a :: b :: r, hp, j + 1, x, h, hx => by
    have h1 := hp a (by simp)
    have h2 := hp b (by simp)
    rw [show 2 * (j + 1) = (2 * j + 1) + 1 by omega, List.take_succ_cons, List.take_succ_cons] at hx
    rw [pack, List.take_succ_cons]
    rcases List.mem_cons.1 hx with rfl | hx
    · exact ⟨_, List.mem_cons_self, by show x.1 < x.1 + b.1; omega⟩
    · rcases List.mem_cons.1 hx with rfl | hx
      · exact ⟨_, List.mem_cons_self, by show x.1 < a.1 + x.1; omega⟩
      · obtain ⟨p, hp1, hp2⟩ := mem_pack r (fun z hz => hp z (by simp [hz])) j x (by simp at h; omega) hx
        exact ⟨p, List.mem_cons_of_mem _ hp1, hp2⟩

def sumN (f : Nat → Nat) : Nat → Nat
  | 0 => 0
  | n + 1 => sumN f n + f n

theorem sumN_congr {f g : Nat → Nat} : ∀ n, (∀ i, i < n → f i = g i) → sumN f n = sumN g n
  | 0, _ => rfl
  | n + 1, h => by rw [sumN, sumN, sumN_congr n fun i hi => h i (by omega), h n (by omega)]
theorem sumN_add (f g : Nat → Nat) : ∀ n, sumN (fun i => f i + g i) n = sumN f n + sumN g n
  | 0 => rfl
  | n + 1 => by rw [sumN, sumN, sumN, sumN_add f g n]; omega
theorem sumN_mul (f : Nat → Nat) (c : Nat) : ∀ n, sumN (fun i => f i * c) n = sumN f n * c
  | 0 => by simp [sumN]
  | n + 1 => by rw [sumN, sumN, sumN_mul f c n, Nat.add_mul]
theorem sumN_zero : ∀ n, sumN (fun _ => 0) n = 0
  | 0 => rfl
  | n + 1 => by rw [sumN, sumN_zero n]
theorem sumN_swap (f : Nat → Nat → Nat) (m : Nat) : ∀ n, sumN (fun i => sumN (f i) m) n = sumN (fun j => sumN (fun i => f i j) n) m
  | 0 => by simp [sumN, sumN_zero]
  | n + 1 => by rw [sumN, sumN_swap f m n, ← sumN_add]; rfl
theorem sumN_le {f g : Nat → Nat} : ∀ n, (∀ i, i < n → f i ≤ g i) → sumN f n ≤ sumN g n
  | 0, _ => Nat.le_refl _
  | n + 1, h => by
    have := sumN_le n fun i hi => h i (by omega)
    have := h n (by omega)
    rw [sumN, sumN]; omega

/-- How many there are of 0 .. k-1 below c. -/
theorem sumN_below (c w : Nat) : ∀ k, c ≤ k → sumN (fun r => if r < c then w else 0) k = c * w
  | 0, h => by have : c = 0 := by omega
               subst this; simp [sumN]
  | k + 1, h => by
    rw [sumN]
    by_cases hk : c ≤ k
    · rw [sumN_below c w k hk, if_neg (by omega)]; rfl
    · have : c = k + 1 := by omega
      subst this
      have e : sumN (fun r => if r < k + 1 then w else 0) k = sumN (fun r => if r < k then w else 0) k := sumN_congr k fun i hi => by rw [if_pos (by omega), if_pos hi]
      rw [e, sumN_below k w k (Nat.le_refl _), if_pos (by omega), Nat.add_mul]; omega

/-- The cuts: of the list of level d, how many singles of each level lie in its first m items. -/
theorem cuts (S : List Item) (hs : Sorted S) (hp : Pos S) : ∀ d m, m ≤ (lists S d).length → ∃ f : Nat → Nat,
    (∀ e, e ≤ d → f e ≤ S.length) ∧ (∀ e, e < d → f e ≤ f (e + 1)) ∧ sumN (fun e => f e * 2 ^ e) (d + 1) = m * 2 ^ d ∧
    (∀ s, cnt ((lists S d).take m) s = sumN (fun e => cnt (S.take (f e)) s) (d + 1)) ∧ (∀ x ∈ S.take (f d), x ∈ (lists S d).take m) := by
  intro d
  induction d with
  | zero => intro m hm; exact ⟨fun _ => m, fun _ _ => hm, fun e he => by omega, by simp [sumN], fun s => by simp [sumN, lists], fun x hx => hx⟩
  | succ d ih =>
    intro m hm
    obtain ⟨i, j, h1, h2, h3, h4, h5, h6⟩ := take_merge S hs (pack (lists S d)) m (by rw [← merge_length]; exact hm)
    rw [pack_length] at h3
    obtain ⟨f, g1, g2, g3, g4, g5⟩ := ih (2 * j) (by omega)
    have hi : f d ≤ i := by
      apply Nat.le_of_not_lt
      intro hlt
      have hlen := g1 d (Nat.le_refl _)
      have hm1 : S[i] ∈ S.take (f d) := by
        rw [List.mem_take_iff_getElem]
        exact ⟨i, by omega, rfl⟩
      obtain ⟨p, hp1, hp2⟩ := mem_pack (lists S d) (lists_pos S hp d) j S[i] (by omega) (g5 _ hm1)
      have hd : S[i] ∈ S.drop i := by
        rw [List.mem_drop_iff_getElem]
        exact ⟨0, by omega, by simp⟩
      have := h6 p hp1 _ hd
      omega
    refine ⟨fun e => if e = d + 1 then i else f e, ?_, ?_, ?_, ?_, ?_⟩
    · intro e he
      by_cases h : e = d + 1
      · simp [h]; exact h2
      · simp [h]; exact g1 e (by omega)
    · intro e he
      dsimp only
      by_cases h : e = d
      · subst h; simp; exact hi
      · rw [if_neg (by omega), if_neg (by omega)]; exact g2 e (by omega)
    · rw [sumN]
      dsimp only
      rw [if_pos rfl]
      have e1 : sumN (fun e => (if e = d + 1 then i else f e) * 2 ^ e) (d + 1) = sumN (fun e => f e * 2 ^ e) (d + 1) := sumN_congr _ fun e he => by rw [if_neg (by omega)]
      rw [e1, g3, ← h1, Nat.pow_succ, Nat.add_mul, ← Nat.mul_assoc]
      generalize 2 ^ d = q
      rw [Nat.mul_comm 2 j, Nat.mul_assoc, Nat.mul_comm 2 q, ← Nat.mul_assoc]
      omega
    · intro s
      rw [sumN]
      dsimp only
      rw [if_pos rfl]
      have e1 : sumN (fun e => cnt (S.take (if e = d + 1 then i else f e)) s) (d + 1) = sumN (fun e => cnt (S.take (f e)) s) (d + 1) := sumN_congr _ fun e he => by rw [if_neg (by omega)]
      rw [e1, ← g4, ← cnt_pack _ _ _ (by omega)]
      rw [show lists S (d + 1) = merge S (pack (lists S d)) from rfl, h4]
      omega
    · intro x hx
      dsimp only at hx
      rw [if_pos rfl] at hx
      exact h5 x hx
end Go.Proofs.Ytldhpniflnbilaa.Pm
namespace Go.Proofs.Ytldhpniflnbilaa.Pm

def sym (x : Item) : Int := x.2.headD 0
def Single (S : List Item) : Prop := ∀ x ∈ S, x.2 = [sym x]

theorem cnt_take_none (S : List Item) (h1 : Single S) (s : Int) (hs : s ∉ S.map sym) : ∀ n, cnt (S.take n) s = 0 := by
  intro n
  unfold cnt
  rw [List.count_eq_zero]
  intro hm
  obtain ⟨x, hx, hxs⟩ := List.mem_flatMap.1 hm
  have hx := List.mem_of_mem_take hx
  rw [h1 x hx] at hxs
  have e : s = sym x := by simpa using hxs
  exact hs (List.mem_map.2 ⟨x, hx, e.symm⟩)

theorem cnt_take_rank (S : List Item) (h1 : Single S) (hn : (S.map sym).Nodup) : ∀ (r : Nat) (hr : r < S.length) (n : Nat), cnt (S.take n) (sym S[r]) = if r < n then 1 else 0 := by
  induction S with
  | nil => intro r hr; simp at hr
  | cons x xs ih =>
    intro r hr n
    have h1' : Single xs := fun z hz => h1 z (by simp [hz])
    rw [List.map_cons, List.nodup_cons] at hn
    have hx := h1 x (by simp)
    cases n with
    | zero => simp [cnt_nil]
    | succ n =>
      rw [cnt_take_succ, hx]
      cases r with
      | zero =>
        rw [List.getElem_cons_zero, if_pos (by omega), cnt_take_none xs h1' _ hn.1]
        simp
      | succ r =>
        have hr' : r < xs.length := by simpa using hr
        rw [List.getElem_cons_succ, ih h1' hn.2 r hr' n]
        have hne : sym x ≠ sym xs[r] := fun e => hn.1 (List.mem_map.2 ⟨xs[r], List.getElem_mem _, e.symm⟩)
        rw [List.count_cons_of_ne hne]
        simp

/-- The number of levels at which a rank lies below the cut, and the widths of these. -/
theorem cut_width (f : Nat → Nat) (r : Nat) : ∀ d, (∀ e, e < d → f e ≤ f (e + 1)) →
    sumN (fun e => if r < f e then 1 else 0) (d + 1) ≤ d + 1 ∧
    sumN (fun e => if r < f e then 2 ^ e else 0) (d + 1) + 2 ^ (d + 1 - sumN (fun e => if r < f e then 1 else 0) (d + 1)) = 2 ^ (d + 1) ∧
    (¬ r < f d → sumN (fun e => if r < f e then 1 else 0) (d + 1) = 0) ∧ (r < f d → 1 ≤ sumN (fun e => if r < f e then 1 else 0) (d + 1)) := by
  intro d
  induction d with
  | zero =>
    intro _
    simp only [sumN]
    split <;> rename_i hh <;> simp [hh]
  | succ d ih =>
    intro hf
    obtain ⟨a1, a2, a3, _⟩ := ih fun e he => hf e (by omega)
    have hm := hf d (by omega)
    have sc : ∀ (g : Nat → Nat) n, sumN g (n + 1) = sumN g n + g n := fun _ _ => rfl
    rw [sc _ (d + 1), sc _ (d + 1)]
    generalize sumN (fun e => if r < f e then 1 else 0) (d + 1) = h at *
    generalize sumN (fun e => if r < f e then 2 ^ e else 0) (d + 1) = v at *
    by_cases hr : r < f (d + 1)
    · simp only [hr, if_true]
      refine ⟨by omega, ?_, fun h => absurd trivial h, fun _ => by omega⟩
      rw [show d + 1 + 1 - (h + 1) = d + 1 - h by omega, Nat.pow_succ 2 (d + 1)]
      omega
    · have h0 : h = 0 := a3 (by omega)
      subst h0
      simp only [hr, if_false]
      refine ⟨by omega, ?_, fun _ => by trivial, fun h => absurd h id⟩
      have hv : v = 0 := by simp at a2; omega
      subst hv
      simp

theorem sum_rank {α : Type} (S : List α) (g : α → Nat) (h : Nat → Nat) (hg : ∀ (r : Nat) (hr : r < S.length), g S[r] = h r) : (S.map g).sum = sumN h S.length := by
  have : ∀ (S : List α) (h : Nat → Nat), (∀ (r : Nat) (hr : r < S.length), g S[r] = h r) → (S.map g).sum = sumN h S.length := by
    intro S
    induction S with
    | nil => intro h _; rfl
    | cons x xs ih =>
      intro h hg
      have e := ih (fun r => h (r + 1)) fun r hr => hg (r + 1) (by simpa using hr)
      have e0 := hg 0 (by simp)
      rw [List.getElem_cons_zero] at e0
      have shift : ∀ (h : Nat → Nat) n, sumN h (n + 1) = h 0 + sumN (fun r => h (r + 1)) n := by
        intro h n
        induction n with
        | zero => simp [sumN]
        | succ n ih => rw [sumN, ih]; conv => rhs; rw [sumN]
                       omega
      rw [List.map_cons, List.sum_cons, e, e0, List.length_cons, shift]
  exact this S h hg

theorem shape (S : List Item) (L : Nat) (hs : Sorted S) (hp : Pos S) (h1 : Single S) (hn : (S.map sym).Nodup) (hL : 1 ≤ L) (hk : 2 ≤ S.length) (hk2 : S.length ≤ 2 ^ L) :
    (∀ x ∈ S, 1 ≤ cnt ((lists S (L - 1)).take (2 * S.length - 2)) (sym x) ∧ cnt ((lists S (L - 1)).take (2 * S.length - 2)) (sym x) ≤ L) ∧
    (S.map fun x => 2 ^ (L - cnt ((lists S (L - 1)).take (2 * S.length - 2)) (sym x))).sum = 2 ^ L ∧
    (∀ s, s ∉ S.map sym → cnt ((lists S (L - 1)).take (2 * S.length - 2)) s = 0) := by
  obtain ⟨D, rfl⟩ : ∃ D, L = D + 1 := ⟨L - 1, by omega⟩
  rw [show D + 1 - 1 = D by omega]
  obtain ⟨f, g1, g2, g3, g4, _⟩ := cuts S hs hp D (2 * S.length - 2) (lists_enough S D hk2)
  have hrank : ∀ (r : Nat) (hr : r < S.length), cnt ((lists S D).take (2 * S.length - 2)) (sym S[r]) = sumN (fun e => if r < f e then 1 else 0) (D + 1) := by
    intro r hr
    rw [g4]
    exact sumN_congr _ fun e _ => cnt_take_rank S h1 hn r hr _
  have hmono : ∀ j e, e + j = D → f e ≤ f D := by
    intro j
    induction j with
    | zero => intro e he; rw [show e = D by omega]; exact Nat.le_refl _
    | succ j ih => intro e he; exact Nat.le_trans (g2 e (by omega)) (ih (e + 1) (by omega))
  have hall : S.length ≤ f D := by
    apply Nat.le_of_not_lt
    intro hlt
    have h3 : sumN (fun e => f e * 2 ^ e) (D + 1) ≤ sumN (fun e => (S.length - 1) * 2 ^ e) (D + 1) := by
      refine sumN_le _ fun e he => Nat.mul_le_mul_right _ ?_
      have := hmono (D - e) e (by omega)
      omega
    have h4 : ∀ n, sumN (fun e => (S.length - 1) * 2 ^ e) n + (S.length - 1) = (S.length - 1) * 2 ^ n := by
      intro n
      induction n with
      | zero => simp [sumN]
      | succ n ih => rw [sumN, Nat.pow_succ, ← Nat.mul_assoc]; omega
    have h5 := h4 (D + 1)
    rw [Nat.pow_succ, ← Nat.mul_assoc] at h5
    have h6 : (2 * S.length - 2) * 2 ^ D = (S.length - 1) * 2 ^ D * 2 := by
      rw [show 2 * S.length - 2 = (S.length - 1) * 2 by omega, Nat.mul_assoc, Nat.mul_comm 2, ← Nat.mul_assoc]
    omega
  refine ⟨fun x hx => ?_, ?_, fun s hs => ?_⟩
  · obtain ⟨r, hr, rfl⟩ := List.getElem_of_mem hx
    rw [hrank r hr]
    obtain ⟨a1, _, _, a4⟩ := cut_width f r D g2
    exact ⟨a4 (by omega), a1⟩
  · rw [sum_rank S _ (fun r => 2 ^ (D + 1 - sumN (fun e => if r < f e then 1 else 0) (D + 1))) fun r hr => by rw [hrank r hr]]
    have h7 : sumN (fun r => sumN (fun e => if r < f e then 2 ^ e else 0) (D + 1)) S.length + sumN (fun r => 2 ^ (D + 1 - sumN (fun e => if r < f e then 1 else 0) (D + 1))) S.length = S.length * 2 ^ (D + 1) := by
      rw [← sumN_add]
      have e : ∀ n, sumN (fun _ => 2 ^ (D + 1)) n = n * 2 ^ (D + 1) := by
        intro n
        induction n with
        | zero => simp [sumN]
        | succ n ih => rw [sumN, ih, Nat.add_mul]; omega
      rw [← e]
      exact sumN_congr _ fun r _ => (cut_width f r D g2).2.1
    rw [sumN_swap] at h7
    have h8 : sumN (fun e => sumN (fun r => if r < f e then 2 ^ e else 0) S.length) (D + 1) = sumN (fun e => f e * 2 ^ e) (D + 1) :=
      sumN_congr _ fun e he => sumN_below (f e) (2 ^ e) S.length (g1 e (by omega))
    rw [h8, g3, Nat.pow_succ] at h7
    rw [Nat.pow_succ]
    have h9 : (2 * S.length - 2) * 2 ^ D + 2 ^ D * 2 = S.length * (2 ^ D * 2) := by
      rw [Nat.mul_comm (2 ^ D) 2, ← Nat.mul_assoc, ← Nat.add_mul, show 2 * S.length - 2 + 2 = S.length * 2 by omega]
    omega
  · rw [g4]
    rw [sumN_congr (g := fun _ => 0) _ fun e _ => cnt_take_none S h1 s hs (f e), sumN_zero]
end Go.Proofs.Ytldhpniflnbilaa.Pm
