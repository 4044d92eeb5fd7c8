/- What the lengths of prefix.Lengths are worth: their number, their Kraft sum, their cost. -/
import Derived.Test.YtldhpniflnbilaaQ3
import Derived.Test.YtldhpniflnbilaaPm
set_option linter.unusedVariables false
set_option linter.unusedSimpArgs false
set_option linter.unusedSectionVars false
namespace Go.Proofs.Ytldhpniflnbilaa.Pure
open Go.RowKit Go.Proofs.Ytldhpniflnbilaa.P33 Go.Proofs.Ytldhpniflnbilaa Go.Proofs.YtldhpniflnbilaaW.PrintWords Go.Proofs.YtldhpniflnbilaaW.PrintLast Go.Proofs.YtldhpniflnbilaaW.PrintMore

def psi (t : Tr) : Pm.Item := (t.wt, t.syms)
/-! ### The lists of trees are the lists of items -/
theorem psi_merge (a : List Tr) : ∀ b, (mergeT a b).map psi = Pm.merge (a.map psi) (b.map psi) := by
  induction a with
  | nil => intro b; rfl
  | cons x xs ih =>
    intro b
    induction b with
    | nil => rfl
    | cons y ys ihb =>
      rw [mergeT_cons, List.map_cons, List.map_cons, Pm.merge_cons]
      by_cases h : x.wt ≤ y.wt
      · rw [if_pos h, if_pos (show (psi x).1 ≤ (psi y).1 from h), List.map_cons, ih, List.map_cons]
      · rw [if_neg h, if_neg (show ¬ (psi x).1 ≤ (psi y).1 from h), List.map_cons, ihb, List.map_cons]
theorem psi_pack (B : Int) (hB : 2 * B ≤ 9223372036854775807) : ∀ a : List Tr, (∀ t ∈ a, 0 ≤ t.wt ∧ t.wt ≤ B) → (packT a).map psi = Pm.pack (a.map psi)
  | [], _ => rfl
  | [_], _ => rfl
  | x :: y :: r, h => by
    have h1 := h x (by simp)
    have h2 := h y (by simp)
    simp only [packT, List.map_cons, Pm.pack]
    rw [psi_pack B hB r (fun t ht => h t (by simp [ht]))]
    congr 1
    show (wrap64 (x.wt + y.wt), x.syms ++ y.syms) = (x.wt + y.wt, x.syms ++ y.syms)
    rw [wr _ (by omega) (by omega)]
def tot (l : List Pm.Item) : Int := (l.map (·.1)).sum
theorem tot_nil : tot [] = 0 := rfl
theorem tot_cons (x : Pm.Item) (l : List Pm.Item) : tot (x :: l) = x.1 + tot l := by simp [tot]
theorem tot_nonneg : ∀ l : List Pm.Item, Pm.Pos l → 0 ≤ tot l
  | [], _ => by simp [tot]
  | x :: r, h => by rw [tot_cons]; have := h x (by simp); have := tot_nonneg r (fun y hy => h y (by simp [hy])); omega
theorem tot_mem : ∀ l : List Pm.Item, Pm.Pos l → ∀ x ∈ l, x.1 ≤ tot l
  | y :: r, h, x, hx => by
    rw [tot_cons]
    have h1 := h y (by simp)
    have h2 : Pm.Pos r := fun z hz => h z (by simp [hz])
    rcases List.mem_cons.1 hx with rfl | hx
    · have := tot_nonneg r h2; omega
    · have := tot_mem r h2 x hx; omega
theorem tot_merge (a : List Pm.Item) : ∀ b, tot (Pm.merge a b) = tot a + tot b := by
  induction a with
  | nil => intro b; rw [Pm.merge_nil, tot_nil]; omega
  | cons x xs ih =>
    intro b
    induction b with
    | nil => rw [Pm.merge_nil_right, tot_nil]; omega
    | cons y ys ihb =>
      rw [Pm.merge_cons]
      split
      · rw [tot_cons, ih, tot_cons, tot_cons]; omega
      · rw [tot_cons, ihb, tot_cons, tot_cons]; omega
theorem tot_pack : ∀ a : List Pm.Item, Pm.Pos a → tot (Pm.pack a) ≤ tot a
  | [], _ => by simp [Pm.pack, tot]
  | [x], h => by have := h x (by simp); simp [Pm.pack, tot]; omega
  | x :: y :: r, h => by
    have := tot_pack r (fun z hz => h z (by simp [hz]))
    simp only [Pm.pack, tot_cons]
    omega
theorem tot_lists (S : List Pm.Item) (h : Pm.Pos S) : ∀ n : Nat, tot (Pm.lists S n) ≤ ((n : Int) + 1) * tot S
  | 0 => by rw [Pm.lists]; simp
  | n + 1 => by
    have h1 := tot_lists S h n
    have h2 := tot_pack _ (Pm.lists_pos S h n)
    rw [Pm.lists, tot_merge]
    have e : (((n + 1 : Nat) : Int) + 1) * tot S = ((n : Int) + 1) * tot S + tot S := by push_cast; rw [Int.add_mul ((n : Int) + 1) 1]; omega
    omega
theorem psi_lists (S : List Tr) (hp : Pm.Pos (S.map psi)) (ht : tot (S.map psi) ≤ 144115188075855872) : ∀ n, n ≤ 30 → (treeLists S n).map psi = Pm.lists (S.map psi) n
  | 0, _ => rfl
  | n + 1, hn => by
    have ih := psi_lists S hp ht n (by omega)
    have h1 := tot_lists _ hp n
    have h2 := tot_nonneg _ hp
    have h3 : ((n : Int) + 1) * tot (S.map psi) ≤ 30 * 144115188075855872 := by
      have := Int.mul_le_mul (show (n : Int) + 1 ≤ 30 by omega) ht h2 (by omega)
      exact this
    rw [treeLists, Pm.lists, psi_merge, psi_pack 4323455642275676160 (by decide), ih]
    intro t htm
    have hm : psi t ∈ Pm.lists (S.map psi) n := ih ▸ List.mem_map_of_mem htm
    have := tot_mem _ (Pm.lists_pos _ hp n) _ hm
    have h5 := Pm.lists_pos _ hp n _ hm
    have e : (psi t).1 = t.wt := rfl
    omega

/-! ### The singles -/
theorem insT_perm (x : Tr) : ∀ l, (insT x l).Perm (x :: l)
  | [] => List.Perm.refl _
  | y :: ys => by
    unfold insT
    split
    · exact ((insT_perm x ys).cons y).trans (List.Perm.swap x y ys)
    · exact List.Perm.refl _
theorem isT_perm (l : List Tr) : (isT l).Perm l := by
  suffices ∀ (r acc : List Tr), (r.foldl (fun acc x => insT x acc) acc).Perm (acc ++ r) by simpa [isT] using this l []
  intro r
  induction r with
  | nil => intro acc; simp
  | cons x r ih =>
    intro acc
    rw [List.foldl_cons]
    refine (ih _).trans ?_
    refine ((insT_perm x acc).append_right r).trans ?_
    rw [List.cons_append]
    exact List.perm_middle.symm
def SortedW (l : List Tr) : Prop := l.Pairwise fun x y => x.wt ≤ y.wt
theorem insT_sortedW (x : Tr) : ∀ l, SortedW l → SortedW (insT x l)
  | [], _ => by simp [insT, SortedW]
  | y :: ys, h => by
    have h' := List.pairwise_cons.1 h
    unfold insT
    split
    · refine List.pairwise_cons.2 ⟨fun z hz => ?_, insT_sortedW x ys h'.2⟩
      rcases mem_insT x ys z hz with rfl | hz
      · assumption
      · exact h'.1 z hz
    · refine List.pairwise_cons.2 ⟨fun z hz => ?_, h⟩
      rcases List.mem_cons.1 hz with rfl | hz
      · omega
      · have := h'.1 z hz; omega
theorem isT_sortedW (l : List Tr) : SortedW (isT l) := by
  suffices ∀ (r acc : List Tr), SortedW acc → SortedW (r.foldl (fun acc x => insT x acc) acc) from this l [] (by simp [SortedW])
  intro r
  induction r with
  | nil => intro acc h; exact h
  | cons x r ih => intro acc h; exact ih _ (insT_sortedW x acc h)
theorem leafs_mem : ∀ (l : List Int) (i : Nat) (t : Tr), t ∈ leafs l i → ∃ (s : Nat) (h : s < l.length), t = .leaf ((i + s : Nat) : Int) l[s] ∧ 0 < l[s]
  | [], i, t, h => by simp [leafs] at h
  | f :: r, i, t, h => by
    rw [leafs] at h
    by_cases hf : 0 < f
    · rw [if_pos hf] at h
      rcases List.mem_cons.1 h with rfl | h
      · exact ⟨0, by simp, by simp, by simpa using hf⟩
      · obtain ⟨s, hs, rfl, hp⟩ := leafs_mem r (i + 1) t h
        exact ⟨s + 1, by simpa using hs, by simp; omega, by simpa using hp⟩
    · rw [if_neg hf] at h
      obtain ⟨s, hs, rfl, hp⟩ := leafs_mem r (i + 1) t h
      exact ⟨s + 1, by simpa using hs, by simp; omega, by simpa using hp⟩
theorem leafs_nodup : ∀ (l : List Int) (i : Nat), ((leafs l i).map Tr.val).Nodup
  | [], i => by simp [leafs]
  | f :: r, i => by
    rw [leafs]
    have ih := leafs_nodup r (i + 1)
    split
    · rw [List.map_cons, List.nodup_cons]
      refine ⟨fun h => ?_, ih⟩
      obtain ⟨t, ht, he⟩ := List.mem_map.1 h
      obtain ⟨s, _, rfl, _⟩ := leafs_mem r (i + 1) t ht
      simp only [Tr.val] at he
      omega
    · exact ih
/-- The sum of g over the symbols that occur. -/
def posSum : List Int → (Int → Int) → Nat → Int
  | [], _, _ => 0
  | f :: r, g, i => (if 0 < f then g (i : Int) else 0) + posSum r g (i + 1)
theorem posSum_leafs (g : Int → Int) : ∀ (l : List Int) (i : Nat), ((leafs l i).map fun t => g t.val).sum = posSum l g i
  | [], i => rfl
  | f :: r, i => by
    rw [leafs, posSum]
    by_cases h : 0 < f
    · rw [if_pos h, if_pos h, List.map_cons, List.sum_cons, posSum_leafs g r (i + 1)]; rfl
    · rw [if_neg h, if_neg h, posSum_leafs g r (i + 1)]; omega
theorem perm_sum {l1 l2 : List Int} (h : l1.Perm l2) : l1.sum = l2.sum := by
  induction h with
  | nil => rfl
  | cons x _ ih => rw [List.sum_cons, List.sum_cons, ih]
  | swap x y l => simp only [List.sum_cons]; omega
  | trans _ _ h1 h2 => rw [h1, h2]
def sing (l : List Int) : List Pm.Item := (isT (leafs l 0)).map psi
theorem sing_mem {l : List Int} {x : Pm.Item} (h : x ∈ sing l) : ∃ (s : Nat) (hs : s < l.length), x = (l[s], [(s : Int)]) ∧ 0 < l[s] := by
  obtain ⟨t, ht, rfl⟩ := List.mem_map.1 h
  obtain ⟨s, hs, rfl, hp⟩ := leafs_mem l 0 t (mem_isT _ _ ht)
  exact ⟨s, hs, by simp [psi, Tr.wt, Tr.syms], hp⟩
theorem sing_sum (l : List Int) (g : Int → Int) : ((sing l).map fun x => g (Pm.sym x)).sum = posSum l g 0 := by
  rw [← posSum_leafs g l 0, ← perm_sum ((isT_perm (leafs l 0)).map fun t => g t.val)]
  unfold sing
  rw [List.map_map]
  congr 1
  apply List.map_congr_left
  intro t ht
  obtain ⟨s, hs, rfl, hp⟩ := leafs_mem l 0 t (mem_isT _ _ ht)
  rfl
theorem sing_sorted (l : List Int) : Pm.Sorted (sing l) := by
  have := isT_sortedW (leafs l 0)
  exact List.pairwise_map.2 this
theorem sing_pos (l : List Int) : Pm.Pos (sing l) := fun x hx => by
  obtain ⟨s, hs, rfl, hp⟩ := sing_mem hx
  exact hp
theorem sing_single (l : List Int) : Pm.Single (sing l) := fun x hx => by
  obtain ⟨s, hs, rfl, hp⟩ := sing_mem hx
  rfl
theorem sing_nodup (l : List Int) : ((sing l).map Pm.sym).Nodup := by
  have e : (sing l).map Pm.sym = (isT (leafs l 0)).map Tr.val := by
    unfold sing
    rw [List.map_map]
    apply List.map_congr_left
    intro t ht
    obtain ⟨s, hs, rfl, hp⟩ := leafs_mem l 0 t (mem_isT _ _ ht)
    rfl
  rw [e]
  exact (((isT_perm (leafs l 0)).map Tr.val).nodup_iff).2 (leafs_nodup l 0)
theorem leafs_has : ∀ (l : List Int) (i s : Nat) (hs : s < l.length), 0 < l[s] → Tr.leaf ((i + s : Nat) : Int) l[s] ∈ leafs l i
  | f :: r, i, 0, hs, h => by
    simp only [List.getElem_cons_zero] at h ⊢
    rw [leafs, if_pos h]
    simp
  | f :: r, i, s + 1, hs, h => by
    simp only [List.getElem_cons_succ] at h ⊢
    have := leafs_has r (i + 1) s (by simpa using hs) h
    rw [show i + (s + 1) = i + 1 + s by omega]
    rw [leafs]
    split
    · exact List.mem_cons_of_mem _ this
    · exact this
theorem sing_sym (l : List Int) (s : Nat) (hs : s < l.length) : (s : Int) ∈ (sing l).map Pm.sym ↔ 0 < l[s] := by
  constructor
  · intro h
    obtain ⟨x, hx, he⟩ := List.mem_map.1 h
    obtain ⟨s', hs', rfl, hp⟩ := sing_mem hx
    have : s' = s := by simp only [Pm.sym, List.headD_cons] at he; omega
    subst this
    exact hp
  · intro h
    have := leafs_has l 0 s hs h
    refine List.mem_map.2 ⟨(l[s], [(s : Int)]), List.mem_map.2 ⟨_, (isT_perm (leafs l 0)).mem_iff.2 this, ?_⟩, rfl⟩
    simp [psi, Tr.wt, Tr.syms]
theorem sing_length (l : List Int) : (sing l).length = (isT (leafs l 0)).length := by simp [sing]
theorem posSum_le (B : Int) (hB : 0 ≤ B) (g : Int → Int) (hg : ∀ x, g x ≤ B) : ∀ (l : List Int) (i : Nat), posSum l g i ≤ l.length * B
  | [], i => by simp [posSum]
  | f :: r, i => by
    have ih := posSum_le B hB g hg r (i + 1)
    have := hg (i : Int)
    rw [posSum, List.length_cons]
    push_cast
    rw [Int.add_mul]
    split <;> omega
/-- The weight of a symbol. -/
def wOf (l : List Int) (s : Int) : Int := l.getD s.toNat 0
theorem wOf_bound {l : List Int} (h : withinL l 1099511627776 = true) (s : Int) : 0 ≤ wOf l s ∧ wOf l s ≤ 1099511627776 := by
  unfold wOf
  by_cases hs : s.toNat < l.length
  · rw [getD_at l _ hs]; exact withinL_mem h _ hs
  · rw [List.getD_eq_getElem?_getD, List.getElem?_eq_none (by omega)]; simp
theorem sing_w {l : List Int} {x : Pm.Item} (h : x ∈ sing l) : x.1 = wOf l (Pm.sym x) := by
  obtain ⟨s, hs, rfl, hp⟩ := sing_mem h
  simp only [wOf, Pm.sym, List.headD_cons, Int.toNat_natCast]
  rw [getD_at l s hs]
theorem sing_tot (l : List Int) (hl : l.length ≤ 4096) (h : withinL l 1099511627776 = true) : tot (sing l) ≤ 144115188075855872 := by
  have e : tot (sing l) = posSum l (wOf l) 0 := by
    rw [← sing_sum]
    unfold tot
    congr 1
    exact List.map_congr_left fun x hx => sing_w hx
  have := posSum_le 1099511627776 (by decide) (wOf l) (fun s => (wOf_bound h s).2) l 0
  omega

/-! ### bumps -/
theorem rd_bump (o : List Int) (t : Int) (s : Nat) (ht0 : 0 ≤ t) (ht1 : t < (o.length : Int)) (hs : s < o.length) (hb : 0 ≤ rd o (s : Int) ∧ rd o (s : Int) ≤ 4611686018427387904) : rd (bump o t) (s : Int) = rd o (s : Int) + (if t = (s : Int) then 1 else 0) := by
  have e : rd (bump o t) (s : Int) = if t.toNat = s then wrap64 (rd o t + 1) else rd o (s : Int) := by
    rw [rd_at _ s (by rw [bump_length]; exact hs), rd_at o s hs]
    simp only [bump, List.getElem_set]
  rw [e]
  by_cases h : t = (s : Int)
  · subst h
    rw [if_pos (by omega), if_pos rfl, wr _ (by omega) (by omega)]
  · rw [if_neg (by omega), if_neg h]; omega
theorem rd_bumps (s : Nat) : ∀ (ss : List Int) (o : List Int), s < o.length → (∀ t ∈ ss, 0 ≤ t ∧ t < (o.length : Int)) → 0 ≤ rd o (s : Int) → rd o (s : Int) + ss.length ≤ 4611686018427387904 → rd (bumps o ss) (s : Int) = rd o (s : Int) + (ss.count (s : Int) : Int)
  | [], o, _, _, _, _ => by simp [bumps]
  | t :: r, o, hs, ht, h0, h1 => by
    rw [List.length_cons] at h1
    have hb := rd_bump o t s (ht t (by simp)).1 (ht t (by simp)).2 hs ⟨h0, by omega⟩
    rw [bumps, rd_bumps s r (bump o t) (by rw [bump_length]; exact hs) (fun x hx => by rw [bump_length]; exact ht x (by simp [hx])) (by rw [hb]; split <;> omega) (by rw [hb]; split <;> omega), hb, List.count_cons]
    simp only [beq_iff_eq]
    split <;> simp <;> omega

/-! ### Sums over the lengths -/
theorem costS_pos (l q : List Int) (hq : q.length = l.length) (h0 : ∀ i (h : i < l.length), 0 ≤ l[i]) : ∀ d i, d + i = l.length → costS (l.drop i) (q.drop i) = posSum (l.drop i) (fun s => wOf l s * wOf q s) i
  | 0, i, h => by rw [List.drop_eq_nil_of_le (by omega), costS, posSum]; intros; simp_all
  | d + 1, i, h => by
    have hi : i < l.length := by omega
    have hj : i < q.length := by omega
    have ih := costS_pos l q hq h0 d (i + 1) (by omega)
    rw [List.drop_eq_getElem_cons hi, List.drop_eq_getElem_cons hj, costS, posSum, ih]
    congr 1
    simp only [wOf, Int.toNat_natCast]
    rw [getD_at l i hi, getD_at q i hj]
    by_cases hp : 0 < l[i]
    · rw [if_pos hp]
    · rw [if_neg hp]
      have : l[i] = 0 := by have := h0 i hi; omega
      rw [this, Int.zero_mul]
theorem kraft_pos (l q : List Int) (hq : q.length = l.length) (h : ∀ i (hi : i < l.length), 0 < l[i] ↔ 0 < q[i]) : ∀ d i, d + i = l.length → kraftS (q.drop i) = posSum (l.drop i) (fun s => 2 ^ (30 - wOf q s).toNat) i
  | 0, i, h => by rw [List.drop_eq_nil_of_le (by omega), List.drop_eq_nil_of_le (by omega)]; rfl
  | d + 1, i, hd => by
    have hi : i < l.length := by omega
    have hj : i < q.length := by omega
    have ih := kraft_pos l q hq h d (i + 1) (by omega)
    rw [List.drop_eq_getElem_cons hi, List.drop_eq_getElem_cons hj, kraftS, posSum, ih]
    congr 1
    simp only [wOf, Int.toNat_natCast]
    rw [getD_at q i hj]
    by_cases hp : 0 < l[i]
    · rw [if_pos hp, if_pos ((h i hi).1 hp)]
    · rw [if_neg hp, if_neg (fun x => hp ((h i hi).2 x))]
theorem kraft_pos_le (l q : List Int) (hq : q.length = l.length) (h : ∀ i (hi : i < l.length), 0 < l[i] → 0 < q[i]) : ∀ d i, d + i = l.length → posSum (l.drop i) (fun s => 2 ^ (30 - wOf q s).toNat) i ≤ kraftS (q.drop i)
  | 0, i, h => by rw [List.drop_eq_nil_of_le (by omega), List.drop_eq_nil_of_le (by omega)]; exact Int.le_refl _
  | d + 1, i, hd => by
    have hi : i < l.length := by omega
    have hj : i < q.length := by omega
    have ih := kraft_pos_le l q hq h d (i + 1) (by omega)
    rw [List.drop_eq_getElem_cons hi, List.drop_eq_getElem_cons hj, kraftS, posSum]
    simp only [wOf, Int.toNat_natCast] at ih ⊢
    rw [getD_at q i hj]
    have hp2 := Int.le_of_lt (show (0 : Int) < 2 ^ (30 - q[i]).toNat by have : (0 : Int) < ((2 ^ (30 - q[i]).toNat : Nat) : Int) := by exact_mod_cast Nat.two_pow_pos _
                                                                        simpa using this)
    by_cases hp : 0 < l[i]
    · rw [if_pos hp, if_pos (h i hi hp)]; omega
    · rw [if_neg hp]; split <;> omega

/-! ### The cost of the first items -/
def Weighed (w : Int → Int) (l : List Pm.Item) : Prop := ∀ x ∈ l, x.1 = (x.2.map w).sum
theorem Weighed.pack {w : Int → Int} : ∀ {l : List Pm.Item}, Weighed w l → Weighed w (Pm.pack l)
  | [], _ => by intro x hx; simp [Pm.pack] at hx
  | [_], _ => by intro x hx; simp [Pm.pack] at hx
  | x :: y :: r, h => by
    intro z hz
    simp only [Pm.pack, List.mem_cons] at hz
    rcases hz with rfl | hz
    · simp only [List.map_append, List.sum_append]
      rw [← h x (by simp), ← h y (by simp)]
    · exact Weighed.pack (fun z hz => h z (by simp [hz])) z hz
theorem Weighed.lists {w : Int → Int} {S : List Pm.Item} (h : Weighed w S) : ∀ n, Weighed w (Pm.lists S n)
  | 0 => h
  | n + 1 => fun x hx => by
    rw [Pm.lists] at hx
    rcases (Pm.mem_merge _ _ _).1 hx with hx | hx
    · exact h x hx
    · exact (Weighed.lists h n).pack x hx
theorem psum_weighed {w : Int → Int} : ∀ (l : List Pm.Item), Weighed w l → ∀ m, Pm.psum l m = (((l.take m).flatMap (·.2)).map w).sum
  | [], _, m => by simp [Pm.psum]
  | x :: r, h, 0 => by simp [Pm.psum]
  | x :: r, h, m + 1 => by
    rw [Pm.psum_cons, psum_weighed r (fun z hz => h z (by simp [hz])) m, List.take_succ_cons, List.flatMap_cons, List.map_append, List.sum_append, ← h x (by simp)]
theorem sum_one (P : List Pm.Item) (hn : (P.map Pm.sym).Nodup) (g : Int → Int) (s : Int) (hs : s ∈ P.map Pm.sym) : (P.map fun x => g (Pm.sym x) * (if s = Pm.sym x then 1 else 0)).sum = g s := by
  induction P with
  | nil => simp at hs
  | cons y r ih =>
    rw [List.map_cons, List.nodup_cons] at hn
    rw [List.map_cons, List.mem_cons] at hs
    rw [List.map_cons, List.sum_cons]
    by_cases e : s = Pm.sym y
    · subst e
      have z : (r.map fun x => g (Pm.sym x) * (if Pm.sym y = Pm.sym x then 1 else 0)).sum = 0 := by
        have : ∀ q : List Pm.Item, (Pm.sym y ∉ q.map Pm.sym) → (q.map fun x => g (Pm.sym x) * (if Pm.sym y = Pm.sym x then 1 else 0)).sum = 0 := by
          intro q
          induction q with
          | nil => intro _; rfl
          | cons z q ih =>
            intro hq
            rw [List.map_cons, List.mem_cons, not_or] at hq
            rw [List.map_cons, List.sum_cons, ih hq.2, if_neg hq.1]
            simp
        exact this r hn.1
      rw [z, if_pos rfl]
      omega
    · rw [if_neg e, ih hn.2 (hs.resolve_left e)]
      omega
theorem sum_counts (P : List Pm.Item) (hn : (P.map Pm.sym).Nodup) (g : Int → Int) : ∀ ss : List Int, (∀ s ∈ ss, s ∈ P.map Pm.sym) → (ss.map g).sum = (P.map fun x => g (Pm.sym x) * (ss.count (Pm.sym x) : Int)).sum
  | [], h => by
    rw [List.map_nil, List.sum_nil]
    clear hn h
    induction P with
    | nil => rfl
    | cons x r ih => rw [List.map_cons, List.sum_cons, ← ih]; simp
  | s :: r, h => by
    rw [List.map_cons, List.sum_cons, sum_counts P hn g r (fun x hx => h x (by simp [hx])), ← sum_one P hn g s (h s (by simp))]
    clear hn h
    induction P with
    | nil => rfl
    | cons x q ih =>
      simp only [List.map_cons, List.sum_cons]
      rw [show ∀ a b c d : Int, a + b + (c + d) = (a + c) + (b + d) by intros; omega, ih]
      congr 1
      rw [← Int.mul_add, List.count_cons]
      congr 1
      simp only [beq_iff_eq]
      split <;> simp <;> omega
theorem lists_syms_in (S : List Pm.Item) (h1 : Pm.Single S) : ∀ n, ∀ x ∈ Pm.lists S n, ∀ s ∈ x.2, s ∈ S.map Pm.sym := by
  have base : ∀ x ∈ S, ∀ s ∈ x.2, s ∈ S.map Pm.sym := by
    intro x hx s hs
    rw [h1 x hx, List.mem_singleton] at hs
    subst hs
    exact List.mem_map_of_mem hx
  have pk : ∀ l : List Pm.Item, (∀ x ∈ l, ∀ s ∈ x.2, s ∈ S.map Pm.sym) → ∀ x ∈ Pm.pack l, ∀ s ∈ x.2, s ∈ S.map Pm.sym := by
    intro l
    induction l using Pm.pack.induct with
    | case1 x y r ih =>
      intro h z hz s hs
      simp only [Pm.pack, List.mem_cons] at hz
      rcases hz with rfl | hz
      · rcases List.mem_append.1 hs with hs | hs
        · exact h x (by simp) s hs
        · exact h y (by simp) s hs
      · exact ih (fun q hq => h q (by simp [hq])) z hz s hs
    | case2 l hl =>
      intro h z hz
      match l, hl with
      | [], _ => simp [Pm.pack] at hz
      | [a], _ => simp [Pm.pack] at hz
      | a :: b :: r, hl => exact absurd rfl (hl a b r)
  intro n
  induction n with
  | zero => exact base
  | succ n ih =>
    intro x hx
    rw [Pm.lists] at hx
    rcases (Pm.mem_merge _ _ _).1 hx with hx | hx
    · exact base x hx
    · exact pk _ ih x hx

/-! ### The lengths -/
structure Good (l : List Int) (m : Nat) (q : List Int) : Prop where
  len : q.length = l.length
  sign : ∀ i (hi : i < l.length), 0 < l[i] ↔ 0 < wOf q (i : Int)
  bound : ∀ i (hi : i < l.length), 0 ≤ wOf q (i : Int) ∧ wOf q (i : Int) ≤ m
  kraft2 : 2 ≤ (sing l).length → kraftS q = 1073741824
  kraft1 : (sing l).length = 1 → kraftS q = 536870912
  best : ∀ o : List Int, o.length = l.length → (∀ i (hi : i < l.length), 0 ≤ wOf o (i : Int) ∧ wOf o (i : Int) ≤ m ∧ (0 < l[i] → 0 < wOf o (i : Int))) → kraftS o ≤ 1073741824 → costS l q ≤ costS l o
theorem wOf_rd (q : List Int) (i : Nat) : wOf q (i : Int) = rd q (i : Int) := rfl
theorem posSum_congr (g h : Int → Int) : ∀ (l : List Int) (i : Nat), (∀ s : Nat, s < l.length → 0 < l.getD s 0 → g ((i + s : Nat) : Int) = h ((i + s : Nat) : Int)) → posSum l g i = posSum l h i
  | [], _, _ => rfl
  | f :: r, i, hh => by
    rw [posSum, posSum, posSum_congr g h r (i + 1) (fun s hs hp => by have := hh (s + 1) (by simpa using hs) (by simpa using hp); rw [show i + 1 + s = i + (s + 1) by omega]; exact this)]
    congr 1
    by_cases hf : 0 < f
    · rw [if_pos hf, if_pos hf]
      have := hh 0 (by simp) (by simpa using hf)
      simpa using this
    · rw [if_neg hf, if_neg hf]
theorem posSum_mono (g h : Int → Int) : ∀ (l : List Int) (i : Nat), (∀ s : Nat, s < l.length → 0 < l.getD s 0 → g ((i + s : Nat) : Int) ≤ h ((i + s : Nat) : Int)) → posSum l g i ≤ posSum l h i
  | [], _, _ => Int.le_refl _
  | f :: r, i, hh => by
    have ih := posSum_mono g h r (i + 1) (fun s hs hp => by have := hh (s + 1) (by simpa using hs) (by simpa using hp); rw [show i + 1 + s = i + (s + 1) by omega]; exact this)
    rw [posSum, posSum]
    by_cases hf : 0 < f
    · rw [if_pos hf, if_pos hf]
      have := hh 0 (by simp) (by simpa using hf)
      simp only [Nat.add_zero] at this
      omega
    · rw [if_neg hf, if_neg hf]; omega
theorem two_pow_int (n : Nat) : ((2 ^ n : Nat) : Int) = (2 : Int) ^ n := by simp
theorem sum_cast (P : List Pm.Item) (f : Pm.Item → Nat) : (((P.map f).sum : Nat) : Int) = (P.map fun x => (f x : Int)).sum := by
  induction P with
  | nil => rfl
  | cons x r ih => rw [List.map_cons, List.sum_cons, List.map_cons, List.sum_cons, ← ih]; simp
theorem sum_scale (P : List Pm.Item) (f : Pm.Item → Int) (c : Int) : (P.map fun x => f x * c).sum = (P.map f).sum * c := by
  induction P with
  | nil => simp
  | cons x r ih => rw [List.map_cons, List.sum_cons, List.map_cons, List.sum_cons, ih, Int.add_mul]
theorem flatMap_length (B : Nat) : ∀ ts : List Tr, (∀ t ∈ ts, t.syms.length ≤ B) → (ts.flatMap Tr.syms).length ≤ ts.length * B
  | [], _ => by simp
  | t :: r, h => by
    have h1 := h t (by simp)
    have h2 := flatMap_length B r (fun x hx => h x (by simp [hx]))
    rw [List.flatMap_cons, List.length_append, List.length_cons, Nat.add_mul]
    omega
theorem posSum_sing (l : List Int) (g : Int → Int) (h : Pm.Item → Int) (hh : ∀ x ∈ sing l, g (Pm.sym x) = h x) : posSum l g 0 = ((sing l).map h).sum := by
  rw [← sing_sum]
  congr 1
  exact List.map_congr_left hh
theorem wOf_at (q : List Int) (i : Nat) (h : i < q.length) : wOf q (i : Int) = q[i] := by simp only [wOf, Int.toNat_natCast]; exact getD_at q i h
theorem sing_index {l : List Int} {x : Pm.Item} (h : x ∈ sing l) : ∃ (s : Nat) (hs : s < l.length), Pm.sym x = (s : Int) ∧ 0 < l[s] := by
  obtain ⟨s, hs, rfl, hp⟩ := sing_mem h
  exact ⟨s, hs, rfl, hp⟩
theorem good_many (l : List Int) (m : Nat) (hl : l.length ≤ 4096) (hw : withinL l 1099511627776 = true) (hm1 : 1 ≤ m) (hm2 : m ≤ 30) (hk : (sing l).length ≤ 2 ^ m) (h2 : 2 ≤ (sing l).length) :
    Good l m (bumps (List.replicate l.length 0) (((treeLists (isT (leafs l 0)) (m - 1)).take (2 * (isT (leafs l 0)).length - 2)).flatMap Tr.syms)) := by
  have hpos := sing_pos l
  obtain ⟨sh1, sh2, sh3⟩ := Pm.shape (sing l) m (sing_sorted l) hpos (sing_single l) (sing_nodup l) hm1 h2 hk
  have hps := psi_lists (isT (leafs l 0)) hpos (sing_tot l hl hw) (m - 1) (by omega)
  have hsl := sing_length l
  generalize hc : (fun s => Pm.cnt ((Pm.lists (sing l) (m - 1)).take (2 * (sing l).length - 2)) s) = c at *
  have hc' (s : Int) : Pm.cnt ((Pm.lists (sing l) (m - 1)).take (2 * (sing l).length - 2)) s = c s := by rw [← hc]
  simp only [hc'] at sh1 sh2 sh3
  have hSlen : (isT (leafs l 0)).length ≤ 4096 := by rw [isT_length]; have := leafs_length l 0; omega
  generalize hss : ((treeLists (isT (leafs l 0)) (m - 1)).take (2 * (isT (leafs l 0)).length - 2)).flatMap Tr.syms = ss
  have hflat : ss = ((Pm.lists (sing l) (m - 1)).take (2 * (sing l).length - 2)).flatMap (·.2) := by
    have e : Pm.lists (sing l) (m - 1) = (treeLists (isT (leafs l 0)) (m - 1)).map psi := hps.symm
    rw [e, hsl, ← List.map_take, List.flatMap_map, ← hss]
    rfl
  have hcount (s : Int) : ss.count s = c s := by rw [← hc', Pm.cnt, hflat]
  have hin : ∀ t ∈ ss, 0 ≤ t ∧ t < (l.length : Int) := by
    intro t ht
    rw [← hss] at ht
    obtain ⟨x, hx, hxt⟩ := List.mem_flatMap.1 ht
    exact (syms_leafs l).lists _ x (List.mem_of_mem_take hx) t hxt
  have hsslen : ss.length ≤ 8192 * 1073741824 := by
    rw [← hss]
    refine Nat.le_trans (flatMap_length 1073741824 _ (fun t ht => ?_)) (Nat.mul_le_mul_right _ ?_)
    · have := lists_syms _ (leafs_one l) (m - 1) t (List.mem_of_mem_take ht)
      have : 2 ^ (m - 1) ≤ 2 ^ 30 := Nat.pow_le_pow_right (by decide) (by omega)
      omega
    · rw [List.length_take]; omega
  have hq (s : Nat) (hs : s < l.length) : wOf (bumps (List.replicate l.length 0) ss) (s : Int) = (c (s : Int) : Int) := by
    have h0 : rd (List.replicate l.length 0) (s : Int) = 0 := by rw [rd_at _ s (by simpa using hs)]; simp
    have := rd_bumps s ss (List.replicate l.length 0) (by simpa using hs) (by simpa using hin) (by omega) (by omega)
    rw [wOf_rd, this, h0, hcount]; omega
  have hlen : (bumps (List.replicate l.length 0) ss).length = l.length := by rw [bumps_length]; simp
  generalize hqq : bumps (List.replicate l.length 0) ss = q at *
  have hcs (s : Nat) (hs : s < l.length) : (0 < l[s] ↔ 0 < c (s : Int)) ∧ c (s : Int) ≤ m := by
    by_cases h : 0 < l[s]
    · obtain ⟨x, hx, he⟩ := List.mem_map.1 ((sing_sym l s hs).2 h)
      have := sh1 x hx
      rw [he] at this
      exact ⟨⟨fun _ => by omega, fun _ => h⟩, this.2⟩
    · have := sh3 (s : Int) (fun x => h ((sing_sym l s hs).1 x))
      exact ⟨⟨fun x => absurd x h, fun x => by omega⟩, by omega⟩
  have hpw (x : Pm.Item) (hx : x ∈ sing l) : wOf q (Pm.sym x) = (c (Pm.sym x) : Int) ∧ c (Pm.sym x) ≤ m := by
    obtain ⟨s, hs, e, hp⟩ := sing_index hx
    rw [e]
    exact ⟨hq s hs, (hcs s hs).2⟩
  have split30 (a : Nat) (ha : a ≤ m) : (2 : Int) ^ ((30 : Int) - (a : Int)).toNat = ((2 ^ (m - a) : Nat) : Int) * 2 ^ (30 - m) := by
    rw [two_pow_int, ← Int.pow_add]
    congr 1
    omega
  have all30 : (2 : Int) ^ m * 2 ^ (30 - m) = 1073741824 := by
    rw [← Int.pow_add, show m + (30 - m) = 30 by omega]; decide
  refine ⟨hlen, fun i hi => ?_, fun i hi => ?_, fun _ => ?_, fun h => by omega, fun o ho hob hok => ?_⟩
  · rw [hq i hi]; have := (hcs i hi).1; omega
  · rw [hq i hi]; have := (hcs i hi).2; omega
  · have h1 := kraft_pos l q hlen (fun i hi => by rw [← wOf_at q i (by omega), hq i hi]; have := (hcs i hi).1; omega) l.length 0 rfl
    rw [List.drop_zero, List.drop_zero] at h1
    rw [h1, posSum_sing l _ (fun x => ((2 ^ (m - c (Pm.sym x)) : Nat) : Int) * 2 ^ (30 - m)) (fun x hx => by rw [(hpw x hx).1]; exact split30 _ (hpw x hx).2), sum_scale, ← sum_cast, sh2, two_pow_int]
    exact all30
  · have h0 : ∀ i (h : i < l.length), 0 ≤ l[i] := fun i hi => (withinL_mem hw i hi).1
    have c1 := costS_pos l q hlen h0 l.length 0 rfl
    have c2 := costS_pos l o ho h0 l.length 0 rfl
    rw [List.drop_zero, List.drop_zero] at c1 c2
    have hO (x : Pm.Item) (hx : x ∈ sing l) : 0 ≤ wOf o (Pm.sym x) ∧ wOf o (Pm.sym x) ≤ m := by
      obtain ⟨s, hs, e, hp⟩ := sing_index hx
      rw [e]
      have := hob s hs
      omega
    have low := Pm.optimal_lower (sing l) m (fun x => (wOf o (Pm.sym x)).toNat) (sing_sorted l) hpos hm1 (fun x hx => by have := hO x hx; omega) (by
      have k1 := kraft_pos_le l o ho (fun i hi hp => by rw [← wOf_at o i (by omega)]; exact (hob i hi).2.2 hp) l.length 0 rfl
      rw [List.drop_zero, List.drop_zero] at k1
      rw [posSum_sing l _ (fun x => ((2 ^ (m - (wOf o (Pm.sym x)).toNat) : Nat) : Int) * 2 ^ (30 - m)) (fun x hx => by
        have := hO x hx
        have e : wOf o (Pm.sym x) = ((wOf o (Pm.sym x)).toNat : Int) := by omega
        rw [e]
        simp only [Int.toNat_natCast]
        exact split30 _ (by omega)), sum_scale, ← sum_cast] at k1
      have k2 : ((((sing l).map fun x => 2 ^ (m - (wOf o (Pm.sym x)).toNat)).sum : Nat) : Int) * 2 ^ (30 - m) ≤ 2 ^ m * 2 ^ (30 - m) := by rw [all30]; omega
      have k3 := Int.le_of_mul_le_mul_right k2 (by have := (pow30 (30 - m) (by omega)).1; omega)
      rw [← two_pow_int] at k3
      omega)
    have e1 : costS l q = Pm.psum (Pm.lists (sing l) (m - 1)) (2 * (sing l).length - 2) := by
      have wl : Weighed (wOf l) (sing l) := fun x hx => by
        rw [sing_single l x hx]
        simp only [List.map_cons, List.map_nil, List.sum_cons, List.sum_nil]
        rw [sing_w hx]; omega
      rw [psum_weighed _ (wl.lists _), ← hflat, sum_counts (sing l) (sing_nodup l) (wOf l) ss (fun s hs => by
        rw [hflat] at hs
        obtain ⟨x, hx, hxs⟩ := List.mem_flatMap.1 hs
        exact lists_syms_in _ (sing_single l) _ x (List.mem_of_mem_take hx) s hxs), c1]
      exact posSum_sing l _ _ (fun x hx => by rw [(hpw x hx).1, hcount])
    have e2 : costS l o = ((sing l).map fun x => x.1 * (((wOf o (Pm.sym x)).toNat : Nat) : Int)).sum := by
      rw [c2]
      exact posSum_sing l _ _ (fun x hx => by rw [sing_w hx]; have := hO x hx; congr 1; omega)
    rw [e1, e2]
    exact low
theorem lengths_good (l : List Int) (m : Nat) (hl : l.length ≤ 4096) (hw : withinL l 1099511627776 = true) (hm1 : 1 ≤ m) (hm2 : m ≤ 30) (hk : (sing l).length ≤ 2 ^ m) : Good l m (lengthsS l m) := by
  have hsl := sing_length l
  have few (q : List Int) (hq : q.length = l.length) (hs : ∀ i (hi : i < l.length), wOf q (i : Int) = if 0 < l[i] then 1 else 0) (h1 : (sing l).length < 2) : Good l m q := by
    have h0 : ∀ i (h : i < l.length), 0 ≤ l[i] := fun i hi => (withinL_mem hw i hi).1
    refine ⟨hq, fun i hi => by rw [hs i hi]; split <;> omega, fun i hi => by rw [hs i hi]; split <;> omega, fun h => by omega, fun h => ?_, fun o ho hob hok => ?_⟩
    · have k := kraft_pos l q hq (fun i hi => by rw [← wOf_at q i (by omega), hs i hi]; split <;> omega) l.length 0 rfl
      rw [List.drop_zero, List.drop_zero] at k
      obtain ⟨x, hx⟩ := List.length_eq_one_iff.1 h
      rw [k, posSum_sing l _ (fun _ => 536870912) (fun x hx => by
        obtain ⟨s, hs', e, hp⟩ := sing_index hx
        rw [e, hs s hs', if_pos hp]
        decide), hx]
      simp
    · have c1 := costS_pos l q hq h0 l.length 0 rfl
      have c2 := costS_pos l o ho h0 l.length 0 rfl
      rw [List.drop_zero, List.drop_zero] at c1 c2
      rw [c1, c2]
      apply posSum_mono
      intro s hs1 hs2
      rw [Nat.zero_add]
      rw [getD_at l s hs1] at hs2
      have := (hob s hs1).2.2 hs2
      refine Int.mul_le_mul_of_nonneg_left ?_ (wOf_bound hw _).1
      rw [hs s hs1, if_pos hs2]
      omega
  unfold lengthsS
  simp only
  by_cases h1 : (isT (leafs l 0)).length = 1
  · rw [if_pos h1]
    obtain ⟨t, ht⟩ := List.length_eq_one_iff.1 h1
    obtain ⟨s, hs, rfl, hp⟩ := leafs_mem l 0 t (mem_isT _ _ (by rw [ht]; simp))
    have hs1 : (sing l).map Pm.sym = [(s : Int)] := by
      unfold sing
      rw [ht]
      simp [psi, Pm.sym, Tr.syms]
    rw [ht]
    simp only [List.headD_cons, Tr.val, Nat.zero_add, Int.toNat_natCast]
    refine few _ (by simp) (fun i hi => ?_) (by omega)
    have hmem := sing_sym l i hi
    rw [hs1, List.mem_singleton] at hmem
    rw [wOf_at _ i (by simpa using hi), List.getElem_set]
    by_cases e : s = i
    · subst e
      rw [if_pos rfl, if_pos (hmem.1 rfl)]
    · rw [if_neg e, if_neg (fun x => e (by have := hmem.2 x; omega))]
      simp
  · rw [if_neg h1]
    by_cases h2 : (isT (leafs l 0)).length < 2
    · rw [if_pos h2]
      refine few _ (by simp) (fun i hi => ?_) (by omega)
      have hmem := sing_sym l i hi
      have hnil : sing l = [] := List.length_eq_zero_iff.1 (by omega)
      rw [hnil] at hmem
      rw [wOf_at _ i (by simpa using hi), if_neg (fun x => by simpa using hmem.2 x)]
      simp
    · rw [if_neg h2]
      exact good_many l m hl hw hm1 hm2 hk (by omega)
end Go.Proofs.Ytldhpniflnbilaa.Pure
