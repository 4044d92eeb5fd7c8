/- Compress of package deflate: stored, and with the fixed codes. -/
import Derived.Test.YtldhpniflnbilaaProg
import Derived.Below
import Derived.Deep.Draws
import Derived.Deep.AppendLies
import Derived.Maps.AppendAt
import Derived.OwnWalk
import Derived.Laws.BytesArg
import Derived.Laws.MakeOwn
import Derived.Laws.OwnMore
import Derived.Deep.OwnRows
import Derived.Tactics
import Derived.Lib.ConvBytes
import Derived.Laws.Slices
import Derived.WalkKit
import Derived.KernelRfl
import Derived.RowKit3
import Derived.Deep.LoopGhost
import Derived.Deep.QuietTactic
import Derived.BigQuiet
import Derived.WideLaws
import Derived.Deep.DeepCutAuto
import Derived.Deep.CutBlock
import Derived.Deep.RegionHeld3
import Derived.Laws.Rows
import Derived.Lib.AppendStr
import Derived.ArgAppend
import Derived.Laws.IdiomCopy
import Derived.OrdersHeld
import Derived.Laws.BitsLemmas
import Derived.RowKit
import Derived.Outline
import Derived.Test.YtldhpniflnbilaaV34s
import Derived.Test.YtldhpniflnbilaaD6vv
import Derived.Test.YtldhpniflnbilaaD19Kvv
import Derived.Test.YtldhpniflnbilaaD18vv
set_option linter.unusedVariables false
set_option linter.unusedSimpArgs false
namespace Go.Proofs.Ytldhpniflnbilaa
open Go.RowKit Go.Proofs.YtldhpniflnbilaaW.PrintWords Go.Proofs.YtldhpniflnbilaaW.PrintLast Go.Proofs.YtldhpniflnbilaaW.PrintMore

open PD
theorem rd_all (l : List Int) (P : Int → Prop) (h0 : P 0) (h : ∀ x ∈ l, P x) (i : Int) : P (rd l i) := by
  unfold rd
  rw [List.getD_eq_getElem?_getD]
  cases e : l[i.toNat]? with
  | none => exact h0
  | some x => exact h x (List.mem_of_getElem? e)
theorem bookOk_of (ls cs : List Int) (h : cs.length = ls.length) (h1 : ls.all (fun x => decide (0 ≤ x ∧ x ≤ 40)) = true) (h2 : cs.all (fun x => decide (0 ≤ x ∧ x < 1000000000000)) = true) : BookOk ls cs :=
  ⟨h, rd_all ls (fun x => 0 ≤ x ∧ x ≤ 40) (by omega) (fun x hx => by simpa using List.all_eq_true.1 h1 x hx), rd_all cs (fun x => 0 ≤ x ∧ x < 1000000000000) (by omega) (fun x hx => by simpa using List.all_eq_true.1 h2 x hx)⟩
theorem fix_ok : BookOk fixL fixC := bookOk_of _ _ (by decide +kernel) (by decide +kernel) (by decide +kernel)
theorem fix_okD : BookOk fixD fixE := bookOk_of _ _ (by decide +kernel) (by decide +kernel) (by decide +kernel)
/-- The bits of a block with the fixed codes. -/
def fixBits (p : List Int) : List Bool := [true] ++ numB 1 2 ++ toksB fixL fixC fixD fixE (tokL p) ++ codeB fixL fixC 256
def isBytes (p : List Int) : Bool := p.all fun x => decide (0 ≤ x) && decide (x < 256)
theorem isBytes_rd {p : List Int} (h : isBytes p = true) : Bytes p := rd_all p (fun x => 0 ≤ x ∧ x < 256) (by omega) (fun x hx => by have := List.all_eq_true.1 h x hx; simpa using this)
theorem headsN_key (p : List Int) : ∀ (i : Nat) (k : K3) (j : Int), j ∈ headsN p i k → keyAt p j.toNat = k
  | 0, _, _, h => by cases h
  | i + 1, k, j, h => by
    unfold headsN at h
    by_cases hl : i + 3 ≤ p.length
    · rw [if_pos hl] at h
      unfold addH at h
      by_cases hk : k = keyAt p i
      · rw [if_pos hk] at h
        have h2 := List.mem_of_mem_drop h
        rcases List.mem_append.1 h2 with h2 | h2
        · rw [headsN_key p i _ j h2, hk]
        · simp at h2; subst h2; rw [Int.toNat_natCast]; exact hk.symm
      · rw [if_neg hk] at h
        exact headsN_key p i k j h
    · rw [if_neg hl] at h
      exact headsN_key p i k j h
theorem same3 (p : List Int) (a b : Nat) (h : keyAt p a = keyAt p b) (hb : b + 3 ≤ p.length) : 3 ≤ sameN p a b := by
  unfold keyAt at h
  simp only [Prod.mk.injEq] at h
  obtain ⟨h0, h1, h2⟩ := h
  have e0 : rd p ((a + 0 : Nat) : Int) = rd p ((b + 0 : Nat) : Int) := h0
  have e1 : rd p ((a + (0 + 1) : Nat) : Int) = rd p ((b + (0 + 1) : Nat) : Int) := by simpa using h1
  have e2 : rd p ((a + (0 + 1 + 1) : Nat) : Int) = rd p ((b + (0 + 1 + 1) : Nat) : Int) := by simpa using h2
  unfold sameN
  rw [show 259 = 256 + 1 + 1 + 1 from rfl, sameGo, if_pos ⟨by omega, by omega, e0⟩, sameGo, if_pos ⟨by omega, by omega, e1⟩, sameGo, if_pos ⟨by omega, by omega, e2⟩]
  exact (sameGo_le p a b 256 3 (by omega)).1
theorem bestGo_three (p : List Int) (i : Nat) (hi : i + 3 ≤ p.length) : ∀ (l : List Int) (s : Int × Int), (∀ j ∈ l, keyAt p j.toNat = keyAt p i) → (s.1 = 0 ∨ 3 ≤ s.1) → ((bestGo p i l s).1 = 0 ∨ 3 ≤ (bestGo p i l s).1)
  | [], s, _, h => h
  | j :: r, s, hl, h => by
    unfold bestGo
    split
    · exact h
    · refine bestGo_three p i hi r _ (fun x hx => hl x (by simp [hx])) ?_
      split
      · right
        have := same3 p j.toNat i (hl j (by simp)) hi
        simp only
        omega
      · exact h
theorem bestAt_three (p : List Int) (i : Nat) : (bestAt p i).1 = 0 ∨ 3 ≤ (bestAt p i).1 := by
  unfold bestAt
  split
  · exact bestGo_three p i (by assumption) _ _ (fun j hj => headsN_key p i _ j (List.mem_reverse.1 hj)) (.inl rfl)
  · exact .inl rfl
theorem tokGo_ok (p : List Int) (hp : Bytes p) (hl : p.length ≤ 65535) : ∀ (f i : Nat), ∀ t ∈ tokGo p f i, TokOk t
  | 0, _, t, h => by cases h
  | f + 1, i, t, h => by
    rw [tokGo_succ] at h
    split at h
    · have hb := bestAt_ok p i (by omega)
      split at h
      · rcases List.mem_cons.1 h with rfl | h
        · have := hp i; exact ⟨by omega, by omega, fun h => by omega⟩
        · exact tokGo_ok p hp hl f _ t h
      · rename_i h0
        rcases List.mem_cons.1 h with rfl | h
        · refine ⟨by omega, by omega, fun h => ?_⟩
          have h3 := bestAt_three p i
          omega
        · exact tokGo_ok p hp hl f _ t h
    · cases h
theorem toksL_ok (p : List Int) (hp : Bytes p) (hl : p.length ≤ 65535) : ∀ t ∈ tokL p, TokOk t := tokGo_ok p hp hl _ _
theorem tokGo_length (p : List Int) : ∀ f i, (tokGo p f i).length ≤ f
  | 0, _ => by simp [tokGo]
  | f + 1, i => by
    rw [tokGo_succ]
    split
    · split
      · have := tokGo_length p f (i + 1); simp; omega
      · have := tokGo_length p f (i + (bestAt p i).1.toNat); simp; omega
    · simp
def deflate_Compress.f (l0 : List Int) (a1 : Int) : Option (List Int × Int) :=
  if a1 < 0 ∨ 2 < a1 then some ([], 3) else if 4194304 < l0.length then some ([], 4) else
  if l0.length ≤ 65535 ∧ isBytes l0 = true then (if a1 = 0 then some (storedL l0, 0) else if a1 = 1 then some (packB (fixBits l0), 0) else none) else none
set_option maxHeartbeats 1000000 in
set_option maxRecDepth 100000 in
theorem comp_range (w : World) (A : Option Addr) (n c : Nat) (a : Int) (h : a < 0 ∨ 2 < a) :
    Calls Try.prog 33 #[.slice A n c, .int .i64 a] w fun e w' => e = .returned (.tuple #[.slice none 0 0, .int .i64 3]) ∧ w = w' := by
  go_enter Try.func33, Try.ntmps33
  rcases h with h | h
  · go_wp2
    refine bodyPost_ret (results_tmp2 rfl _ _ _) rfl ?_
    exact ⟨rfl, rfl⟩
  · have h3 : ¬ a < 0 := by omega
    go_wp2
    refine bodyPost_ret (results_tmp2 rfl _ _ _) rfl ?_
    exact ⟨rfl, rfl⟩
set_option maxHeartbeats 1000000 in
set_option maxRecDepth 100000 in
theorem comp_long (w : World) (A : Option Addr) (n c : Nat) (a : Int) (h0 : 0 ≤ a) (h2 : a ≤ 2) (hn : 4194304 < n) :
    Calls Try.prog 33 #[.slice A n c, .int .i64 a] w fun e w' => e = .returned (.tuple #[.slice none 0 0, .int .i64 4]) ∧ w = w' := by
  have hn2 : (4194304 : Int) < (n : Int) := by omega
  go_enter Try.func33, Try.ntmps33
  go_wp2
  refine bodyPost_ret (results_tmp2 rfl _ _ _) rfl ?_
  exact ⟨rfl, rfl⟩
set_option maxHeartbeats 1000000 in
set_option maxRecDepth 100000 in
theorem comp_stored (w : World) (A : Option Addr) (n c : Nat) (p : List Int) (hC : (Kd.int .u8).C w A n p) (hn : p.length = n) (hnc : n ≤ c) (hl : n ≤ 65535) :
    Calls Try.prog 33 #[.slice A n c, .int .i64 0] w fun e w' => ∃ v, e = .returned (.tuple #[v, .int .i64 0]) ∧ (Kd.int .u8).R 5 w' w.heap.size (fun _ => True) v (storedL p) ∧ Below w.heap.size w w' := by
  have HS := Aside0.mk (stored_calls w A n c p hC hn hnc hl)
  have hn2 : (n : Int) ≤ 65535 := by omega
  clear hC hn
  go_enter Try.func33, Try.ntmps33
  go_wp2_with (go_at_call 60; refine HS.out.mono ?_; rintro e' w1 ⟨v, rfl, hr, hb⟩; have HR := Aside0.mk hr; have HB := Aside0.mk hb; clear hr hb)
  refine bodyPost_ret (results_tmp2 rfl _ _ _) rfl ?_
  exact ⟨_, rfl, HR.out, HB.out⟩
theorem rep1 (w : World) : Calls Try.prog 66 #[.slice (some ⟨w.heap.size, 0, none⟩) 1 1, .int .i64 144] (w.alloc (.cells #[.int .i64 8] 3)) fun e w' => ∃ B d, e = .returned (.slice B 144 d) ∧ Nrow w' w.heap.size (.slice B 144 d) (repL 144 8) ∧ Below w.heap.size w w' := repeat_lit w 8 144 (by omega) (by omega)
theorem rep2 (w : World) : Calls Try.prog 66 #[.slice (some ⟨w.heap.size, 0, none⟩) 1 1, .int .i64 112] (w.alloc (.cells #[.int .i64 9] 3)) fun e w' => ∃ B d, e = .returned (.slice B 112 d) ∧ Nrow w' w.heap.size (.slice B 112 d) (repL 112 9) ∧ Below w.heap.size w w' := repeat_lit w 9 112 (by omega) (by omega)
theorem rep3 (w : World) : Calls Try.prog 66 #[.slice (some ⟨w.heap.size, 0, none⟩) 1 1, .int .i64 24] (w.alloc (.cells #[.int .i64 7] 3)) fun e w' => ∃ B d, e = .returned (.slice B 24 d) ∧ Nrow w' w.heap.size (.slice B 24 d) (repL 24 7) ∧ Below w.heap.size w w' := repeat_lit w 7 24 (by omega) (by omega)
theorem rep4 (w : World) : Calls Try.prog 66 #[.slice (some ⟨w.heap.size, 0, none⟩) 1 1, .int .i64 8] (w.alloc (.cells #[.int .i64 8] 3)) fun e w' => ∃ B d, e = .returned (.slice B 8 d) ∧ Nrow w' w.heap.size (.slice B 8 d) (repL 8 8) ∧ Below w.heap.size w w' := repeat_lit w 8 8 (by omega) (by omega)
theorem rep5 (w : World) : Calls Try.prog 66 #[.slice (some ⟨w.heap.size, 0, none⟩) 1 1, .int .i64 32] (w.alloc (.cells #[.int .i64 5] 3)) fun e w' => ∃ B d, e = .returned (.slice B 32 d) ∧ Nrow w' w.heap.size (.slice B 32 d) (repL 32 5) ∧ Below w.heap.size w w' := repeat_lit w 5 32 (by omega) (by omega)
theorem Nrow.c {w : World} {b n d : Nat} {B : Option Addr} {l : List Int} (h : Nrow w b (.slice B n d) l) : (Kd.int .i64).C w B n l ∧ l.length = n ∧ n ≤ d := by
  obtain ⟨e, h1, h2⟩ := Kd.R_reads' h
  subst e
  exact ⟨h2, rfl, h1⟩
theorem below_two {a b c : World} (h : Below a.heap.size a b) (k : Below b.heap.size b c) : Below a.heap.size a c := below_then h h.size k
theorem fix_codesD2 : prefix_Codes.f 20000 (repL 32 5) = some (fixE, 0) := fix_codesD
theorem concat4 (b1 b2 b3 b4 n1 n2 n3 n4 : Nat) (l1 l2 l3 l4 : List Int) (e1 : l1.length = n1) (e2 : l2.length = n2) (e3 : l3.length = n3) (e4 : l4.length = n4) (x4 : World) (B1 B2 B3 B4 : Option Addr) (d1 d2 d3 d4 : Nat) (h1 : Nrow x4 b1 (.slice B1 n1 d1) l1) (h2 : Nrow x4 b2 (.slice B2 n2 d2) l2) (h3 : Nrow x4 b3 (.slice B3 n3 d3) l3) (h4 : Nrow x4 b4 (.slice B4 n4 d4) l4) (hp : 0 < n1) (hs : n1 + n2 + n3 + n4 ≤ 1000000) :
    Calls Try.prog 65 #[.slice (some ⟨x4.heap.size, 0, none⟩) 4 4] (x4.alloc (.cells #[.slice B1 n1 d1, .slice B2 n2 d2, .slice B3 n3 d3, .slice B4 n4 d4] 22)) fun e w' => ∃ B d, e = .returned (.slice B (n1 + n2 + n3 + n4) d) ∧ Nrow w' x4.heap.size (.slice B (n1 + n2 + n3 + n4) d) (l1 ++ l2 ++ l3 ++ l4) ∧ Below x4.heap.size x4 w' := by
  subst e1
  subst e2
  subst e3
  subst e4
  have hb : Below x4.heap.size x4 (x4.alloc (.cells #[.slice B1 l1.length d1, .slice B2 l2.length d2, .slice B3 l3.length d3, .slice B4 l4.length d4] 22)) := below_alloc (Below.refl _ _) _
  have c1 := (Kd.R_reads' (h1.below hb)).2.2
  have c2 := (Kd.R_reads' (h2.below hb)).2.2
  have c3 := (Kd.R_reads' (h3.below hb)).2.2
  have c4 := (Kd.R_reads' (h4.below hb)).2.2
  have hsum : sumLen [l1, l2, l3, l4] = l1.length + l2.length + l3.length + l4.length := by simp [sumLen]; omega
  have hfl : [l1, l2, l3, l4].flatten = l1 ++ l2 ++ l3 ++ l4 := by simp
  refine (concat_calls _ x4.heap.size #[.slice B1 l1.length d1, .slice B2 l2.length d2, .slice B3 l3.length d3, .slice B4 l4.length d4] [l1, l2, l3, l4] (blk_new x4 _) ?_ (by rw [hsum]; omega) (by rw [hsum]; omega) (by simp)).mono ?_
  · intro i ys hi
    match i, hi with
    | 0, hi => injection hi with hi; subst hi; exact ⟨B1, d1, rfl, c1⟩
    | 1, hi => injection hi with hi; subst hi; exact ⟨B2, d2, rfl, c2⟩
    | 2, hi => injection hi with hi; subst hi; exact ⟨B3, d3, rfl, c3⟩
    | 3, hi => injection hi with hi; subst hi; exact ⟨B4, d4, rfl, c4⟩
    | i + 4, hi => cases hi
  · rintro e w' ⟨v, rfl, hr, hbb⟩
    rw [hfl] at hr
    obtain ⟨B, d, rfl⟩ := Kd.R_slice hr
    rw [show (l1 ++ l2 ++ l3 ++ l4).length = l1.length + l2.length + l3.length + l4.length by simp; omega] at hr ⊢
    exact ⟨B, d, rfl, Kd.R_lower hr (by simp), below_then hb (by simp) hbb⟩
theorem fix_concat (b1 b2 b3 b4 : Nat) (x4 : World) (B1 B2 B3 B4 : Option Addr) (d1 d2 d3 d4 : Nat) (h1 : Nrow x4 b1 (.slice B1 144 d1) (repL 144 8)) (h2 : Nrow x4 b2 (.slice B2 112 d2) (repL 112 9)) (h3 : Nrow x4 b3 (.slice B3 24 d3) (repL 24 7)) (h4 : Nrow x4 b4 (.slice B4 8 d4) (repL 8 8)) :
    Calls Try.prog 65 #[.slice (some ⟨x4.heap.size, 0, none⟩) 4 4] (x4.alloc (.cells #[.slice B1 144 d1, .slice B2 112 d2, .slice B3 24 d3, .slice B4 8 d4] 22)) fun e w' => ∃ B d, e = .returned (.slice B 288 d) ∧ Nrow w' x4.heap.size (.slice B 288 d) fixL ∧ Below x4.heap.size x4 w' :=
  concat4 b1 b2 b3 b4 144 112 24 8 _ _ _ _ (repL_length _ _) (repL_length _ _) (repL_length _ _) (repL_length _ _) x4 B1 B2 B3 B4 d1 d2 d3 d4 h1 h2 h3 h4 (by omega) (by omega)
set_option maxHeartbeats 1000000 in
set_option maxRecDepth 100000 in
theorem comp_fixed (w : World) (A : Option Addr) (n c : Nat) (p : List Int) (hC : (Kd.int .u8).C w A n p) (hn : p.length = n) (hnc : n ≤ c) (hl : n ≤ 65535) (hp : Bytes p) :
    Calls Try.prog 33 #[.slice A n c, .int .i64 1] w fun e w' => ∃ v, e = .returned (.tuple #[v, .int .i64 0]) ∧ (Kd.int .u8).R 5 w' w.heap.size (fun _ => True) v (packB (fixBits p)) ∧ Below w.heap.size w w' := by
  obtain ⟨W, hW⟩ : ∃ W, w.alloc (.cells #[.slice none 0 0, .int .i64 0] 81) = W := ⟨_, rfl⟩
  obtain ⟨gw, hgw⟩ : ∃ g, w.heap.size = g := ⟨_, rfl⟩
  have hbw : Below w.heap.size w W := by rw [← hW]; exact below_alloc (Below.refl _ _) _
  have hwb : WB 81 W w.heap.size gw [] := ⟨.slice none 0 0, by rw [← hW, ← hgw]; exact blk_new w _, Kd.R_nil _ _ _ _ _, by omega⟩
  have HBW := Aside0.mk hbw
  have HBIT := Aside0.mk (wbit_calls w W gw [] true hwb hbw (by simp))
  have HC := Aside0.mk hC
  have HP := Aside0.mk hp
  have HN := Aside0.mk hn
  have HNC := Aside0.mk hnc
  have hn2 : (n : Int) ≤ 65535 := by omega
  have HTOK := Aside0.mk (toksL_ok p hp (by omega))
  have HTL := Aside0.mk (show (tokL p).length ≤ 1000000 by have := tokGo_length p p.length 0; unfold tokL; omega)
  clear hC hn hnc hbw hwb hp
  go_enter Try.func33, Try.ntmps33
  go_upto_region 13 with (first | (go_at_call 61; refine HBIT.out.mono ?_; rintro e' w1 ⟨rfl, hs, ho, hb⟩; have H1 := Aside0.mk (show WPost w W w1 gw ([] ++ [true]) from ⟨hs, ho, hb⟩); clear hs ho hb) | (go_at_call 62; refine (wnum (v := 1) (n := 2) H1.out.wb H1.out.bel (by omega) (by omega) (by omega) (by simp)).mono ?_; rintro e' w2 ⟨rfl, hp2⟩; have H2 := Aside0.mk (H1.out.step hp2); clear hp2))
  clear HBIT H1 hW
  go_upto_region 14 with (first | (go_at_call 66; with_reducible refine (rep1 _).mono ?_; rintro e' x1 ⟨B1, d1, rfl, hr, hb⟩; have HR1 := Aside0.mk hr; have HX1 := Aside0.mk hb; clear hr hb) | (go_at_call 66; with_reducible refine (rep2 _).mono ?_; rintro e' x2 ⟨B2, d2, rfl, hr, hb⟩; have HR2 := Aside0.mk hr; have HX2 := Aside0.mk hb; clear hr hb) | (go_at_call 66; with_reducible refine (rep3 _).mono ?_; rintro e' x3 ⟨B3, d3, rfl, hr, hb⟩; have HR3 := Aside0.mk hr; have HX3 := Aside0.mk hb; clear hr hb) | (go_at_call 66; with_reducible refine (rep4 _).mono ?_; rintro e' x4 ⟨B4, d4, rfl, hr, hb⟩; have HR4 := Aside0.mk hr; have HX4 := Aside0.mk hb; clear hr hb) | (go_at_call 65; refine (fix_concat _ _ _ _ _ _ _ _ _ _ _ _ _ (((HR1.out.below HX2.out).below HX3.out).below HX4.out) ((HR2.out.below HX3.out).below HX4.out) (HR3.out.below HX4.out) HR4.out).mono ?_; rintro e' x6 ⟨B6, d6, rfl, hr, hb⟩; have HR6 := Aside0.mk hr; have HX6 := Aside0.mk hb; clear hr hb))
  have HB26 := Aside0.mk (below_two (below_two (below_two (below_two HX1.out HX2.out) HX3.out) HX4.out) HX6.out)
  have HC6 := Aside0.mk (Kd.C_below HC.out (below_two (below_then (Below.refl _ _) (Nat.le_refl _) (show Below w.heap.size w w2 from H2.out.bel)) HB26.out))
  have HS4 := Aside0.mk (below_two (below_two (below_two HX1.out HX2.out) HX3.out) HX4.out).size
  clear HR1 HR2 HR3 HR4 HX1 HX2 HX3 HX4 HX6 HC
  go_upto_region 15 with (first | (go_at_call 64; refine (tokens_calls _ A n c p HC6.out HP.out HN.out HNC.out (by omega)).mono ?_; rintro e' x7 ⟨v7, rfl, hr, hb⟩; obtain ⟨B7, d7, rfl⟩ := Kd.R_slice hr; have HR7 := Aside0.mk hr; have HX7 := Aside0.mk hb; clear hr hb) | (go_at_call 68; with_reducible refine (bookOf_calls _ B6 288 d6 20000 fixL fixC (HR6.out.below HX7.out).c.1 HR6.out.c.2.1 HR6.out.c.2.2 fix_codes).mono ?_; rintro e' x8 ⟨v8, rfl, hr, hb⟩; have HR8 := Aside0.mk hr; have HX8 := Aside0.mk hb; clear hr hb) | (go_at_call 66; with_reducible refine (rep5 _).mono ?_; rintro e' x5 ⟨B5, d5, rfl, hr, hb⟩; have HR5 := Aside0.mk hr; have HX5 := Aside0.mk hb; clear hr hb) | (go_at_call 68; with_reducible refine (bookOf_calls _ B5 32 d5 20000 (repL 32 5) fixE HR5.out.c.1 HR5.out.c.2.1 HR5.out.c.2.2 fix_codesD2).mono ?_; rintro e' x10 ⟨v10, rfl, hr, hb⟩; have HR10 := Aside0.mk hr; have HX10 := Aside0.mk hb; clear hr hb) | (go_at_call 67; have HB210 := Aside0.mk (below_two (below_two (below_two (below_two HB26.out HX7.out) HX8.out) HX5.out) HX10.out); have hw2 := H2.out.bel; have s1 := HB26.out.size; have s2 := HX7.out.size; have s3 := HX8.out.size; have s4 := HX5.out.size; have s5 := hw2.size; have s6 := HS4.out; refine (wtokens_calls w x10 gw _ _ _ _ _ _ (tokL p) fixL fixC fixD fixE (H2.out.wb.below HB210.out) (below_then hw2 hw2.size HB210.out) (Kd.R_lower (((HR7.out.below HX8.out).below HX5.out).below HX10.out) (by omega)) (Kd.R_lower ((((HR6.out.below HX7.out).below HX8.out).below HX5.out).below HX10.out) (by omega)) (Kd.R_lower ((HR8.out.below HX5.out).below HX10.out) (by omega)) (Kd.R_lower (HR5.out.below HX10.out) (by omega)) (Kd.R_lower HR10.out (by omega)) fix_ok fix_okD (by decide) (by decide) HTOK.out HTL.out (by decide)).mono ?_; rintro e' x11 ⟨rfl, hp11⟩; have H11 := Aside0.mk hp11; clear hp11))
  have hcell := H11.out.wb
  obtain ⟨vo, hvo⟩ := hcell
  obtain ⟨Ao, co, rfl⟩ := Kd.R_slice hvo.row
  have hq := hvo.cell0
  have HVO := Aside0.mk hvo.row
  have HF := Aside0.mk (show ([] ++ [true] ++ numB 1 2) ++ toksB fixL fixC fixD fixE (tokL p) ++ codeB fixL fixC 256 = fixBits p by simp [fixBits])
  clear hvo
  go_wp2
  refine bodyPost_ret (results_tmp2 rfl _ _ _) rfl ?_
  exact ⟨_, rfl, by rw [← HF.out]; exact HVO.out, H11.out.bel⟩
end Go.Proofs.Ytldhpniflnbilaa
