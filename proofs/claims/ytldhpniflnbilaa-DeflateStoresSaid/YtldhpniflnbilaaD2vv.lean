/- Steps of a writer's state. -/
import Derived.Test.YtldhpniflnbilaaProg
import Derived.Below
import Derived.Deep.Draws
import Derived.Deep.AppendLies
import Derived.Maps.AppendAt
import Derived.OwnWalk
import Derived.Laws.BytesArg
import Derived.Laws.MakeOwn
import Derived.Laws.OwnMore
import Derived.Deep.OwnRows
import Derived.Tactics
import Derived.Lib.ConvBytes
import Derived.Laws.Slices
import Derived.WalkKit
import Derived.KernelRfl
import Derived.RowKit3
import Derived.Deep.LoopGhost
import Derived.Deep.QuietTactic
import Derived.BigQuiet
import Derived.WideLaws
import Derived.Deep.DeepCutAuto
import Derived.Deep.CutBlock
import Derived.Deep.RegionHeld3
import Derived.Laws.Rows
import Derived.Lib.AppendStr
import Derived.ArgAppend
import Derived.Laws.IdiomCopy
import Derived.OrdersHeld
import Derived.Laws.BitsLemmas
import Derived.RowKit
import Derived.Outline
import Derived.Test.YtldhpniflnbilaaV34s
import Derived.Test.YtldhpniflnbilaaD1vv
set_option linter.unusedVariables false
set_option linter.unusedSimpArgs false
namespace Go.Proofs.Ytldhpniflnbilaa
open Go.RowKit Go.Proofs.YtldhpniflnbilaaW.PrintWords Go.Proofs.YtldhpniflnbilaaW.PrintLast Go.Proofs.YtldhpniflnbilaaW.PrintMore

theorem infoU8 : (Try.prog.info? 5).map (fun i => (i.zero, i.size, i.bytes)) = some (some (.int .u8 0), 1, 1) := by kernel_rfl
theorem WSt.push {TT : Nat} {w w1 : World} {base g : Nat} {v v1 : Value} {out out1 : List Int} {n : Int} (h : WSt TT w base g v out n) (hT : 5 ≠ TT) (hR : Bro w1 base v1 out1) (hg : w.grownBy w1 v.ownBlock) :
    WSt TT (w1.setCell ⟨g, 0, none⟩ v1) base g v1 out1 n ∧ Oth TT w (w1.setCell ⟨g, 0, none⟩ v1) := by
  have hne : some g ≠ v.ownBlock := Kd.R_ne h.row h.blk hT
  have hb1 := blk_grown h.blk hg hne
  refine ⟨⟨blk_set hb1 0 v1, Kd.R_set hR hb1 (by intro q hq; simp only [Kd.int, Kd.scalar, List.mem_cons, List.not_mem_nil, or_false] at hq; subst hq; exact hT) 0 v1, h.le⟩, (Oth.grown (Kd.own_of_R h.row) hg).trans (Oth.set hb1 0 v1)⟩
theorem WSt.put {TT : Nat} {w : World} {base g k m c : Nat} {out : List Int} {n : Int} (h : WSt TT w base g (.slice (some ⟨k, 0, none⟩) m c) out n) (hT : 5 ≠ TT) (i : Nat) (x : Int) :
    WSt TT (w.setCell ⟨k, i, none⟩ (.int .u8 x)) base g (.slice (some ⟨k, 0, none⟩) m c) (out.set i x) n ∧ Oth TT w (w.setCell ⟨k, i, none⟩ (.int .u8 x)) := by
  obtain ⟨A, c', he⟩ := Kd.R_slice h.row
  injection he with _ h2 _
  subst h2
  have hp := Kd.R_putg h.row (i : Int) x
  rw [Int.toNat_natCast] at hp
  exact ⟨⟨blk_grown h.blk hp.2 (Kd.R_ne h.row h.blk hT), hp.1, h.le⟩, Oth.grown (Kd.own_of_R h.row) hp.2⟩
theorem WSt.count {TT : Nat} {w : World} {base g : Nat} {v : Value} {out : List Int} {n : Int} (h : WSt TT w base g v out n) (hT : 5 ≠ TT) (m : Int) :
    WSt TT (w.setCell ⟨g, 1, none⟩ (.int .i64 m)) base g v out m ∧ Oth TT w (w.setCell ⟨g, 1, none⟩ (.int .i64 m)) :=
  ⟨⟨blk_set h.blk 1 _, Kd.R_set h.row h.blk (by intro q hq; simp only [Kd.int, Kd.scalar, List.mem_cons, List.not_mem_nil, or_false] at hq; subst hq; exact hT) 1 _, h.le⟩, Oth.set h.blk 1 _⟩
theorem WSt.drew {TT : Nat} {w : World} {base g : Nat} {v : Value} {out : List Int} {n : Int} (h : WSt TT w base g v out n) : WSt TT w.drew base g v out n := ⟨h.blk, Kd.R_drew h.row, h.le⟩
theorem Oth.drew {TT : Nat} {w w1 : World} (h : Oth TT w w1) : Oth TT w w1.drew := fun b c t h1 h2 hb => h b c t h1 h2 hb
theorem R_oth {α : Type} {d : Kd α} {e base TT : Nat} {w w1 : World} {ok : Nat → Prop} {v : Value} {xs : List α} (h : d.R e w base ok v xs) (ho : Oth TT w w1) (hU : ∀ q, q ∈ e :: d.E → q ≠ 5 ∧ q ≠ TT) : d.R e w1 base ok v xs :=
  Kd.R_mono (Kd.R_step (Kd.R_bound h) (fun k hk _ => by
    obtain ⟨_, _, _, q, hq, c, hc⟩ := hk
    rw [hc]
    exact ho k c q (hU q hq).1 (hU q hq).2 hc)) (fun k hk => hk.1)
end Go.Proofs.Ytldhpniflnbilaa
