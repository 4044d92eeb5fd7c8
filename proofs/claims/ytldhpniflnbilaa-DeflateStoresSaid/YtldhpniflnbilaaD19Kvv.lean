/- The fixed codes. -/
import Derived.Test.YtldhpniflnbilaaProg
import Derived.Below
import Derived.Deep.Draws
import Derived.Deep.AppendLies
import Derived.Maps.AppendAt
import Derived.OwnWalk
import Derived.Laws.BytesArg
import Derived.Laws.MakeOwn
import Derived.Laws.OwnMore
import Derived.Deep.OwnRows
import Derived.Tactics
import Derived.Lib.ConvBytes
import Derived.Laws.Slices
import Derived.WalkKit
import Derived.KernelRfl
import Derived.RowKit3
import Derived.Deep.LoopGhost
import Derived.Deep.QuietTactic
import Derived.BigQuiet
import Derived.WideLaws
import Derived.Deep.DeepCutAuto
import Derived.Deep.CutBlock
import Derived.Deep.RegionHeld3
import Derived.Laws.Rows
import Derived.Lib.AppendStr
import Derived.ArgAppend
import Derived.Laws.IdiomCopy
import Derived.OrdersHeld
import Derived.Laws.BitsLemmas
import Derived.RowKit
import Derived.Outline
import Derived.Test.YtldhpniflnbilaaV34s
import Derived.Test.YtldhpniflnbilaaPDx16vv
set_option linter.unusedVariables false
set_option linter.unusedSimpArgs false
namespace Go.Proofs.Ytldhpniflnbilaa
open Go.RowKit Go.Proofs.YtldhpniflnbilaaW.PrintWords Go.Proofs.YtldhpniflnbilaaW.PrintLast Go.Proofs.YtldhpniflnbilaaW.PrintMore
open PD
def fixL : List Int := List.replicate 144 8 ++ List.replicate 112 9 ++ List.replicate 24 7 ++ List.replicate 8 8
def fixC : List Int := (List.range 144).map (fun i : Nat => 48 + (i : Int)) ++ (List.range 112).map (fun i : Nat => 400 + (i : Int)) ++ (List.range 24).map (fun i : Nat => (i : Int)) ++ (List.range 8).map (fun i : Nat => 192 + (i : Int))
def fixD : List Int := List.replicate 32 5
def fixE : List Int := (List.range 32).map (fun i : Nat => (i : Int))
set_option maxRecDepth 1000000 in
theorem fix_codes : prefix_Codes.f 20000 fixL = some (fixC, 0) := by decide +kernel
set_option maxRecDepth 1000000 in
theorem fix_codesD : prefix_Codes.f 20000 fixD = some (fixE, 0) := by decide +kernel
end Go.Proofs.Ytldhpniflnbilaa
