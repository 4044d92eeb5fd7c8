/-
  No cell of these rows narrows 'for every input' (looked for: loops, veiled, ifaces, maps, wideKeys, modest, calm, conditions, laid).
  DERIVED. THE GIVEN ROWS OF THIS SEAT. 13 by the template 'for every input the law returns true; each argument reads behind the call as it read before'; 0 by the template 'total and deterministic' (their statements: YtldhpniflnbilaaTotals.lean).
  GIVEN WITH THE SEED: the statements are not yours to turn. If you find one false, say at which input.
  Laid BY PROGRAM, IN A SANDBOX (cutbox-rows.mjs): the forced cells as the released guide's own fill.sh prints them over the translation 49428d0724a2328a… (all of the seat's roots in one cut). By AI agents, Wed Nov 11 2026. No macro, syntax, notation, axiom, sorry.
-/
import Derived.Test.YtldhpniflnbilaaChecked
import GoSem.Claim
import GoSem.ClaimJoined
import GoSem.ClaimMapViews
import Derived.JoinedTies
import Derived.KernelRfl
namespace Go.Proofs.Ytldhpniflnbilaa
/- THE CELL 'sum', in the pinned program and in every row, IS THE sha256 OF THE DUMP (.gsa) THAT YtldhpniflnbilaaProg.lean LOADS. Nothing in Lean hashes anything: it is a label: what it is worth is what the hold of that sum in a sandbox is worth. -/
noncomputable def Try.pinned : Pinned := { name := "ytldhpniflnbilaa", sum := "49428d0724a2328ad60fc5e6a17fb6b5728dc3673684dfea0c7b7a13062ad53b", checked := Try.checked }
namespace Rows
def none {H : Type} : Left H := { results := [], args := [] }

/-- 'barscanlaw33.PrefixLengths': WHATEVER THE INPUT: true; the input reads as it did. -/
def prefixLengthsSpec : ChangeSpec := { name := "prefixLengths", fn := fun _ => fun
  | [d1, d2] => { results := [.lit (.bool true)], args := [d1, d2] }
  | _ => none }
def prefixLengthsRow : OpenClaim := { program := "ytldhpniflnbilaa", sum := "49428d0724a2328ad60fc5e6a17fb6b5728dc3673684dfea0c7b7a13062ad53b", func := "barscan/barscanlaw33.PrefixLengths", spec := "prefixLengths", unfollowed := true, recurses := true, plainKeys := false, apart := false }
def PrefixLengthsSaid : Prop := prefixLengthsRow.holds Try.pinned (OpenSpec.ofChange prefixLengthsSpec)

/-- ITS FALSE NEIGHBOUR: 'it returns false'. Refute it at one input. -/
def prefixLengthsWrong : ChangeSpec := { name := "prefixLengths", fn := fun _ => fun
  | [d1, d2] => { results := [.lit (.bool false)], args := [d1, d2] }
  | _ => none }
def PrefixLengthsWrongFalsely : Prop := prefixLengthsRow.holds Try.pinned (OpenSpec.ofChange prefixLengthsWrong)

/-- 'barscanlaw33.PrefixCodes': WHATEVER THE INPUT: true; the input reads as it did. -/
def prefixCodesSpec : ChangeSpec := { name := "prefixCodes", fn := fun _ => fun
  | [d1, d2] => { results := [.lit (.bool true)], args := [d1, d2] }
  | _ => none }
def prefixCodesRow : OpenClaim := { program := "ytldhpniflnbilaa", sum := "49428d0724a2328ad60fc5e6a17fb6b5728dc3673684dfea0c7b7a13062ad53b", func := "barscan/barscanlaw33.PrefixCodes", spec := "prefixCodes", unfollowed := true, recurses := true, plainKeys := false, apart := false }
def PrefixCodesSaid : Prop := prefixCodesRow.holds Try.pinned (OpenSpec.ofChange prefixCodesSpec)

/-- ITS FALSE NEIGHBOUR: 'it returns false'. Refute it at one input. -/
def prefixCodesWrong : ChangeSpec := { name := "prefixCodes", fn := fun _ => fun
  | [d1, d2] => { results := [.lit (.bool false)], args := [d1, d2] }
  | _ => none }
def PrefixCodesWrongFalsely : Prop := prefixCodesRow.holds Try.pinned (OpenSpec.ofChange prefixCodesWrong)

/-- 'barscanlaw33.PrefixReads': WHATEVER THE INPUT: true; the input reads as it did. -/
def prefixReadsSpec : ChangeSpec := { name := "prefixReads", fn := fun _ => fun
  | [d1, d2, d3] => { results := [.lit (.bool true)], args := [d1, d2, d3] }
  | _ => none }
def prefixReadsRow : OpenClaim := { program := "ytldhpniflnbilaa", sum := "49428d0724a2328ad60fc5e6a17fb6b5728dc3673684dfea0c7b7a13062ad53b", func := "barscan/barscanlaw33.PrefixReads", spec := "prefixReads", unfollowed := true, recurses := true, plainKeys := false, apart := false }
def PrefixReadsSaid : Prop := prefixReadsRow.holds Try.pinned (OpenSpec.ofChange prefixReadsSpec)

/-- ITS FALSE NEIGHBOUR: 'it returns false'. Refute it at one input. -/
def prefixReadsWrong : ChangeSpec := { name := "prefixReads", fn := fun _ => fun
  | [d1, d2, d3] => { results := [.lit (.bool false)], args := [d1, d2, d3] }
  | _ => none }
def PrefixReadsWrongFalsely : Prop := prefixReadsRow.holds Try.pinned (OpenSpec.ofChange prefixReadsWrong)

/-- 'barscanlaw33.PrefixOptimal': WHATEVER THE INPUT: true; the input reads as it did. -/
def prefixOptimalSpec : ChangeSpec := { name := "prefixOptimal", fn := fun _ => fun
  | [d1, d2, d3] => { results := [.lit (.bool true)], args := [d1, d2, d3] }
  | _ => none }
def prefixOptimalRow : OpenClaim := { program := "ytldhpniflnbilaa", sum := "49428d0724a2328ad60fc5e6a17fb6b5728dc3673684dfea0c7b7a13062ad53b", func := "barscan/barscanlaw33.PrefixOptimal", spec := "prefixOptimal", unfollowed := true, recurses := true, plainKeys := false, apart := false }
def PrefixOptimalSaid : Prop := prefixOptimalRow.holds Try.pinned (OpenSpec.ofChange prefixOptimalSpec)

/-- ITS FALSE NEIGHBOUR: 'it returns false'. Refute it at one input. -/
def prefixOptimalWrong : ChangeSpec := { name := "prefixOptimal", fn := fun _ => fun
  | [d1, d2, d3] => { results := [.lit (.bool false)], args := [d1, d2, d3] }
  | _ => none }
def PrefixOptimalWrongFalsely : Prop := prefixOptimalRow.holds Try.pinned (OpenSpec.ofChange prefixOptimalWrong)

/-- 'barscanlaw33.PrefixReturns': WHATEVER THE INPUT: true; the input reads as it did. -/
def prefixReturnsSpec : ChangeSpec := { name := "prefixReturns", fn := fun _ => fun
  | [d1, d2] => { results := [.lit (.bool true)], args := [d1, d2] }
  | _ => none }
def prefixReturnsRow : OpenClaim := { program := "ytldhpniflnbilaa", sum := "49428d0724a2328ad60fc5e6a17fb6b5728dc3673684dfea0c7b7a13062ad53b", func := "barscan/barscanlaw33.PrefixReturns", spec := "prefixReturns", unfollowed := true, recurses := true, plainKeys := false, apart := false }
def PrefixReturnsSaid : Prop := prefixReturnsRow.holds Try.pinned (OpenSpec.ofChange prefixReturnsSpec)

/-- ITS FALSE NEIGHBOUR: 'it returns false'. Refute it at one input. -/
def prefixReturnsWrong : ChangeSpec := { name := "prefixReturns", fn := fun _ => fun
  | [d1, d2] => { results := [.lit (.bool false)], args := [d1, d2] }
  | _ => none }
def PrefixReturnsWrongFalsely : Prop := prefixReturnsRow.holds Try.pinned (OpenSpec.ofChange prefixReturnsWrong)

/-- 'barscanlaw33.PrefixFree': WHATEVER THE INPUT: true; the input reads as it did. -/
def prefixFreeSpec : ChangeSpec := { name := "prefixFree", fn := fun _ => fun
  | [d] => { results := [.lit (.bool true)], args := [d] }
  | _ => none }
def prefixFreeRow : OpenClaim := { program := "ytldhpniflnbilaa", sum := "49428d0724a2328ad60fc5e6a17fb6b5728dc3673684dfea0c7b7a13062ad53b", func := "barscan/barscanlaw33.PrefixFree", spec := "prefixFree", unfollowed := true, recurses := true, plainKeys := false, apart := false }
def PrefixFreeSaid : Prop := prefixFreeRow.holds Try.pinned (OpenSpec.ofChange prefixFreeSpec)

/-- ITS FALSE NEIGHBOUR: 'it returns false'. Refute it at one input. -/
def prefixFreeWrong : ChangeSpec := { name := "prefixFree", fn := fun _ => fun
  | [d] => { results := [.lit (.bool false)], args := [d] }
  | _ => none }
def PrefixFreeWrongFalsely : Prop := prefixFreeRow.holds Try.pinned (OpenSpec.ofChange prefixFreeWrong)

/-- 'barscanlaw34.DeflateCompresses': WHATEVER THE INPUT: true; the input reads as it did. -/
def deflateCompressesSpec : ChangeSpec := { name := "deflateCompresses", fn := fun _ => fun
  | [d1, d2] => { results := [.lit (.bool true)], args := [d1, d2] }
  | _ => none }
def deflateCompressesRow : OpenClaim := { program := "ytldhpniflnbilaa", sum := "49428d0724a2328ad60fc5e6a17fb6b5728dc3673684dfea0c7b7a13062ad53b", func := "barscan/barscanlaw34.DeflateCompresses", spec := "deflateCompresses", unfollowed := true, recurses := true, plainKeys := false, apart := false }
def DeflateCompressesSaid : Prop := deflateCompressesRow.holds Try.pinned (OpenSpec.ofChange deflateCompressesSpec)

/-- ITS FALSE NEIGHBOUR: 'it returns false'. Refute it at one input. -/
def deflateCompressesWrong : ChangeSpec := { name := "deflateCompresses", fn := fun _ => fun
  | [d1, d2] => { results := [.lit (.bool false)], args := [d1, d2] }
  | _ => none }
def DeflateCompressesWrongFalsely : Prop := deflateCompressesRow.holds Try.pinned (OpenSpec.ofChange deflateCompressesWrong)

/-- 'barscanlaw34.DeflateStores': WHATEVER THE INPUT: true; the input reads as it did. -/
def deflateStoresSpec : ChangeSpec := { name := "deflateStores", fn := fun _ => fun
  | [d] => { results := [.lit (.bool true)], args := [d] }
  | _ => none }
def deflateStoresRow : OpenClaim := { program := "ytldhpniflnbilaa", sum := "49428d0724a2328ad60fc5e6a17fb6b5728dc3673684dfea0c7b7a13062ad53b", func := "barscan/barscanlaw34.DeflateStores", spec := "deflateStores", unfollowed := true, recurses := true, plainKeys := false, apart := false }
def DeflateStoresSaid : Prop := deflateStoresRow.holds Try.pinned (OpenSpec.ofChange deflateStoresSpec)

/-- ITS FALSE NEIGHBOUR: 'it returns false'. Refute it at one input. -/
def deflateStoresWrong : ChangeSpec := { name := "deflateStores", fn := fun _ => fun
  | [d] => { results := [.lit (.bool false)], args := [d] }
  | _ => none }
def DeflateStoresWrongFalsely : Prop := deflateStoresRow.holds Try.pinned (OpenSpec.ofChange deflateStoresWrong)

/-- 'barscanlaw34.DeflateTokens': WHATEVER THE INPUT: true; the input reads as it did. -/
def deflateTokensSpec : ChangeSpec := { name := "deflateTokens", fn := fun _ => fun
  | [d1, d2] => { results := [.lit (.bool true)], args := [d1, d2] }
  | _ => none }
def deflateTokensRow : OpenClaim := { program := "ytldhpniflnbilaa", sum := "49428d0724a2328ad60fc5e6a17fb6b5728dc3673684dfea0c7b7a13062ad53b", func := "barscan/barscanlaw34.DeflateTokens", spec := "deflateTokens", unfollowed := true, recurses := true, plainKeys := false, apart := false }
def DeflateTokensSaid : Prop := deflateTokensRow.holds Try.pinned (OpenSpec.ofChange deflateTokensSpec)

/-- ITS FALSE NEIGHBOUR: 'it returns false'. Refute it at one input. -/
def deflateTokensWrong : ChangeSpec := { name := "deflateTokens", fn := fun _ => fun
  | [d1, d2] => { results := [.lit (.bool false)], args := [d1, d2] }
  | _ => none }
def DeflateTokensWrongFalsely : Prop := deflateTokensRow.holds Try.pinned (OpenSpec.ofChange deflateTokensWrong)

/-- 'barscanlaw34.DeflateFactors': WHATEVER THE INPUT: true; the input reads as it did. -/
def deflateFactorsSpec : ChangeSpec := { name := "deflateFactors", fn := fun _ => fun
  | [d] => { results := [.lit (.bool true)], args := [d] }
  | _ => none }
def deflateFactorsRow : OpenClaim := { program := "ytldhpniflnbilaa", sum := "49428d0724a2328ad60fc5e6a17fb6b5728dc3673684dfea0c7b7a13062ad53b", func := "barscan/barscanlaw34.DeflateFactors", spec := "deflateFactors", unfollowed := true, recurses := true, plainKeys := false, apart := false }
def DeflateFactorsSaid : Prop := deflateFactorsRow.holds Try.pinned (OpenSpec.ofChange deflateFactorsSpec)

/-- ITS FALSE NEIGHBOUR: 'it returns false'. Refute it at one input. -/
def deflateFactorsWrong : ChangeSpec := { name := "deflateFactors", fn := fun _ => fun
  | [d] => { results := [.lit (.bool false)], args := [d] }
  | _ => none }
def DeflateFactorsWrongFalsely : Prop := deflateFactorsRow.holds Try.pinned (OpenSpec.ofChange deflateFactorsWrong)

/-- 'barscanlaw34.DeflateLimits': WHATEVER THE INPUT: true; the input reads as it did. -/
def deflateLimitsSpec : ChangeSpec := { name := "deflateLimits", fn := fun _ => fun
  | [d1, d2, d3] => { results := [.lit (.bool true)], args := [d1, d2, d3] }
  | _ => none }
def deflateLimitsRow : OpenClaim := { program := "ytldhpniflnbilaa", sum := "49428d0724a2328ad60fc5e6a17fb6b5728dc3673684dfea0c7b7a13062ad53b", func := "barscan/barscanlaw34.DeflateLimits", spec := "deflateLimits", unfollowed := true, recurses := true, plainKeys := false, apart := false }
def DeflateLimitsSaid : Prop := deflateLimitsRow.holds Try.pinned (OpenSpec.ofChange deflateLimitsSpec)

/-- ITS FALSE NEIGHBOUR: 'it returns false'. Refute it at one input. -/
def deflateLimitsWrong : ChangeSpec := { name := "deflateLimits", fn := fun _ => fun
  | [d1, d2, d3] => { results := [.lit (.bool false)], args := [d1, d2, d3] }
  | _ => none }
def DeflateLimitsWrongFalsely : Prop := deflateLimitsRow.holds Try.pinned (OpenSpec.ofChange deflateLimitsWrong)

/-- 'barscanlaw34.DeflateRoundTrip': WHATEVER THE INPUT: true; the input reads as it did. -/
def deflateRoundTripSpec : ChangeSpec := { name := "deflateRoundTrip", fn := fun _ => fun
  | [d1, d2, d3] => { results := [.lit (.bool true)], args := [d1, d2, d3] }
  | _ => none }
def deflateRoundTripRow : OpenClaim := { program := "ytldhpniflnbilaa", sum := "49428d0724a2328ad60fc5e6a17fb6b5728dc3673684dfea0c7b7a13062ad53b", func := "barscan/barscanlaw34.DeflateRoundTrip", spec := "deflateRoundTrip", unfollowed := true, recurses := true, plainKeys := false, apart := false }
def DeflateRoundTripSaid : Prop := deflateRoundTripRow.holds Try.pinned (OpenSpec.ofChange deflateRoundTripSpec)

/-- ITS FALSE NEIGHBOUR: 'it returns false'. Refute it at one input. -/
def deflateRoundTripWrong : ChangeSpec := { name := "deflateRoundTrip", fn := fun _ => fun
  | [d1, d2, d3] => { results := [.lit (.bool false)], args := [d1, d2, d3] }
  | _ => none }
def DeflateRoundTripWrongFalsely : Prop := deflateRoundTripRow.holds Try.pinned (OpenSpec.ofChange deflateRoundTripWrong)

/-- 'barscanlaw34.DeflateTruncates': WHATEVER THE INPUT: true; the input reads as it did. -/
def deflateTruncatesSpec : ChangeSpec := { name := "deflateTruncates", fn := fun _ => fun
  | [d1, d2] => { results := [.lit (.bool true)], args := [d1, d2] }
  | _ => none }
def deflateTruncatesRow : OpenClaim := { program := "ytldhpniflnbilaa", sum := "49428d0724a2328ad60fc5e6a17fb6b5728dc3673684dfea0c7b7a13062ad53b", func := "barscan/barscanlaw34.DeflateTruncates", spec := "deflateTruncates", unfollowed := true, recurses := true, plainKeys := false, apart := false }
def DeflateTruncatesSaid : Prop := deflateTruncatesRow.holds Try.pinned (OpenSpec.ofChange deflateTruncatesSpec)

/-- ITS FALSE NEIGHBOUR: 'it returns false'. Refute it at one input. -/
def deflateTruncatesWrong : ChangeSpec := { name := "deflateTruncates", fn := fun _ => fun
  | [d1, d2] => { results := [.lit (.bool false)], args := [d1, d2] }
  | _ => none }
def DeflateTruncatesWrongFalsely : Prop := deflateTruncatesRow.holds Try.pinned (OpenSpec.ofChange deflateTruncatesWrong)

/- THE SECOND FORM. 'bulk': how many values and letters a reading holds, each counted each time it is reached (what is shared counts as often as it is met; a slice's spare places count too). A statement '..UptoSaid' is the law's where the arguments, and the package variables that the reading takes, are together of bulk at most 1048576: NARROWER than '..Said'. Prove '..Said' where nothing that the law and all that it calls make is longer than what came in: it says more and counts as full. Else prove '..UptoSaid'. A law counts once. -/
mutual
def uptoBulk {H : Type} : DataW H → Nat
  | .lit (.string bytes) => bytes.length + 1
  | .lit _ => 1
  | .nil => 1
  | .ptr d => uptoBulk d + 1
  | .slice elems spare => uptoBulkAll elems + uptoBulkAll spare + 1
  | .agg parts => uptoBulkAll parts + 1
  | .iface _ d => uptoBulk d + 1
  | .map entries => uptoBulkEntries entries + 1
  | .held _ => 1
def uptoBulkAll {H : Type} : List (DataW H) → Nat
  | [] => 0
  | d :: r => uptoBulk d + uptoBulkAll r
def uptoBulkEntries {H : Type} : List (Lit × DataW H) → Nat
  | [] => 0
  | x :: r => uptoBulkEntry x + uptoBulkEntries r
def uptoBulkEntry {H : Type} : Lit × DataW H → Nat
  | (.string bytes, d) => bytes.length + uptoBulk d + 1
  | (_, d) => uptoBulk d + 1
 end
def uptoSmall : (H : Type) → List (DataW H) → Bool := fun _ ds => decide (uptoBulkAll ds ≤ 1048576)
def OpenSpec.upto (s : _root_.Go.ChangeSpec) : _root_.Go.OpenSpec := { _root_.Go.OpenSpec.ofChange s with cond := some uptoSmall }

/-- 'barscanlaw33.PrefixLengths', WHERE WHAT IT READS IS OF BULK AT MOST 1048576: true; the input reads as it did. -/
def prefixLengthsUptoRow : OpenClaim := { program := "ytldhpniflnbilaa", sum := "49428d0724a2328ad60fc5e6a17fb6b5728dc3673684dfea0c7b7a13062ad53b", func := "barscan/barscanlaw33.PrefixLengths", spec := "prefixLengths", unfollowed := true, recurses := true, plainKeys := false, apart := false, narrowed := true }
def PrefixLengthsUptoSaid : Prop := prefixLengthsUptoRow.holds Try.pinned (OpenSpec.upto prefixLengthsSpec)

/-- 'barscanlaw33.PrefixCodes', WHERE WHAT IT READS IS OF BULK AT MOST 1048576: true; the input reads as it did. -/
def prefixCodesUptoRow : OpenClaim := { program := "ytldhpniflnbilaa", sum := "49428d0724a2328ad60fc5e6a17fb6b5728dc3673684dfea0c7b7a13062ad53b", func := "barscan/barscanlaw33.PrefixCodes", spec := "prefixCodes", unfollowed := true, recurses := true, plainKeys := false, apart := false, narrowed := true }
def PrefixCodesUptoSaid : Prop := prefixCodesUptoRow.holds Try.pinned (OpenSpec.upto prefixCodesSpec)

/-- 'barscanlaw33.PrefixReads', WHERE WHAT IT READS IS OF BULK AT MOST 1048576: true; the input reads as it did. -/
def prefixReadsUptoRow : OpenClaim := { program := "ytldhpniflnbilaa", sum := "49428d0724a2328ad60fc5e6a17fb6b5728dc3673684dfea0c7b7a13062ad53b", func := "barscan/barscanlaw33.PrefixReads", spec := "prefixReads", unfollowed := true, recurses := true, plainKeys := false, apart := false, narrowed := true }
def PrefixReadsUptoSaid : Prop := prefixReadsUptoRow.holds Try.pinned (OpenSpec.upto prefixReadsSpec)

/-- 'barscanlaw33.PrefixOptimal', WHERE WHAT IT READS IS OF BULK AT MOST 1048576: true; the input reads as it did. -/
def prefixOptimalUptoRow : OpenClaim := { program := "ytldhpniflnbilaa", sum := "49428d0724a2328ad60fc5e6a17fb6b5728dc3673684dfea0c7b7a13062ad53b", func := "barscan/barscanlaw33.PrefixOptimal", spec := "prefixOptimal", unfollowed := true, recurses := true, plainKeys := false, apart := false, narrowed := true }
def PrefixOptimalUptoSaid : Prop := prefixOptimalUptoRow.holds Try.pinned (OpenSpec.upto prefixOptimalSpec)

/-- 'barscanlaw33.PrefixReturns', WHERE WHAT IT READS IS OF BULK AT MOST 1048576: true; the input reads as it did. -/
def prefixReturnsUptoRow : OpenClaim := { program := "ytldhpniflnbilaa", sum := "49428d0724a2328ad60fc5e6a17fb6b5728dc3673684dfea0c7b7a13062ad53b", func := "barscan/barscanlaw33.PrefixReturns", spec := "prefixReturns", unfollowed := true, recurses := true, plainKeys := false, apart := false, narrowed := true }
def PrefixReturnsUptoSaid : Prop := prefixReturnsUptoRow.holds Try.pinned (OpenSpec.upto prefixReturnsSpec)

/-- 'barscanlaw33.PrefixFree', WHERE WHAT IT READS IS OF BULK AT MOST 1048576: true; the input reads as it did. -/
def prefixFreeUptoRow : OpenClaim := { program := "ytldhpniflnbilaa", sum := "49428d0724a2328ad60fc5e6a17fb6b5728dc3673684dfea0c7b7a13062ad53b", func := "barscan/barscanlaw33.PrefixFree", spec := "prefixFree", unfollowed := true, recurses := true, plainKeys := false, apart := false, narrowed := true }
def PrefixFreeUptoSaid : Prop := prefixFreeUptoRow.holds Try.pinned (OpenSpec.upto prefixFreeSpec)

/-- 'barscanlaw34.DeflateCompresses', WHERE WHAT IT READS IS OF BULK AT MOST 1048576: true; the input reads as it did. -/
def deflateCompressesUptoRow : OpenClaim := { program := "ytldhpniflnbilaa", sum := "49428d0724a2328ad60fc5e6a17fb6b5728dc3673684dfea0c7b7a13062ad53b", func := "barscan/barscanlaw34.DeflateCompresses", spec := "deflateCompresses", unfollowed := true, recurses := true, plainKeys := false, apart := false, narrowed := true }
def DeflateCompressesUptoSaid : Prop := deflateCompressesUptoRow.holds Try.pinned (OpenSpec.upto deflateCompressesSpec)

/-- 'barscanlaw34.DeflateStores', WHERE WHAT IT READS IS OF BULK AT MOST 1048576: true; the input reads as it did. -/
def deflateStoresUptoRow : OpenClaim := { program := "ytldhpniflnbilaa", sum := "49428d0724a2328ad60fc5e6a17fb6b5728dc3673684dfea0c7b7a13062ad53b", func := "barscan/barscanlaw34.DeflateStores", spec := "deflateStores", unfollowed := true, recurses := true, plainKeys := false, apart := false, narrowed := true }
def DeflateStoresUptoSaid : Prop := deflateStoresUptoRow.holds Try.pinned (OpenSpec.upto deflateStoresSpec)

/-- 'barscanlaw34.DeflateTokens', WHERE WHAT IT READS IS OF BULK AT MOST 1048576: true; the input reads as it did. -/
def deflateTokensUptoRow : OpenClaim := { program := "ytldhpniflnbilaa", sum := "49428d0724a2328ad60fc5e6a17fb6b5728dc3673684dfea0c7b7a13062ad53b", func := "barscan/barscanlaw34.DeflateTokens", spec := "deflateTokens", unfollowed := true, recurses := true, plainKeys := false, apart := false, narrowed := true }
def DeflateTokensUptoSaid : Prop := deflateTokensUptoRow.holds Try.pinned (OpenSpec.upto deflateTokensSpec)

/-- 'barscanlaw34.DeflateFactors', WHERE WHAT IT READS IS OF BULK AT MOST 1048576: true; the input reads as it did. -/
def deflateFactorsUptoRow : OpenClaim := { program := "ytldhpniflnbilaa", sum := "49428d0724a2328ad60fc5e6a17fb6b5728dc3673684dfea0c7b7a13062ad53b", func := "barscan/barscanlaw34.DeflateFactors", spec := "deflateFactors", unfollowed := true, recurses := true, plainKeys := false, apart := false, narrowed := true }
def DeflateFactorsUptoSaid : Prop := deflateFactorsUptoRow.holds Try.pinned (OpenSpec.upto deflateFactorsSpec)

/-- 'barscanlaw34.DeflateLimits', WHERE WHAT IT READS IS OF BULK AT MOST 1048576: true; the input reads as it did. -/
def deflateLimitsUptoRow : OpenClaim := { program := "ytldhpniflnbilaa", sum := "49428d0724a2328ad60fc5e6a17fb6b5728dc3673684dfea0c7b7a13062ad53b", func := "barscan/barscanlaw34.DeflateLimits", spec := "deflateLimits", unfollowed := true, recurses := true, plainKeys := false, apart := false, narrowed := true }
def DeflateLimitsUptoSaid : Prop := deflateLimitsUptoRow.holds Try.pinned (OpenSpec.upto deflateLimitsSpec)

/-- 'barscanlaw34.DeflateRoundTrip', WHERE WHAT IT READS IS OF BULK AT MOST 1048576: true; the input reads as it did. -/
def deflateRoundTripUptoRow : OpenClaim := { program := "ytldhpniflnbilaa", sum := "49428d0724a2328ad60fc5e6a17fb6b5728dc3673684dfea0c7b7a13062ad53b", func := "barscan/barscanlaw34.DeflateRoundTrip", spec := "deflateRoundTrip", unfollowed := true, recurses := true, plainKeys := false, apart := false, narrowed := true }
def DeflateRoundTripUptoSaid : Prop := deflateRoundTripUptoRow.holds Try.pinned (OpenSpec.upto deflateRoundTripSpec)

/-- 'barscanlaw34.DeflateTruncates', WHERE WHAT IT READS IS OF BULK AT MOST 1048576: true; the input reads as it did. -/
def deflateTruncatesUptoRow : OpenClaim := { program := "ytldhpniflnbilaa", sum := "49428d0724a2328ad60fc5e6a17fb6b5728dc3673684dfea0c7b7a13062ad53b", func := "barscan/barscanlaw34.DeflateTruncates", spec := "deflateTruncates", unfollowed := true, recurses := true, plainKeys := false, apart := false, narrowed := true }
def DeflateTruncatesUptoSaid : Prop := deflateTruncatesUptoRow.holds Try.pinned (OpenSpec.upto deflateTruncatesSpec)

end Rows
end Go.Proofs.Ytldhpniflnbilaa
