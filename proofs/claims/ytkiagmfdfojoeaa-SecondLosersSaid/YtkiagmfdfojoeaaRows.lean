/-
  No cell of these rows narrows 'for every input' (looked for: loops, veiled, ifaces, maps, wideKeys, modest, calm, conditions, laid).
  DERIVED. THE GIVEN ROWS OF THIS SEAT. 12 by the template 'for every input the law returns true; each argument reads behind the call as it read before'; 0 by the template 'total and deterministic' (their statements: YtkiagmfdfojoeaaTotals.lean).
  GIVEN WITH THE SEED: the statements are not yours to turn. If you find one false, say at which input.
  Laid BY PROGRAM, IN A SANDBOX (cutbox-rows.mjs): the forced cells as the released guide's own fill.sh prints them over the translation d3fd7b512957988f… (all of the seat's roots in one cut). By AI agents, Wed Nov 11 2026. No macro, syntax, notation, axiom, sorry.
-/
import Derived.Test.YtkiagmfdfojoeaaChecked
import GoSem.Claim
import GoSem.ClaimJoined
import GoSem.ClaimMapViews
import Derived.JoinedTies
import Derived.KernelRfl
namespace Go.Proofs.Ytkiagmfdfojoeaa
/- THE CELL 'sum', in the pinned program and in every row, IS THE sha256 OF THE DUMP (.gsa) THAT YtkiagmfdfojoeaaProg.lean LOADS. Nothing in Lean hashes anything: it is a label: what it is worth is what the hold of that sum in a sandbox is worth. -/
noncomputable def Try.pinned : Pinned := { name := "ytkiagmfdfojoeaa", sum := "d3fd7b512957988f7205272c6ca7e3e3657efbd586c0ac259c8ee1b252939066", checked := Try.checked }
namespace Rows
def none {H : Type} : Left H := { results := [], args := [] }

/-- 'lotterylaw43.SecondEntries': WHATEVER THE INPUT: true; the input reads as it did. -/
def secondEntriesSpec : ChangeSpec := { name := "secondEntries", fn := fun _ => fun
  | [d1, d2] => { results := [.lit (.bool true)], args := [d1, d2] }
  | _ => none }
def secondEntriesRow : OpenClaim := { program := "ytkiagmfdfojoeaa", sum := "d3fd7b512957988f7205272c6ca7e3e3657efbd586c0ac259c8ee1b252939066", func := "lottery/lotterylaw43.SecondEntries", spec := "secondEntries", apart := false }
def SecondEntriesSaid : Prop := secondEntriesRow.holds Try.pinned (OpenSpec.ofChange secondEntriesSpec)

/-- ITS FALSE NEIGHBOUR: 'it returns false'. Refute it at one input. -/
def secondEntriesWrong : ChangeSpec := { name := "secondEntries", fn := fun _ => fun
  | [d1, d2] => { results := [.lit (.bool false)], args := [d1, d2] }
  | _ => none }
def SecondEntriesWrongFalsely : Prop := secondEntriesRow.holds Try.pinned (OpenSpec.ofChange secondEntriesWrong)

/-- 'lotterylaw43.SecondLosers': WHATEVER THE INPUT: true; the input reads as it did. -/
def secondLosersSpec : ChangeSpec := { name := "secondLosers", fn := fun _ => fun
  | [d1, d2] => { results := [.lit (.bool true)], args := [d1, d2] }
  | _ => none }
def secondLosersRow : OpenClaim := { program := "ytkiagmfdfojoeaa", sum := "d3fd7b512957988f7205272c6ca7e3e3657efbd586c0ac259c8ee1b252939066", func := "lottery/lotterylaw43.SecondLosers", spec := "secondLosers", apart := false }
def SecondLosersSaid : Prop := secondLosersRow.holds Try.pinned (OpenSpec.ofChange secondLosersSpec)

/-- ITS FALSE NEIGHBOUR: 'it returns false'. Refute it at one input. -/
def secondLosersWrong : ChangeSpec := { name := "secondLosers", fn := fun _ => fun
  | [d1, d2] => { results := [.lit (.bool false)], args := [d1, d2] }
  | _ => none }
def SecondLosersWrongFalsely : Prop := secondLosersRow.holds Try.pinned (OpenSpec.ofChange secondLosersWrong)

/-- 'lotterylaw09.StreamNexts': WHATEVER THE INPUT: true; the input reads as it did. -/
def streamNextsSpec : ChangeSpec := { name := "streamNexts", fn := fun _ => fun
  | [d1, d2] => { results := [.lit (.bool true)], args := [d1, d2] }
  | _ => none }
def streamNextsRow : OpenClaim := { program := "ytkiagmfdfojoeaa", sum := "d3fd7b512957988f7205272c6ca7e3e3657efbd586c0ac259c8ee1b252939066", func := "lottery/lotterylaw09.StreamNexts", spec := "streamNexts", apart := false }
def StreamNextsSaid : Prop := streamNextsRow.holds Try.pinned (OpenSpec.ofChange streamNextsSpec)

/-- ITS FALSE NEIGHBOUR: 'it returns false'. Refute it at one input. -/
def streamNextsWrong : ChangeSpec := { name := "streamNexts", fn := fun _ => fun
  | [d1, d2] => { results := [.lit (.bool false)], args := [d1, d2] }
  | _ => none }
def StreamNextsWrongFalsely : Prop := streamNextsRow.holds Try.pinned (OpenSpec.ofChange streamNextsWrong)

/-- 'lotterylaw09.StreamBelow': WHATEVER THE INPUT: true; the input reads as it did. -/
def streamBelowSpec : ChangeSpec := { name := "streamBelow", fn := fun _ => fun
  | [d1, d2] => { results := [.lit (.bool true)], args := [d1, d2] }
  | _ => none }
def streamBelowRow : OpenClaim := { program := "ytkiagmfdfojoeaa", sum := "d3fd7b512957988f7205272c6ca7e3e3657efbd586c0ac259c8ee1b252939066", func := "lottery/lotterylaw09.StreamBelow", spec := "streamBelow", apart := false }
def StreamBelowSaid : Prop := streamBelowRow.holds Try.pinned (OpenSpec.ofChange streamBelowSpec)

/-- ITS FALSE NEIGHBOUR: 'it returns false'. Refute it at one input. -/
def streamBelowWrong : ChangeSpec := { name := "streamBelow", fn := fun _ => fun
  | [d1, d2] => { results := [.lit (.bool false)], args := [d1, d2] }
  | _ => none }
def StreamBelowWrongFalsely : Prop := streamBelowRow.holds Try.pinned (OpenSpec.ofChange streamBelowWrong)

/-- 'lotterylaw09.StreamShuffles': WHATEVER THE INPUT: true; the input reads as it did. -/
def streamShufflesSpec : ChangeSpec := { name := "streamShuffles", fn := fun _ => fun
  | [d1, d2] => { results := [.lit (.bool true)], args := [d1, d2] }
  | _ => none }
def streamShufflesRow : OpenClaim := { program := "ytkiagmfdfojoeaa", sum := "d3fd7b512957988f7205272c6ca7e3e3657efbd586c0ac259c8ee1b252939066", func := "lottery/lotterylaw09.StreamShuffles", spec := "streamShuffles", unfollowed := true, recurses := true, apart := false }
def StreamShufflesSaid : Prop := streamShufflesRow.holds Try.pinned (OpenSpec.ofChange streamShufflesSpec)

/-- ITS FALSE NEIGHBOUR: 'it returns false'. Refute it at one input. -/
def streamShufflesWrong : ChangeSpec := { name := "streamShuffles", fn := fun _ => fun
  | [d1, d2] => { results := [.lit (.bool false)], args := [d1, d2] }
  | _ => none }
def StreamShufflesWrongFalsely : Prop := streamShufflesRow.holds Try.pinned (OpenSpec.ofChange streamShufflesWrong)

/-- 'lotterylaw09.StreamSamples': WHATEVER THE INPUT: true; the input reads as it did. -/
def streamSamplesSpec : ChangeSpec := { name := "streamSamples", fn := fun _ => fun
  | [d1, d2, d3, d4] => { results := [.lit (.bool true)], args := [d1, d2, d3, d4] }
  | _ => none }
def streamSamplesRow : OpenClaim := { program := "ytkiagmfdfojoeaa", sum := "d3fd7b512957988f7205272c6ca7e3e3657efbd586c0ac259c8ee1b252939066", func := "lottery/lotterylaw09.StreamSamples", spec := "streamSamples", unfollowed := true, recurses := true, apart := false }
def StreamSamplesSaid : Prop := streamSamplesRow.holds Try.pinned (OpenSpec.ofChange streamSamplesSpec)

/-- ITS FALSE NEIGHBOUR: 'it returns false'. Refute it at one input. -/
def streamSamplesWrong : ChangeSpec := { name := "streamSamples", fn := fun _ => fun
  | [d1, d2, d3, d4] => { results := [.lit (.bool false)], args := [d1, d2, d3, d4] }
  | _ => none }
def StreamSamplesWrongFalsely : Prop := streamSamplesRow.holds Try.pinned (OpenSpec.ofChange streamSamplesWrong)

/-- 'lotterylaw09.StreamRepeats': WHATEVER THE INPUT: true; the input reads as it did. -/
def streamRepeatsSpec : ChangeSpec := { name := "streamRepeats", fn := fun _ => fun
  | [d1, d2] => { results := [.lit (.bool true)], args := [d1, d2] }
  | _ => none }
def streamRepeatsRow : OpenClaim := { program := "ytkiagmfdfojoeaa", sum := "d3fd7b512957988f7205272c6ca7e3e3657efbd586c0ac259c8ee1b252939066", func := "lottery/lotterylaw09.StreamRepeats", spec := "streamRepeats", unfollowed := true, recurses := true, apart := false }
def StreamRepeatsSaid : Prop := streamRepeatsRow.holds Try.pinned (OpenSpec.ofChange streamRepeatsSpec)

/-- ITS FALSE NEIGHBOUR: 'it returns false'. Refute it at one input. -/
def streamRepeatsWrong : ChangeSpec := { name := "streamRepeats", fn := fun _ => fun
  | [d1, d2] => { results := [.lit (.bool false)], args := [d1, d2] }
  | _ => none }
def StreamRepeatsWrongFalsely : Prop := streamRepeatsRow.holds Try.pinned (OpenSpec.ofChange streamRepeatsWrong)

/-- 'lotterylaw43.SecondDraws': WHATEVER THE INPUT: true; the input reads as it did. -/
def secondDrawsSpec : ChangeSpec := { name := "secondDraws", fn := fun _ => fun
  | [d1, d2, d3] => { results := [.lit (.bool true)], args := [d1, d2, d3] }
  | _ => none }
def secondDrawsRow : OpenClaim := { program := "ytkiagmfdfojoeaa", sum := "d3fd7b512957988f7205272c6ca7e3e3657efbd586c0ac259c8ee1b252939066", func := "lottery/lotterylaw43.SecondDraws", spec := "secondDraws", unfollowed := true, recurses := true, apart := false }
def SecondDrawsSaid : Prop := secondDrawsRow.holds Try.pinned (OpenSpec.ofChange secondDrawsSpec)

/-- ITS FALSE NEIGHBOUR: 'it returns false'. Refute it at one input. -/
def secondDrawsWrong : ChangeSpec := { name := "secondDraws", fn := fun _ => fun
  | [d1, d2, d3] => { results := [.lit (.bool false)], args := [d1, d2, d3] }
  | _ => none }
def SecondDrawsWrongFalsely : Prop := secondDrawsRow.holds Try.pinned (OpenSpec.ofChange secondDrawsWrong)

/-- 'lotterylaw43.SecondOnce': WHATEVER THE INPUT: true; the input reads as it did. -/
def secondOnceSpec : ChangeSpec := { name := "secondOnce", fn := fun _ => fun
  | [d1, d2, d3, d4] => { results := [.lit (.bool true)], args := [d1, d2, d3, d4] }
  | _ => none }
def secondOnceRow : OpenClaim := { program := "ytkiagmfdfojoeaa", sum := "d3fd7b512957988f7205272c6ca7e3e3657efbd586c0ac259c8ee1b252939066", func := "lottery/lotterylaw43.SecondOnce", spec := "secondOnce", unfollowed := true, recurses := true, apart := false }
def SecondOnceSaid : Prop := secondOnceRow.holds Try.pinned (OpenSpec.ofChange secondOnceSpec)

/-- ITS FALSE NEIGHBOUR: 'it returns false'. Refute it at one input. -/
def secondOnceWrong : ChangeSpec := { name := "secondOnce", fn := fun _ => fun
  | [d1, d2, d3, d4] => { results := [.lit (.bool false)], args := [d1, d2, d3, d4] }
  | _ => none }
def SecondOnceWrongFalsely : Prop := secondOnceRow.holds Try.pinned (OpenSpec.ofChange secondOnceWrong)

/-- 'lotterylaw43.SecondFair': WHATEVER THE INPUT: true; the input reads as it did. -/
def secondFairSpec : ChangeSpec := { name := "secondFair", fn := fun _ => fun
  | [d1, d2, d3] => { results := [.lit (.bool true)], args := [d1, d2, d3] }
  | _ => none }
def secondFairRow : OpenClaim := { program := "ytkiagmfdfojoeaa", sum := "d3fd7b512957988f7205272c6ca7e3e3657efbd586c0ac259c8ee1b252939066", func := "lottery/lotterylaw43.SecondFair", spec := "secondFair", unfollowed := true, recurses := true, apart := false }
def SecondFairSaid : Prop := secondFairRow.holds Try.pinned (OpenSpec.ofChange secondFairSpec)

/-- ITS FALSE NEIGHBOUR: 'it returns false'. Refute it at one input. -/
def secondFairWrong : ChangeSpec := { name := "secondFair", fn := fun _ => fun
  | [d1, d2, d3] => { results := [.lit (.bool false)], args := [d1, d2, d3] }
  | _ => none }
def SecondFairWrongFalsely : Prop := secondFairRow.holds Try.pinned (OpenSpec.ofChange secondFairWrong)

/-- 'lotterylaw09.StreamPlays': WHATEVER THE INPUT: true; the input reads as it did. -/
def streamPlaysSpec : ChangeSpec := { name := "streamPlays", fn := fun _ => fun
  | [d1, d2] => { results := [.lit (.bool true)], args := [d1, d2] }
  | _ => none }
def streamPlaysRow : OpenClaim := { program := "ytkiagmfdfojoeaa", sum := "d3fd7b512957988f7205272c6ca7e3e3657efbd586c0ac259c8ee1b252939066", func := "lottery/lotterylaw09.StreamPlays", spec := "streamPlays", unfollowed := true, recurses := true, apart := false }
def StreamPlaysSaid : Prop := streamPlaysRow.holds Try.pinned (OpenSpec.ofChange streamPlaysSpec)

/-- ITS FALSE NEIGHBOUR: 'it returns false'. Refute it at one input. -/
def streamPlaysWrong : ChangeSpec := { name := "streamPlays", fn := fun _ => fun
  | [d1, d2] => { results := [.lit (.bool false)], args := [d1, d2] }
  | _ => none }
def StreamPlaysWrongFalsely : Prop := streamPlaysRow.holds Try.pinned (OpenSpec.ofChange streamPlaysWrong)

/-- 'lotterylaw09.StreamNil': WHATEVER THE INPUT: true; the input reads as it did. -/
def streamNilSpec : ChangeSpec := { name := "streamNil", fn := fun _ => fun
  | [d1, d2] => { results := [.lit (.bool true)], args := [d1, d2] }
  | _ => none }
def streamNilRow : OpenClaim := { program := "ytkiagmfdfojoeaa", sum := "d3fd7b512957988f7205272c6ca7e3e3657efbd586c0ac259c8ee1b252939066", func := "lottery/lotterylaw09.StreamNil", spec := "streamNil", unfollowed := true, recurses := true, apart := false }
def StreamNilSaid : Prop := streamNilRow.holds Try.pinned (OpenSpec.ofChange streamNilSpec)

/-- ITS FALSE NEIGHBOUR: 'it returns false'. Refute it at one input. -/
def streamNilWrong : ChangeSpec := { name := "streamNil", fn := fun _ => fun
  | [d1, d2] => { results := [.lit (.bool false)], args := [d1, d2] }
  | _ => none }
def StreamNilWrongFalsely : Prop := streamNilRow.holds Try.pinned (OpenSpec.ofChange streamNilWrong)

/- THE SECOND FORM. 'bulk': how many values and letters a reading holds, each counted each time it is reached (what is shared counts as often as it is met; a slice's spare places count too). A statement '..UptoSaid' is the law's where the arguments, and the package variables that the reading takes, are together of bulk at most 1048576: NARROWER than '..Said'. Prove '..Said' where nothing that the law and all that it calls make is longer than what came in: it says more and counts as full. Else prove '..UptoSaid'. A law counts once. -/
mutual
def uptoBulk {H : Type} : DataW H → Nat
  | .lit (.string bytes) => bytes.length + 1
  | .lit _ => 1
  | .nil => 1
  | .ptr d => uptoBulk d + 1
  | .slice elems spare => uptoBulkAll elems + uptoBulkAll spare + 1
  | .agg parts => uptoBulkAll parts + 1
  | .iface _ d => uptoBulk d + 1
  | .map entries => uptoBulkEntries entries + 1
  | .held _ => 1
def uptoBulkAll {H : Type} : List (DataW H) → Nat
  | [] => 0
  | d :: r => uptoBulk d + uptoBulkAll r
def uptoBulkEntries {H : Type} : List (Lit × DataW H) → Nat
  | [] => 0
  | x :: r => uptoBulkEntry x + uptoBulkEntries r
def uptoBulkEntry {H : Type} : Lit × DataW H → Nat
  | (.string bytes, d) => bytes.length + uptoBulk d + 1
  | (_, d) => uptoBulk d + 1
 end
def uptoSmall : (H : Type) → List (DataW H) → Bool := fun _ ds => decide (uptoBulkAll ds ≤ 1048576)
def OpenSpec.upto (s : _root_.Go.ChangeSpec) : _root_.Go.OpenSpec := { _root_.Go.OpenSpec.ofChange s with cond := some uptoSmall }

/-- 'lotterylaw43.SecondEntries', WHERE WHAT IT READS IS OF BULK AT MOST 1048576: true; the input reads as it did. -/
def secondEntriesUptoRow : OpenClaim := { program := "ytkiagmfdfojoeaa", sum := "d3fd7b512957988f7205272c6ca7e3e3657efbd586c0ac259c8ee1b252939066", func := "lottery/lotterylaw43.SecondEntries", spec := "secondEntries", apart := false, narrowed := true }
def SecondEntriesUptoSaid : Prop := secondEntriesUptoRow.holds Try.pinned (OpenSpec.upto secondEntriesSpec)

/-- 'lotterylaw43.SecondLosers', WHERE WHAT IT READS IS OF BULK AT MOST 1048576: true; the input reads as it did. -/
def secondLosersUptoRow : OpenClaim := { program := "ytkiagmfdfojoeaa", sum := "d3fd7b512957988f7205272c6ca7e3e3657efbd586c0ac259c8ee1b252939066", func := "lottery/lotterylaw43.SecondLosers", spec := "secondLosers", apart := false, narrowed := true }
def SecondLosersUptoSaid : Prop := secondLosersUptoRow.holds Try.pinned (OpenSpec.upto secondLosersSpec)

/-- 'lotterylaw09.StreamNexts', WHERE WHAT IT READS IS OF BULK AT MOST 1048576: true; the input reads as it did. -/
def streamNextsUptoRow : OpenClaim := { program := "ytkiagmfdfojoeaa", sum := "d3fd7b512957988f7205272c6ca7e3e3657efbd586c0ac259c8ee1b252939066", func := "lottery/lotterylaw09.StreamNexts", spec := "streamNexts", apart := false, narrowed := true }
def StreamNextsUptoSaid : Prop := streamNextsUptoRow.holds Try.pinned (OpenSpec.upto streamNextsSpec)

/-- 'lotterylaw09.StreamBelow', WHERE WHAT IT READS IS OF BULK AT MOST 1048576: true; the input reads as it did. -/
def streamBelowUptoRow : OpenClaim := { program := "ytkiagmfdfojoeaa", sum := "d3fd7b512957988f7205272c6ca7e3e3657efbd586c0ac259c8ee1b252939066", func := "lottery/lotterylaw09.StreamBelow", spec := "streamBelow", apart := false, narrowed := true }
def StreamBelowUptoSaid : Prop := streamBelowUptoRow.holds Try.pinned (OpenSpec.upto streamBelowSpec)

/-- 'lotterylaw09.StreamShuffles', WHERE WHAT IT READS IS OF BULK AT MOST 1048576: true; the input reads as it did. -/
def streamShufflesUptoRow : OpenClaim := { program := "ytkiagmfdfojoeaa", sum := "d3fd7b512957988f7205272c6ca7e3e3657efbd586c0ac259c8ee1b252939066", func := "lottery/lotterylaw09.StreamShuffles", spec := "streamShuffles", unfollowed := true, recurses := true, apart := false, narrowed := true }
def StreamShufflesUptoSaid : Prop := streamShufflesUptoRow.holds Try.pinned (OpenSpec.upto streamShufflesSpec)

/-- 'lotterylaw09.StreamSamples', WHERE WHAT IT READS IS OF BULK AT MOST 1048576: true; the input reads as it did. -/
def streamSamplesUptoRow : OpenClaim := { program := "ytkiagmfdfojoeaa", sum := "d3fd7b512957988f7205272c6ca7e3e3657efbd586c0ac259c8ee1b252939066", func := "lottery/lotterylaw09.StreamSamples", spec := "streamSamples", unfollowed := true, recurses := true, apart := false, narrowed := true }
def StreamSamplesUptoSaid : Prop := streamSamplesUptoRow.holds Try.pinned (OpenSpec.upto streamSamplesSpec)

/-- 'lotterylaw09.StreamRepeats', WHERE WHAT IT READS IS OF BULK AT MOST 1048576: true; the input reads as it did. -/
def streamRepeatsUptoRow : OpenClaim := { program := "ytkiagmfdfojoeaa", sum := "d3fd7b512957988f7205272c6ca7e3e3657efbd586c0ac259c8ee1b252939066", func := "lottery/lotterylaw09.StreamRepeats", spec := "streamRepeats", unfollowed := true, recurses := true, apart := false, narrowed := true }
def StreamRepeatsUptoSaid : Prop := streamRepeatsUptoRow.holds Try.pinned (OpenSpec.upto streamRepeatsSpec)

/-- 'lotterylaw43.SecondDraws', WHERE WHAT IT READS IS OF BULK AT MOST 1048576: true; the input reads as it did. -/
def secondDrawsUptoRow : OpenClaim := { program := "ytkiagmfdfojoeaa", sum := "d3fd7b512957988f7205272c6ca7e3e3657efbd586c0ac259c8ee1b252939066", func := "lottery/lotterylaw43.SecondDraws", spec := "secondDraws", unfollowed := true, recurses := true, apart := false, narrowed := true }
def SecondDrawsUptoSaid : Prop := secondDrawsUptoRow.holds Try.pinned (OpenSpec.upto secondDrawsSpec)

/-- 'lotterylaw43.SecondOnce', WHERE WHAT IT READS IS OF BULK AT MOST 1048576: true; the input reads as it did. -/
def secondOnceUptoRow : OpenClaim := { program := "ytkiagmfdfojoeaa", sum := "d3fd7b512957988f7205272c6ca7e3e3657efbd586c0ac259c8ee1b252939066", func := "lottery/lotterylaw43.SecondOnce", spec := "secondOnce", unfollowed := true, recurses := true, apart := false, narrowed := true }
def SecondOnceUptoSaid : Prop := secondOnceUptoRow.holds Try.pinned (OpenSpec.upto secondOnceSpec)

/-- 'lotterylaw43.SecondFair', WHERE WHAT IT READS IS OF BULK AT MOST 1048576: true; the input reads as it did. -/
def secondFairUptoRow : OpenClaim := { program := "ytkiagmfdfojoeaa", sum := "d3fd7b512957988f7205272c6ca7e3e3657efbd586c0ac259c8ee1b252939066", func := "lottery/lotterylaw43.SecondFair", spec := "secondFair", unfollowed := true, recurses := true, apart := false, narrowed := true }
def SecondFairUptoSaid : Prop := secondFairUptoRow.holds Try.pinned (OpenSpec.upto secondFairSpec)

/-- 'lotterylaw09.StreamPlays', WHERE WHAT IT READS IS OF BULK AT MOST 1048576: true; the input reads as it did. -/
def streamPlaysUptoRow : OpenClaim := { program := "ytkiagmfdfojoeaa", sum := "d3fd7b512957988f7205272c6ca7e3e3657efbd586c0ac259c8ee1b252939066", func := "lottery/lotterylaw09.StreamPlays", spec := "streamPlays", unfollowed := true, recurses := true, apart := false, narrowed := true }
def StreamPlaysUptoSaid : Prop := streamPlaysUptoRow.holds Try.pinned (OpenSpec.upto streamPlaysSpec)

/-- 'lotterylaw09.StreamNil', WHERE WHAT IT READS IS OF BULK AT MOST 1048576: true; the input reads as it did. -/
def streamNilUptoRow : OpenClaim := { program := "ytkiagmfdfojoeaa", sum := "d3fd7b512957988f7205272c6ca7e3e3657efbd586c0ac259c8ee1b252939066", func := "lottery/lotterylaw09.StreamNil", spec := "streamNil", unfollowed := true, recurses := true, apart := false, narrowed := true }
def StreamNilUptoSaid : Prop := streamNilUptoRow.holds Try.pinned (OpenSpec.upto streamNilSpec)

end Rows
end Go.Proofs.Ytkiagmfdfojoeaa
