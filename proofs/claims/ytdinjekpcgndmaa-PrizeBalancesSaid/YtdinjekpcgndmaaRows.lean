/-
  No cell of these rows narrows 'for every input' (looked for: loops, veiled, ifaces, maps, wideKeys, modest, calm, conditions, laid).
  DERIVED. THE GIVEN ROWS OF THIS SEAT. 15 by the template 'for every input the law returns true; each argument reads behind the call as it read before'; 0 by the template 'total and deterministic' (their statements: YtdinjekpcgndmaaTotals.lean).
  GIVEN WITH THE SEED: the statements are not yours to turn. If you find one false, say at which input.
  Laid BY PROGRAM, IN A SANDBOX (cutbox-rows.mjs): the forced cells as the released guide's own fill.sh prints them over the translation 4b07a701ea2ded33… (all of the seat's roots in one cut). By AI agents, Wed Nov 11 2026. No macro, syntax, notation, axiom, sorry.
-/
import Derived.Test.YtdinjekpcgndmaaChecked
import GoSem.Claim
import GoSem.ClaimJoined
import GoSem.ClaimMapViews
import Derived.JoinedTies
import Derived.KernelRfl
namespace Go.Proofs.Ytdinjekpcgndmaa
/- THE CELL 'sum', in the pinned program and in every row, IS THE sha256 OF THE DUMP (.gsa) THAT YtdinjekpcgndmaaProg.lean LOADS. Nothing in Lean hashes anything: it is a label: what it is worth is what the hold of that sum in a sandbox is worth. -/
noncomputable def Try.pinned : Pinned := { name := "ytdinjekpcgndmaa", sum := "4b07a701ea2ded3361f7f4e23c1be6c26c44c29f57a0baf8a422cad4c10893cc", checked := Try.checked }
namespace Rows
def none {H : Type} : Left H := { results := [], args := [] }

/-- 'lotterylaw36.PoolFunds': WHATEVER THE INPUT: true; the input reads as it did. -/
def poolFundsSpec : ChangeSpec := { name := "poolFunds", fn := fun _ => fun
  | [d1, d2] => { results := [.lit (.bool true)], args := [d1, d2] }
  | _ => none }
def poolFundsRow : OpenClaim := { program := "ytdinjekpcgndmaa", sum := "4b07a701ea2ded3361f7f4e23c1be6c26c44c29f57a0baf8a422cad4c10893cc", func := "lottery/lotterylaw36.PoolFunds", spec := "poolFunds", unfollowed := true, recurses := true, apart := false }
def PoolFundsSaid : Prop := poolFundsRow.holds Try.pinned (OpenSpec.ofChange poolFundsSpec)

/-- ITS FALSE NEIGHBOUR: 'it returns false'. Refute it at one input. -/
def poolFundsWrong : ChangeSpec := { name := "poolFunds", fn := fun _ => fun
  | [d1, d2] => { results := [.lit (.bool false)], args := [d1, d2] }
  | _ => none }
def PoolFundsWrongFalsely : Prop := poolFundsRow.holds Try.pinned (OpenSpec.ofChange poolFundsWrong)

/-- 'lotterylaw37.RollFlows': WHATEVER THE INPUT: true; the input reads as it did. -/
def rollFlowsSpec : ChangeSpec := { name := "rollFlows", fn := fun _ => fun
  | [d1, d2, d3, d4] => { results := [.lit (.bool true)], args := [d1, d2, d3, d4] }
  | _ => none }
def rollFlowsRow : OpenClaim := { program := "ytdinjekpcgndmaa", sum := "4b07a701ea2ded3361f7f4e23c1be6c26c44c29f57a0baf8a422cad4c10893cc", func := "lottery/lotterylaw37.RollFlows", spec := "rollFlows", unfollowed := true, recurses := true, apart := false }
def RollFlowsSaid : Prop := rollFlowsRow.holds Try.pinned (OpenSpec.ofChange rollFlowsSpec)

/-- ITS FALSE NEIGHBOUR: 'it returns false'. Refute it at one input. -/
def rollFlowsWrong : ChangeSpec := { name := "rollFlows", fn := fun _ => fun
  | [d1, d2, d3, d4] => { results := [.lit (.bool false)], args := [d1, d2, d3, d4] }
  | _ => none }
def RollFlowsWrongFalsely : Prop := rollFlowsRow.holds Try.pinned (OpenSpec.ofChange rollFlowsWrong)

/-- 'lotterylaw37.RollConserves': WHATEVER THE INPUT: true; the input reads as it did. -/
def rollConservesSpec : ChangeSpec := { name := "rollConserves", fn := fun _ => fun
  | [d1, d2, d3, d4] => { results := [.lit (.bool true)], args := [d1, d2, d3, d4] }
  | _ => none }
def rollConservesRow : OpenClaim := { program := "ytdinjekpcgndmaa", sum := "4b07a701ea2ded3361f7f4e23c1be6c26c44c29f57a0baf8a422cad4c10893cc", func := "lottery/lotterylaw37.RollConserves", spec := "rollConserves", unfollowed := true, recurses := true, apart := false }
def RollConservesSaid : Prop := rollConservesRow.holds Try.pinned (OpenSpec.ofChange rollConservesSpec)

/-- ITS FALSE NEIGHBOUR: 'it returns false'. Refute it at one input. -/
def rollConservesWrong : ChangeSpec := { name := "rollConserves", fn := fun _ => fun
  | [d1, d2, d3, d4] => { results := [.lit (.bool false)], args := [d1, d2, d3, d4] }
  | _ => none }
def RollConservesWrongFalsely : Prop := rollConservesRow.holds Try.pinned (OpenSpec.ofChange rollConservesWrong)

/-- 'lotterylaw37.RollCapped': WHATEVER THE INPUT: true; the input reads as it did. -/
def rollCappedSpec : ChangeSpec := { name := "rollCapped", fn := fun _ => fun
  | [d1, d2] => { results := [.lit (.bool true)], args := [d1, d2] }
  | _ => none }
def rollCappedRow : OpenClaim := { program := "ytdinjekpcgndmaa", sum := "4b07a701ea2ded3361f7f4e23c1be6c26c44c29f57a0baf8a422cad4c10893cc", func := "lottery/lotterylaw37.RollCapped", spec := "rollCapped", unfollowed := true, recurses := true, apart := false }
def RollCappedSaid : Prop := rollCappedRow.holds Try.pinned (OpenSpec.ofChange rollCappedSpec)

/-- ITS FALSE NEIGHBOUR: 'it returns false'. Refute it at one input. -/
def rollCappedWrong : ChangeSpec := { name := "rollCapped", fn := fun _ => fun
  | [d1, d2] => { results := [.lit (.bool false)], args := [d1, d2] }
  | _ => none }
def RollCappedWrongFalsely : Prop := rollCappedRow.holds Try.pinned (OpenSpec.ofChange rollCappedWrong)

/-- 'lotterylaw37.RollWinners': WHATEVER THE INPUT: true; the input reads as it did. -/
def rollWinnersSpec : ChangeSpec := { name := "rollWinners", fn := fun _ => fun
  | [d1, d2, d3, d4] => { results := [.lit (.bool true)], args := [d1, d2, d3, d4] }
  | _ => none }
def rollWinnersRow : OpenClaim := { program := "ytdinjekpcgndmaa", sum := "4b07a701ea2ded3361f7f4e23c1be6c26c44c29f57a0baf8a422cad4c10893cc", func := "lottery/lotterylaw37.RollWinners", spec := "rollWinners", unfollowed := true, recurses := true, apart := false }
def RollWinnersSaid : Prop := rollWinnersRow.holds Try.pinned (OpenSpec.ofChange rollWinnersSpec)

/-- ITS FALSE NEIGHBOUR: 'it returns false'. Refute it at one input. -/
def rollWinnersWrong : ChangeSpec := { name := "rollWinners", fn := fun _ => fun
  | [d1, d2, d3, d4] => { results := [.lit (.bool false)], args := [d1, d2, d3, d4] }
  | _ => none }
def RollWinnersWrongFalsely : Prop := rollWinnersRow.holds Try.pinned (OpenSpec.ofChange rollWinnersWrong)

/-- 'lotterylaw37.RollWon': WHATEVER THE INPUT: true; the input reads as it did. -/
def rollWonSpec : ChangeSpec := { name := "rollWon", fn := fun _ => fun
  | [d1, d2, d3, d4] => { results := [.lit (.bool true)], args := [d1, d2, d3, d4] }
  | _ => none }
def rollWonRow : OpenClaim := { program := "ytdinjekpcgndmaa", sum := "4b07a701ea2ded3361f7f4e23c1be6c26c44c29f57a0baf8a422cad4c10893cc", func := "lottery/lotterylaw37.RollWon", spec := "rollWon", unfollowed := true, recurses := true, apart := false }
def RollWonSaid : Prop := rollWonRow.holds Try.pinned (OpenSpec.ofChange rollWonSpec)

/-- ITS FALSE NEIGHBOUR: 'it returns false'. Refute it at one input. -/
def rollWonWrong : ChangeSpec := { name := "rollWon", fn := fun _ => fun
  | [d1, d2, d3, d4] => { results := [.lit (.bool false)], args := [d1, d2, d3, d4] }
  | _ => none }
def RollWonWrongFalsely : Prop := rollWonRow.holds Try.pinned (OpenSpec.ofChange rollWonWrong)

/-- 'lotterylaw36.PoolAllocates': WHATEVER THE INPUT: true; the input reads as it did. -/
def poolAllocatesSpec : ChangeSpec := { name := "poolAllocates", fn := fun _ => fun
  | [d1, d2, d3, d4] => { results := [.lit (.bool true)], args := [d1, d2, d3, d4] }
  | _ => none }
def poolAllocatesRow : OpenClaim := { program := "ytdinjekpcgndmaa", sum := "4b07a701ea2ded3361f7f4e23c1be6c26c44c29f57a0baf8a422cad4c10893cc", func := "lottery/lotterylaw36.PoolAllocates", spec := "poolAllocates", inPlace := ["internal/reflectlite.ValueOf", "internal/reflectlite.Swapper", "(internal/reflectlite.Value).Len"], unfollowed := true, recurses := true, named := ["math/bits.divideError", "math/bits.overflowError"], apart := false }
def PoolAllocatesSaid : Prop := poolAllocatesRow.holds Try.pinned (OpenSpec.ofChange poolAllocatesSpec)

/-- ITS FALSE NEIGHBOUR: 'it returns false'. Refute it at one input. -/
def poolAllocatesWrong : ChangeSpec := { name := "poolAllocates", fn := fun _ => fun
  | [d1, d2, d3, d4] => { results := [.lit (.bool false)], args := [d1, d2, d3, d4] }
  | _ => none }
def PoolAllocatesWrongFalsely : Prop := poolAllocatesRow.holds Try.pinned (OpenSpec.ofChange poolAllocatesWrong)

/-- 'lotterylaw36.PoolBalances': WHATEVER THE INPUT: true; the input reads as it did. -/
def poolBalancesSpec : ChangeSpec := { name := "poolBalances", fn := fun _ => fun
  | [d1, d2, d3, d4] => { results := [.lit (.bool true)], args := [d1, d2, d3, d4] }
  | _ => none }
def poolBalancesRow : OpenClaim := { program := "ytdinjekpcgndmaa", sum := "4b07a701ea2ded3361f7f4e23c1be6c26c44c29f57a0baf8a422cad4c10893cc", func := "lottery/lotterylaw36.PoolBalances", spec := "poolBalances", inPlace := ["internal/reflectlite.ValueOf", "internal/reflectlite.Swapper", "(internal/reflectlite.Value).Len"], unfollowed := true, recurses := true, named := ["math/bits.divideError", "math/bits.overflowError"], apart := false }
def PoolBalancesSaid : Prop := poolBalancesRow.holds Try.pinned (OpenSpec.ofChange poolBalancesSpec)

/-- ITS FALSE NEIGHBOUR: 'it returns false'. Refute it at one input. -/
def poolBalancesWrong : ChangeSpec := { name := "poolBalances", fn := fun _ => fun
  | [d1, d2, d3, d4] => { results := [.lit (.bool false)], args := [d1, d2, d3, d4] }
  | _ => none }
def PoolBalancesWrongFalsely : Prop := poolBalancesRow.holds Try.pinned (OpenSpec.ofChange poolBalancesWrong)

/-- 'lotterylaw36.PoolNeeds': WHATEVER THE INPUT: true; the input reads as it did. -/
def poolNeedsSpec : ChangeSpec := { name := "poolNeeds", fn := fun _ => fun
  | [d1, d2, d3, d4] => { results := [.lit (.bool true)], args := [d1, d2, d3, d4] }
  | _ => none }
def poolNeedsRow : OpenClaim := { program := "ytdinjekpcgndmaa", sum := "4b07a701ea2ded3361f7f4e23c1be6c26c44c29f57a0baf8a422cad4c10893cc", func := "lottery/lotterylaw36.PoolNeeds", spec := "poolNeeds", inPlace := ["internal/reflectlite.ValueOf", "internal/reflectlite.Swapper", "(internal/reflectlite.Value).Len"], unfollowed := true, recurses := true, named := ["math/bits.divideError", "math/bits.overflowError"], apart := false }
def PoolNeedsSaid : Prop := poolNeedsRow.holds Try.pinned (OpenSpec.ofChange poolNeedsSpec)

/-- ITS FALSE NEIGHBOUR: 'it returns false'. Refute it at one input. -/
def poolNeedsWrong : ChangeSpec := { name := "poolNeeds", fn := fun _ => fun
  | [d1, d2, d3, d4] => { results := [.lit (.bool false)], args := [d1, d2, d3, d4] }
  | _ => none }
def PoolNeedsWrongFalsely : Prop := poolNeedsRow.holds Try.pinned (OpenSpec.ofChange poolNeedsWrong)

/-- 'lotterylaw36.PoolStarts': WHATEVER THE INPUT: true; the input reads as it did. -/
def poolStartsSpec : ChangeSpec := { name := "poolStarts", fn := fun _ => fun
  | [d] => { results := [.lit (.bool true)], args := [d] }
  | _ => none }
def poolStartsRow : OpenClaim := { program := "ytdinjekpcgndmaa", sum := "4b07a701ea2ded3361f7f4e23c1be6c26c44c29f57a0baf8a422cad4c10893cc", func := "lottery/lotterylaw36.PoolStarts", spec := "poolStarts", inPlace := ["internal/reflectlite.ValueOf", "internal/reflectlite.Swapper", "(internal/reflectlite.Value).Len"], unfollowed := true, recurses := true, named := ["math/bits.divideError", "math/bits.overflowError"], apart := false }
def PoolStartsSaid : Prop := poolStartsRow.holds Try.pinned (OpenSpec.ofChange poolStartsSpec)

/-- ITS FALSE NEIGHBOUR: 'it returns false'. Refute it at one input. -/
def poolStartsWrong : ChangeSpec := { name := "poolStarts", fn := fun _ => fun
  | [d] => { results := [.lit (.bool false)], args := [d] }
  | _ => none }
def PoolStartsWrongFalsely : Prop := poolStartsRow.holds Try.pinned (OpenSpec.ofChange poolStartsWrong)

/-- 'lotterylaw38.PrizeRounds': WHATEVER THE INPUT: true; the input reads as it did. -/
def prizeRoundsSpec : ChangeSpec := { name := "prizeRounds", fn := fun _ => fun
  | [d1, d2, d3] => { results := [.lit (.bool true)], args := [d1, d2, d3] }
  | _ => none }
def prizeRoundsRow : OpenClaim := { program := "ytdinjekpcgndmaa", sum := "4b07a701ea2ded3361f7f4e23c1be6c26c44c29f57a0baf8a422cad4c10893cc", func := "lottery/lotterylaw38.PrizeRounds", spec := "prizeRounds", inPlace := ["internal/reflectlite.ValueOf", "internal/reflectlite.Swapper", "(internal/reflectlite.Value).Len"], unfollowed := true, recurses := true, named := ["math/bits.divideError", "math/bits.overflowError"], apart := false }
def PrizeRoundsSaid : Prop := prizeRoundsRow.holds Try.pinned (OpenSpec.ofChange prizeRoundsSpec)

/-- ITS FALSE NEIGHBOUR: 'it returns false'. Refute it at one input. -/
def prizeRoundsWrong : ChangeSpec := { name := "prizeRounds", fn := fun _ => fun
  | [d1, d2, d3] => { results := [.lit (.bool false)], args := [d1, d2, d3] }
  | _ => none }
def PrizeRoundsWrongFalsely : Prop := prizeRoundsRow.holds Try.pinned (OpenSpec.ofChange prizeRoundsWrong)

/-- 'lotterylaw38.PrizeChain': WHATEVER THE INPUT: true; the input reads as it did. -/
def prizeChainSpec : ChangeSpec := { name := "prizeChain", fn := fun _ => fun
  | [d1, d2] => { results := [.lit (.bool true)], args := [d1, d2] }
  | _ => none }
def prizeChainRow : OpenClaim := { program := "ytdinjekpcgndmaa", sum := "4b07a701ea2ded3361f7f4e23c1be6c26c44c29f57a0baf8a422cad4c10893cc", func := "lottery/lotterylaw38.PrizeChain", spec := "prizeChain", inPlace := ["internal/reflectlite.ValueOf", "internal/reflectlite.Swapper", "(internal/reflectlite.Value).Len"], unfollowed := true, recurses := true, named := ["math/bits.divideError", "math/bits.overflowError"], apart := false }
def PrizeChainSaid : Prop := prizeChainRow.holds Try.pinned (OpenSpec.ofChange prizeChainSpec)

/-- ITS FALSE NEIGHBOUR: 'it returns false'. Refute it at one input. -/
def prizeChainWrong : ChangeSpec := { name := "prizeChain", fn := fun _ => fun
  | [d1, d2] => { results := [.lit (.bool false)], args := [d1, d2] }
  | _ => none }
def PrizeChainWrongFalsely : Prop := prizeChainRow.holds Try.pinned (OpenSpec.ofChange prizeChainWrong)

/-- 'lotterylaw38.PrizeMust': WHATEVER THE INPUT: true; the input reads as it did. -/
def prizeMustSpec : ChangeSpec := { name := "prizeMust", fn := fun _ => fun
  | [d1, d2, d3] => { results := [.lit (.bool true)], args := [d1, d2, d3] }
  | _ => none }
def prizeMustRow : OpenClaim := { program := "ytdinjekpcgndmaa", sum := "4b07a701ea2ded3361f7f4e23c1be6c26c44c29f57a0baf8a422cad4c10893cc", func := "lottery/lotterylaw38.PrizeMust", spec := "prizeMust", inPlace := ["internal/reflectlite.ValueOf", "internal/reflectlite.Swapper", "(internal/reflectlite.Value).Len"], unfollowed := true, recurses := true, named := ["math/bits.divideError", "math/bits.overflowError"], apart := false }
def PrizeMustSaid : Prop := prizeMustRow.holds Try.pinned (OpenSpec.ofChange prizeMustSpec)

/-- ITS FALSE NEIGHBOUR: 'it returns false'. Refute it at one input. -/
def prizeMustWrong : ChangeSpec := { name := "prizeMust", fn := fun _ => fun
  | [d1, d2, d3] => { results := [.lit (.bool false)], args := [d1, d2, d3] }
  | _ => none }
def PrizeMustWrongFalsely : Prop := prizeMustRow.holds Try.pinned (OpenSpec.ofChange prizeMustWrong)

/-- 'lotterylaw38.PrizeBalances': WHATEVER THE INPUT: true; the input reads as it did. -/
def prizeBalancesSpec : ChangeSpec := { name := "prizeBalances", fn := fun _ => fun
  | [d1, d2, d3] => { results := [.lit (.bool true)], args := [d1, d2, d3] }
  | _ => none }
def prizeBalancesRow : OpenClaim := { program := "ytdinjekpcgndmaa", sum := "4b07a701ea2ded3361f7f4e23c1be6c26c44c29f57a0baf8a422cad4c10893cc", func := "lottery/lotterylaw38.PrizeBalances", spec := "prizeBalances", inPlace := ["internal/reflectlite.ValueOf", "internal/reflectlite.Swapper", "(internal/reflectlite.Value).Len"], unfollowed := true, recurses := true, named := ["math/bits.divideError", "math/bits.overflowError"], apart := false }
def PrizeBalancesSaid : Prop := prizeBalancesRow.holds Try.pinned (OpenSpec.ofChange prizeBalancesSpec)

/-- ITS FALSE NEIGHBOUR: 'it returns false'. Refute it at one input. -/
def prizeBalancesWrong : ChangeSpec := { name := "prizeBalances", fn := fun _ => fun
  | [d1, d2, d3] => { results := [.lit (.bool false)], args := [d1, d2, d3] }
  | _ => none }
def PrizeBalancesWrongFalsely : Prop := prizeBalancesRow.holds Try.pinned (OpenSpec.ofChange prizeBalancesWrong)

/-- 'lotterylaw38.PrizeLooks': WHATEVER THE INPUT: true; the input reads as it did. -/
def prizeLooksSpec : ChangeSpec := { name := "prizeLooks", fn := fun _ => fun
  | [d1, d2, d3] => { results := [.lit (.bool true)], args := [d1, d2, d3] }
  | _ => none }
def prizeLooksRow : OpenClaim := { program := "ytdinjekpcgndmaa", sum := "4b07a701ea2ded3361f7f4e23c1be6c26c44c29f57a0baf8a422cad4c10893cc", func := "lottery/lotterylaw38.PrizeLooks", spec := "prizeLooks", inPlace := ["internal/reflectlite.ValueOf", "internal/reflectlite.Swapper", "(internal/reflectlite.Value).Len"], unfollowed := true, recurses := true, named := ["math/bits.divideError", "math/bits.overflowError"], apart := false }
def PrizeLooksSaid : Prop := prizeLooksRow.holds Try.pinned (OpenSpec.ofChange prizeLooksSpec)

/-- ITS FALSE NEIGHBOUR: 'it returns false'. Refute it at one input. -/
def prizeLooksWrong : ChangeSpec := { name := "prizeLooks", fn := fun _ => fun
  | [d1, d2, d3] => { results := [.lit (.bool false)], args := [d1, d2, d3] }
  | _ => none }
def PrizeLooksWrongFalsely : Prop := prizeLooksRow.holds Try.pinned (OpenSpec.ofChange prizeLooksWrong)

/- THE SECOND FORM. 'bulk': how many values and letters a reading holds, each counted each time it is reached (what is shared counts as often as it is met; a slice's spare places count too). A statement '..UptoSaid' is the law's where the arguments, and the package variables that the reading takes, are together of bulk at most 1048576: NARROWER than '..Said'. Prove '..Said' where nothing that the law and all that it calls make is longer than what came in: it says more and counts as full. Else prove '..UptoSaid'. A law counts once. -/
mutual
def uptoBulk {H : Type} : DataW H → Nat
  | .lit (.string bytes) => bytes.length + 1
  | .lit _ => 1
  | .nil => 1
  | .ptr d => uptoBulk d + 1
  | .slice elems spare => uptoBulkAll elems + uptoBulkAll spare + 1
  | .agg parts => uptoBulkAll parts + 1
  | .iface _ d => uptoBulk d + 1
  | .map entries => uptoBulkEntries entries + 1
  | .held _ => 1
def uptoBulkAll {H : Type} : List (DataW H) → Nat
  | [] => 0
  | d :: r => uptoBulk d + uptoBulkAll r
def uptoBulkEntries {H : Type} : List (Lit × DataW H) → Nat
  | [] => 0
  | x :: r => uptoBulkEntry x + uptoBulkEntries r
def uptoBulkEntry {H : Type} : Lit × DataW H → Nat
  | (.string bytes, d) => bytes.length + uptoBulk d + 1
  | (_, d) => uptoBulk d + 1
 end
def uptoSmall : (H : Type) → List (DataW H) → Bool := fun _ ds => decide (uptoBulkAll ds ≤ 1048576)
def OpenSpec.upto (s : _root_.Go.ChangeSpec) : _root_.Go.OpenSpec := { _root_.Go.OpenSpec.ofChange s with cond := some uptoSmall }

/-- 'lotterylaw36.PoolFunds', WHERE WHAT IT READS IS OF BULK AT MOST 1048576: true; the input reads as it did. -/
def poolFundsUptoRow : OpenClaim := { program := "ytdinjekpcgndmaa", sum := "4b07a701ea2ded3361f7f4e23c1be6c26c44c29f57a0baf8a422cad4c10893cc", func := "lottery/lotterylaw36.PoolFunds", spec := "poolFunds", unfollowed := true, recurses := true, apart := false, narrowed := true }
def PoolFundsUptoSaid : Prop := poolFundsUptoRow.holds Try.pinned (OpenSpec.upto poolFundsSpec)

/-- 'lotterylaw37.RollFlows', WHERE WHAT IT READS IS OF BULK AT MOST 1048576: true; the input reads as it did. -/
def rollFlowsUptoRow : OpenClaim := { program := "ytdinjekpcgndmaa", sum := "4b07a701ea2ded3361f7f4e23c1be6c26c44c29f57a0baf8a422cad4c10893cc", func := "lottery/lotterylaw37.RollFlows", spec := "rollFlows", unfollowed := true, recurses := true, apart := false, narrowed := true }
def RollFlowsUptoSaid : Prop := rollFlowsUptoRow.holds Try.pinned (OpenSpec.upto rollFlowsSpec)

/-- 'lotterylaw37.RollConserves', WHERE WHAT IT READS IS OF BULK AT MOST 1048576: true; the input reads as it did. -/
def rollConservesUptoRow : OpenClaim := { program := "ytdinjekpcgndmaa", sum := "4b07a701ea2ded3361f7f4e23c1be6c26c44c29f57a0baf8a422cad4c10893cc", func := "lottery/lotterylaw37.RollConserves", spec := "rollConserves", unfollowed := true, recurses := true, apart := false, narrowed := true }
def RollConservesUptoSaid : Prop := rollConservesUptoRow.holds Try.pinned (OpenSpec.upto rollConservesSpec)

/-- 'lotterylaw37.RollCapped', WHERE WHAT IT READS IS OF BULK AT MOST 1048576: true; the input reads as it did. -/
def rollCappedUptoRow : OpenClaim := { program := "ytdinjekpcgndmaa", sum := "4b07a701ea2ded3361f7f4e23c1be6c26c44c29f57a0baf8a422cad4c10893cc", func := "lottery/lotterylaw37.RollCapped", spec := "rollCapped", unfollowed := true, recurses := true, apart := false, narrowed := true }
def RollCappedUptoSaid : Prop := rollCappedUptoRow.holds Try.pinned (OpenSpec.upto rollCappedSpec)

/-- 'lotterylaw37.RollWinners', WHERE WHAT IT READS IS OF BULK AT MOST 1048576: true; the input reads as it did. -/
def rollWinnersUptoRow : OpenClaim := { program := "ytdinjekpcgndmaa", sum := "4b07a701ea2ded3361f7f4e23c1be6c26c44c29f57a0baf8a422cad4c10893cc", func := "lottery/lotterylaw37.RollWinners", spec := "rollWinners", unfollowed := true, recurses := true, apart := false, narrowed := true }
def RollWinnersUptoSaid : Prop := rollWinnersUptoRow.holds Try.pinned (OpenSpec.upto rollWinnersSpec)

/-- 'lotterylaw37.RollWon', WHERE WHAT IT READS IS OF BULK AT MOST 1048576: true; the input reads as it did. -/
def rollWonUptoRow : OpenClaim := { program := "ytdinjekpcgndmaa", sum := "4b07a701ea2ded3361f7f4e23c1be6c26c44c29f57a0baf8a422cad4c10893cc", func := "lottery/lotterylaw37.RollWon", spec := "rollWon", unfollowed := true, recurses := true, apart := false, narrowed := true }
def RollWonUptoSaid : Prop := rollWonUptoRow.holds Try.pinned (OpenSpec.upto rollWonSpec)

/-- 'lotterylaw36.PoolAllocates', WHERE WHAT IT READS IS OF BULK AT MOST 1048576: true; the input reads as it did. -/
def poolAllocatesUptoRow : OpenClaim := { program := "ytdinjekpcgndmaa", sum := "4b07a701ea2ded3361f7f4e23c1be6c26c44c29f57a0baf8a422cad4c10893cc", func := "lottery/lotterylaw36.PoolAllocates", spec := "poolAllocates", inPlace := ["internal/reflectlite.ValueOf", "internal/reflectlite.Swapper", "(internal/reflectlite.Value).Len"], unfollowed := true, recurses := true, named := ["math/bits.divideError", "math/bits.overflowError"], apart := false, narrowed := true }
def PoolAllocatesUptoSaid : Prop := poolAllocatesUptoRow.holds Try.pinned (OpenSpec.upto poolAllocatesSpec)

/-- 'lotterylaw36.PoolBalances', WHERE WHAT IT READS IS OF BULK AT MOST 1048576: true; the input reads as it did. -/
def poolBalancesUptoRow : OpenClaim := { program := "ytdinjekpcgndmaa", sum := "4b07a701ea2ded3361f7f4e23c1be6c26c44c29f57a0baf8a422cad4c10893cc", func := "lottery/lotterylaw36.PoolBalances", spec := "poolBalances", inPlace := ["internal/reflectlite.ValueOf", "internal/reflectlite.Swapper", "(internal/reflectlite.Value).Len"], unfollowed := true, recurses := true, named := ["math/bits.divideError", "math/bits.overflowError"], apart := false, narrowed := true }
def PoolBalancesUptoSaid : Prop := poolBalancesUptoRow.holds Try.pinned (OpenSpec.upto poolBalancesSpec)

/-- 'lotterylaw36.PoolNeeds', WHERE WHAT IT READS IS OF BULK AT MOST 1048576: true; the input reads as it did. -/
def poolNeedsUptoRow : OpenClaim := { program := "ytdinjekpcgndmaa", sum := "4b07a701ea2ded3361f7f4e23c1be6c26c44c29f57a0baf8a422cad4c10893cc", func := "lottery/lotterylaw36.PoolNeeds", spec := "poolNeeds", inPlace := ["internal/reflectlite.ValueOf", "internal/reflectlite.Swapper", "(internal/reflectlite.Value).Len"], unfollowed := true, recurses := true, named := ["math/bits.divideError", "math/bits.overflowError"], apart := false, narrowed := true }
def PoolNeedsUptoSaid : Prop := poolNeedsUptoRow.holds Try.pinned (OpenSpec.upto poolNeedsSpec)

/-- 'lotterylaw36.PoolStarts', WHERE WHAT IT READS IS OF BULK AT MOST 1048576: true; the input reads as it did. -/
def poolStartsUptoRow : OpenClaim := { program := "ytdinjekpcgndmaa", sum := "4b07a701ea2ded3361f7f4e23c1be6c26c44c29f57a0baf8a422cad4c10893cc", func := "lottery/lotterylaw36.PoolStarts", spec := "poolStarts", inPlace := ["internal/reflectlite.ValueOf", "internal/reflectlite.Swapper", "(internal/reflectlite.Value).Len"], unfollowed := true, recurses := true, named := ["math/bits.divideError", "math/bits.overflowError"], apart := false, narrowed := true }
def PoolStartsUptoSaid : Prop := poolStartsUptoRow.holds Try.pinned (OpenSpec.upto poolStartsSpec)

/-- 'lotterylaw38.PrizeRounds', WHERE WHAT IT READS IS OF BULK AT MOST 1048576: true; the input reads as it did. -/
def prizeRoundsUptoRow : OpenClaim := { program := "ytdinjekpcgndmaa", sum := "4b07a701ea2ded3361f7f4e23c1be6c26c44c29f57a0baf8a422cad4c10893cc", func := "lottery/lotterylaw38.PrizeRounds", spec := "prizeRounds", inPlace := ["internal/reflectlite.ValueOf", "internal/reflectlite.Swapper", "(internal/reflectlite.Value).Len"], unfollowed := true, recurses := true, named := ["math/bits.divideError", "math/bits.overflowError"], apart := false, narrowed := true }
def PrizeRoundsUptoSaid : Prop := prizeRoundsUptoRow.holds Try.pinned (OpenSpec.upto prizeRoundsSpec)

/-- 'lotterylaw38.PrizeChain', WHERE WHAT IT READS IS OF BULK AT MOST 1048576: true; the input reads as it did. -/
def prizeChainUptoRow : OpenClaim := { program := "ytdinjekpcgndmaa", sum := "4b07a701ea2ded3361f7f4e23c1be6c26c44c29f57a0baf8a422cad4c10893cc", func := "lottery/lotterylaw38.PrizeChain", spec := "prizeChain", inPlace := ["internal/reflectlite.ValueOf", "internal/reflectlite.Swapper", "(internal/reflectlite.Value).Len"], unfollowed := true, recurses := true, named := ["math/bits.divideError", "math/bits.overflowError"], apart := false, narrowed := true }
def PrizeChainUptoSaid : Prop := prizeChainUptoRow.holds Try.pinned (OpenSpec.upto prizeChainSpec)

/-- 'lotterylaw38.PrizeMust', WHERE WHAT IT READS IS OF BULK AT MOST 1048576: true; the input reads as it did. -/
def prizeMustUptoRow : OpenClaim := { program := "ytdinjekpcgndmaa", sum := "4b07a701ea2ded3361f7f4e23c1be6c26c44c29f57a0baf8a422cad4c10893cc", func := "lottery/lotterylaw38.PrizeMust", spec := "prizeMust", inPlace := ["internal/reflectlite.ValueOf", "internal/reflectlite.Swapper", "(internal/reflectlite.Value).Len"], unfollowed := true, recurses := true, named := ["math/bits.divideError", "math/bits.overflowError"], apart := false, narrowed := true }
def PrizeMustUptoSaid : Prop := prizeMustUptoRow.holds Try.pinned (OpenSpec.upto prizeMustSpec)

/-- 'lotterylaw38.PrizeBalances', WHERE WHAT IT READS IS OF BULK AT MOST 1048576: true; the input reads as it did. -/
def prizeBalancesUptoRow : OpenClaim := { program := "ytdinjekpcgndmaa", sum := "4b07a701ea2ded3361f7f4e23c1be6c26c44c29f57a0baf8a422cad4c10893cc", func := "lottery/lotterylaw38.PrizeBalances", spec := "prizeBalances", inPlace := ["internal/reflectlite.ValueOf", "internal/reflectlite.Swapper", "(internal/reflectlite.Value).Len"], unfollowed := true, recurses := true, named := ["math/bits.divideError", "math/bits.overflowError"], apart := false, narrowed := true }
def PrizeBalancesUptoSaid : Prop := prizeBalancesUptoRow.holds Try.pinned (OpenSpec.upto prizeBalancesSpec)

/-- 'lotterylaw38.PrizeLooks', WHERE WHAT IT READS IS OF BULK AT MOST 1048576: true; the input reads as it did. -/
def prizeLooksUptoRow : OpenClaim := { program := "ytdinjekpcgndmaa", sum := "4b07a701ea2ded3361f7f4e23c1be6c26c44c29f57a0baf8a422cad4c10893cc", func := "lottery/lotterylaw38.PrizeLooks", spec := "prizeLooks", inPlace := ["internal/reflectlite.ValueOf", "internal/reflectlite.Swapper", "(internal/reflectlite.Value).Len"], unfollowed := true, recurses := true, named := ["math/bits.divideError", "math/bits.overflowError"], apart := false, narrowed := true }
def PrizeLooksUptoSaid : Prop := prizeLooksUptoRow.holds Try.pinned (OpenSpec.upto prizeLooksSpec)

end Rows
end Go.Proofs.Ytdinjekpcgndmaa
