/-
  No cell of these rows narrows 'for every input' (looked for: loops, veiled, ifaces, maps, wideKeys, modest, calm, conditions, laid).
  DERIVED. THE GIVEN ROWS OF THIS SEAT. 11 by the template 'for every input the law returns true; each argument reads behind the call as it read before'; 0 by the template 'total and deterministic' (their statements: YtdbkkbeelemnhaaTotals.lean).
  GIVEN WITH THE SEED: the statements are not yours to turn. If you find one false, say at which input.
  Laid BY PROGRAM, IN A SANDBOX (cutbox-rows.mjs): the forced cells as the released guide's own fill.sh prints them over the translation 0053e738d778d722… (all of the seat's roots in one cut). By AI agents, Wed Nov 11 2026. No macro, syntax, notation, axiom, sorry.
-/
import Derived.Test.YtdbkkbeelemnhaaChecked
import GoSem.Claim
import GoSem.ClaimJoined
import GoSem.ClaimMapViews
import Derived.JoinedTies
import Derived.KernelRfl
namespace Go.Proofs.Ytdbkkbeelemnhaa
/- THE CELL 'sum', in the pinned program and in every row, IS THE sha256 OF THE DUMP (.gsa) THAT YtdbkkbeelemnhaaProg.lean LOADS. Nothing in Lean hashes anything: it is a label: what it is worth is what the hold of that sum in a sandbox is worth. -/
noncomputable def Try.pinned : Pinned := { name := "ytdbkkbeelemnhaa", sum := "0053e738d778d72288648c71bd417044e9f0eacce6a8c99fc49cddd46776b82b", checked := Try.checked }
namespace Rows
def none {H : Type} : Left H := { results := [], args := [] }

/-- 'lotterylaw40.AddonHits': WHATEVER THE INPUT: true; the input reads as it did. -/
def addonHitsSpec : ChangeSpec := { name := "addonHits", fn := fun _ => fun
  | [d1, d2] => { results := [.lit (.bool true)], args := [d1, d2] }
  | _ => none }
def addonHitsRow : OpenClaim := { program := "ytdbkkbeelemnhaa", sum := "0053e738d778d72288648c71bd417044e9f0eacce6a8c99fc49cddd46776b82b", func := "lottery/lotterylaw40.AddonHits", spec := "addonHits", apart := false }
def AddonHitsSaid : Prop := addonHitsRow.holds Try.pinned (OpenSpec.ofChange addonHitsSpec)

/-- ITS FALSE NEIGHBOUR: 'it returns false'. Refute it at one input. -/
def addonHitsWrong : ChangeSpec := { name := "addonHits", fn := fun _ => fun
  | [d1, d2] => { results := [.lit (.bool false)], args := [d1, d2] }
  | _ => none }
def AddonHitsWrongFalsely : Prop := addonHitsRow.holds Try.pinned (OpenSpec.ofChange addonHitsWrong)

/-- 'lotterylaw12.RulecheckNames': WHATEVER THE INPUT: true; the input reads as it did. -/
def rulecheckNamesSpec : ChangeSpec := { name := "rulecheckNames", fn := fun _ => fun
  | [d] => { results := [.lit (.bool true)], args := [d] }
  | _ => none }
def rulecheckNamesRow : OpenClaim := { program := "ytdbkkbeelemnhaa", sum := "0053e738d778d72288648c71bd417044e9f0eacce6a8c99fc49cddd46776b82b", func := "lottery/lotterylaw12.RulecheckNames", spec := "rulecheckNames", unfollowed := true, recurses := true, apart := false }
def RulecheckNamesSaid : Prop := rulecheckNamesRow.holds Try.pinned (OpenSpec.ofChange rulecheckNamesSpec)

/-- ITS FALSE NEIGHBOUR: 'it returns false'. Refute it at one input. -/
def rulecheckNamesWrong : ChangeSpec := { name := "rulecheckNames", fn := fun _ => fun
  | [d] => { results := [.lit (.bool false)], args := [d] }
  | _ => none }
def RulecheckNamesWrongFalsely : Prop := rulecheckNamesRow.holds Try.pinned (OpenSpec.ofChange rulecheckNamesWrong)

/-- 'lotterylaw12.RulecheckAddons': WHATEVER THE INPUT: true; the input reads as it did. -/
def rulecheckAddonsSpec : ChangeSpec := { name := "rulecheckAddons", fn := fun _ => fun
  | [d] => { results := [.lit (.bool true)], args := [d] }
  | _ => none }
def rulecheckAddonsRow : OpenClaim := { program := "ytdbkkbeelemnhaa", sum := "0053e738d778d72288648c71bd417044e9f0eacce6a8c99fc49cddd46776b82b", func := "lottery/lotterylaw12.RulecheckAddons", spec := "rulecheckAddons", unfollowed := true, recurses := true, apart := false }
def RulecheckAddonsSaid : Prop := rulecheckAddonsRow.holds Try.pinned (OpenSpec.ofChange rulecheckAddonsSpec)

/-- ITS FALSE NEIGHBOUR: 'it returns false'. Refute it at one input. -/
def rulecheckAddonsWrong : ChangeSpec := { name := "rulecheckAddons", fn := fun _ => fun
  | [d] => { results := [.lit (.bool false)], args := [d] }
  | _ => none }
def RulecheckAddonsWrongFalsely : Prop := rulecheckAddonsRow.holds Try.pinned (OpenSpec.ofChange rulecheckAddonsWrong)

/-- 'lotterylaw40.AddonFactors': WHATEVER THE INPUT: true; the input reads as it did. -/
def addonFactorsSpec : ChangeSpec := { name := "addonFactors", fn := fun _ => fun
  | [d1, d2, d3] => { results := [.lit (.bool true)], args := [d1, d2, d3] }
  | _ => none }
def addonFactorsRow : OpenClaim := { program := "ytdbkkbeelemnhaa", sum := "0053e738d778d72288648c71bd417044e9f0eacce6a8c99fc49cddd46776b82b", func := "lottery/lotterylaw40.AddonFactors", spec := "addonFactors", unfollowed := true, recurses := true, apart := false }
def AddonFactorsSaid : Prop := addonFactorsRow.holds Try.pinned (OpenSpec.ofChange addonFactorsSpec)

/-- ITS FALSE NEIGHBOUR: 'it returns false'. Refute it at one input. -/
def addonFactorsWrong : ChangeSpec := { name := "addonFactors", fn := fun _ => fun
  | [d1, d2, d3] => { results := [.lit (.bool false)], args := [d1, d2, d3] }
  | _ => none }
def AddonFactorsWrongFalsely : Prop := addonFactorsRow.holds Try.pinned (OpenSpec.ofChange addonFactorsWrong)

/-- 'lotterylaw40.AddonPrices': WHATEVER THE INPUT: true; the input reads as it did. -/
def addonPricesSpec : ChangeSpec := { name := "addonPrices", fn := fun _ => fun
  | [d1, d2] => { results := [.lit (.bool true)], args := [d1, d2] }
  | _ => none }
def addonPricesRow : OpenClaim := { program := "ytdbkkbeelemnhaa", sum := "0053e738d778d72288648c71bd417044e9f0eacce6a8c99fc49cddd46776b82b", func := "lottery/lotterylaw40.AddonPrices", spec := "addonPrices", unfollowed := true, recurses := true, apart := false }
def AddonPricesSaid : Prop := addonPricesRow.holds Try.pinned (OpenSpec.ofChange addonPricesSpec)

/-- ITS FALSE NEIGHBOUR: 'it returns false'. Refute it at one input. -/
def addonPricesWrong : ChangeSpec := { name := "addonPrices", fn := fun _ => fun
  | [d1, d2] => { results := [.lit (.bool false)], args := [d1, d2] }
  | _ => none }
def AddonPricesWrongFalsely : Prop := addonPricesRow.holds Try.pinned (OpenSpec.ofChange addonPricesWrong)

/-- 'lotterylaw40.AddonSums': WHATEVER THE INPUT: true; the input reads as it did. -/
def addonSumsSpec : ChangeSpec := { name := "addonSums", fn := fun _ => fun
  | [d] => { results := [.lit (.bool true)], args := [d] }
  | _ => none }
def addonSumsRow : OpenClaim := { program := "ytdbkkbeelemnhaa", sum := "0053e738d778d72288648c71bd417044e9f0eacce6a8c99fc49cddd46776b82b", func := "lottery/lotterylaw40.AddonSums", spec := "addonSums", unfollowed := true, recurses := true, apart := false }
def AddonSumsSaid : Prop := addonSumsRow.holds Try.pinned (OpenSpec.ofChange addonSumsSpec)

/-- ITS FALSE NEIGHBOUR: 'it returns false'. Refute it at one input. -/
def addonSumsWrong : ChangeSpec := { name := "addonSums", fn := fun _ => fun
  | [d] => { results := [.lit (.bool false)], args := [d] }
  | _ => none }
def AddonSumsWrongFalsely : Prop := addonSumsRow.holds Try.pinned (OpenSpec.ofChange addonSumsWrong)

/-- 'lotterylaw40.AddonSerials': WHATEVER THE INPUT: true; the input reads as it did. -/
def addonSerialsSpec : ChangeSpec := { name := "addonSerials", fn := fun _ => fun
  | [d1, d2, d3, d4] => { results := [.lit (.bool true)], args := [d1, d2, d3, d4] }
  | _ => none }
def addonSerialsRow : OpenClaim := { program := "ytdbkkbeelemnhaa", sum := "0053e738d778d72288648c71bd417044e9f0eacce6a8c99fc49cddd46776b82b", func := "lottery/lotterylaw40.AddonSerials", spec := "addonSerials", unfollowed := true, recurses := true, apart := false }
def AddonSerialsSaid : Prop := addonSerialsRow.holds Try.pinned (OpenSpec.ofChange addonSerialsSpec)

/-- ITS FALSE NEIGHBOUR: 'it returns false'. Refute it at one input. -/
def addonSerialsWrong : ChangeSpec := { name := "addonSerials", fn := fun _ => fun
  | [d1, d2, d3, d4] => { results := [.lit (.bool false)], args := [d1, d2, d3, d4] }
  | _ => none }
def AddonSerialsWrongFalsely : Prop := addonSerialsRow.holds Try.pinned (OpenSpec.ofChange addonSerialsWrong)

/-- 'lotterylaw12.RulecheckSame': WHATEVER THE INPUT: true; the input reads as it did. -/
def rulecheckSameSpec : ChangeSpec := { name := "rulecheckSame", fn := fun _ => fun
  | [d1, d2] => { results := [.lit (.bool true)], args := [d1, d2] }
  | _ => none }
def rulecheckSameRow : OpenClaim := { program := "ytdbkkbeelemnhaa", sum := "0053e738d778d72288648c71bd417044e9f0eacce6a8c99fc49cddd46776b82b", func := "lottery/lotterylaw12.RulecheckSame", spec := "rulecheckSame", unfollowed := true, recurses := true, apart := false }
def RulecheckSameSaid : Prop := rulecheckSameRow.holds Try.pinned (OpenSpec.ofChange rulecheckSameSpec)

/-- ITS FALSE NEIGHBOUR: 'it returns false'. Refute it at one input. -/
def rulecheckSameWrong : ChangeSpec := { name := "rulecheckSame", fn := fun _ => fun
  | [d1, d2] => { results := [.lit (.bool false)], args := [d1, d2] }
  | _ => none }
def RulecheckSameWrongFalsely : Prop := rulecheckSameRow.holds Try.pinned (OpenSpec.ofChange rulecheckSameWrong)

/-- 'lotterylaw40.AddonDraws': WHATEVER THE INPUT: true; the input reads as it did. -/
def addonDrawsSpec : ChangeSpec := { name := "addonDraws", fn := fun _ => fun
  | [d1, d2] => { results := [.lit (.bool true)], args := [d1, d2] }
  | _ => none }
def addonDrawsRow : OpenClaim := { program := "ytdbkkbeelemnhaa", sum := "0053e738d778d72288648c71bd417044e9f0eacce6a8c99fc49cddd46776b82b", func := "lottery/lotterylaw40.AddonDraws", spec := "addonDraws", unfollowed := true, recurses := true, apart := false }
def AddonDrawsSaid : Prop := addonDrawsRow.holds Try.pinned (OpenSpec.ofChange addonDrawsSpec)

/-- ITS FALSE NEIGHBOUR: 'it returns false'. Refute it at one input. -/
def addonDrawsWrong : ChangeSpec := { name := "addonDraws", fn := fun _ => fun
  | [d1, d2] => { results := [.lit (.bool false)], args := [d1, d2] }
  | _ => none }
def AddonDrawsWrongFalsely : Prop := addonDrawsRow.holds Try.pinned (OpenSpec.ofChange addonDrawsWrong)

/-- 'lotterylaw40.AddonFits': WHATEVER THE INPUT: true; the input reads as it did. -/
def addonFitsSpec : ChangeSpec := { name := "addonFits", fn := fun _ => fun
  | [d1, d2] => { results := [.lit (.bool true)], args := [d1, d2] }
  | _ => none }
def addonFitsRow : OpenClaim := { program := "ytdbkkbeelemnhaa", sum := "0053e738d778d72288648c71bd417044e9f0eacce6a8c99fc49cddd46776b82b", func := "lottery/lotterylaw40.AddonFits", spec := "addonFits", unfollowed := true, recurses := true, apart := false }
def AddonFitsSaid : Prop := addonFitsRow.holds Try.pinned (OpenSpec.ofChange addonFitsSpec)

/-- ITS FALSE NEIGHBOUR: 'it returns false'. Refute it at one input. -/
def addonFitsWrong : ChangeSpec := { name := "addonFits", fn := fun _ => fun
  | [d1, d2] => { results := [.lit (.bool false)], args := [d1, d2] }
  | _ => none }
def AddonFitsWrongFalsely : Prop := addonFitsRow.holds Try.pinned (OpenSpec.ofChange addonFitsWrong)

/-- 'lotterylaw40.AddonPays': WHATEVER THE INPUT: true; the input reads as it did. -/
def addonPaysSpec : ChangeSpec := { name := "addonPays", fn := fun _ => fun
  | [d1, d2, d3] => { results := [.lit (.bool true)], args := [d1, d2, d3] }
  | _ => none }
def addonPaysRow : OpenClaim := { program := "ytdbkkbeelemnhaa", sum := "0053e738d778d72288648c71bd417044e9f0eacce6a8c99fc49cddd46776b82b", func := "lottery/lotterylaw40.AddonPays", spec := "addonPays", unfollowed := true, recurses := true, apart := false }
def AddonPaysSaid : Prop := addonPaysRow.holds Try.pinned (OpenSpec.ofChange addonPaysSpec)

/-- ITS FALSE NEIGHBOUR: 'it returns false'. Refute it at one input. -/
def addonPaysWrong : ChangeSpec := { name := "addonPays", fn := fun _ => fun
  | [d1, d2, d3] => { results := [.lit (.bool false)], args := [d1, d2, d3] }
  | _ => none }
def AddonPaysWrongFalsely : Prop := addonPaysRow.holds Try.pinned (OpenSpec.ofChange addonPaysWrong)

/- THE SECOND FORM. 'bulk': how many values and letters a reading holds, each counted each time it is reached (what is shared counts as often as it is met; a slice's spare places count too). A statement '..UptoSaid' is the law's where the arguments, and the package variables that the reading takes, are together of bulk at most 1048576: NARROWER than '..Said'. Prove '..Said' where nothing that the law and all that it calls make is longer than what came in: it says more and counts as full. Else prove '..UptoSaid'. A law counts once. -/
mutual
def uptoBulk {H : Type} : DataW H → Nat
  | .lit (.string bytes) => bytes.length + 1
  | .lit _ => 1
  | .nil => 1
  | .ptr d => uptoBulk d + 1
  | .slice elems spare => uptoBulkAll elems + uptoBulkAll spare + 1
  | .agg parts => uptoBulkAll parts + 1
  | .iface _ d => uptoBulk d + 1
  | .map entries => uptoBulkEntries entries + 1
  | .held _ => 1
def uptoBulkAll {H : Type} : List (DataW H) → Nat
  | [] => 0
  | d :: r => uptoBulk d + uptoBulkAll r
def uptoBulkEntries {H : Type} : List (Lit × DataW H) → Nat
  | [] => 0
  | x :: r => uptoBulkEntry x + uptoBulkEntries r
def uptoBulkEntry {H : Type} : Lit × DataW H → Nat
  | (.string bytes, d) => bytes.length + uptoBulk d + 1
  | (_, d) => uptoBulk d + 1
 end
def uptoSmall : (H : Type) → List (DataW H) → Bool := fun _ ds => decide (uptoBulkAll ds ≤ 1048576)
def OpenSpec.upto (s : _root_.Go.ChangeSpec) : _root_.Go.OpenSpec := { _root_.Go.OpenSpec.ofChange s with cond := some uptoSmall }

/-- 'lotterylaw40.AddonHits', WHERE WHAT IT READS IS OF BULK AT MOST 1048576: true; the input reads as it did. -/
def addonHitsUptoRow : OpenClaim := { program := "ytdbkkbeelemnhaa", sum := "0053e738d778d72288648c71bd417044e9f0eacce6a8c99fc49cddd46776b82b", func := "lottery/lotterylaw40.AddonHits", spec := "addonHits", apart := false, narrowed := true }
def AddonHitsUptoSaid : Prop := addonHitsUptoRow.holds Try.pinned (OpenSpec.upto addonHitsSpec)

/-- 'lotterylaw12.RulecheckNames', WHERE WHAT IT READS IS OF BULK AT MOST 1048576: true; the input reads as it did. -/
def rulecheckNamesUptoRow : OpenClaim := { program := "ytdbkkbeelemnhaa", sum := "0053e738d778d72288648c71bd417044e9f0eacce6a8c99fc49cddd46776b82b", func := "lottery/lotterylaw12.RulecheckNames", spec := "rulecheckNames", unfollowed := true, recurses := true, apart := false, narrowed := true }
def RulecheckNamesUptoSaid : Prop := rulecheckNamesUptoRow.holds Try.pinned (OpenSpec.upto rulecheckNamesSpec)

/-- 'lotterylaw12.RulecheckAddons', WHERE WHAT IT READS IS OF BULK AT MOST 1048576: true; the input reads as it did. -/
def rulecheckAddonsUptoRow : OpenClaim := { program := "ytdbkkbeelemnhaa", sum := "0053e738d778d72288648c71bd417044e9f0eacce6a8c99fc49cddd46776b82b", func := "lottery/lotterylaw12.RulecheckAddons", spec := "rulecheckAddons", unfollowed := true, recurses := true, apart := false, narrowed := true }
def RulecheckAddonsUptoSaid : Prop := rulecheckAddonsUptoRow.holds Try.pinned (OpenSpec.upto rulecheckAddonsSpec)

/-- 'lotterylaw40.AddonFactors', WHERE WHAT IT READS IS OF BULK AT MOST 1048576: true; the input reads as it did. -/
def addonFactorsUptoRow : OpenClaim := { program := "ytdbkkbeelemnhaa", sum := "0053e738d778d72288648c71bd417044e9f0eacce6a8c99fc49cddd46776b82b", func := "lottery/lotterylaw40.AddonFactors", spec := "addonFactors", unfollowed := true, recurses := true, apart := false, narrowed := true }
def AddonFactorsUptoSaid : Prop := addonFactorsUptoRow.holds Try.pinned (OpenSpec.upto addonFactorsSpec)

/-- 'lotterylaw40.AddonPrices', WHERE WHAT IT READS IS OF BULK AT MOST 1048576: true; the input reads as it did. -/
def addonPricesUptoRow : OpenClaim := { program := "ytdbkkbeelemnhaa", sum := "0053e738d778d72288648c71bd417044e9f0eacce6a8c99fc49cddd46776b82b", func := "lottery/lotterylaw40.AddonPrices", spec := "addonPrices", unfollowed := true, recurses := true, apart := false, narrowed := true }
def AddonPricesUptoSaid : Prop := addonPricesUptoRow.holds Try.pinned (OpenSpec.upto addonPricesSpec)

/-- 'lotterylaw40.AddonSums', WHERE WHAT IT READS IS OF BULK AT MOST 1048576: true; the input reads as it did. -/
def addonSumsUptoRow : OpenClaim := { program := "ytdbkkbeelemnhaa", sum := "0053e738d778d72288648c71bd417044e9f0eacce6a8c99fc49cddd46776b82b", func := "lottery/lotterylaw40.AddonSums", spec := "addonSums", unfollowed := true, recurses := true, apart := false, narrowed := true }
def AddonSumsUptoSaid : Prop := addonSumsUptoRow.holds Try.pinned (OpenSpec.upto addonSumsSpec)

/-- 'lotterylaw40.AddonSerials', WHERE WHAT IT READS IS OF BULK AT MOST 1048576: true; the input reads as it did. -/
def addonSerialsUptoRow : OpenClaim := { program := "ytdbkkbeelemnhaa", sum := "0053e738d778d72288648c71bd417044e9f0eacce6a8c99fc49cddd46776b82b", func := "lottery/lotterylaw40.AddonSerials", spec := "addonSerials", unfollowed := true, recurses := true, apart := false, narrowed := true }
def AddonSerialsUptoSaid : Prop := addonSerialsUptoRow.holds Try.pinned (OpenSpec.upto addonSerialsSpec)

/-- 'lotterylaw12.RulecheckSame', WHERE WHAT IT READS IS OF BULK AT MOST 1048576: true; the input reads as it did. -/
def rulecheckSameUptoRow : OpenClaim := { program := "ytdbkkbeelemnhaa", sum := "0053e738d778d72288648c71bd417044e9f0eacce6a8c99fc49cddd46776b82b", func := "lottery/lotterylaw12.RulecheckSame", spec := "rulecheckSame", unfollowed := true, recurses := true, apart := false, narrowed := true }
def RulecheckSameUptoSaid : Prop := rulecheckSameUptoRow.holds Try.pinned (OpenSpec.upto rulecheckSameSpec)

/-- 'lotterylaw40.AddonDraws', WHERE WHAT IT READS IS OF BULK AT MOST 1048576: true; the input reads as it did. -/
def addonDrawsUptoRow : OpenClaim := { program := "ytdbkkbeelemnhaa", sum := "0053e738d778d72288648c71bd417044e9f0eacce6a8c99fc49cddd46776b82b", func := "lottery/lotterylaw40.AddonDraws", spec := "addonDraws", unfollowed := true, recurses := true, apart := false, narrowed := true }
def AddonDrawsUptoSaid : Prop := addonDrawsUptoRow.holds Try.pinned (OpenSpec.upto addonDrawsSpec)

/-- 'lotterylaw40.AddonFits', WHERE WHAT IT READS IS OF BULK AT MOST 1048576: true; the input reads as it did. -/
def addonFitsUptoRow : OpenClaim := { program := "ytdbkkbeelemnhaa", sum := "0053e738d778d72288648c71bd417044e9f0eacce6a8c99fc49cddd46776b82b", func := "lottery/lotterylaw40.AddonFits", spec := "addonFits", unfollowed := true, recurses := true, apart := false, narrowed := true }
def AddonFitsUptoSaid : Prop := addonFitsUptoRow.holds Try.pinned (OpenSpec.upto addonFitsSpec)

/-- 'lotterylaw40.AddonPays', WHERE WHAT IT READS IS OF BULK AT MOST 1048576: true; the input reads as it did. -/
def addonPaysUptoRow : OpenClaim := { program := "ytdbkkbeelemnhaa", sum := "0053e738d778d72288648c71bd417044e9f0eacce6a8c99fc49cddd46776b82b", func := "lottery/lotterylaw40.AddonPays", spec := "addonPays", unfollowed := true, recurses := true, apart := false, narrowed := true }
def AddonPaysUptoSaid : Prop := addonPaysUptoRow.holds Try.pinned (OpenSpec.upto addonPaysSpec)

end Rows
end Go.Proofs.Ytdbkkbeelemnhaa
