/-
  No cell of these rows narrows 'for every input' (looked for: loops, veiled, ifaces, maps, wideKeys, modest, calm, conditions, laid).
  DERIVED. THE GIVEN ROWS OF THIS SEAT. 5 by the template 'for every input the law returns true; each argument reads behind the call as it read before'; 0 by the template 'total and deterministic' (their statements: YtijdlggoaianbaaTotals.lean).
  GIVEN WITH THE SEED: the statements are not yours to turn. If you find one false, say at which input.
  Laid BY PROGRAM, IN A SANDBOX (cutbox-rows.mjs): the forced cells as the released guide's own fill.sh prints them over the translation 1bef7311b6ae6c00… (all of the seat's roots in one cut). By AI agents, Wed Nov 11 2026. No macro, syntax, notation, axiom, sorry.
-/
import Derived.Test.YtijdlggoaianbaaChecked
import GoSem.Claim
import GoSem.ClaimJoined
import GoSem.ClaimMapViews
import Derived.JoinedTies
import Derived.KernelRfl
namespace Go.Proofs.Ytijdlggoaianbaa
/- THE CELL 'sum', in the pinned program and in every row, IS THE sha256 OF THE DUMP (.gsa) THAT YtijdlggoaianbaaProg.lean LOADS. Nothing in Lean hashes anything: it is a label: what it is worth is what the hold of that sum in a sandbox is worth. -/
noncomputable def Try.pinned : Pinned := { name := "ytijdlggoaianbaa", sum := "1bef7311b6ae6c00b6bac36b93a59c3076e84103fdaf5868c7597a7c83381214", checked := Try.checked }
namespace Rows
def none {H : Type} : Left H := { results := [], args := [] }

/-- 'lotterytop.TopShares': WHATEVER THE INPUT: true; the input reads as it did. -/
def topSharesSpec : ChangeSpec := { name := "topShares", fn := fun _ => fun
  | [d1, d2, d3] => { results := [.lit (.bool true)], args := [d1, d2, d3] }
  | _ => none }
def topSharesRow : OpenClaim := { program := "ytijdlggoaianbaa", sum := "1bef7311b6ae6c00b6bac36b93a59c3076e84103fdaf5868c7597a7c83381214", func := "lottery/lotterytop.TopShares", spec := "topShares", inPlace := ["internal/reflectlite.ValueOf", "internal/reflectlite.Swapper", "(internal/reflectlite.Value).Len"], unfollowed := true, recurses := true, named := ["math/bits.divideError", "math/bits.overflowError"], apart := false }
def TopSharesSaid : Prop := topSharesRow.holds Try.pinned (OpenSpec.ofChange topSharesSpec)

/-- ITS FALSE NEIGHBOUR: 'it returns false'. Refute it at one input. -/
def topSharesWrong : ChangeSpec := { name := "topShares", fn := fun _ => fun
  | [d1, d2, d3] => { results := [.lit (.bool false)], args := [d1, d2, d3] }
  | _ => none }
def TopSharesWrongFalsely : Prop := topSharesRow.holds Try.pinned (OpenSpec.ofChange topSharesWrong)

/-- 'lotterylaw24.ScheduleOrders': WHATEVER THE INPUT: true; the input reads as it did. -/
def scheduleOrdersSpec : ChangeSpec := { name := "scheduleOrders", fn := fun _ => fun
  | [d1, d2] => { results := [.lit (.bool true)], args := [d1, d2] }
  | _ => none }
def scheduleOrdersRow : OpenClaim := { program := "ytijdlggoaianbaa", sum := "1bef7311b6ae6c00b6bac36b93a59c3076e84103fdaf5868c7597a7c83381214", func := "lottery/lotterylaw24.ScheduleOrders", spec := "scheduleOrders", unfollowed := true, recurses := true, apart := false }
def ScheduleOrdersSaid : Prop := scheduleOrdersRow.holds Try.pinned (OpenSpec.ofChange scheduleOrdersSpec)

/-- ITS FALSE NEIGHBOUR: 'it returns false'. Refute it at one input. -/
def scheduleOrdersWrong : ChangeSpec := { name := "scheduleOrders", fn := fun _ => fun
  | [d1, d2] => { results := [.lit (.bool false)], args := [d1, d2] }
  | _ => none }
def ScheduleOrdersWrongFalsely : Prop := scheduleOrdersRow.holds Try.pinned (OpenSpec.ofChange scheduleOrdersWrong)

/-- 'lotterylaw24.ScheduleExpires': WHATEVER THE INPUT: true; the input reads as it did. -/
def scheduleExpiresSpec : ChangeSpec := { name := "scheduleExpires", fn := fun _ => fun
  | [d1, d2] => { results := [.lit (.bool true)], args := [d1, d2] }
  | _ => none }
def scheduleExpiresRow : OpenClaim := { program := "ytijdlggoaianbaa", sum := "1bef7311b6ae6c00b6bac36b93a59c3076e84103fdaf5868c7597a7c83381214", func := "lottery/lotterylaw24.ScheduleExpires", spec := "scheduleExpires", unfollowed := true, recurses := true, apart := false }
def ScheduleExpiresSaid : Prop := scheduleExpiresRow.holds Try.pinned (OpenSpec.ofChange scheduleExpiresSpec)

/-- ITS FALSE NEIGHBOUR: 'it returns false'. Refute it at one input. -/
def scheduleExpiresWrong : ChangeSpec := { name := "scheduleExpires", fn := fun _ => fun
  | [d1, d2] => { results := [.lit (.bool false)], args := [d1, d2] }
  | _ => none }
def ScheduleExpiresWrongFalsely : Prop := scheduleExpiresRow.holds Try.pinned (OpenSpec.ofChange scheduleExpiresWrong)

/-- 'lotterylaw24.ScheduleHolds': WHATEVER THE INPUT: true; the input reads as it did. -/
def scheduleHoldsSpec : ChangeSpec := { name := "scheduleHolds", fn := fun _ => fun
  | [d1, d2] => { results := [.lit (.bool true)], args := [d1, d2] }
  | _ => none }
def scheduleHoldsRow : OpenClaim := { program := "ytijdlggoaianbaa", sum := "1bef7311b6ae6c00b6bac36b93a59c3076e84103fdaf5868c7597a7c83381214", func := "lottery/lotterylaw24.ScheduleHolds", spec := "scheduleHolds", unfollowed := true, recurses := true, apart := false }
def ScheduleHoldsSaid : Prop := scheduleHoldsRow.holds Try.pinned (OpenSpec.ofChange scheduleHoldsSpec)

/-- ITS FALSE NEIGHBOUR: 'it returns false'. Refute it at one input. -/
def scheduleHoldsWrong : ChangeSpec := { name := "scheduleHolds", fn := fun _ => fun
  | [d1, d2] => { results := [.lit (.bool false)], args := [d1, d2] }
  | _ => none }
def ScheduleHoldsWrongFalsely : Prop := scheduleHoldsRow.holds Try.pinned (OpenSpec.ofChange scheduleHoldsWrong)

/-- 'lotterylaw24.ScheduleGames': WHATEVER THE INPUT: true; the input reads as it did. -/
def scheduleGamesSpec : ChangeSpec := { name := "scheduleGames", fn := fun _ => fun
  | [d1, d2] => { results := [.lit (.bool true)], args := [d1, d2] }
  | _ => none }
def scheduleGamesRow : OpenClaim := { program := "ytijdlggoaianbaa", sum := "1bef7311b6ae6c00b6bac36b93a59c3076e84103fdaf5868c7597a7c83381214", func := "lottery/lotterylaw24.ScheduleGames", spec := "scheduleGames", unfollowed := true, recurses := true, apart := false }
def ScheduleGamesSaid : Prop := scheduleGamesRow.holds Try.pinned (OpenSpec.ofChange scheduleGamesSpec)

/-- ITS FALSE NEIGHBOUR: 'it returns false'. Refute it at one input. -/
def scheduleGamesWrong : ChangeSpec := { name := "scheduleGames", fn := fun _ => fun
  | [d1, d2] => { results := [.lit (.bool false)], args := [d1, d2] }
  | _ => none }
def ScheduleGamesWrongFalsely : Prop := scheduleGamesRow.holds Try.pinned (OpenSpec.ofChange scheduleGamesWrong)

/- THE SECOND FORM. 'bulk': how many values and letters a reading holds, each counted each time it is reached (what is shared counts as often as it is met; a slice's spare places count too). A statement '..UptoSaid' is the law's where the arguments, and the package variables that the reading takes, are together of bulk at most 1048576: NARROWER than '..Said'. Prove '..Said' where nothing that the law and all that it calls make is longer than what came in: it says more and counts as full. Else prove '..UptoSaid'. A law counts once. -/
mutual
def uptoBulk {H : Type} : DataW H → Nat
  | .lit (.string bytes) => bytes.length + 1
  | .lit _ => 1
  | .nil => 1
  | .ptr d => uptoBulk d + 1
  | .slice elems spare => uptoBulkAll elems + uptoBulkAll spare + 1
  | .agg parts => uptoBulkAll parts + 1
  | .iface _ d => uptoBulk d + 1
  | .map entries => uptoBulkEntries entries + 1
  | .held _ => 1
def uptoBulkAll {H : Type} : List (DataW H) → Nat
  | [] => 0
  | d :: r => uptoBulk d + uptoBulkAll r
def uptoBulkEntries {H : Type} : List (Lit × DataW H) → Nat
  | [] => 0
  | x :: r => uptoBulkEntry x + uptoBulkEntries r
def uptoBulkEntry {H : Type} : Lit × DataW H → Nat
  | (.string bytes, d) => bytes.length + uptoBulk d + 1
  | (_, d) => uptoBulk d + 1
 end
def uptoSmall : (H : Type) → List (DataW H) → Bool := fun _ ds => decide (uptoBulkAll ds ≤ 1048576)
def OpenSpec.upto (s : _root_.Go.ChangeSpec) : _root_.Go.OpenSpec := { _root_.Go.OpenSpec.ofChange s with cond := some uptoSmall }

/-- 'lotterytop.TopShares', WHERE WHAT IT READS IS OF BULK AT MOST 1048576: true; the input reads as it did. -/
def topSharesUptoRow : OpenClaim := { program := "ytijdlggoaianbaa", sum := "1bef7311b6ae6c00b6bac36b93a59c3076e84103fdaf5868c7597a7c83381214", func := "lottery/lotterytop.TopShares", spec := "topShares", inPlace := ["internal/reflectlite.ValueOf", "internal/reflectlite.Swapper", "(internal/reflectlite.Value).Len"], unfollowed := true, recurses := true, named := ["math/bits.divideError", "math/bits.overflowError"], apart := false, narrowed := true }
def TopSharesUptoSaid : Prop := topSharesUptoRow.holds Try.pinned (OpenSpec.upto topSharesSpec)

/-- 'lotterylaw24.ScheduleOrders', WHERE WHAT IT READS IS OF BULK AT MOST 1048576: true; the input reads as it did. -/
def scheduleOrdersUptoRow : OpenClaim := { program := "ytijdlggoaianbaa", sum := "1bef7311b6ae6c00b6bac36b93a59c3076e84103fdaf5868c7597a7c83381214", func := "lottery/lotterylaw24.ScheduleOrders", spec := "scheduleOrders", unfollowed := true, recurses := true, apart := false, narrowed := true }
def ScheduleOrdersUptoSaid : Prop := scheduleOrdersUptoRow.holds Try.pinned (OpenSpec.upto scheduleOrdersSpec)

/-- 'lotterylaw24.ScheduleExpires', WHERE WHAT IT READS IS OF BULK AT MOST 1048576: true; the input reads as it did. -/
def scheduleExpiresUptoRow : OpenClaim := { program := "ytijdlggoaianbaa", sum := "1bef7311b6ae6c00b6bac36b93a59c3076e84103fdaf5868c7597a7c83381214", func := "lottery/lotterylaw24.ScheduleExpires", spec := "scheduleExpires", unfollowed := true, recurses := true, apart := false, narrowed := true }
def ScheduleExpiresUptoSaid : Prop := scheduleExpiresUptoRow.holds Try.pinned (OpenSpec.upto scheduleExpiresSpec)

/-- 'lotterylaw24.ScheduleHolds', WHERE WHAT IT READS IS OF BULK AT MOST 1048576: true; the input reads as it did. -/
def scheduleHoldsUptoRow : OpenClaim := { program := "ytijdlggoaianbaa", sum := "1bef7311b6ae6c00b6bac36b93a59c3076e84103fdaf5868c7597a7c83381214", func := "lottery/lotterylaw24.ScheduleHolds", spec := "scheduleHolds", unfollowed := true, recurses := true, apart := false, narrowed := true }
def ScheduleHoldsUptoSaid : Prop := scheduleHoldsUptoRow.holds Try.pinned (OpenSpec.upto scheduleHoldsSpec)

/-- 'lotterylaw24.ScheduleGames', WHERE WHAT IT READS IS OF BULK AT MOST 1048576: true; the input reads as it did. -/
def scheduleGamesUptoRow : OpenClaim := { program := "ytijdlggoaianbaa", sum := "1bef7311b6ae6c00b6bac36b93a59c3076e84103fdaf5868c7597a7c83381214", func := "lottery/lotterylaw24.ScheduleGames", spec := "scheduleGames", unfollowed := true, recurses := true, apart := false, narrowed := true }
def ScheduleGamesUptoSaid : Prop := scheduleGamesUptoRow.holds Try.pinned (OpenSpec.upto scheduleGamesSpec)

end Rows
end Go.Proofs.Ytijdlggoaianbaa
