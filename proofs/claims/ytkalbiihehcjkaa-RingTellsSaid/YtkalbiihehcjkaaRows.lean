/-
  No cell of these rows narrows 'for every input' (looked for: loops, veiled, ifaces, maps, wideKeys, modest, calm, conditions, laid).
  DERIVED. THE GIVEN ROWS OF THIS SEAT. 6 by the template 'for every input the law returns true; each argument reads behind the call as it read before'; 0 by the template 'total and deterministic' (their statements: YtkalbiihehcjkaaTotals.lean).
  GIVEN WITH THE SEED: the statements are not yours to turn. If you find one false, say at which input.
  Laid BY PROGRAM, IN A SANDBOX (cutbox-rows.mjs): the forced cells as the released guide's own fill.sh prints them over the translation dc5bb48d73f09039… (all of the seat's roots in one cut). By AI agents, Wed Nov 11 2026. No macro, syntax, notation, axiom, sorry.
-/
import Derived.Test.YtkalbiihehcjkaaChecked
import GoSem.Claim
import GoSem.ClaimJoined
import GoSem.ClaimMapViews
import Derived.JoinedTies
import Derived.KernelRfl
namespace Go.Proofs.Ytkalbiihehcjkaa
/- THE CELL 'sum', in the pinned program and in every row, IS THE sha256 OF THE DUMP (.gsa) THAT YtkalbiihehcjkaaProg.lean LOADS. Nothing in Lean hashes anything: it is a label: what it is worth is what the hold of that sum in a sandbox is worth. -/
noncomputable def Try.pinned : Pinned := { name := "ytkalbiihehcjkaa", sum := "dc5bb48d73f09039cb3d54c53d2b66898ce175b90db986fb8f0b81574ee1867c", checked := Try.checked }
namespace Rows
def none {H : Type} : Left H := { results := [], args := [] }

/-- 'waybilllaw12.RingOrder': WHATEVER THE INPUT: true; the input reads as it did. -/
def ringOrderSpec : ChangeSpec := { name := "ringOrder", fn := fun _ => fun
  | [d1, d2] => { results := [.lit (.bool true)], args := [d1, d2] }
  | _ => none }
def ringOrderRow : OpenClaim := { program := "ytkalbiihehcjkaa", sum := "dc5bb48d73f09039cb3d54c53d2b66898ce175b90db986fb8f0b81574ee1867c", func := "waybill/waybilllaw12.RingOrder", spec := "ringOrder", unfollowed := true, recurses := true, apart := false }
def RingOrderSaid : Prop := ringOrderRow.holds Try.pinned (OpenSpec.ofChange ringOrderSpec)

/-- ITS FALSE NEIGHBOUR: 'it returns false'. Refute it at one input. -/
def ringOrderWrong : ChangeSpec := { name := "ringOrder", fn := fun _ => fun
  | [d1, d2] => { results := [.lit (.bool false)], args := [d1, d2] }
  | _ => none }
def RingOrderWrongFalsely : Prop := ringOrderRow.holds Try.pinned (OpenSpec.ofChange ringOrderWrong)

/-- 'waybilllaw12.RingOwn': WHATEVER THE INPUT: true; the input reads as it did. -/
def ringOwnSpec : ChangeSpec := { name := "ringOwn", fn := fun _ => fun
  | [d1, d2] => { results := [.lit (.bool true)], args := [d1, d2] }
  | _ => none }
def ringOwnRow : OpenClaim := { program := "ytkalbiihehcjkaa", sum := "dc5bb48d73f09039cb3d54c53d2b66898ce175b90db986fb8f0b81574ee1867c", func := "waybill/waybilllaw12.RingOwn", spec := "ringOwn", unfollowed := true, recurses := true, apart := false }
def RingOwnSaid : Prop := ringOwnRow.holds Try.pinned (OpenSpec.ofChange ringOwnSpec)

/-- ITS FALSE NEIGHBOUR: 'it returns false'. Refute it at one input. -/
def ringOwnWrong : ChangeSpec := { name := "ringOwn", fn := fun _ => fun
  | [d1, d2] => { results := [.lit (.bool false)], args := [d1, d2] }
  | _ => none }
def RingOwnWrongFalsely : Prop := ringOwnRow.holds Try.pinned (OpenSpec.ofChange ringOwnWrong)

/-- 'waybilllaw12.RingLeaves': WHATEVER THE INPUT: true; the input reads as it did. -/
def ringLeavesSpec : ChangeSpec := { name := "ringLeaves", fn := fun _ => fun
  | [d1, d2, d3, d4] => { results := [.lit (.bool true)], args := [d1, d2, d3, d4] }
  | _ => none }
def ringLeavesRow : OpenClaim := { program := "ytkalbiihehcjkaa", sum := "dc5bb48d73f09039cb3d54c53d2b66898ce175b90db986fb8f0b81574ee1867c", func := "waybill/waybilllaw12.RingLeaves", spec := "ringLeaves", unfollowed := true, recurses := true, apart := false }
def RingLeavesSaid : Prop := ringLeavesRow.holds Try.pinned (OpenSpec.ofChange ringLeavesSpec)

/-- ITS FALSE NEIGHBOUR: 'it returns false'. Refute it at one input. -/
def ringLeavesWrong : ChangeSpec := { name := "ringLeaves", fn := fun _ => fun
  | [d1, d2, d3, d4] => { results := [.lit (.bool false)], args := [d1, d2, d3, d4] }
  | _ => none }
def RingLeavesWrongFalsely : Prop := ringLeavesRow.holds Try.pinned (OpenSpec.ofChange ringLeavesWrong)

/-- 'waybilllaw12.RingWalks': WHATEVER THE INPUT: true; the input reads as it did. -/
def ringWalksSpec : ChangeSpec := { name := "ringWalks", fn := fun _ => fun
  | [d1, d2] => { results := [.lit (.bool true)], args := [d1, d2] }
  | _ => none }
def ringWalksRow : OpenClaim := { program := "ytkalbiihehcjkaa", sum := "dc5bb48d73f09039cb3d54c53d2b66898ce175b90db986fb8f0b81574ee1867c", func := "waybill/waybilllaw12.RingWalks", spec := "ringWalks", unfollowed := true, recurses := true, apart := false }
def RingWalksSaid : Prop := ringWalksRow.holds Try.pinned (OpenSpec.ofChange ringWalksSpec)

/-- ITS FALSE NEIGHBOUR: 'it returns false'. Refute it at one input. -/
def ringWalksWrong : ChangeSpec := { name := "ringWalks", fn := fun _ => fun
  | [d1, d2] => { results := [.lit (.bool false)], args := [d1, d2] }
  | _ => none }
def RingWalksWrongFalsely : Prop := ringWalksRow.holds Try.pinned (OpenSpec.ofChange ringWalksWrong)

/-- 'waybilllaw12.RingTells': WHATEVER THE INPUT: true; the input reads as it did. -/
def ringTellsSpec : ChangeSpec := { name := "ringTells", fn := fun _ => fun
  | [d1, d2, d3, d4, d5] => { results := [.lit (.bool true)], args := [d1, d2, d3, d4, d5] }
  | _ => none }
def ringTellsRow : OpenClaim := { program := "ytkalbiihehcjkaa", sum := "dc5bb48d73f09039cb3d54c53d2b66898ce175b90db986fb8f0b81574ee1867c", func := "waybill/waybilllaw12.RingTells", spec := "ringTells", unfollowed := true, recurses := true, apart := false }
def RingTellsSaid : Prop := ringTellsRow.holds Try.pinned (OpenSpec.ofChange ringTellsSpec)

/-- ITS FALSE NEIGHBOUR: 'it returns false'. Refute it at one input. -/
def ringTellsWrong : ChangeSpec := { name := "ringTells", fn := fun _ => fun
  | [d1, d2, d3, d4, d5] => { results := [.lit (.bool false)], args := [d1, d2, d3, d4, d5] }
  | _ => none }
def RingTellsWrongFalsely : Prop := ringTellsRow.holds Try.pinned (OpenSpec.ofChange ringTellsWrong)

/-- 'waybilllaw12.RingShares': WHATEVER THE INPUT: true; the input reads as it did. -/
def ringSharesSpec : ChangeSpec := { name := "ringShares", fn := fun _ => fun
  | [d1, d2, d3] => { results := [.lit (.bool true)], args := [d1, d2, d3] }
  | _ => none }
def ringSharesRow : OpenClaim := { program := "ytkalbiihehcjkaa", sum := "dc5bb48d73f09039cb3d54c53d2b66898ce175b90db986fb8f0b81574ee1867c", func := "waybill/waybilllaw12.RingShares", spec := "ringShares", unfollowed := true, recurses := true, apart := false }
def RingSharesSaid : Prop := ringSharesRow.holds Try.pinned (OpenSpec.ofChange ringSharesSpec)

/-- ITS FALSE NEIGHBOUR: 'it returns false'. Refute it at one input. -/
def ringSharesWrong : ChangeSpec := { name := "ringShares", fn := fun _ => fun
  | [d1, d2, d3] => { results := [.lit (.bool false)], args := [d1, d2, d3] }
  | _ => none }
def RingSharesWrongFalsely : Prop := ringSharesRow.holds Try.pinned (OpenSpec.ofChange ringSharesWrong)

/- THE SECOND FORM. 'bulk': how many values and letters a reading holds, each counted each time it is reached (what is shared counts as often as it is met; a slice's spare places count too). A statement '..UptoSaid' is the law's where the arguments, and the package variables that the reading takes, are together of bulk at most 1048576: NARROWER than '..Said'. Prove '..Said' where nothing that the law and all that it calls make is longer than what came in: it says more and counts as full. Else prove '..UptoSaid'. A law counts once. -/
mutual
def uptoBulk {H : Type} : DataW H → Nat
  | .lit (.string bytes) => bytes.length + 1
  | .lit _ => 1
  | .nil => 1
  | .ptr d => uptoBulk d + 1
  | .slice elems spare => uptoBulkAll elems + uptoBulkAll spare + 1
  | .agg parts => uptoBulkAll parts + 1
  | .iface _ d => uptoBulk d + 1
  | .map entries => uptoBulkEntries entries + 1
  | .held _ => 1
def uptoBulkAll {H : Type} : List (DataW H) → Nat
  | [] => 0
  | d :: r => uptoBulk d + uptoBulkAll r
def uptoBulkEntries {H : Type} : List (Lit × DataW H) → Nat
  | [] => 0
  | x :: r => uptoBulkEntry x + uptoBulkEntries r
def uptoBulkEntry {H : Type} : Lit × DataW H → Nat
  | (.string bytes, d) => bytes.length + uptoBulk d + 1
  | (_, d) => uptoBulk d + 1
 end
def uptoSmall : (H : Type) → List (DataW H) → Bool := fun _ ds => decide (uptoBulkAll ds ≤ 1048576)
def OpenSpec.upto (s : _root_.Go.ChangeSpec) : _root_.Go.OpenSpec := { _root_.Go.OpenSpec.ofChange s with cond := some uptoSmall }

/-- 'waybilllaw12.RingOrder', WHERE WHAT IT READS IS OF BULK AT MOST 1048576: true; the input reads as it did. -/
def ringOrderUptoRow : OpenClaim := { program := "ytkalbiihehcjkaa", sum := "dc5bb48d73f09039cb3d54c53d2b66898ce175b90db986fb8f0b81574ee1867c", func := "waybill/waybilllaw12.RingOrder", spec := "ringOrder", unfollowed := true, recurses := true, apart := false, narrowed := true }
def RingOrderUptoSaid : Prop := ringOrderUptoRow.holds Try.pinned (OpenSpec.upto ringOrderSpec)

/-- 'waybilllaw12.RingOwn', WHERE WHAT IT READS IS OF BULK AT MOST 1048576: true; the input reads as it did. -/
def ringOwnUptoRow : OpenClaim := { program := "ytkalbiihehcjkaa", sum := "dc5bb48d73f09039cb3d54c53d2b66898ce175b90db986fb8f0b81574ee1867c", func := "waybill/waybilllaw12.RingOwn", spec := "ringOwn", unfollowed := true, recurses := true, apart := false, narrowed := true }
def RingOwnUptoSaid : Prop := ringOwnUptoRow.holds Try.pinned (OpenSpec.upto ringOwnSpec)

/-- 'waybilllaw12.RingLeaves', WHERE WHAT IT READS IS OF BULK AT MOST 1048576: true; the input reads as it did. -/
def ringLeavesUptoRow : OpenClaim := { program := "ytkalbiihehcjkaa", sum := "dc5bb48d73f09039cb3d54c53d2b66898ce175b90db986fb8f0b81574ee1867c", func := "waybill/waybilllaw12.RingLeaves", spec := "ringLeaves", unfollowed := true, recurses := true, apart := false, narrowed := true }
def RingLeavesUptoSaid : Prop := ringLeavesUptoRow.holds Try.pinned (OpenSpec.upto ringLeavesSpec)

/-- 'waybilllaw12.RingWalks', WHERE WHAT IT READS IS OF BULK AT MOST 1048576: true; the input reads as it did. -/
def ringWalksUptoRow : OpenClaim := { program := "ytkalbiihehcjkaa", sum := "dc5bb48d73f09039cb3d54c53d2b66898ce175b90db986fb8f0b81574ee1867c", func := "waybill/waybilllaw12.RingWalks", spec := "ringWalks", unfollowed := true, recurses := true, apart := false, narrowed := true }
def RingWalksUptoSaid : Prop := ringWalksUptoRow.holds Try.pinned (OpenSpec.upto ringWalksSpec)

/-- 'waybilllaw12.RingTells', WHERE WHAT IT READS IS OF BULK AT MOST 1048576: true; the input reads as it did. -/
def ringTellsUptoRow : OpenClaim := { program := "ytkalbiihehcjkaa", sum := "dc5bb48d73f09039cb3d54c53d2b66898ce175b90db986fb8f0b81574ee1867c", func := "waybill/waybilllaw12.RingTells", spec := "ringTells", unfollowed := true, recurses := true, apart := false, narrowed := true }
def RingTellsUptoSaid : Prop := ringTellsUptoRow.holds Try.pinned (OpenSpec.upto ringTellsSpec)

/-- 'waybilllaw12.RingShares', WHERE WHAT IT READS IS OF BULK AT MOST 1048576: true; the input reads as it did. -/
def ringSharesUptoRow : OpenClaim := { program := "ytkalbiihehcjkaa", sum := "dc5bb48d73f09039cb3d54c53d2b66898ce175b90db986fb8f0b81574ee1867c", func := "waybill/waybilllaw12.RingShares", spec := "ringShares", unfollowed := true, recurses := true, apart := false, narrowed := true }
def RingSharesUptoSaid : Prop := ringSharesUptoRow.holds Try.pinned (OpenSpec.upto ringSharesSpec)

end Rows
end Go.Proofs.Ytkalbiihehcjkaa
