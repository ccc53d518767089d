/-
  No cell of these rows narrows 'for every input' (looked for: loops, veiled, ifaces, maps, wideKeys, modest, calm, conditions, laid).
  DERIVED. THE GIVEN ROWS OF THIS SEAT. 6 by the template 'for every input the law returns true; each argument reads behind the call as it read before'; 0 by the template 'total and deterministic' (their statements: YtpafbjffecpdmaaTotals.lean).
  GIVEN WITH THE SEED: the statements are not yours to turn. If you find one false, say at which input.
  Laid BY PROGRAM, IN A SANDBOX (cutbox-rows.mjs): the forced cells as the released guide's own fill.sh prints them over the translation db124724d9d3c840… (all of the seat's roots in one cut). By AI agents, Wed Nov 11 2026. No macro, syntax, notation, axiom, sorry.
-/
import Derived.Test.YtpafbjffecpdmaaChecked
import GoSem.Claim
import GoSem.ClaimJoined
import GoSem.ClaimMapViews
import Derived.JoinedTies
import Derived.KernelRfl
namespace Go.Proofs.Ytpafbjffecpdmaa
/- THE CELL 'sum', in the pinned program and in every row, IS THE sha256 OF THE DUMP (.gsa) THAT YtpafbjffecpdmaaProg.lean LOADS. Nothing in Lean hashes anything: it is a label: what it is worth is what the hold of that sum in a sandbox is worth. -/
noncomputable def Try.pinned : Pinned := { name := "ytpafbjffecpdmaa", sum := "db124724d9d3c840c7b27a80bbe02ac712d88ed4c62ad29fd0fb3981da449500", checked := Try.checked }
namespace Rows
def none {H : Type} : Left H := { results := [], args := [] }

/-- 'waybilllaw13.SubsetSome': WHATEVER THE INPUT: true; the input reads as it did. -/
def subsetSomeSpec : ChangeSpec := { name := "subsetSome", fn := fun _ => fun
  | [d1, d2, d3, d4] => { results := [.lit (.bool true)], args := [d1, d2, d3, d4] }
  | _ => none }
def subsetSomeRow : OpenClaim := { program := "ytpafbjffecpdmaa", sum := "db124724d9d3c840c7b27a80bbe02ac712d88ed4c62ad29fd0fb3981da449500", func := "waybill/waybilllaw13.SubsetSome", spec := "subsetSome", recurses := true, apart := false }
def SubsetSomeSaid : Prop := subsetSomeRow.holds Try.pinned (OpenSpec.ofChange subsetSomeSpec)

/-- ITS FALSE NEIGHBOUR: 'it returns false'. Refute it at one input. -/
def subsetSomeWrong : ChangeSpec := { name := "subsetSome", fn := fun _ => fun
  | [d1, d2, d3, d4] => { results := [.lit (.bool false)], args := [d1, d2, d3, d4] }
  | _ => none }
def SubsetSomeWrongFalsely : Prop := subsetSomeRow.holds Try.pinned (OpenSpec.ofChange subsetSomeWrong)

/-- 'waybilllaw13.SubsetApart': WHATEVER THE INPUT: true; the input reads as it did. -/
def subsetApartSpec : ChangeSpec := { name := "subsetApart", fn := fun _ => fun
  | [d1, d2, d3, d4, d5] => { results := [.lit (.bool true)], args := [d1, d2, d3, d4, d5] }
  | _ => none }
def subsetApartRow : OpenClaim := { program := "ytpafbjffecpdmaa", sum := "db124724d9d3c840c7b27a80bbe02ac712d88ed4c62ad29fd0fb3981da449500", func := "waybill/waybilllaw13.SubsetApart", spec := "subsetApart", recurses := true, apart := false }
def SubsetApartSaid : Prop := subsetApartRow.holds Try.pinned (OpenSpec.ofChange subsetApartSpec)

/-- ITS FALSE NEIGHBOUR: 'it returns false'. Refute it at one input. -/
def subsetApartWrong : ChangeSpec := { name := "subsetApart", fn := fun _ => fun
  | [d1, d2, d3, d4, d5] => { results := [.lit (.bool false)], args := [d1, d2, d3, d4, d5] }
  | _ => none }
def SubsetApartWrongFalsely : Prop := subsetApartRow.holds Try.pinned (OpenSpec.ofChange subsetApartWrong)

/-- 'waybilllaw13.SubsetOwn': WHATEVER THE INPUT: true; the input reads as it did. -/
def subsetOwnSpec : ChangeSpec := { name := "subsetOwn", fn := fun _ => fun
  | [d1, d2, d3, d4] => { results := [.lit (.bool true)], args := [d1, d2, d3, d4] }
  | _ => none }
def subsetOwnRow : OpenClaim := { program := "ytpafbjffecpdmaa", sum := "db124724d9d3c840c7b27a80bbe02ac712d88ed4c62ad29fd0fb3981da449500", func := "waybill/waybilllaw13.SubsetOwn", spec := "subsetOwn", recurses := true, apart := false }
def SubsetOwnSaid : Prop := subsetOwnRow.holds Try.pinned (OpenSpec.ofChange subsetOwnSpec)

/-- ITS FALSE NEIGHBOUR: 'it returns false'. Refute it at one input. -/
def subsetOwnWrong : ChangeSpec := { name := "subsetOwn", fn := fun _ => fun
  | [d1, d2, d3, d4] => { results := [.lit (.bool false)], args := [d1, d2, d3, d4] }
  | _ => none }
def SubsetOwnWrongFalsely : Prop := subsetOwnRow.holds Try.pinned (OpenSpec.ofChange subsetOwnWrong)

/-- 'waybilllaw13.SubsetEven': WHATEVER THE INPUT: true; the input reads as it did. -/
def subsetEvenSpec : ChangeSpec := { name := "subsetEven", fn := fun _ => fun
  | [d1, d2, d3, d4] => { results := [.lit (.bool true)], args := [d1, d2, d3, d4] }
  | _ => none }
def subsetEvenRow : OpenClaim := { program := "ytpafbjffecpdmaa", sum := "db124724d9d3c840c7b27a80bbe02ac712d88ed4c62ad29fd0fb3981da449500", func := "waybill/waybilllaw13.SubsetEven", spec := "subsetEven", recurses := true, apart := false }
def SubsetEvenSaid : Prop := subsetEvenRow.holds Try.pinned (OpenSpec.ofChange subsetEvenSpec)

/-- ITS FALSE NEIGHBOUR: 'it returns false'. Refute it at one input. -/
def subsetEvenWrong : ChangeSpec := { name := "subsetEven", fn := fun _ => fun
  | [d1, d2, d3, d4] => { results := [.lit (.bool false)], args := [d1, d2, d3, d4] }
  | _ => none }
def SubsetEvenWrongFalsely : Prop := subsetEvenRow.holds Try.pinned (OpenSpec.ofChange subsetEvenWrong)

/-- 'waybilllaw13.SubsetChanges': WHATEVER THE INPUT: true; the input reads as it did. -/
def subsetChangesSpec : ChangeSpec := { name := "subsetChanges", fn := fun _ => fun
  | [d1, d2, d3] => { results := [.lit (.bool true)], args := [d1, d2, d3] }
  | _ => none }
def subsetChangesRow : OpenClaim := { program := "ytpafbjffecpdmaa", sum := "db124724d9d3c840c7b27a80bbe02ac712d88ed4c62ad29fd0fb3981da449500", func := "waybill/waybilllaw13.SubsetChanges", spec := "subsetChanges", unfollowed := true, recurses := true, apart := false }
def SubsetChangesSaid : Prop := subsetChangesRow.holds Try.pinned (OpenSpec.ofChange subsetChangesSpec)

/-- ITS FALSE NEIGHBOUR: 'it returns false'. Refute it at one input. -/
def subsetChangesWrong : ChangeSpec := { name := "subsetChanges", fn := fun _ => fun
  | [d1, d2, d3] => { results := [.lit (.bool false)], args := [d1, d2, d3] }
  | _ => none }
def SubsetChangesWrongFalsely : Prop := subsetChangesRow.holds Try.pinned (OpenSpec.ofChange subsetChangesWrong)

/-- 'waybilllaw13.SubsetTells': WHATEVER THE INPUT: true; the input reads as it did. -/
def subsetTellsSpec : ChangeSpec := { name := "subsetTells", fn := fun _ => fun
  | [d1, d2, d3, d4, d5, d6] => { results := [.lit (.bool true)], args := [d1, d2, d3, d4, d5, d6] }
  | _ => none }
def subsetTellsRow : OpenClaim := { program := "ytpafbjffecpdmaa", sum := "db124724d9d3c840c7b27a80bbe02ac712d88ed4c62ad29fd0fb3981da449500", func := "waybill/waybilllaw13.SubsetTells", spec := "subsetTells", unfollowed := true, recurses := true, apart := false }
def SubsetTellsSaid : Prop := subsetTellsRow.holds Try.pinned (OpenSpec.ofChange subsetTellsSpec)

/-- ITS FALSE NEIGHBOUR: 'it returns false'. Refute it at one input. -/
def subsetTellsWrong : ChangeSpec := { name := "subsetTells", fn := fun _ => fun
  | [d1, d2, d3, d4, d5, d6] => { results := [.lit (.bool false)], args := [d1, d2, d3, d4, d5, d6] }
  | _ => none }
def SubsetTellsWrongFalsely : Prop := subsetTellsRow.holds Try.pinned (OpenSpec.ofChange subsetTellsWrong)

/- THE SECOND FORM. 'bulk': how many values and letters a reading holds, each counted each time it is reached (what is shared counts as often as it is met; a slice's spare places count too). A statement '..UptoSaid' is the law's where the arguments, and the package variables that the reading takes, are together of bulk at most 1048576: NARROWER than '..Said'. Prove '..Said' where nothing that the law and all that it calls make is longer than what came in: it says more and counts as full. Else prove '..UptoSaid'. A law counts once. -/
mutual
def uptoBulk {H : Type} : DataW H → Nat
  | .lit (.string bytes) => bytes.length + 1
  | .lit _ => 1
  | .nil => 1
  | .ptr d => uptoBulk d + 1
  | .slice elems spare => uptoBulkAll elems + uptoBulkAll spare + 1
  | .agg parts => uptoBulkAll parts + 1
  | .iface _ d => uptoBulk d + 1
  | .map entries => uptoBulkEntries entries + 1
  | .held _ => 1
def uptoBulkAll {H : Type} : List (DataW H) → Nat
  | [] => 0
  | d :: r => uptoBulk d + uptoBulkAll r
def uptoBulkEntries {H : Type} : List (Lit × DataW H) → Nat
  | [] => 0
  | x :: r => uptoBulkEntry x + uptoBulkEntries r
def uptoBulkEntry {H : Type} : Lit × DataW H → Nat
  | (.string bytes, d) => bytes.length + uptoBulk d + 1
  | (_, d) => uptoBulk d + 1
 end
def uptoSmall : (H : Type) → List (DataW H) → Bool := fun _ ds => decide (uptoBulkAll ds ≤ 1048576)
def OpenSpec.upto (s : _root_.Go.ChangeSpec) : _root_.Go.OpenSpec := { _root_.Go.OpenSpec.ofChange s with cond := some uptoSmall }

/-- 'waybilllaw13.SubsetSome', WHERE WHAT IT READS IS OF BULK AT MOST 1048576: true; the input reads as it did. -/
def subsetSomeUptoRow : OpenClaim := { program := "ytpafbjffecpdmaa", sum := "db124724d9d3c840c7b27a80bbe02ac712d88ed4c62ad29fd0fb3981da449500", func := "waybill/waybilllaw13.SubsetSome", spec := "subsetSome", recurses := true, apart := false, narrowed := true }
def SubsetSomeUptoSaid : Prop := subsetSomeUptoRow.holds Try.pinned (OpenSpec.upto subsetSomeSpec)

/-- 'waybilllaw13.SubsetApart', WHERE WHAT IT READS IS OF BULK AT MOST 1048576: true; the input reads as it did. -/
def subsetApartUptoRow : OpenClaim := { program := "ytpafbjffecpdmaa", sum := "db124724d9d3c840c7b27a80bbe02ac712d88ed4c62ad29fd0fb3981da449500", func := "waybill/waybilllaw13.SubsetApart", spec := "subsetApart", recurses := true, apart := false, narrowed := true }
def SubsetApartUptoSaid : Prop := subsetApartUptoRow.holds Try.pinned (OpenSpec.upto subsetApartSpec)

/-- 'waybilllaw13.SubsetOwn', WHERE WHAT IT READS IS OF BULK AT MOST 1048576: true; the input reads as it did. -/
def subsetOwnUptoRow : OpenClaim := { program := "ytpafbjffecpdmaa", sum := "db124724d9d3c840c7b27a80bbe02ac712d88ed4c62ad29fd0fb3981da449500", func := "waybill/waybilllaw13.SubsetOwn", spec := "subsetOwn", recurses := true, apart := false, narrowed := true }
def SubsetOwnUptoSaid : Prop := subsetOwnUptoRow.holds Try.pinned (OpenSpec.upto subsetOwnSpec)

/-- 'waybilllaw13.SubsetEven', WHERE WHAT IT READS IS OF BULK AT MOST 1048576: true; the input reads as it did. -/
def subsetEvenUptoRow : OpenClaim := { program := "ytpafbjffecpdmaa", sum := "db124724d9d3c840c7b27a80bbe02ac712d88ed4c62ad29fd0fb3981da449500", func := "waybill/waybilllaw13.SubsetEven", spec := "subsetEven", recurses := true, apart := false, narrowed := true }
def SubsetEvenUptoSaid : Prop := subsetEvenUptoRow.holds Try.pinned (OpenSpec.upto subsetEvenSpec)

/-- 'waybilllaw13.SubsetChanges', WHERE WHAT IT READS IS OF BULK AT MOST 1048576: true; the input reads as it did. -/
def subsetChangesUptoRow : OpenClaim := { program := "ytpafbjffecpdmaa", sum := "db124724d9d3c840c7b27a80bbe02ac712d88ed4c62ad29fd0fb3981da449500", func := "waybill/waybilllaw13.SubsetChanges", spec := "subsetChanges", unfollowed := true, recurses := true, apart := false, narrowed := true }
def SubsetChangesUptoSaid : Prop := subsetChangesUptoRow.holds Try.pinned (OpenSpec.upto subsetChangesSpec)

/-- 'waybilllaw13.SubsetTells', WHERE WHAT IT READS IS OF BULK AT MOST 1048576: true; the input reads as it did. -/
def subsetTellsUptoRow : OpenClaim := { program := "ytpafbjffecpdmaa", sum := "db124724d9d3c840c7b27a80bbe02ac712d88ed4c62ad29fd0fb3981da449500", func := "waybill/waybilllaw13.SubsetTells", spec := "subsetTells", unfollowed := true, recurses := true, apart := false, narrowed := true }
def SubsetTellsUptoSaid : Prop := subsetTellsUptoRow.holds Try.pinned (OpenSpec.upto subsetTellsSpec)

end Rows
end Go.Proofs.Ytpafbjffecpdmaa
