/-
  No cell of these rows narrows 'for every input' (looked for: loops, veiled, ifaces, maps, wideKeys, modest, calm, conditions, laid).
  DERIVED. THE GIVEN ROWS OF THIS SEAT. 7 by the template 'for every input the law returns true; each argument reads behind the call as it read before'; 0 by the template 'total and deterministic' (their statements: YtfepjpjkamlneaaTotals.lean).
  GIVEN WITH THE SEED: the statements are not yours to turn. If you find one false, say at which input.
  Laid BY PROGRAM, IN A SANDBOX (cutbox-rows.mjs): the forced cells as the released guide's own fill.sh prints them over the translation 22501dc98e8d5c32… (all of the seat's roots in one cut). By AI agents, Wed Nov 11 2026. No macro, syntax, notation, axiom, sorry.
-/
import Derived.Test.YtfepjpjkamlneaaChecked
import GoSem.Claim
import GoSem.ClaimJoined
import GoSem.ClaimMapViews
import Derived.JoinedTies
import Derived.KernelRfl
namespace Go.Proofs.Ytfepjpjkamlneaa
/- THE CELL 'sum', in the pinned program and in every row, IS THE sha256 OF THE DUMP (.gsa) THAT YtfepjpjkamlneaaProg.lean LOADS. Nothing in Lean hashes anything: it is a label: what it is worth is what the hold of that sum in a sandbox is worth. -/
noncomputable def Try.pinned : Pinned := { name := "ytfepjpjkamlneaa", sum := "22501dc98e8d5c32d4233ae0b3cb9d4d6e988151be1c245090ebf74401e71167", checked := Try.checked }
namespace Rows
def none {H : Type} : Left H := { results := [], args := [] }

/-- 'waybilllaw27.CallPlans': WHATEVER THE INPUT: true; the input reads as it did. -/
def callPlansSpec : ChangeSpec := { name := "callPlans", fn := fun _ => fun
  | [d1, d2, d3, d4] => { results := [.lit (.bool true)], args := [d1, d2, d3, d4] }
  | _ => none }
def callPlansRow : OpenClaim := { program := "ytfepjpjkamlneaa", sum := "22501dc98e8d5c32d4233ae0b3cb9d4d6e988151be1c245090ebf74401e71167", func := "waybill/waybilllaw27.CallPlans", spec := "callPlans", unfollowed := true, recurses := true, apart := false }
def CallPlansSaid : Prop := callPlansRow.holds Try.pinned (OpenSpec.ofChange callPlansSpec)

/-- ITS FALSE NEIGHBOUR: 'it returns false'. Refute it at one input. -/
def callPlansWrong : ChangeSpec := { name := "callPlans", fn := fun _ => fun
  | [d1, d2, d3, d4] => { results := [.lit (.bool false)], args := [d1, d2, d3, d4] }
  | _ => none }
def CallPlansWrongFalsely : Prop := callPlansRow.holds Try.pinned (OpenSpec.ofChange callPlansWrong)

/-- 'waybilllaw27.CallMakes': WHATEVER THE INPUT: true; the input reads as it did. -/
def callMakesSpec : ChangeSpec := { name := "callMakes", fn := fun _ => fun
  | [d1, d2, d3, d4, d5, d6] => { results := [.lit (.bool true)], args := [d1, d2, d3, d4, d5, d6] }
  | _ => none }
def callMakesRow : OpenClaim := { program := "ytfepjpjkamlneaa", sum := "22501dc98e8d5c32d4233ae0b3cb9d4d6e988151be1c245090ebf74401e71167", func := "waybill/waybilllaw27.CallMakes", spec := "callMakes", unfollowed := true, recurses := true, apart := false }
def CallMakesSaid : Prop := callMakesRow.holds Try.pinned (OpenSpec.ofChange callMakesSpec)

/-- ITS FALSE NEIGHBOUR: 'it returns false'. Refute it at one input. -/
def callMakesWrong : ChangeSpec := { name := "callMakes", fn := fun _ => fun
  | [d1, d2, d3, d4, d5, d6] => { results := [.lit (.bool false)], args := [d1, d2, d3, d4, d5, d6] }
  | _ => none }
def CallMakesWrongFalsely : Prop := callMakesRow.holds Try.pinned (OpenSpec.ofChange callMakesWrong)

/-- 'waybilllaw27.CallPins': WHATEVER THE INPUT: true; the input reads as it did. -/
def callPinsSpec : ChangeSpec := { name := "callPins", fn := fun _ => fun
  | [d1, d2, d3] => { results := [.lit (.bool true)], args := [d1, d2, d3] }
  | _ => none }
def callPinsRow : OpenClaim := { program := "ytfepjpjkamlneaa", sum := "22501dc98e8d5c32d4233ae0b3cb9d4d6e988151be1c245090ebf74401e71167", func := "waybill/waybilllaw27.CallPins", spec := "callPins", unfollowed := true, recurses := true, apart := false }
def CallPinsSaid : Prop := callPinsRow.holds Try.pinned (OpenSpec.ofChange callPinsSpec)

/-- ITS FALSE NEIGHBOUR: 'it returns false'. Refute it at one input. -/
def callPinsWrong : ChangeSpec := { name := "callPins", fn := fun _ => fun
  | [d1, d2, d3] => { results := [.lit (.bool false)], args := [d1, d2, d3] }
  | _ => none }
def CallPinsWrongFalsely : Prop := callPinsRow.holds Try.pinned (OpenSpec.ofChange callPinsWrong)

/-- 'waybilllaw27.CallOver': WHATEVER THE INPUT: true; the input reads as it did. -/
def callOverSpec : ChangeSpec := { name := "callOver", fn := fun _ => fun
  | [d1, d2, d3, d4, d5] => { results := [.lit (.bool true)], args := [d1, d2, d3, d4, d5] }
  | _ => none }
def callOverRow : OpenClaim := { program := "ytfepjpjkamlneaa", sum := "22501dc98e8d5c32d4233ae0b3cb9d4d6e988151be1c245090ebf74401e71167", func := "waybill/waybilllaw27.CallOver", spec := "callOver", unfollowed := true, recurses := true, apart := false }
def CallOverSaid : Prop := callOverRow.holds Try.pinned (OpenSpec.ofChange callOverSpec)

/-- ITS FALSE NEIGHBOUR: 'it returns false'. Refute it at one input. -/
def callOverWrong : ChangeSpec := { name := "callOver", fn := fun _ => fun
  | [d1, d2, d3, d4, d5] => { results := [.lit (.bool false)], args := [d1, d2, d3, d4, d5] }
  | _ => none }
def CallOverWrongFalsely : Prop := callOverRow.holds Try.pinned (OpenSpec.ofChange callOverWrong)

/-- 'waybilllaw27.CallSlow': WHATEVER THE INPUT: true; the input reads as it did. -/
def callSlowSpec : ChangeSpec := { name := "callSlow", fn := fun _ => fun
  | [d1, d2, d3, d4] => { results := [.lit (.bool true)], args := [d1, d2, d3, d4] }
  | _ => none }
def callSlowRow : OpenClaim := { program := "ytfepjpjkamlneaa", sum := "22501dc98e8d5c32d4233ae0b3cb9d4d6e988151be1c245090ebf74401e71167", func := "waybill/waybilllaw27.CallSlow", spec := "callSlow", unfollowed := true, recurses := true, apart := false }
def CallSlowSaid : Prop := callSlowRow.holds Try.pinned (OpenSpec.ofChange callSlowSpec)

/-- ITS FALSE NEIGHBOUR: 'it returns false'. Refute it at one input. -/
def callSlowWrong : ChangeSpec := { name := "callSlow", fn := fun _ => fun
  | [d1, d2, d3, d4] => { results := [.lit (.bool false)], args := [d1, d2, d3, d4] }
  | _ => none }
def CallSlowWrongFalsely : Prop := callSlowRow.holds Try.pinned (OpenSpec.ofChange callSlowWrong)

/-- 'waybilllaw27.CallOwn': WHATEVER THE INPUT: true; the input reads as it did. -/
def callOwnSpec : ChangeSpec := { name := "callOwn", fn := fun _ => fun
  | [d1, d2, d3, d4] => { results := [.lit (.bool true)], args := [d1, d2, d3, d4] }
  | _ => none }
def callOwnRow : OpenClaim := { program := "ytfepjpjkamlneaa", sum := "22501dc98e8d5c32d4233ae0b3cb9d4d6e988151be1c245090ebf74401e71167", func := "waybill/waybilllaw27.CallOwn", spec := "callOwn", unfollowed := true, recurses := true, apart := false }
def CallOwnSaid : Prop := callOwnRow.holds Try.pinned (OpenSpec.ofChange callOwnSpec)

/-- ITS FALSE NEIGHBOUR: 'it returns false'. Refute it at one input. -/
def callOwnWrong : ChangeSpec := { name := "callOwn", fn := fun _ => fun
  | [d1, d2, d3, d4] => { results := [.lit (.bool false)], args := [d1, d2, d3, d4] }
  | _ => none }
def CallOwnWrongFalsely : Prop := callOwnRow.holds Try.pinned (OpenSpec.ofChange callOwnWrong)

/-- 'waybilllaw27.CallTells': WHATEVER THE INPUT: true; the input reads as it did. -/
def callTellsSpec : ChangeSpec := { name := "callTells", fn := fun _ => fun
  | [d1, d2, d3, d4, d5, d6, d7, d8] => { results := [.lit (.bool true)], args := [d1, d2, d3, d4, d5, d6, d7, d8] }
  | _ => none }
def callTellsRow : OpenClaim := { program := "ytfepjpjkamlneaa", sum := "22501dc98e8d5c32d4233ae0b3cb9d4d6e988151be1c245090ebf74401e71167", func := "waybill/waybilllaw27.CallTells", spec := "callTells", unfollowed := true, recurses := true, apart := false }
def CallTellsSaid : Prop := callTellsRow.holds Try.pinned (OpenSpec.ofChange callTellsSpec)

/-- ITS FALSE NEIGHBOUR: 'it returns false'. Refute it at one input. -/
def callTellsWrong : ChangeSpec := { name := "callTells", fn := fun _ => fun
  | [d1, d2, d3, d4, d5, d6, d7, d8] => { results := [.lit (.bool false)], args := [d1, d2, d3, d4, d5, d6, d7, d8] }
  | _ => none }
def CallTellsWrongFalsely : Prop := callTellsRow.holds Try.pinned (OpenSpec.ofChange callTellsWrong)

/- THE SECOND FORM. 'bulk': how many values and letters a reading holds, each counted each time it is reached (what is shared counts as often as it is met; a slice's spare places count too). A statement '..UptoSaid' is the law's where the arguments, and the package variables that the reading takes, are together of bulk at most 1048576: NARROWER than '..Said'. Prove '..Said' where nothing that the law and all that it calls make is longer than what came in: it says more and counts as full. Else prove '..UptoSaid'. A law counts once. -/
mutual
def uptoBulk {H : Type} : DataW H → Nat
  | .lit (.string bytes) => bytes.length + 1
  | .lit _ => 1
  | .nil => 1
  | .ptr d => uptoBulk d + 1
  | .slice elems spare => uptoBulkAll elems + uptoBulkAll spare + 1
  | .agg parts => uptoBulkAll parts + 1
  | .iface _ d => uptoBulk d + 1
  | .map entries => uptoBulkEntries entries + 1
  | .held _ => 1
def uptoBulkAll {H : Type} : List (DataW H) → Nat
  | [] => 0
  | d :: r => uptoBulk d + uptoBulkAll r
def uptoBulkEntries {H : Type} : List (Lit × DataW H) → Nat
  | [] => 0
  | x :: r => uptoBulkEntry x + uptoBulkEntries r
def uptoBulkEntry {H : Type} : Lit × DataW H → Nat
  | (.string bytes, d) => bytes.length + uptoBulk d + 1
  | (_, d) => uptoBulk d + 1
 end
def uptoSmall : (H : Type) → List (DataW H) → Bool := fun _ ds => decide (uptoBulkAll ds ≤ 1048576)
def OpenSpec.upto (s : _root_.Go.ChangeSpec) : _root_.Go.OpenSpec := { _root_.Go.OpenSpec.ofChange s with cond := some uptoSmall }

/-- 'waybilllaw27.CallPlans', WHERE WHAT IT READS IS OF BULK AT MOST 1048576: true; the input reads as it did. -/
def callPlansUptoRow : OpenClaim := { program := "ytfepjpjkamlneaa", sum := "22501dc98e8d5c32d4233ae0b3cb9d4d6e988151be1c245090ebf74401e71167", func := "waybill/waybilllaw27.CallPlans", spec := "callPlans", unfollowed := true, recurses := true, apart := false, narrowed := true }
def CallPlansUptoSaid : Prop := callPlansUptoRow.holds Try.pinned (OpenSpec.upto callPlansSpec)

/-- 'waybilllaw27.CallMakes', WHERE WHAT IT READS IS OF BULK AT MOST 1048576: true; the input reads as it did. -/
def callMakesUptoRow : OpenClaim := { program := "ytfepjpjkamlneaa", sum := "22501dc98e8d5c32d4233ae0b3cb9d4d6e988151be1c245090ebf74401e71167", func := "waybill/waybilllaw27.CallMakes", spec := "callMakes", unfollowed := true, recurses := true, apart := false, narrowed := true }
def CallMakesUptoSaid : Prop := callMakesUptoRow.holds Try.pinned (OpenSpec.upto callMakesSpec)

/-- 'waybilllaw27.CallPins', WHERE WHAT IT READS IS OF BULK AT MOST 1048576: true; the input reads as it did. -/
def callPinsUptoRow : OpenClaim := { program := "ytfepjpjkamlneaa", sum := "22501dc98e8d5c32d4233ae0b3cb9d4d6e988151be1c245090ebf74401e71167", func := "waybill/waybilllaw27.CallPins", spec := "callPins", unfollowed := true, recurses := true, apart := false, narrowed := true }
def CallPinsUptoSaid : Prop := callPinsUptoRow.holds Try.pinned (OpenSpec.upto callPinsSpec)

/-- 'waybilllaw27.CallOver', WHERE WHAT IT READS IS OF BULK AT MOST 1048576: true; the input reads as it did. -/
def callOverUptoRow : OpenClaim := { program := "ytfepjpjkamlneaa", sum := "22501dc98e8d5c32d4233ae0b3cb9d4d6e988151be1c245090ebf74401e71167", func := "waybill/waybilllaw27.CallOver", spec := "callOver", unfollowed := true, recurses := true, apart := false, narrowed := true }
def CallOverUptoSaid : Prop := callOverUptoRow.holds Try.pinned (OpenSpec.upto callOverSpec)

/-- 'waybilllaw27.CallSlow', WHERE WHAT IT READS IS OF BULK AT MOST 1048576: true; the input reads as it did. -/
def callSlowUptoRow : OpenClaim := { program := "ytfepjpjkamlneaa", sum := "22501dc98e8d5c32d4233ae0b3cb9d4d6e988151be1c245090ebf74401e71167", func := "waybill/waybilllaw27.CallSlow", spec := "callSlow", unfollowed := true, recurses := true, apart := false, narrowed := true }
def CallSlowUptoSaid : Prop := callSlowUptoRow.holds Try.pinned (OpenSpec.upto callSlowSpec)

/-- 'waybilllaw27.CallOwn', WHERE WHAT IT READS IS OF BULK AT MOST 1048576: true; the input reads as it did. -/
def callOwnUptoRow : OpenClaim := { program := "ytfepjpjkamlneaa", sum := "22501dc98e8d5c32d4233ae0b3cb9d4d6e988151be1c245090ebf74401e71167", func := "waybill/waybilllaw27.CallOwn", spec := "callOwn", unfollowed := true, recurses := true, apart := false, narrowed := true }
def CallOwnUptoSaid : Prop := callOwnUptoRow.holds Try.pinned (OpenSpec.upto callOwnSpec)

/-- 'waybilllaw27.CallTells', WHERE WHAT IT READS IS OF BULK AT MOST 1048576: true; the input reads as it did. -/
def callTellsUptoRow : OpenClaim := { program := "ytfepjpjkamlneaa", sum := "22501dc98e8d5c32d4233ae0b3cb9d4d6e988151be1c245090ebf74401e71167", func := "waybill/waybilllaw27.CallTells", spec := "callTells", unfollowed := true, recurses := true, apart := false, narrowed := true }
def CallTellsUptoSaid : Prop := callTellsUptoRow.holds Try.pinned (OpenSpec.upto callTellsSpec)

end Rows
end Go.Proofs.Ytfepjpjkamlneaa
