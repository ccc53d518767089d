/-
  No cell of these rows narrows 'for every input' (looked for: loops, veiled, ifaces, maps, wideKeys, modest, calm, conditions, laid).
  DERIVED. THE GIVEN ROWS OF THIS SEAT. 6 by the template 'for every input the law returns true; each argument reads behind the call as it read before'; 0 by the template 'total and deterministic' (their statements: YtmoaekjkihbicaaTotals.lean).
  GIVEN WITH THE SEED: the statements are not yours to turn. If you find one false, say at which input.
  Laid BY PROGRAM, IN A SANDBOX (cutbox-rows.mjs): the forced cells as the released guide's own fill.sh prints them over the translation 3f47399935917ca7… (all of the seat's roots in one cut). By AI agents, Wed Nov 11 2026. No macro, syntax, notation, axiom, sorry.
-/
import Derived.Test.YtmoaekjkihbicaaChecked
import GoSem.Claim
import GoSem.ClaimJoined
import GoSem.ClaimMapViews
import Derived.JoinedTies
import Derived.KernelRfl
namespace Go.Proofs.Ytmoaekjkihbicaa
/- THE CELL 'sum', in the pinned program and in every row, IS THE sha256 OF THE DUMP (.gsa) THAT YtmoaekjkihbicaaProg.lean LOADS. Nothing in Lean hashes anything: it is a label: what it is worth is what the hold of that sum in a sandbox is worth. -/
noncomputable def Try.pinned : Pinned := { name := "ytmoaekjkihbicaa", sum := "3f47399935917ca79c91eee4105dfdf0a2bdd3141733eb360d34ee17efcd7816", checked := Try.checked }
namespace Rows
def none {H : Type} : Left H := { results := [], args := [] }

/-- 'waybilllaw20.TimerFirst': WHATEVER THE INPUT: true; the input reads as it did. -/
def timerFirstSpec : ChangeSpec := { name := "timerFirst", fn := fun _ => fun
  | [d1, d2] => { results := [.lit (.bool true)], args := [d1, d2] }
  | _ => none }
def timerFirstRow : OpenClaim := { program := "ytmoaekjkihbicaa", sum := "3f47399935917ca79c91eee4105dfdf0a2bdd3141733eb360d34ee17efcd7816", func := "waybill/waybilllaw20.TimerFirst", spec := "timerFirst", unfollowed := true, recurses := true, apart := false }
def TimerFirstSaid : Prop := timerFirstRow.holds Try.pinned (OpenSpec.ofChange timerFirstSpec)

/-- ITS FALSE NEIGHBOUR: 'it returns false'. Refute it at one input. -/
def timerFirstWrong : ChangeSpec := { name := "timerFirst", fn := fun _ => fun
  | [d1, d2] => { results := [.lit (.bool false)], args := [d1, d2] }
  | _ => none }
def TimerFirstWrongFalsely : Prop := timerFirstRow.holds Try.pinned (OpenSpec.ofChange timerFirstWrong)

/-- 'waybilllaw20.TimerMay': WHATEVER THE INPUT: true; the input reads as it did. -/
def timerMaySpec : ChangeSpec := { name := "timerMay", fn := fun _ => fun
  | [d1, d2, d3, d4] => { results := [.lit (.bool true)], args := [d1, d2, d3, d4] }
  | _ => none }
def timerMayRow : OpenClaim := { program := "ytmoaekjkihbicaa", sum := "3f47399935917ca79c91eee4105dfdf0a2bdd3141733eb360d34ee17efcd7816", func := "waybill/waybilllaw20.TimerMay", spec := "timerMay", unfollowed := true, recurses := true, apart := false }
def TimerMaySaid : Prop := timerMayRow.holds Try.pinned (OpenSpec.ofChange timerMaySpec)

/-- ITS FALSE NEIGHBOUR: 'it returns false'. Refute it at one input. -/
def timerMayWrong : ChangeSpec := { name := "timerMay", fn := fun _ => fun
  | [d1, d2, d3, d4] => { results := [.lit (.bool false)], args := [d1, d2, d3, d4] }
  | _ => none }
def TimerMayWrongFalsely : Prop := timerMayRow.holds Try.pinned (OpenSpec.ofChange timerMayWrong)

/-- 'waybilllaw20.TimerCancels': WHATEVER THE INPUT: true; the input reads as it did. -/
def timerCancelsSpec : ChangeSpec := { name := "timerCancels", fn := fun _ => fun
  | [d1, d2] => { results := [.lit (.bool true)], args := [d1, d2] }
  | _ => none }
def timerCancelsRow : OpenClaim := { program := "ytmoaekjkihbicaa", sum := "3f47399935917ca79c91eee4105dfdf0a2bdd3141733eb360d34ee17efcd7816", func := "waybill/waybilllaw20.TimerCancels", spec := "timerCancels", unfollowed := true, recurses := true, apart := false }
def TimerCancelsSaid : Prop := timerCancelsRow.holds Try.pinned (OpenSpec.ofChange timerCancelsSpec)

/-- ITS FALSE NEIGHBOUR: 'it returns false'. Refute it at one input. -/
def timerCancelsWrong : ChangeSpec := { name := "timerCancels", fn := fun _ => fun
  | [d1, d2] => { results := [.lit (.bool false)], args := [d1, d2] }
  | _ => none }
def TimerCancelsWrongFalsely : Prop := timerCancelsRow.holds Try.pinned (OpenSpec.ofChange timerCancelsWrong)

/-- 'waybilllaw20.TimerDue': WHATEVER THE INPUT: true; the input reads as it did. -/
def timerDueSpec : ChangeSpec := { name := "timerDue", fn := fun _ => fun
  | [d1, d2] => { results := [.lit (.bool true)], args := [d1, d2] }
  | _ => none }
def timerDueRow : OpenClaim := { program := "ytmoaekjkihbicaa", sum := "3f47399935917ca79c91eee4105dfdf0a2bdd3141733eb360d34ee17efcd7816", func := "waybill/waybilllaw20.TimerDue", spec := "timerDue", unfollowed := true, recurses := true, apart := false }
def TimerDueSaid : Prop := timerDueRow.holds Try.pinned (OpenSpec.ofChange timerDueSpec)

/-- ITS FALSE NEIGHBOUR: 'it returns false'. Refute it at one input. -/
def timerDueWrong : ChangeSpec := { name := "timerDue", fn := fun _ => fun
  | [d1, d2] => { results := [.lit (.bool false)], args := [d1, d2] }
  | _ => none }
def TimerDueWrongFalsely : Prop := timerDueRow.holds Try.pinned (OpenSpec.ofChange timerDueWrong)

/-- 'waybilllaw20.TimerOwn': WHATEVER THE INPUT: true; the input reads as it did. -/
def timerOwnSpec : ChangeSpec := { name := "timerOwn", fn := fun _ => fun
  | [d1, d2, d3] => { results := [.lit (.bool true)], args := [d1, d2, d3] }
  | _ => none }
def timerOwnRow : OpenClaim := { program := "ytmoaekjkihbicaa", sum := "3f47399935917ca79c91eee4105dfdf0a2bdd3141733eb360d34ee17efcd7816", func := "waybill/waybilllaw20.TimerOwn", spec := "timerOwn", unfollowed := true, recurses := true, apart := false }
def TimerOwnSaid : Prop := timerOwnRow.holds Try.pinned (OpenSpec.ofChange timerOwnSpec)

/-- ITS FALSE NEIGHBOUR: 'it returns false'. Refute it at one input. -/
def timerOwnWrong : ChangeSpec := { name := "timerOwn", fn := fun _ => fun
  | [d1, d2, d3] => { results := [.lit (.bool false)], args := [d1, d2, d3] }
  | _ => none }
def TimerOwnWrongFalsely : Prop := timerOwnRow.holds Try.pinned (OpenSpec.ofChange timerOwnWrong)

/-- 'waybilllaw20.TimerTells': WHATEVER THE INPUT: true; the input reads as it did. -/
def timerTellsSpec : ChangeSpec := { name := "timerTells", fn := fun _ => fun
  | [d1, d2, d3, d4] => { results := [.lit (.bool true)], args := [d1, d2, d3, d4] }
  | _ => none }
def timerTellsRow : OpenClaim := { program := "ytmoaekjkihbicaa", sum := "3f47399935917ca79c91eee4105dfdf0a2bdd3141733eb360d34ee17efcd7816", func := "waybill/waybilllaw20.TimerTells", spec := "timerTells", unfollowed := true, recurses := true, apart := false }
def TimerTellsSaid : Prop := timerTellsRow.holds Try.pinned (OpenSpec.ofChange timerTellsSpec)

/-- ITS FALSE NEIGHBOUR: 'it returns false'. Refute it at one input. -/
def timerTellsWrong : ChangeSpec := { name := "timerTells", fn := fun _ => fun
  | [d1, d2, d3, d4] => { results := [.lit (.bool false)], args := [d1, d2, d3, d4] }
  | _ => none }
def TimerTellsWrongFalsely : Prop := timerTellsRow.holds Try.pinned (OpenSpec.ofChange timerTellsWrong)

/- THE SECOND FORM. 'bulk': how many values and letters a reading holds, each counted each time it is reached (what is shared counts as often as it is met; a slice's spare places count too). A statement '..UptoSaid' is the law's where the arguments, and the package variables that the reading takes, are together of bulk at most 1048576: NARROWER than '..Said'. Prove '..Said' where nothing that the law and all that it calls make is longer than what came in: it says more and counts as full. Else prove '..UptoSaid'. A law counts once. -/
mutual
def uptoBulk {H : Type} : DataW H → Nat
  | .lit (.string bytes) => bytes.length + 1
  | .lit _ => 1
  | .nil => 1
  | .ptr d => uptoBulk d + 1
  | .slice elems spare => uptoBulkAll elems + uptoBulkAll spare + 1
  | .agg parts => uptoBulkAll parts + 1
  | .iface _ d => uptoBulk d + 1
  | .map entries => uptoBulkEntries entries + 1
  | .held _ => 1
def uptoBulkAll {H : Type} : List (DataW H) → Nat
  | [] => 0
  | d :: r => uptoBulk d + uptoBulkAll r
def uptoBulkEntries {H : Type} : List (Lit × DataW H) → Nat
  | [] => 0
  | x :: r => uptoBulkEntry x + uptoBulkEntries r
def uptoBulkEntry {H : Type} : Lit × DataW H → Nat
  | (.string bytes, d) => bytes.length + uptoBulk d + 1
  | (_, d) => uptoBulk d + 1
 end
def uptoSmall : (H : Type) → List (DataW H) → Bool := fun _ ds => decide (uptoBulkAll ds ≤ 1048576)
def OpenSpec.upto (s : _root_.Go.ChangeSpec) : _root_.Go.OpenSpec := { _root_.Go.OpenSpec.ofChange s with cond := some uptoSmall }

/-- 'waybilllaw20.TimerFirst', WHERE WHAT IT READS IS OF BULK AT MOST 1048576: true; the input reads as it did. -/
def timerFirstUptoRow : OpenClaim := { program := "ytmoaekjkihbicaa", sum := "3f47399935917ca79c91eee4105dfdf0a2bdd3141733eb360d34ee17efcd7816", func := "waybill/waybilllaw20.TimerFirst", spec := "timerFirst", unfollowed := true, recurses := true, apart := false, narrowed := true }
def TimerFirstUptoSaid : Prop := timerFirstUptoRow.holds Try.pinned (OpenSpec.upto timerFirstSpec)

/-- 'waybilllaw20.TimerMay', WHERE WHAT IT READS IS OF BULK AT MOST 1048576: true; the input reads as it did. -/
def timerMayUptoRow : OpenClaim := { program := "ytmoaekjkihbicaa", sum := "3f47399935917ca79c91eee4105dfdf0a2bdd3141733eb360d34ee17efcd7816", func := "waybill/waybilllaw20.TimerMay", spec := "timerMay", unfollowed := true, recurses := true, apart := false, narrowed := true }
def TimerMayUptoSaid : Prop := timerMayUptoRow.holds Try.pinned (OpenSpec.upto timerMaySpec)

/-- 'waybilllaw20.TimerCancels', WHERE WHAT IT READS IS OF BULK AT MOST 1048576: true; the input reads as it did. -/
def timerCancelsUptoRow : OpenClaim := { program := "ytmoaekjkihbicaa", sum := "3f47399935917ca79c91eee4105dfdf0a2bdd3141733eb360d34ee17efcd7816", func := "waybill/waybilllaw20.TimerCancels", spec := "timerCancels", unfollowed := true, recurses := true, apart := false, narrowed := true }
def TimerCancelsUptoSaid : Prop := timerCancelsUptoRow.holds Try.pinned (OpenSpec.upto timerCancelsSpec)

/-- 'waybilllaw20.TimerDue', WHERE WHAT IT READS IS OF BULK AT MOST 1048576: true; the input reads as it did. -/
def timerDueUptoRow : OpenClaim := { program := "ytmoaekjkihbicaa", sum := "3f47399935917ca79c91eee4105dfdf0a2bdd3141733eb360d34ee17efcd7816", func := "waybill/waybilllaw20.TimerDue", spec := "timerDue", unfollowed := true, recurses := true, apart := false, narrowed := true }
def TimerDueUptoSaid : Prop := timerDueUptoRow.holds Try.pinned (OpenSpec.upto timerDueSpec)

/-- 'waybilllaw20.TimerOwn', WHERE WHAT IT READS IS OF BULK AT MOST 1048576: true; the input reads as it did. -/
def timerOwnUptoRow : OpenClaim := { program := "ytmoaekjkihbicaa", sum := "3f47399935917ca79c91eee4105dfdf0a2bdd3141733eb360d34ee17efcd7816", func := "waybill/waybilllaw20.TimerOwn", spec := "timerOwn", unfollowed := true, recurses := true, apart := false, narrowed := true }
def TimerOwnUptoSaid : Prop := timerOwnUptoRow.holds Try.pinned (OpenSpec.upto timerOwnSpec)

/-- 'waybilllaw20.TimerTells', WHERE WHAT IT READS IS OF BULK AT MOST 1048576: true; the input reads as it did. -/
def timerTellsUptoRow : OpenClaim := { program := "ytmoaekjkihbicaa", sum := "3f47399935917ca79c91eee4105dfdf0a2bdd3141733eb360d34ee17efcd7816", func := "waybill/waybilllaw20.TimerTells", spec := "timerTells", unfollowed := true, recurses := true, apart := false, narrowed := true }
def TimerTellsUptoSaid : Prop := timerTellsUptoRow.holds Try.pinned (OpenSpec.upto timerTellsSpec)

end Rows
end Go.Proofs.Ytmoaekjkihbicaa
