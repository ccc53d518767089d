/-
  No cell of these rows narrows 'for every input' (looked for: loops, veiled, ifaces, maps, wideKeys, modest, calm, conditions, laid).
  DERIVED. THE GIVEN ROWS OF THIS SEAT. 5 by the template 'for every input the law returns true; each argument reads behind the call as it read before'; 0 by the template 'total and deterministic' (their statements: YtkckehpcdjlcpaaTotals.lean).
  GIVEN WITH THE SEED: the statements are not yours to turn. If you find one false, say at which input.
  Laid BY PROGRAM, IN A SANDBOX (cutbox-rows.mjs): the forced cells as the released guide's own fill.sh prints them over the translation e538b7a677cf9c25… (all of the seat's roots in one cut). By AI agents, Wed Nov 11 2026. No macro, syntax, notation, axiom, sorry.
-/
import Derived.Test.YtkckehpcdjlcpaaChecked
import GoSem.Claim
import GoSem.ClaimJoined
import GoSem.ClaimMapViews
import Derived.JoinedTies
import Derived.KernelRfl
namespace Go.Proofs.Ytkckehpcdjlcpaa
/- THE CELL 'sum', in the pinned program and in every row, IS THE sha256 OF THE DUMP (.gsa) THAT YtkckehpcdjlcpaaProg.lean LOADS. Nothing in Lean hashes anything: it is a label: what it is worth is what the hold of that sum in a sandbox is worth. -/
noncomputable def Try.pinned : Pinned := { name := "ytkckehpcdjlcpaa", sum := "e538b7a677cf9c25ab601b8f138004b680ea9ccae09ff7e97c779ceb2cfce856", checked := Try.checked }
namespace Rows
def none {H : Type} : Left H := { results := [], args := [] }

/-- 'waybilllaw15.BreakerMay': WHATEVER THE INPUT: true; the input reads as it did. -/
def breakerMaySpec : ChangeSpec := { name := "breakerMay", fn := fun _ => fun
  | [d1, d2, d3, d4, d5] => { results := [.lit (.bool true)], args := [d1, d2, d3, d4, d5] }
  | _ => none }
def breakerMayRow : OpenClaim := { program := "ytkckehpcdjlcpaa", sum := "e538b7a677cf9c25ab601b8f138004b680ea9ccae09ff7e97c779ceb2cfce856", func := "waybill/waybilllaw15.BreakerMay", spec := "breakerMay", apart := false }
def BreakerMaySaid : Prop := breakerMayRow.holds Try.pinned (OpenSpec.ofChange breakerMaySpec)

/-- ITS FALSE NEIGHBOUR: 'it returns false'. Refute it at one input. -/
def breakerMayWrong : ChangeSpec := { name := "breakerMay", fn := fun _ => fun
  | [d1, d2, d3, d4, d5] => { results := [.lit (.bool false)], args := [d1, d2, d3, d4, d5] }
  | _ => none }
def BreakerMayWrongFalsely : Prop := breakerMayRow.holds Try.pinned (OpenSpec.ofChange breakerMayWrong)

/-- 'waybilllaw15.BreakerOpens': WHATEVER THE INPUT: true; the input reads as it did. -/
def breakerOpensSpec : ChangeSpec := { name := "breakerOpens", fn := fun _ => fun
  | [d1, d2, d3] => { results := [.lit (.bool true)], args := [d1, d2, d3] }
  | _ => none }
def breakerOpensRow : OpenClaim := { program := "ytkckehpcdjlcpaa", sum := "e538b7a677cf9c25ab601b8f138004b680ea9ccae09ff7e97c779ceb2cfce856", func := "waybill/waybilllaw15.BreakerOpens", spec := "breakerOpens", apart := false }
def BreakerOpensSaid : Prop := breakerOpensRow.holds Try.pinned (OpenSpec.ofChange breakerOpensSpec)

/-- ITS FALSE NEIGHBOUR: 'it returns false'. Refute it at one input. -/
def breakerOpensWrong : ChangeSpec := { name := "breakerOpens", fn := fun _ => fun
  | [d1, d2, d3] => { results := [.lit (.bool false)], args := [d1, d2, d3] }
  | _ => none }
def BreakerOpensWrongFalsely : Prop := breakerOpensRow.holds Try.pinned (OpenSpec.ofChange breakerOpensWrong)

/-- 'waybilllaw15.BreakerRuns': WHATEVER THE INPUT: true; the input reads as it did. -/
def breakerRunsSpec : ChangeSpec := { name := "breakerRuns", fn := fun _ => fun
  | [d1, d2] => { results := [.lit (.bool true)], args := [d1, d2] }
  | _ => none }
def breakerRunsRow : OpenClaim := { program := "ytkckehpcdjlcpaa", sum := "e538b7a677cf9c25ab601b8f138004b680ea9ccae09ff7e97c779ceb2cfce856", func := "waybill/waybilllaw15.BreakerRuns", spec := "breakerRuns", unfollowed := true, recurses := true, apart := false }
def BreakerRunsSaid : Prop := breakerRunsRow.holds Try.pinned (OpenSpec.ofChange breakerRunsSpec)

/-- ITS FALSE NEIGHBOUR: 'it returns false'. Refute it at one input. -/
def breakerRunsWrong : ChangeSpec := { name := "breakerRuns", fn := fun _ => fun
  | [d1, d2] => { results := [.lit (.bool false)], args := [d1, d2] }
  | _ => none }
def BreakerRunsWrongFalsely : Prop := breakerRunsRow.holds Try.pinned (OpenSpec.ofChange breakerRunsWrong)

/-- 'waybilllaw15.BreakerProbes': WHATEVER THE INPUT: true; the input reads as it did. -/
def breakerProbesSpec : ChangeSpec := { name := "breakerProbes", fn := fun _ => fun
  | [d1, d2] => { results := [.lit (.bool true)], args := [d1, d2] }
  | _ => none }
def breakerProbesRow : OpenClaim := { program := "ytkckehpcdjlcpaa", sum := "e538b7a677cf9c25ab601b8f138004b680ea9ccae09ff7e97c779ceb2cfce856", func := "waybill/waybilllaw15.BreakerProbes", spec := "breakerProbes", unfollowed := true, recurses := true, apart := false }
def BreakerProbesSaid : Prop := breakerProbesRow.holds Try.pinned (OpenSpec.ofChange breakerProbesSpec)

/-- ITS FALSE NEIGHBOUR: 'it returns false'. Refute it at one input. -/
def breakerProbesWrong : ChangeSpec := { name := "breakerProbes", fn := fun _ => fun
  | [d1, d2] => { results := [.lit (.bool false)], args := [d1, d2] }
  | _ => none }
def BreakerProbesWrongFalsely : Prop := breakerProbesRow.holds Try.pinned (OpenSpec.ofChange breakerProbesWrong)

/-- 'waybilllaw15.BreakerGood': WHATEVER THE INPUT: true; the input reads as it did. -/
def breakerGoodSpec : ChangeSpec := { name := "breakerGood", fn := fun _ => fun
  | [d1, d2] => { results := [.lit (.bool true)], args := [d1, d2] }
  | _ => none }
def breakerGoodRow : OpenClaim := { program := "ytkckehpcdjlcpaa", sum := "e538b7a677cf9c25ab601b8f138004b680ea9ccae09ff7e97c779ceb2cfce856", func := "waybill/waybilllaw15.BreakerGood", spec := "breakerGood", unfollowed := true, recurses := true, apart := false }
def BreakerGoodSaid : Prop := breakerGoodRow.holds Try.pinned (OpenSpec.ofChange breakerGoodSpec)

/-- ITS FALSE NEIGHBOUR: 'it returns false'. Refute it at one input. -/
def breakerGoodWrong : ChangeSpec := { name := "breakerGood", fn := fun _ => fun
  | [d1, d2] => { results := [.lit (.bool false)], args := [d1, d2] }
  | _ => none }
def BreakerGoodWrongFalsely : Prop := breakerGoodRow.holds Try.pinned (OpenSpec.ofChange breakerGoodWrong)

/- THE SECOND FORM. 'bulk': how many values and letters a reading holds, each counted each time it is reached (what is shared counts as often as it is met; a slice's spare places count too). A statement '..UptoSaid' is the law's where the arguments, and the package variables that the reading takes, are together of bulk at most 1048576: NARROWER than '..Said'. Prove '..Said' where nothing that the law and all that it calls make is longer than what came in: it says more and counts as full. Else prove '..UptoSaid'. A law counts once. -/
mutual
def uptoBulk {H : Type} : DataW H → Nat
  | .lit (.string bytes) => bytes.length + 1
  | .lit _ => 1
  | .nil => 1
  | .ptr d => uptoBulk d + 1
  | .slice elems spare => uptoBulkAll elems + uptoBulkAll spare + 1
  | .agg parts => uptoBulkAll parts + 1
  | .iface _ d => uptoBulk d + 1
  | .map entries => uptoBulkEntries entries + 1
  | .held _ => 1
def uptoBulkAll {H : Type} : List (DataW H) → Nat
  | [] => 0
  | d :: r => uptoBulk d + uptoBulkAll r
def uptoBulkEntries {H : Type} : List (Lit × DataW H) → Nat
  | [] => 0
  | x :: r => uptoBulkEntry x + uptoBulkEntries r
def uptoBulkEntry {H : Type} : Lit × DataW H → Nat
  | (.string bytes, d) => bytes.length + uptoBulk d + 1
  | (_, d) => uptoBulk d + 1
 end
def uptoSmall : (H : Type) → List (DataW H) → Bool := fun _ ds => decide (uptoBulkAll ds ≤ 1048576)
def OpenSpec.upto (s : _root_.Go.ChangeSpec) : _root_.Go.OpenSpec := { _root_.Go.OpenSpec.ofChange s with cond := some uptoSmall }

/-- 'waybilllaw15.BreakerMay', WHERE WHAT IT READS IS OF BULK AT MOST 1048576: true; the input reads as it did. -/
def breakerMayUptoRow : OpenClaim := { program := "ytkckehpcdjlcpaa", sum := "e538b7a677cf9c25ab601b8f138004b680ea9ccae09ff7e97c779ceb2cfce856", func := "waybill/waybilllaw15.BreakerMay", spec := "breakerMay", apart := false, narrowed := true }
def BreakerMayUptoSaid : Prop := breakerMayUptoRow.holds Try.pinned (OpenSpec.upto breakerMaySpec)

/-- 'waybilllaw15.BreakerOpens', WHERE WHAT IT READS IS OF BULK AT MOST 1048576: true; the input reads as it did. -/
def breakerOpensUptoRow : OpenClaim := { program := "ytkckehpcdjlcpaa", sum := "e538b7a677cf9c25ab601b8f138004b680ea9ccae09ff7e97c779ceb2cfce856", func := "waybill/waybilllaw15.BreakerOpens", spec := "breakerOpens", apart := false, narrowed := true }
def BreakerOpensUptoSaid : Prop := breakerOpensUptoRow.holds Try.pinned (OpenSpec.upto breakerOpensSpec)

/-- 'waybilllaw15.BreakerRuns', WHERE WHAT IT READS IS OF BULK AT MOST 1048576: true; the input reads as it did. -/
def breakerRunsUptoRow : OpenClaim := { program := "ytkckehpcdjlcpaa", sum := "e538b7a677cf9c25ab601b8f138004b680ea9ccae09ff7e97c779ceb2cfce856", func := "waybill/waybilllaw15.BreakerRuns", spec := "breakerRuns", unfollowed := true, recurses := true, apart := false, narrowed := true }
def BreakerRunsUptoSaid : Prop := breakerRunsUptoRow.holds Try.pinned (OpenSpec.upto breakerRunsSpec)

/-- 'waybilllaw15.BreakerProbes', WHERE WHAT IT READS IS OF BULK AT MOST 1048576: true; the input reads as it did. -/
def breakerProbesUptoRow : OpenClaim := { program := "ytkckehpcdjlcpaa", sum := "e538b7a677cf9c25ab601b8f138004b680ea9ccae09ff7e97c779ceb2cfce856", func := "waybill/waybilllaw15.BreakerProbes", spec := "breakerProbes", unfollowed := true, recurses := true, apart := false, narrowed := true }
def BreakerProbesUptoSaid : Prop := breakerProbesUptoRow.holds Try.pinned (OpenSpec.upto breakerProbesSpec)

/-- 'waybilllaw15.BreakerGood', WHERE WHAT IT READS IS OF BULK AT MOST 1048576: true; the input reads as it did. -/
def breakerGoodUptoRow : OpenClaim := { program := "ytkckehpcdjlcpaa", sum := "e538b7a677cf9c25ab601b8f138004b680ea9ccae09ff7e97c779ceb2cfce856", func := "waybill/waybilllaw15.BreakerGood", spec := "breakerGood", unfollowed := true, recurses := true, apart := false, narrowed := true }
def BreakerGoodUptoSaid : Prop := breakerGoodUptoRow.holds Try.pinned (OpenSpec.upto breakerGoodSpec)

end Rows
end Go.Proofs.Ytkckehpcdjlcpaa
