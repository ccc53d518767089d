/-
  No cell of these rows narrows 'for every input' (looked for: loops, veiled, ifaces, maps, wideKeys, modest, calm, conditions, laid).
  DERIVED. THE GIVEN ROWS OF THIS SEAT. 12 by the template 'for every input the law returns true; each argument reads behind the call as it read before'; 0 by the template 'total and deterministic' (their statements: YtimdfnhagjlkoaaTotals.lean).
  GIVEN WITH THE SEED: the statements are not yours to turn. If you find one false, say at which input.
  Laid BY PROGRAM, IN A SANDBOX (cutbox-rows.mjs): the forced cells as the released guide's own fill.sh prints them over the translation cd542f6a8f517973… (all of the seat's roots in one cut). By AI agents, Wed Nov 11 2026. No macro, syntax, notation, axiom, sorry.
-/
import Derived.Test.YtimdfnhagjlkoaaChecked
import GoSem.Claim
import GoSem.ClaimJoined
import GoSem.ClaimMapViews
import Derived.JoinedTies
import Derived.KernelRfl
namespace Go.Proofs.Ytimdfnhagjlkoaa
/- THE CELL 'sum', in the pinned program and in every row, IS THE sha256 OF THE DUMP (.gsa) THAT YtimdfnhagjlkoaaProg.lean LOADS. Nothing in Lean hashes anything: it is a label: what it is worth is what the hold of that sum in a sandbox is worth. -/
noncomputable def Try.pinned : Pinned := { name := "ytimdfnhagjlkoaa", sum := "cd542f6a8f51797309c721b45196402cc3fb88b20b50052ae0d17e8e0ac3bf0e", checked := Try.checked }
namespace Rows
def none {H : Type} : Left H := { results := [], args := [] }

/-- 'waybilllaw18.BackoffGrows': WHATEVER THE INPUT: true; the input reads as it did. -/
def backoffGrowsSpec : ChangeSpec := { name := "backoffGrows", fn := fun _ => fun
  | [d1, d2] => { results := [.lit (.bool true)], args := [d1, d2] }
  | _ => none }
def backoffGrowsRow : OpenClaim := { program := "ytimdfnhagjlkoaa", sum := "cd542f6a8f51797309c721b45196402cc3fb88b20b50052ae0d17e8e0ac3bf0e", func := "waybill/waybilllaw18.BackoffGrows", spec := "backoffGrows", unfollowed := true, recurses := true, apart := false }
def BackoffGrowsSaid : Prop := backoffGrowsRow.holds Try.pinned (OpenSpec.ofChange backoffGrowsSpec)

/-- ITS FALSE NEIGHBOUR: 'it returns false'. Refute it at one input. -/
def backoffGrowsWrong : ChangeSpec := { name := "backoffGrows", fn := fun _ => fun
  | [d1, d2] => { results := [.lit (.bool false)], args := [d1, d2] }
  | _ => none }
def BackoffGrowsWrongFalsely : Prop := backoffGrowsRow.holds Try.pinned (OpenSpec.ofChange backoffGrowsWrong)

/-- 'waybilllaw18.BackoffRow': WHATEVER THE INPUT: true; the input reads as it did. -/
def backoffRowSpec : ChangeSpec := { name := "backoffRow", fn := fun _ => fun
  | [d1, d2, d3] => { results := [.lit (.bool true)], args := [d1, d2, d3] }
  | _ => none }
def backoffRowRow : OpenClaim := { program := "ytimdfnhagjlkoaa", sum := "cd542f6a8f51797309c721b45196402cc3fb88b20b50052ae0d17e8e0ac3bf0e", func := "waybill/waybilllaw18.BackoffRow", spec := "backoffRow", unfollowed := true, recurses := true, apart := false }
def BackoffRowSaid : Prop := backoffRowRow.holds Try.pinned (OpenSpec.ofChange backoffRowSpec)

/-- ITS FALSE NEIGHBOUR: 'it returns false'. Refute it at one input. -/
def backoffRowWrong : ChangeSpec := { name := "backoffRow", fn := fun _ => fun
  | [d1, d2, d3] => { results := [.lit (.bool false)], args := [d1, d2, d3] }
  | _ => none }
def BackoffRowWrongFalsely : Prop := backoffRowRow.holds Try.pinned (OpenSpec.ofChange backoffRowWrong)

/-- 'waybilllaw18.BackoffBounds': WHATEVER THE INPUT: true; the input reads as it did. -/
def backoffBoundsSpec : ChangeSpec := { name := "backoffBounds", fn := fun _ => fun
  | [d1, d2, d3] => { results := [.lit (.bool true)], args := [d1, d2, d3] }
  | _ => none }
def backoffBoundsRow : OpenClaim := { program := "ytimdfnhagjlkoaa", sum := "cd542f6a8f51797309c721b45196402cc3fb88b20b50052ae0d17e8e0ac3bf0e", func := "waybill/waybilllaw18.BackoffBounds", spec := "backoffBounds", unfollowed := true, recurses := true, apart := false }
def BackoffBoundsSaid : Prop := backoffBoundsRow.holds Try.pinned (OpenSpec.ofChange backoffBoundsSpec)

/-- ITS FALSE NEIGHBOUR: 'it returns false'. Refute it at one input. -/
def backoffBoundsWrong : ChangeSpec := { name := "backoffBounds", fn := fun _ => fun
  | [d1, d2, d3] => { results := [.lit (.bool false)], args := [d1, d2, d3] }
  | _ => none }
def BackoffBoundsWrongFalsely : Prop := backoffBoundsRow.holds Try.pinned (OpenSpec.ofChange backoffBoundsWrong)

/-- 'waybilllaw18.BackoffJitter': WHATEVER THE INPUT: true; the input reads as it did. -/
def backoffJitterSpec : ChangeSpec := { name := "backoffJitter", fn := fun _ => fun
  | [d1, d2, d3, d4] => { results := [.lit (.bool true)], args := [d1, d2, d3, d4] }
  | _ => none }
def backoffJitterRow : OpenClaim := { program := "ytimdfnhagjlkoaa", sum := "cd542f6a8f51797309c721b45196402cc3fb88b20b50052ae0d17e8e0ac3bf0e", func := "waybill/waybilllaw18.BackoffJitter", spec := "backoffJitter", unfollowed := true, recurses := true, apart := false }
def BackoffJitterSaid : Prop := backoffJitterRow.holds Try.pinned (OpenSpec.ofChange backoffJitterSpec)

/-- ITS FALSE NEIGHBOUR: 'it returns false'. Refute it at one input. -/
def backoffJitterWrong : ChangeSpec := { name := "backoffJitter", fn := fun _ => fun
  | [d1, d2, d3, d4] => { results := [.lit (.bool false)], args := [d1, d2, d3, d4] }
  | _ => none }
def BackoffJitterWrongFalsely : Prop := backoffJitterRow.holds Try.pinned (OpenSpec.ofChange backoffJitterWrong)

/-- 'waybilllaw18.BackoffTells': WHATEVER THE INPUT: true; the input reads as it did. -/
def backoffTellsSpec : ChangeSpec := { name := "backoffTells", fn := fun _ => fun
  | [d1, d2, d3, d4] => { results := [.lit (.bool true)], args := [d1, d2, d3, d4] }
  | _ => none }
def backoffTellsRow : OpenClaim := { program := "ytimdfnhagjlkoaa", sum := "cd542f6a8f51797309c721b45196402cc3fb88b20b50052ae0d17e8e0ac3bf0e", func := "waybill/waybilllaw18.BackoffTells", spec := "backoffTells", unfollowed := true, recurses := true, apart := false }
def BackoffTellsSaid : Prop := backoffTellsRow.holds Try.pinned (OpenSpec.ofChange backoffTellsSpec)

/-- ITS FALSE NEIGHBOUR: 'it returns false'. Refute it at one input. -/
def backoffTellsWrong : ChangeSpec := { name := "backoffTells", fn := fun _ => fun
  | [d1, d2, d3, d4] => { results := [.lit (.bool false)], args := [d1, d2, d3, d4] }
  | _ => none }
def BackoffTellsWrongFalsely : Prop := backoffTellsRow.holds Try.pinned (OpenSpec.ofChange backoffTellsWrong)

/-- 'waybilllaw18.BackoffSums': WHATEVER THE INPUT: true; the input reads as it did. -/
def backoffSumsSpec : ChangeSpec := { name := "backoffSums", fn := fun _ => fun
  | [d1, d2] => { results := [.lit (.bool true)], args := [d1, d2] }
  | _ => none }
def backoffSumsRow : OpenClaim := { program := "ytimdfnhagjlkoaa", sum := "cd542f6a8f51797309c721b45196402cc3fb88b20b50052ae0d17e8e0ac3bf0e", func := "waybill/waybilllaw18.BackoffSums", spec := "backoffSums", unfollowed := true, recurses := true, apart := false }
def BackoffSumsSaid : Prop := backoffSumsRow.holds Try.pinned (OpenSpec.ofChange backoffSumsSpec)

/-- ITS FALSE NEIGHBOUR: 'it returns false'. Refute it at one input. -/
def backoffSumsWrong : ChangeSpec := { name := "backoffSums", fn := fun _ => fun
  | [d1, d2] => { results := [.lit (.bool false)], args := [d1, d2] }
  | _ => none }
def BackoffSumsWrongFalsely : Prop := backoffSumsRow.holds Try.pinned (OpenSpec.ofChange backoffSumsWrong)

/-- 'waybilllaw19.HistoBuckets': WHATEVER THE INPUT: true; the input reads as it did. -/
def histoBucketsSpec : ChangeSpec := { name := "histoBuckets", fn := fun _ => fun
  | [d] => { results := [.lit (.bool true)], args := [d] }
  | _ => none }
def histoBucketsRow : OpenClaim := { program := "ytimdfnhagjlkoaa", sum := "cd542f6a8f51797309c721b45196402cc3fb88b20b50052ae0d17e8e0ac3bf0e", func := "waybill/waybilllaw19.HistoBuckets", spec := "histoBuckets", apart := false }
def HistoBucketsSaid : Prop := histoBucketsRow.holds Try.pinned (OpenSpec.ofChange histoBucketsSpec)

/-- ITS FALSE NEIGHBOUR: 'it returns false'. Refute it at one input. -/
def histoBucketsWrong : ChangeSpec := { name := "histoBuckets", fn := fun _ => fun
  | [d] => { results := [.lit (.bool false)], args := [d] }
  | _ => none }
def HistoBucketsWrongFalsely : Prop := histoBucketsRow.holds Try.pinned (OpenSpec.ofChange histoBucketsWrong)

/-- 'waybilllaw19.HistoRises': WHATEVER THE INPUT: true; the input reads as it did. -/
def histoRisesSpec : ChangeSpec := { name := "histoRises", fn := fun _ => fun
  | [d1, d2, d3] => { results := [.lit (.bool true)], args := [d1, d2, d3] }
  | _ => none }
def histoRisesRow : OpenClaim := { program := "ytimdfnhagjlkoaa", sum := "cd542f6a8f51797309c721b45196402cc3fb88b20b50052ae0d17e8e0ac3bf0e", func := "waybill/waybilllaw19.HistoRises", spec := "histoRises", unfollowed := true, recurses := true, apart := false }
def HistoRisesSaid : Prop := histoRisesRow.holds Try.pinned (OpenSpec.ofChange histoRisesSpec)

/-- ITS FALSE NEIGHBOUR: 'it returns false'. Refute it at one input. -/
def histoRisesWrong : ChangeSpec := { name := "histoRises", fn := fun _ => fun
  | [d1, d2, d3] => { results := [.lit (.bool false)], args := [d1, d2, d3] }
  | _ => none }
def HistoRisesWrongFalsely : Prop := histoRisesRow.holds Try.pinned (OpenSpec.ofChange histoRisesWrong)

/-- 'waybilllaw19.HistoQuantiles': WHATEVER THE INPUT: true; the input reads as it did. -/
def histoQuantilesSpec : ChangeSpec := { name := "histoQuantiles", fn := fun _ => fun
  | [d1, d2] => { results := [.lit (.bool true)], args := [d1, d2] }
  | _ => none }
def histoQuantilesRow : OpenClaim := { program := "ytimdfnhagjlkoaa", sum := "cd542f6a8f51797309c721b45196402cc3fb88b20b50052ae0d17e8e0ac3bf0e", func := "waybill/waybilllaw19.HistoQuantiles", spec := "histoQuantiles", unfollowed := true, recurses := true, apart := false }
def HistoQuantilesSaid : Prop := histoQuantilesRow.holds Try.pinned (OpenSpec.ofChange histoQuantilesSpec)

/-- ITS FALSE NEIGHBOUR: 'it returns false'. Refute it at one input. -/
def histoQuantilesWrong : ChangeSpec := { name := "histoQuantiles", fn := fun _ => fun
  | [d1, d2] => { results := [.lit (.bool false)], args := [d1, d2] }
  | _ => none }
def HistoQuantilesWrongFalsely : Prop := histoQuantilesRow.holds Try.pinned (OpenSpec.ofChange histoQuantilesWrong)

/-- 'waybilllaw19.HistoMerges': WHATEVER THE INPUT: true; the input reads as it did. -/
def histoMergesSpec : ChangeSpec := { name := "histoMerges", fn := fun _ => fun
  | [d1, d2] => { results := [.lit (.bool true)], args := [d1, d2] }
  | _ => none }
def histoMergesRow : OpenClaim := { program := "ytimdfnhagjlkoaa", sum := "cd542f6a8f51797309c721b45196402cc3fb88b20b50052ae0d17e8e0ac3bf0e", func := "waybill/waybilllaw19.HistoMerges", spec := "histoMerges", unfollowed := true, recurses := true, apart := false }
def HistoMergesSaid : Prop := histoMergesRow.holds Try.pinned (OpenSpec.ofChange histoMergesSpec)

/-- ITS FALSE NEIGHBOUR: 'it returns false'. Refute it at one input. -/
def histoMergesWrong : ChangeSpec := { name := "histoMerges", fn := fun _ => fun
  | [d1, d2] => { results := [.lit (.bool false)], args := [d1, d2] }
  | _ => none }
def HistoMergesWrongFalsely : Prop := histoMergesRow.holds Try.pinned (OpenSpec.ofChange histoMergesWrong)

/-- 'waybilllaw19.HistoOwn': WHATEVER THE INPUT: true; the input reads as it did. -/
def histoOwnSpec : ChangeSpec := { name := "histoOwn", fn := fun _ => fun
  | [d1, d2] => { results := [.lit (.bool true)], args := [d1, d2] }
  | _ => none }
def histoOwnRow : OpenClaim := { program := "ytimdfnhagjlkoaa", sum := "cd542f6a8f51797309c721b45196402cc3fb88b20b50052ae0d17e8e0ac3bf0e", func := "waybill/waybilllaw19.HistoOwn", spec := "histoOwn", unfollowed := true, recurses := true, apart := false }
def HistoOwnSaid : Prop := histoOwnRow.holds Try.pinned (OpenSpec.ofChange histoOwnSpec)

/-- ITS FALSE NEIGHBOUR: 'it returns false'. Refute it at one input. -/
def histoOwnWrong : ChangeSpec := { name := "histoOwn", fn := fun _ => fun
  | [d1, d2] => { results := [.lit (.bool false)], args := [d1, d2] }
  | _ => none }
def HistoOwnWrongFalsely : Prop := histoOwnRow.holds Try.pinned (OpenSpec.ofChange histoOwnWrong)

/-- 'waybilllaw19.HistoTells': WHATEVER THE INPUT: true; the input reads as it did. -/
def histoTellsSpec : ChangeSpec := { name := "histoTells", fn := fun _ => fun
  | [d1, d2, d3, d4, d5] => { results := [.lit (.bool true)], args := [d1, d2, d3, d4, d5] }
  | _ => none }
def histoTellsRow : OpenClaim := { program := "ytimdfnhagjlkoaa", sum := "cd542f6a8f51797309c721b45196402cc3fb88b20b50052ae0d17e8e0ac3bf0e", func := "waybill/waybilllaw19.HistoTells", spec := "histoTells", unfollowed := true, recurses := true, apart := false }
def HistoTellsSaid : Prop := histoTellsRow.holds Try.pinned (OpenSpec.ofChange histoTellsSpec)

/-- ITS FALSE NEIGHBOUR: 'it returns false'. Refute it at one input. -/
def histoTellsWrong : ChangeSpec := { name := "histoTells", fn := fun _ => fun
  | [d1, d2, d3, d4, d5] => { results := [.lit (.bool false)], args := [d1, d2, d3, d4, d5] }
  | _ => none }
def HistoTellsWrongFalsely : Prop := histoTellsRow.holds Try.pinned (OpenSpec.ofChange histoTellsWrong)

/- THE SECOND FORM. 'bulk': how many values and letters a reading holds, each counted each time it is reached (what is shared counts as often as it is met; a slice's spare places count too). A statement '..UptoSaid' is the law's where the arguments, and the package variables that the reading takes, are together of bulk at most 1048576: NARROWER than '..Said'. Prove '..Said' where nothing that the law and all that it calls make is longer than what came in: it says more and counts as full. Else prove '..UptoSaid'. A law counts once. -/
mutual
def uptoBulk {H : Type} : DataW H → Nat
  | .lit (.string bytes) => bytes.length + 1
  | .lit _ => 1
  | .nil => 1
  | .ptr d => uptoBulk d + 1
  | .slice elems spare => uptoBulkAll elems + uptoBulkAll spare + 1
  | .agg parts => uptoBulkAll parts + 1
  | .iface _ d => uptoBulk d + 1
  | .map entries => uptoBulkEntries entries + 1
  | .held _ => 1
def uptoBulkAll {H : Type} : List (DataW H) → Nat
  | [] => 0
  | d :: r => uptoBulk d + uptoBulkAll r
def uptoBulkEntries {H : Type} : List (Lit × DataW H) → Nat
  | [] => 0
  | x :: r => uptoBulkEntry x + uptoBulkEntries r
def uptoBulkEntry {H : Type} : Lit × DataW H → Nat
  | (.string bytes, d) => bytes.length + uptoBulk d + 1
  | (_, d) => uptoBulk d + 1
 end
def uptoSmall : (H : Type) → List (DataW H) → Bool := fun _ ds => decide (uptoBulkAll ds ≤ 1048576)
def OpenSpec.upto (s : _root_.Go.ChangeSpec) : _root_.Go.OpenSpec := { _root_.Go.OpenSpec.ofChange s with cond := some uptoSmall }

/-- 'waybilllaw18.BackoffGrows', WHERE WHAT IT READS IS OF BULK AT MOST 1048576: true; the input reads as it did. -/
def backoffGrowsUptoRow : OpenClaim := { program := "ytimdfnhagjlkoaa", sum := "cd542f6a8f51797309c721b45196402cc3fb88b20b50052ae0d17e8e0ac3bf0e", func := "waybill/waybilllaw18.BackoffGrows", spec := "backoffGrows", unfollowed := true, recurses := true, apart := false, narrowed := true }
def BackoffGrowsUptoSaid : Prop := backoffGrowsUptoRow.holds Try.pinned (OpenSpec.upto backoffGrowsSpec)

/-- 'waybilllaw18.BackoffRow', WHERE WHAT IT READS IS OF BULK AT MOST 1048576: true; the input reads as it did. -/
def backoffRowUptoRow : OpenClaim := { program := "ytimdfnhagjlkoaa", sum := "cd542f6a8f51797309c721b45196402cc3fb88b20b50052ae0d17e8e0ac3bf0e", func := "waybill/waybilllaw18.BackoffRow", spec := "backoffRow", unfollowed := true, recurses := true, apart := false, narrowed := true }
def BackoffRowUptoSaid : Prop := backoffRowUptoRow.holds Try.pinned (OpenSpec.upto backoffRowSpec)

/-- 'waybilllaw18.BackoffBounds', WHERE WHAT IT READS IS OF BULK AT MOST 1048576: true; the input reads as it did. -/
def backoffBoundsUptoRow : OpenClaim := { program := "ytimdfnhagjlkoaa", sum := "cd542f6a8f51797309c721b45196402cc3fb88b20b50052ae0d17e8e0ac3bf0e", func := "waybill/waybilllaw18.BackoffBounds", spec := "backoffBounds", unfollowed := true, recurses := true, apart := false, narrowed := true }
def BackoffBoundsUptoSaid : Prop := backoffBoundsUptoRow.holds Try.pinned (OpenSpec.upto backoffBoundsSpec)

/-- 'waybilllaw18.BackoffJitter', WHERE WHAT IT READS IS OF BULK AT MOST 1048576: true; the input reads as it did. -/
def backoffJitterUptoRow : OpenClaim := { program := "ytimdfnhagjlkoaa", sum := "cd542f6a8f51797309c721b45196402cc3fb88b20b50052ae0d17e8e0ac3bf0e", func := "waybill/waybilllaw18.BackoffJitter", spec := "backoffJitter", unfollowed := true, recurses := true, apart := false, narrowed := true }
def BackoffJitterUptoSaid : Prop := backoffJitterUptoRow.holds Try.pinned (OpenSpec.upto backoffJitterSpec)

/-- 'waybilllaw18.BackoffTells', WHERE WHAT IT READS IS OF BULK AT MOST 1048576: true; the input reads as it did. -/
def backoffTellsUptoRow : OpenClaim := { program := "ytimdfnhagjlkoaa", sum := "cd542f6a8f51797309c721b45196402cc3fb88b20b50052ae0d17e8e0ac3bf0e", func := "waybill/waybilllaw18.BackoffTells", spec := "backoffTells", unfollowed := true, recurses := true, apart := false, narrowed := true }
def BackoffTellsUptoSaid : Prop := backoffTellsUptoRow.holds Try.pinned (OpenSpec.upto backoffTellsSpec)

/-- 'waybilllaw18.BackoffSums', WHERE WHAT IT READS IS OF BULK AT MOST 1048576: true; the input reads as it did. -/
def backoffSumsUptoRow : OpenClaim := { program := "ytimdfnhagjlkoaa", sum := "cd542f6a8f51797309c721b45196402cc3fb88b20b50052ae0d17e8e0ac3bf0e", func := "waybill/waybilllaw18.BackoffSums", spec := "backoffSums", unfollowed := true, recurses := true, apart := false, narrowed := true }
def BackoffSumsUptoSaid : Prop := backoffSumsUptoRow.holds Try.pinned (OpenSpec.upto backoffSumsSpec)

/-- 'waybilllaw19.HistoBuckets', WHERE WHAT IT READS IS OF BULK AT MOST 1048576: true; the input reads as it did. -/
def histoBucketsUptoRow : OpenClaim := { program := "ytimdfnhagjlkoaa", sum := "cd542f6a8f51797309c721b45196402cc3fb88b20b50052ae0d17e8e0ac3bf0e", func := "waybill/waybilllaw19.HistoBuckets", spec := "histoBuckets", apart := false, narrowed := true }
def HistoBucketsUptoSaid : Prop := histoBucketsUptoRow.holds Try.pinned (OpenSpec.upto histoBucketsSpec)

/-- 'waybilllaw19.HistoRises', WHERE WHAT IT READS IS OF BULK AT MOST 1048576: true; the input reads as it did. -/
def histoRisesUptoRow : OpenClaim := { program := "ytimdfnhagjlkoaa", sum := "cd542f6a8f51797309c721b45196402cc3fb88b20b50052ae0d17e8e0ac3bf0e", func := "waybill/waybilllaw19.HistoRises", spec := "histoRises", unfollowed := true, recurses := true, apart := false, narrowed := true }
def HistoRisesUptoSaid : Prop := histoRisesUptoRow.holds Try.pinned (OpenSpec.upto histoRisesSpec)

/-- 'waybilllaw19.HistoQuantiles', WHERE WHAT IT READS IS OF BULK AT MOST 1048576: true; the input reads as it did. -/
def histoQuantilesUptoRow : OpenClaim := { program := "ytimdfnhagjlkoaa", sum := "cd542f6a8f51797309c721b45196402cc3fb88b20b50052ae0d17e8e0ac3bf0e", func := "waybill/waybilllaw19.HistoQuantiles", spec := "histoQuantiles", unfollowed := true, recurses := true, apart := false, narrowed := true }
def HistoQuantilesUptoSaid : Prop := histoQuantilesUptoRow.holds Try.pinned (OpenSpec.upto histoQuantilesSpec)

/-- 'waybilllaw19.HistoMerges', WHERE WHAT IT READS IS OF BULK AT MOST 1048576: true; the input reads as it did. -/
def histoMergesUptoRow : OpenClaim := { program := "ytimdfnhagjlkoaa", sum := "cd542f6a8f51797309c721b45196402cc3fb88b20b50052ae0d17e8e0ac3bf0e", func := "waybill/waybilllaw19.HistoMerges", spec := "histoMerges", unfollowed := true, recurses := true, apart := false, narrowed := true }
def HistoMergesUptoSaid : Prop := histoMergesUptoRow.holds Try.pinned (OpenSpec.upto histoMergesSpec)

/-- 'waybilllaw19.HistoOwn', WHERE WHAT IT READS IS OF BULK AT MOST 1048576: true; the input reads as it did. -/
def histoOwnUptoRow : OpenClaim := { program := "ytimdfnhagjlkoaa", sum := "cd542f6a8f51797309c721b45196402cc3fb88b20b50052ae0d17e8e0ac3bf0e", func := "waybill/waybilllaw19.HistoOwn", spec := "histoOwn", unfollowed := true, recurses := true, apart := false, narrowed := true }
def HistoOwnUptoSaid : Prop := histoOwnUptoRow.holds Try.pinned (OpenSpec.upto histoOwnSpec)

/-- 'waybilllaw19.HistoTells', WHERE WHAT IT READS IS OF BULK AT MOST 1048576: true; the input reads as it did. -/
def histoTellsUptoRow : OpenClaim := { program := "ytimdfnhagjlkoaa", sum := "cd542f6a8f51797309c721b45196402cc3fb88b20b50052ae0d17e8e0ac3bf0e", func := "waybill/waybilllaw19.HistoTells", spec := "histoTells", unfollowed := true, recurses := true, apart := false, narrowed := true }
def HistoTellsUptoSaid : Prop := histoTellsUptoRow.holds Try.pinned (OpenSpec.upto histoTellsSpec)

end Rows
end Go.Proofs.Ytimdfnhagjlkoaa
