/- Backoff: of one retry, how long it waits at most. -/
import Derived.Test.YtkalbiihehcjkaaBofI
set_option linter.unusedVariables false
namespace Go.Proofs.Ytkalbiihehcjkaa.Bof
open Go.RowKit Go.Shelf Go.Proofs.Ytkalbiihehcjkaa
attribute [local go_sem] Oper.semAt_some
attribute [local go_sem] K.max2_int K.min2_int K.max_two K.min_two K.max_three K.min_three
set_option linter.unusedSimpArgs false
theorem at_own {β : Type} (B g : Nat) (T : TypeId) (cs : β → Array Value) : OwnFrom B (fun s W => K.At W g T (cs s)) := fun s W W' row hs hg hr => at_kept hs hg (fun r e => (hr r e).2)
/-- What the retry n waits at most. -/
def mstI (s : S) (n : Int) : Int := mst s (n - 1).toNat
end Go.Proofs.Ytkalbiihehcjkaa.Bof
