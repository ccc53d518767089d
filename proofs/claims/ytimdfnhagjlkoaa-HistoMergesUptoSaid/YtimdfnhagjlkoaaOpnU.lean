/- The second form: what the bound says of a slice's length. -/
import Derived.Test.YtimdfnhagjlkoaaRows
import Derived.Test.YtimdfnhagjlkoaaOpnS
set_option linter.unusedVariables false
namespace Go.Proofs.Ytimdfnhagjlkoaa.Opn
open Go.ChangeShapes Go.WideShapes Go.ChangeAt Go.RowKit
section
variable {H : Type} {enc : TypeId × Value → H} {P : Program} {w : World} {base : Nat} {spare : Nat → Bool} {held : Bool}
theorem bulk_one (d : DataW H) : 1 ≤ Rows.uptoBulk d := by
  cases d with
  | lit l => cases l <;> simp [Rows.uptoBulk]
  | nil => simp [Rows.uptoBulk]
  | ptr d => simp [Rows.uptoBulk]
  | slice elems spare => simp [Rows.uptoBulk]
  | agg parts => simp [Rows.uptoBulk]
  | iface t d => simp [Rows.uptoBulk]
  | map entries => simp [Rows.uptoBulk]
  | held h => simp [Rows.uptoBulk]
theorem bulk_len : ∀ l : List (DataW H), l.length ≤ Rows.uptoBulkAll l
  | [] => by simp
  | x :: r => by have := bulk_one x; have := bulk_len r; simp only [Rows.uptoBulkAll, List.length_cons]; omega
theorem bulk_at {t e : TypeId} {a : Option Addr} {n c : Nat} {d : DataW H} {p : List MemPlace} (hu : P.underlying t = some (.slice e)) (h : DataW.Trod enc P w base spare held t (.slice a n c) d p) : n + 1 ≤ Rows.uptoBulk d := by
  obtain ⟨m, hm⟩ := h
  simp only [Value.cells] at hm
  rcases DataW.trod_slice hu hm with ⟨h1, h2⟩ | ⟨a2, len, cap, elems, rest, q, _, h1, h2, _, _, _, hl, _⟩
  · injection h1 with h1 _
    injection h1 with _ h1 _
    subst h1
    have := bulk_one d
    omega
  · injection h1 with h1 _
    injection h1 with _ h1 _
    injection h2 with h2 _
    rw [h2]
    have := bulk_len (elems.map (·.1))
    simp only [Rows.uptoBulk, List.length_map] at this ⊢
    omega
end
end Go.Proofs.Ytimdfnhagjlkoaa.Opn
