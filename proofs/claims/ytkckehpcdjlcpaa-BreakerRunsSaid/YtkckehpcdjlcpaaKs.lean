/- Stores into a block that is known whole: the world behind is a new name. -/
import Derived.Laws.Tables
import Derived.Laws.CopyOwn
import Derived.Test.YtkckehpcdjlcpaaSl
set_option linter.unusedVariables false
namespace Go.Proofs.Ytkckehpcdjlcpaa.K
open Go.RowKit Go.Proofs.Ytkckehpcdjlcpaa
section
variable {P : Program} {ops : Array Oper} {o : Oper} {rest : List Oper} {a : Act} {Q : Exit → Go.Act → World → Prop} {w : World}
theorem only_setRow (w : World) (g : Nat) (cs : Array Value) : w.grownBy (w.setRow g cs) (some g) :=
  ⟨rfl, rfl, rfl, by simp [World.setRow], fun k _ hn => setRow_other w g k cs (by intro e; exact hn (by rw [e]))⟩
/-- The whole block g. -/
theorem st_row {ty T2 : TypeId} {x y : Operand} {pos : String} {after : Array Edge} {t : TypeId} {old : Array Value} (g : Nat) (hg : At w g t old) (cells : Array Value)
    (hx : a.eval x = .pointer (some ⟨g, 0, none⟩)) (hy : a.eval y = .agg cells) (hi : (P.info? ty).map (·.size) = some cells.size)
    (hold : old.size = cells.size) (h1 : cells.all (·.oneCell') = true)
    (h : ∀ W, At W g t cells → Only w W g → wpList P ops Q rest a W) : wpList P ops Q ({ dst := none, op := .store ty x y, type := T2, pos := pos, after := after, guard := none } :: rest) a w :=
  wpList_store_row rfl ty x y rfl g cells hx hy t old hg.out hi hold h1 (h _ ⟨setRow_heap w g old cells t (0, 0) hg.out⟩ ⟨only_setRow w g cells⟩)
/-- copy into a row that is known whole, as a step of a region that draws its order. -/
theorem step_copy {K : Go.Act → World → Prop} {E : Prop} (hgd : o.guard = none) (d s : Operand) (dT sT : TypeId)
    (ho : o.op = .call { callee := .builtin .copy, args := #[d, s], argTypes := #[dT, sT] }) (elem : TypeId) (hu : P.underlying dT = some (.slice elem)) (hsz : (P.info? elem).map (·.size) = some 1)
    (dp sp : Option Addr) (dLen dCap sLen sCap : Nat) (hd : a.eval d = .slice dp dLen dCap) (hs : a.eval s = .slice sp sLen sCap)
    (g off : Nat) (cur : List Value) (t : TypeId) (hg : At w g t cur.toArray) (cs : List Value) (hn : cs.length = Nat.min sLen dLen)
    (hpos : 0 < cs.length → dp = some ⟨g, off, none⟩ ∧ ∃ ad, sp = some ad ∧ ∀ j v, cs[j]? = some v → w.cell? (ad.add j) = some v)
    (hfit : off + cs.length ≤ cur.length) (h1 : ∀ v ∈ cs, v.oneCell' = true)
    (h : ∀ w', At w' g t (splice cur off cs).toArray → Only w w' g → K (a.put o.dst (goInt cs.length)) w') :
    if Region.wanted o (yielded ops a.tmps) = true then Oper.wp P o a w K Q else E := by
  have hw : Region.wanted o (yielded ops a.tmps) = true := by simp [Region.wanted, hgd]
  rw [if_pos hw]
  by_cases h0 : cs.length = 0
  · obtain rfl : cs = [] := List.eq_nil_of_length_eq_zero h0
    have hrun := run_copy_none (P := P) w dT sT o.type elem dp sp dLen dCap sLen sCap hu hsz (by simpa using hn.symm)
    unfold Oper.wp
    simp [execOp, ho, resolve, invoke, builtin, hd, hs, hrun, Result.andThen]
    exact h w ⟨by simpa [splice] using hg.out⟩ ⟨o_refl _ _⟩
  · obtain ⟨rfl, ad, rfl, hsrc⟩ := hpos (by omega)
    have hrun := run_copy_row (P := P) w dT sT o.type elem g off dLen dCap ad sLen sCap cur.toArray t cs hu hsz hg.out hn hsrc (by simpa using hfit) h1
    unfold Oper.wp
    simp [execOp, ho, resolve, invoke, builtin, hd, hs, hrun, Result.andThen]
    exact h _ ⟨by simpa [splice] using setRow_heap w g _ _ t _ hg.out⟩ ⟨only_setRow w g _⟩
end
end Go.Proofs.Ytkckehpcdjlcpaa.K
