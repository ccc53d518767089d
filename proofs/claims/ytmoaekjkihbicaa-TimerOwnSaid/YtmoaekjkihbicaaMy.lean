/- A region that draws its order and writes to one row: the world at its start keeps that row. -/
import Derived.Test.YtmoaekjkihbicaaMx
set_option linter.unusedVariables false
set_option linter.unusedSimpArgs false
namespace Go
open Go.RowKit
namespace Proofs.Ytmoaekjkihbicaa.K
section
variable {P : Program} {ops : Array Oper} {md : Region.Mode} {C : World → Prop}
theorem wp_region_mixC1 {id : Nat} {Q : Exit → Go.Act → World → Prop} {a : Go.Act} {w : World} {l : List Oper} (hm : P.follows .mixedOrders = true) (hB : mixB .any l.toArray l.length = true) (hC : C { w with drawn := w.drawn + 1 })
    (h : wpMix P l.toArray C (fun a' W => Q .normal a' W) l a { w with drawn := w.drawn + 1 }) : (Code.region id l.toArray true).wp P Q a w := by
  refine wp_region_any hm ?_
  have hL := left_start l l.length (Nat.le_refl _)
  rw [List.take_length] at hL
  have h1 := mix_any (P := P) (C := C) (g := 0) (Q := fun a' W => Q .normal a' W) (Q' := Q) hB (by simp) (fun listed _ _ j hj => by
    have := (Array.getElem?_eq_some_iff.1 (mem_ready.1 hj).2.choose_spec.1).1
    simpa using this) (fun listed a' W inv hall _ hq => by
    refine ⟨List.eq_nil_iff_forall_not_mem.2 fun j hj => ?_, hq⟩
    obtain ⟨h0, o, ho, _⟩ := mem_ready.1 hj
    have hj2 := (Array.getElem?_eq_some_iff.1 ho).1
    rw [hall j (by simpa using hj2)] at h0
    cases h0) _ _ a { w with drawn := w.drawn + 1 } hL (inv_start l _) hC (by rw [left_list]; exact h)
  simpa using h1
theorem wp_region_mixT1 {id : Nat} {Q : Exit → Go.Act → World → Prop} {a : Go.Act} {w : World} {l : List Oper} (n : Nat) (hm : P.follows .mixedOrders = true) (hB : mixB .any l.toArray n = true) (hT : tailB .any l.toArray n = true) (hC : C { w with drawn := w.drawn + 1 })
    (h : wpMix P l.toArray C (fun a' W => wpList P l.toArray Q (l.drop n) a' W) (l.take n) a { w with drawn := w.drawn + 1 }) : (Code.region id l.toArray true).wp P Q a w := by
  simp only [tailB, Bool.and_eq_true, decide_eq_true_eq] at hT
  obtain ⟨⟨⟨hn, hs⟩, hc⟩, hseq⟩ := hT
  have hn' : n < l.length := by simpa using hn
  refine wp_region_any hm ?_
  have hL := left_start l n (by omega)
  have h1 := mix_any (P := P) (C := C) (g := l.toArray.size - n) (Q := fun a' W => wpList P l.toArray Q (l.drop n) a' W) (Q' := Q) hB (by omega) (fun listed inv hex j hj => by
    obtain ⟨i, hi, hun⟩ := hex
    rcases Nat.lt_or_ge j n with h | h
    · exact h
    · exact absurd hj (tail_waits hs hc hn inv _ i rfl hi hun j h)) (fun listed a' W inv hall _ hq => by
    have hfl : listed = headFlags n l.toArray.size := by
      apply Array.ext
      · simp [headFlags, inv.size]
      · intro i h1 h2
        simp only [headFlags, Array.getElem_map, List.getElem_toArray, List.getElem_range]
        by_cases hin : i < n
        · have := hall i hin
          simp [h1] at this
          rw [this]; simp [hin]
        · have := inv.tail i (by omega) (by rw [← inv.size]; exact h1)
          simp [h1] at this
          rw [this]; simp [hin]
    have hdl : (l.drop n).length = l.toArray.size - n := by simp
    have := wpAny_of_seq (md := .any) (Q' := Q) (l.drop n) n listed a' W (fun j => by simp [List.getElem?_drop]) (by rw [hdl, hfl]; exact hseq) hq
    rwa [hdl] at this) _ _ a { w with drawn := w.drawn + 1 } hL (inv_start l _) hC (by rw [left_list]; exact h)
  have hlen : ((l.take n).zipIdx.map fun p => (p.2, p.1)).length = n := by simp; omega
  rw [hlen, show n + (l.toArray.size - n) = l.toArray.size by simp; omega] at h1
  exact h1
end
section
variable {P : Program}
theorem InR.of_bel {w W : World} (r : Option Nat) (h : Bel w W) : InR w r W := ⟨⟨h.out.os, h.out.tape, h.out.output, h.out.size, fun k hk _ => h.out.block k hk⟩⟩
theorem bel_drew1 (w : World) : Bel w { w with drawn := w.drawn + 1 } := (g_drew1 w none).bel
theorem wp_region_row {id : Nat} {Q : Exit → Go.Act → World → Prop} {a : Go.Act} {w : World} {l : List Oper} (r : Option Nat) (hm : P.follows .mixedOrders = true) (hB : mixB .any l.toArray l.length = true)
    (h : ∀ W, Bel w W → wpMix P l.toArray (InR w r) (fun a' W => Q .normal a' W) l a W) : (Code.region id l.toArray true).wp P Q a w :=
  wp_region_mixC1 hm hB (g_drew1 w r) (h _ (bel_drew1 w))
theorem wp_region_row_tail {id : Nat} {Q : Exit → Go.Act → World → Prop} {a : Go.Act} {w : World} {l : List Oper} (r : Option Nat) (n : Nat) (hm : P.follows .mixedOrders = true) (hB : mixB .any l.toArray n = true) (hT : tailB .any l.toArray n = true)
    (h : ∀ W, Bel w W → wpMix P l.toArray (InR w r) (fun a' W => wpList P l.toArray Q (l.drop n) a' W) (l.take n) a W) : (Code.region id l.toArray true).wp P Q a w :=
  wp_region_mixT1 n hm hB hT (g_drew1 w r) (h _ (bel_drew1 w))
end
end Proofs.Ytmoaekjkihbicaa.K
end Go
