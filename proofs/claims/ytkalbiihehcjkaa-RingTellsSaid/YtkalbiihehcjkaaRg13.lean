/- Ring: begins, first. -/
import Derived.Test.YtkalbiihehcjkaaRg12
set_option linter.unusedVariables false
namespace Go.Proofs.Ytkalbiihehcjkaa.Rg
open Go.RowKit Go.Proofs.Ytkalbiihehcjkaa
set_option linter.unusedSimpArgs false
set_option maxRecDepth 100000 in
set_option maxHeartbeats 2000000 in
theorem begins_c (l : List Pt) (h : Int) (A : Option Addr) (n c : Nat) (w : World) (hr : Sl.Rds w 2 A n (l.flatMap Pt.cs)) (ho : ord l = true) (hn : n ≤ 1024) :
    Calls Try.prog 35 #[.slice A n c, .int .u64 h] w fun e w' => e = .returned (.agg #[.slice A n c, .int .i64 (ahead l h : Nat)]) ∧ Below w.heap.size w w' := by
  have GW := K.H.mk (fun (W : World) (hb : Below w.heap.size w W) => Search_c l h A n c W (hr.below hb) ho hn)
  generalize ahead l h = k at *
  clear hr ho
  
  
  go_enter Try.func35, Try.ntmps35
  go_wp2_with (first | (go_at_call 50; (with_reducible refine (GW.out _ (by repeat (first | (with_reducible exact Below.refl _ _) | (with_reducible refine K.b_bel ?_ (by assumption)) | (with_reducible refine K.b_alloc ?_ _) | (with_reducible refine K.b_drewN ?_ _) | (with_reducible refine K.b_drew ?_) | (with_reducible refine K.b_set ?_ (by first | omega | (simp <;> omega)) _) | (with_reducible refine K.b_only ?_ (by assumption) (by first | omega | (simp <;> omega)))))).mono ?_); rintro e W1 ⟨f1, rfl, hb1⟩; obtain ⟨hB1, hC1, hF1, hZ1⟩ := K.bel_facts hb1; clear hb1; have kR1 : K.At W1 w.heap.size 68 #[.slice none 0 0, .int .i64 0] := (by refine K.At.cast (by repeat (first | (with_reducible refine K.At.new' _ _ _ _ (by first | rfl | (simp; done) | omega)) | (with_reducible apply K.At.over hB1) | (with_reducible apply K.At.set) | (with_reducible apply K.At.alloc) | (with_reducible apply K.At.drewN) | (with_reducible apply K.At.drew) | (with_reducible apply K.At.far) | omega | (simp <;> omega))) ?_; rfl); obtain ⟨hc_kR1, hf_kR1, hl_kR1⟩ := K.At.facts kR1))
  ((try simp only [Exit.inBlock, Exit.then]); refine bodyPost_ret (v := .agg #[.slice A n c, .int .i64 k]) (by simp only [results, Try.results35]; go_simp) rfl ?_)
  exact ⟨rfl, (by repeat (first | (with_reducible exact Below.refl _ _) | (with_reducible refine K.b_bel ?_ (by assumption)) | (with_reducible refine K.b_alloc ?_ _) | (with_reducible refine K.b_drewN ?_ _) | (with_reducible refine K.b_drew ?_) | (with_reducible refine K.b_set ?_ (by first | omega | (simp <;> omega)) _) | (with_reducible refine K.b_only ?_ (by assumption) (by first | omega | (simp <;> omega)))))⟩
end Go.Proofs.Ytkalbiihehcjkaa.Rg
