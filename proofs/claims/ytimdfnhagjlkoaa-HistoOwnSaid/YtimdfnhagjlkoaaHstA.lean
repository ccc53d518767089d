/- Histograms: counts of one's own; Add. -/
import Derived.Test.YtimdfnhagjlkoaaHstQ
import Derived.Test.YtimdfnhagjlkoaaKs
import Derived.Test.YtimdfnhagjlkoaaOpnS
import Derived.Laws.CopyOwn
import Derived.Deep.RegionLaw
import Derived.Deep.OwnRows
set_option linter.unusedVariables false
namespace Go.Proofs.Ytimdfnhagjlkoaa.Hst
open Go.RowKit Go.Proofs.Ytimdfnhagjlkoaa
attribute [local go_sem] K.max2_int K.min2_int K.max_two K.min_two K.max_three K.min_three
set_option linter.unusedSimpArgs false
theorem info_int : (Try.prog.info? 3).map (fun i => (i.zero, i.size, i.bytes)) = some (some (.int .i64 0), 1, 8) := by kernel_rfl
theorem make81 (w : World) : (Instr.makeSlice 30 (.int .i64 81) (.int .i64 81)).run Try.prog w = .ok (.slice (some ⟨w.heap.size, 0, none⟩) 81 81) (w.alloc (.cells (madeCells #[.int .i64 0] 81) 3)) :=
  run_make_row' 30 3 (.int .i64 0) 8 Try.underlying30 info_int rfl .i64 .i64 81 (by omega) (by omega) w
/-- Counts, filled up to 81. -/
def pad (xs : List Int) : List Int := xs ++ List.replicate (81 - xs.length) 0
abbrev vals (xs : List Int) : Array Value := (xs.map (Value.int .i64)).toArray
/-- A tally of one's own: its block, its counts' block. -/
def OwnPost (w : World) (xs : List Int) (t : Int) (e : Ending) (w' : World) : Prop := ∃ P R, e = .returned (.pointer (some ⟨P, 0, none⟩)) ∧ w.heap.size ≤ P ∧ w.heap.size ≤ R ∧ P ≠ R ∧
  K.At w' P 86 #[.slice (some ⟨R, 0, none⟩) 81 81, .int .i64 t] ∧ K.At w' R 3 (vals (pad xs)) ∧ Below w.heap.size w w'
theorem pad_splice (xs : List Int) (h : xs.length ≤ 81) : splice ((List.replicate 81 0).map (Value.int .i64)) 0 (xs.map (Value.int .i64)) = (pad xs).map (Value.int .i64) := by
  have hg : ∀ n : Nat, xs.length ≤ n → splice ((List.replicate n (0 : Int)).map (Value.int .i64)) 0 (xs.map (Value.int .i64)) = (xs ++ List.replicate (n - xs.length) 0).map (Value.int .i64) := fun n _ => by
    unfold splice
    simp only [List.map_replicate, List.take_zero, List.nil_append, Nat.zero_add, List.length_map, List.drop_replicate, List.map_append]
  exact hg 81 h
theorem pad_len (xs : List Int) (h : xs.length ≤ 81) : (pad xs).length = 81 := by simp [pad]; omega
set_option maxRecDepth 100000 in
set_option maxHeartbeats 1000000 in
theorem own_c (xs : List Int) (t : Int) (A : Option Addr) (n c : Nat) (w : World) (hr : Sl.Rds w 1 A n (xs.flatMap I1)) (hl : xs.length = 0 ∨ xs.length = 81) :
    Calls Try.prog 53 #[.agg #[.slice A n c, .int .i64 t]] w (OwnPost w xs t) := by
  obtain rfl := hr.length (fun _ => rfl) (by omega)
  have hle := hr.le
  have Hr := K.H.mk hr
  clear hr
  go_enter Try.func53, Try.ntmps53
  have hmk := make81
  go_wp2
  go_region
  go_wp2
  clear hmk
  refine K.wp_gen (fun W => K.At W (w.heap.size + 1) 3 (vals (List.replicate 81 0)) ∧ K.At W (w.heap.size + 2) 86 #[.slice (some ⟨w.heap.size + 1, 0, none⟩) 81 81, .int .i64 t] ∧ K.At W w.heap.size 54 #[.slice A xs.length c, .int .i64 t] ∧ Below w.heap.size w W) ⟨(by refine K.At.cast (by repeat (first | (with_reducible refine K.At.new' _ _ _ _ (by first | rfl | (simp; done) | omega)) | (with_reducible apply K.At.set) | (with_reducible apply K.At.alloc) | (with_reducible apply K.At.drewN) | (with_reducible apply K.At.drew) | (with_reducible apply K.At.far) | omega | (simp <;> omega))) ?_; kernel_rfl), (by refine K.At.cast (by repeat (first | (with_reducible refine K.At.new' _ _ _ _ (by first | rfl | (simp; done) | omega)) | (with_reducible apply K.At.set) | (with_reducible apply K.At.alloc) | (with_reducible apply K.At.drewN) | (with_reducible apply K.At.drew) | (with_reducible apply K.At.far) | omega | (simp <;> omega))) ?_; rfl), (by refine K.At.cast (by repeat (first | (with_reducible refine K.At.new' _ _ _ _ (by first | rfl | (simp; done) | omega)) | (with_reducible apply K.At.set) | (with_reducible apply K.At.alloc) | (with_reducible apply K.At.drewN) | (with_reducible apply K.At.drew) | (with_reducible apply K.At.far) | omega | (simp <;> omega))) ?_; rfl), (by repeat (first | (with_reducible exact Below.refl _ _) | (with_reducible refine K.b_bel ?_ (by assumption)) | (with_reducible refine K.b_alloc ?_ _) | (with_reducible refine K.b_drewN ?_ _) | (with_reducible refine K.b_drew ?_) | (with_reducible refine K.b_set ?_ (by first | omega | (simp <;> omega)) _) | (with_reducible refine K.b_only ?_ (by assumption) (by first | omega | (simp <;> omega)))))⟩ ?_
  rintro W1 ⟨hR, hP, hH, hb1⟩
  have Hb1 := K.H.mk hb1
  obtain ⟨hc5, hf5, hl5⟩ := K.At.facts hP
  obtain ⟨hc6, hf6, hl6⟩ := K.At.facts hH
  have hlR := hR.lt
  clear hb1
  have hR1 : K.At W1 (w.heap.size + 1) 3 ((List.replicate 81 0).map (Value.int .i64)).toArray := hR
  have hpos : 0 < (xs.map (Value.int .i64)).length → (some ⟨w.heap.size + 1, 0, none⟩ : Option Addr) = some ⟨w.heap.size + 1, 0, none⟩ ∧ ∃ ad, A = some ad ∧ ∀ j v, (xs.map (Value.int .i64))[j]? = some v → W1.drew.cell? (ad.add j) = some v := fun h0 => by
    rw [List.length_map] at h0
    obtain ⟨b, off, e, hbl, hc⟩ := Hr.out.at_ h0
    refine ⟨rfl, _, e, fun j v hj => ?_⟩
    have hjl : j < (xs.flatMap I1).length := by
      have := (List.getElem?_eq_some_iff.1 hj).1
      rw [← Sl.map_flat]; exact this
    rw [show (⟨b, off, none⟩ : Addr).add j = ⟨b, off + j, none⟩ from Opn.add_none b off j]
    refine ((K.b_drew Hb1.out).cell (p := ⟨b, off + j, none⟩) hbl).trans ((hc j hjl).trans ?_)
    rw [← Sl.map_flat]; exact hj
  have Hp := K.H.mk hpos
  clear hpos
  go_region_law (refine K.step_copy rfl (.tmp 14) (.tmp 16) 30 30 rfl 3 Try.underlying30 (by kernel_rfl) _ _ _ _ _ _ rfl rfl (w.heap.size + 1) 0 ((List.replicate 81 0).map (Value.int .i64)) 3 hR1.drew (xs.map (Value.int .i64)) (by rw [List.length_map]; exact (Nat.min_eq_left (by omega)).symm) Hp.out (by rw [List.length_map, List.length_map, List.length_replicate]; omega) (by simp [Value.oneCell']) ?_; intro w4 hA4 hO4)
  all_goals rw [pad_splice xs (by omega)] at hA4
  all_goals go_wp2
  all_goals ((try simp only [Exit.inBlock, Exit.then]); refine bodyPost_ret (v := .pointer (some ⟨w.heap.size + 2, 0, none⟩)) (by simp only [results, Try.results53]; go_simp) rfl ?_)
  all_goals exact ⟨w.heap.size + 2, w.heap.size + 1, rfl, by omega, by omega, by omega, K.At.past hO4 (by omega) hP.drew, hA4, K.b_only (K.b_drew Hb1.out) hO4 (by omega)⟩
/-- One count more. -/
theorem vals_set (xs : List Int) (k : Nat) (v : Int) : (vals xs).setIfInBounds k (.int .i64 v) = vals (xs.set k v) := by
  simp [List.map_set]
theorem vals_get {xs : List Int} {k : Nat} {x : Int} (h : xs[k]? = some x) : (vals xs)[k]? = some (.int .i64 x) := by simp [h]
/-- What add leaves: the tally's block, the counts' block. -/
def AddPost (w : World) (P R : Nat) (ys : List Int) (t : Int) (e : Ending) (w' : World) : Prop := (∃ v, e = .returned v) ∧
  K.At w' P 86 #[.slice (some ⟨R, 0, none⟩) 81 81, .int .i64 t] ∧ K.At w' R 3 (vals ys) ∧ Below w.heap.size w w
set_option maxRecDepth 100000 in
set_option maxHeartbeats 1000000 in
theorem add_c (ys : List Int) (t : Int) (P R k : Nat) (x d : Int) (w w0 : World) (hP : K.At w P 86 #[.slice (some ⟨R, 0, none⟩) 81 81, .int .i64 t]) (hR : K.At w R 3 (vals ys)) (hl : ys.length = 81) (hx : ys[k]? = some x)
    (hne : P ≠ R) (hw1 : wrap64 (x + d) = x + d) (hw2 : wrap64 (t + d) = t + d) (hb : Below w0.heap.size w0 w) (hP0 : w0.heap.size ≤ P) (hR0 : w0.heap.size ≤ R) :
    Calls Try.prog 54 #[.pointer (some ⟨P, 0, none⟩), .int .i64 k, .int .i64 d] w fun e w' => (∃ v, e = .returned v) ∧
      K.At w' P 86 #[.slice (some ⟨R, 0, none⟩) 81 81, .int .i64 (t + d)] ∧ K.At w' R 3 (vals (ys.set k (x + d))) ∧ Below w0.heap.size w0 w' := by
  have hk : k < 81 := by have := (List.getElem?_eq_some_iff.1 hx).1; omega
  have hki : (k : Int) < 81 := by omega
  obtain ⟨hc5, hf5, hl5⟩ := K.At.facts hP
  have hcR : w.cell? ⟨R, k, none⟩ = some (.int .i64 x) := by rw [hR.cell]; exact vals_get hx
  have hfR := hR.frozen
  have hlR := hR.lt
  have Hx := K.H.mk hx
  have Hl := K.H.mk hl
  clear hx hl
  go_enter Try.func54, Try.ntmps54
  go_wp2
  go_end0
  refine ⟨⟨_, rfl⟩, ?_, ?_, ?_⟩
  · exact ((hP.far (p := ⟨R, k, none⟩) hne _).set 1 _).cast rfl
  · exact ((hR.set k _).far (p := ⟨P, 1, none⟩) (Ne.symm hne) _).cast (vals_set ys k _)
  · exact (hb.setCell (p := ⟨R, k, none⟩) hR0 _).setCell (p := ⟨P, 1, none⟩) hP0 _
end Go.Proofs.Ytimdfnhagjlkoaa.Hst
