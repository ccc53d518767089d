/- Timer: slices.AppendSeq, Collect. -/
import Derived.Test.YtmoaekjkihbicaaTm14
set_option linter.unusedVariables false
namespace Go.Proofs.Ytmoaekjkihbicaa.Tm
open Go.RowKit Go.Shelf Go.Proofs.Ytmoaekjkihbicaa
attribute [local go_sem] Oper.semAt_some
set_option linter.unusedSimpArgs false
theorem info_tm : (Try.prog.info? 25).map (fun i => (i.zero, i.size, i.bytes)) = some (some (.agg #[.int .i64 0, .int .i64 0]), 2, 16) := by kernel_rfl
theorem new_add (w : World) (T : TypeId) (cs : Array Value) : ∀ j u, cs.toList[j]? = some u → (w.alloc (.cells cs T)).cell? ((⟨w.heap.size, 0, none⟩ : Addr).add j) = some u := fun j u hj => by
  have hadd : (⟨w.heap.size, 0, none⟩ : Addr).add j = ⟨w.heap.size, j, none⟩ := by unfold Addr.add; split <;> simp_all
  rw [hadd]; exact Sl.new_cells w T cs _ rfl j u hj
theorem belowK_b2 {n0 : Nat} {w : World} (h : n0 ≤ w.heap.size) : ∀ (W : World) (l : Nat) (o o' : Obj), w.heap.size ≤ l → W.heap[l]? = some o → o.isCells = false → o.isWalk = false → Below n0 W (W.putObj l o') := fun W l o o' hl ho h1 h2 => belowK_b (w := w) h W l o o' hl ho h1 h2
set_option maxRecDepth 100000 in
set_option maxHeartbeats 4000000 in
theorem appSeq_c (l : List Tm) (B : Nat) (A : Option Addr) (n c : Nat) (w : World) (hB : K.At w B 22 #[.slice A n c]) (hr : Sl.Rds w 2 A n (l.flatMap Tm.cs)) (h64 : l.length ≤ 1024) :
    Calls Try.prog 52 #[.slice none 0 0, .func (.func 49) #[] #[.pointer (some ⟨B, 0, none⟩)]] w fun e w' => (∃ v, e = .returned v ∧ w'.ownsRow w.heap.size 25 2 v l.length (l.flatMap Tm.cs)) ∧ Below w.heap.size w w' := by
  obtain rfl := hr.length Tm.cs_len (by omega)
  obtain ⟨i0, hi, hz0, hz1, hz2⟩ := info_parts info_tm
  have hle := hr.le
  refine (callsIn_wide (n := 3)).1 ?_
  refine callsIn_of_wp_marks Try.func52 rfl trivial ?_ rfl
  simp only [Try.ntmps52, List.size_toArray, List.length_cons, List.length_nil, Nat.reduceAdd, Nat.reduceSub, Array.replicate_succ, Array.replicate_zero, List.push_toArray, List.append_toArray, List.nil_append, List.cons_append]
  gi_wp2
  have hBl := hB.lt
  have hAl : 0 < l.length → ∀ a, A = some a → a.block < w.heap.size := fun h0 a e => by obtain ⟨b, off, e2, hb, _⟩ := hr.at_ h0; rw [e] at e2; cases e2; exact hb
  have bO := Boxed.new w 22 (.slice none 0 0)
  have hB0 : Below w.heap.size w (w.alloc (.cells #[.slice none 0 0] 22)) := (by repeat (first | (with_reducible exact Below.refl _ _) | (with_reducible refine K.b_bel ?_ (by assumption)) | (with_reducible refine K.b_alloc ?_ _) | (with_reducible refine K.b_drewN ?_ _) | (with_reducible refine K.b_drew ?_) | (with_reducible refine K.b_set ?_ (by first | omega | (simp <;> omega)) _) | (with_reducible refine K.b_only ?_ (by assumption) (by first | omega | (simp <;> omega)))))
  refine wpIn_rangeFunc_ownH rfl (by omega) (gf := 49) (lb := #[.pointer (some ⟨B, 0, none⟩)]) rfl trivial (enters_of Try.func49 (by kernel_rfl) rfl)
    (vals_stops 2 (by omega) B w.heap.size l A c _ (hB.alloc _) (hr.below hB0) h64 hBl hAl (by simp)) (fun h k => h.trans k) (belowK_b2 (by simp)) (Below.refl _ _) (fun _ => rfl)
    (fun pre W => (∃ v, Boxed W w.heap.size 22 v ∧ W.ownsRow w.heap.size 25 2 v pre.length (pre.flatMap Tm.cs) ∧ True) ∧ Below w.heap.size w W)
    (fun c pre W => False ∧ Below w.heap.size w W)
    (OwnFrom.and (Own.from (holdsRow_own w.heap.size w.heap.size 22 25 2 (fun pre : List Tm => pre.length) (fun pre => pre.flatMap Tm.cs) (fun _ _ => True)) _) (ownFrom_below (Nat.le_refl _) (by simp)))
    (fun c => OwnFrom.and (Own.from (fun q A B row hs hg hr => hs) _) (ownFrom_below (Nat.le_refl _) (by simp)))
    ⟨⟨_, bO, World.ownsRow_nil _ _ _ _, trivial⟩, hB0⟩
    (fun y a' W => (∃ bk, a' = { tmps := #[.slice none 0 0, .func (.func 49) #[] #[.pointer (some ⟨B, 0, none⟩)], .pointer (some ⟨w.heap.size, 0, none⟩), undef, .slice none 0 0, .pointer (some ⟨bk, 0, none⟩), .func (.func 49) #[] #[.pointer (some ⟨B, 0, none⟩)], .agg #[.int .i64 y.t, .int .i64 y.id], undef, undef, undef, undef, undef], defers := [] } ∧ w.heap.size + 1 ≤ bk ∧ K.At W bk 25 #[.int .i64 y.t, .int .i64 y.id]))
    (fun y a' => Own.from (fun q A B row hs hg hr => by obtain ⟨bk, e, hbk, hk⟩ := hs; exact ⟨bk, e, hbk, Bof.at_kept hk hg hr⟩) _) ?assign ?body ?done ?stop
  case assign =>
    rintro lo pre y W KK ⟨⟨v, hv, hrow, -⟩, hBW⟩ hK
    have hs := hBW.size
    have hvl := hv.lt
    gi_wp2
    exact hK _ _ ((KeepsOthers.alloc _ _).from _) ((Below.refl _ W).alloc hs _) ⟨⟨v, hv.alloc _, hrow.alloc _, trivial⟩, K.b_alloc hBW _⟩ ⟨W.heap.size, rfl, by omega, K.At.new _ _ _⟩
  case body =>
    rintro lo pre y a' W hl _ ⟨⟨v, hv, hrow, -⟩, hBW⟩ ⟨bk, rfl, hbk, hK⟩ hlen
    have hc := hv.cell
    have hf := hv.frozen
    have hvl := hv.lt
    obtain ⟨hc7, hf7, hl7⟩ := K.At.facts hK
    have hBx := hBW.size
    gi_wp2_with (gi_at_builtin; refine wpListIn_append_own _ rfl _ _ 22 rfl w.heap.size 25 i0 (.agg #[.int .i64 0, .int .i64 0]) 2 16 Try.underlying22 hi hz0 hz1 hz2 rfl (by decide) _ _ _ rfl (hrow.alloc _) ⟨W.heap.size, 0, none⟩ 1 1 [.int .i64 y.t, .int .i64 y.id] rfl rfl (new_add _ _ _) (by simp [Value.oneCell']) (by simp only [maxLen]; omega) (by omega) (by simp; omega) ?_; intro v' w1 hown' hgrow _; obtain ⟨g', cap', rfl⟩ := ownsRow_succ hown'; obtain ⟨hv1, hv2, hr2, hk2, hb2⟩ := hv.appended (by decide) hrow (by omega) (by omega) hown' hgrow; have hc1 := hv1.cell; have hf1 := hv1.frozen)
    exact ⟨hk2.from _, hb2, ⟨_, hv2, by simpa [Tm.cs] using hr2, trivial⟩, hBW.trans hb2⟩
  case done =>
    rintro D ys W hD rfl ⟨⟨v, hv, hrow, -⟩, hBW⟩ hK
    have hc := hv.cell
    gi_wp2
    refine ⟨by simp, .inl ⟨_, _, rfl, run_takeDeferred hK, ?_⟩⟩
    refine ⟨v, ?_, ⟨v, rfl, ownsRow_putObj hrow _ hK rfl⟩, hBW.trans (belowK_b (w := w) (Nat.le_refl _) W D _ _ (by simp at hD; omega) hK rfl rfl)⟩
    simp [results, Try.f52, go_sem]
  case stop =>
    rintro D c pre W hD hpre ⟨hf, _⟩ hK
    exact hf.elim
theorem collect_c (l : List Tm) (B : Nat) (A : Option Addr) (n c : Nat) (w : World) (hB : K.At w B 22 #[.slice A n c]) (hr : Sl.Rds w 2 A n (l.flatMap Tm.cs)) (h64 : l.length ≤ 1024) :
    Calls Try.prog 47 #[.func (.func 49) #[] #[.pointer (some ⟨B, 0, none⟩)]] w fun e w' => (∃ v, e = .returned v ∧ w'.ownsRow w.heap.size 25 2 v l.length (l.flatMap Tm.cs)) ∧ Below w.heap.size w w' := by
  have GA := K.H.mk (appSeq_c l B A n c w hB hr h64)
  clear hB hr
  go_enter Try.func47, Try.ntmps47
  go_wp2_with (first | (go_at_call 52; (with_reducible refine GA.out.mono ?_); rintro e W2 ⟨⟨v2, rfl, hown2⟩, hb2⟩))
  go_ret
  exact ⟨⟨_, rfl, hown2⟩, hb2⟩
end Go.Proofs.Ytmoaekjkihbicaa.Tm
