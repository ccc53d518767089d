/- Backoff: Most, and Row. -/
import Derived.Test.YtimdfnhagjlkoaaBofA
import Derived.Test.YtimdfnhagjlkoaaSl
set_option linter.unusedVariables false
namespace Go.Proofs.Ytimdfnhagjlkoaa.Bof
open Go.RowKit Go.Shelf Go.Proofs.Ytimdfnhagjlkoaa
attribute [local go_sem] Oper.semAt_some
attribute [local go_sem] K.max2_int K.min2_int K.max_two K.min_two K.max_three K.min_three
set_option linter.unusedSimpArgs false
/-- Most: the code, the number. -/
def eMost (s : S) (n : Int) : Int := if Ok s then (if 1 ≤ n ∧ n ≤ 64 then 0 else 3) else 4
def oMost (s : S) (n : Int) : Int := if eMost s n = 0 then mstI s n else 0
theorem most_4 {s : S} {n : Int} (h : ¬ Ok s) : eMost s n = 4 ∧ oMost s n = 0 := by simp [eMost, oMost, h]
theorem most_3 {s : S} {n : Int} (h : Ok s) (h2 : n < 1 ∨ 64 < n) : eMost s n = 3 ∧ oMost s n = 0 := by
  have : ¬ (1 ≤ n ∧ n ≤ 64) := by omega
  simp [eMost, oMost, h, this]
theorem most_0 {s : S} {n : Int} (h : Ok s) (h2 : 1 ≤ n ∧ n ≤ 64) : eMost s n = 0 ∧ oMost s n = mstI s n := by simp [eMost, oMost, h, h2]
theorem Most_c (s : S) (n : Int) (w : World) : Calls Try.prog 16 #[s.a, .int .i64 n] w fun e w' => e = .returned (.tuple #[.int .i64 (oMost s n), .int .i64 (eMost s n)]) ∧ Below w.heap.size w w' := by
  by_cases h : Ok s
  · have HC : ∀ W, Calls Try.prog 26 #[s.a] W fun e w' => e = .returned (.int .i64 0) ∧ Below W.heap.size W w' := fun W => by
      have h2 := chk_c s W
      rw [chk_0 h] at h2; exact h2
    have GC := K.H.mk HC
    have Hh := K.H.mk h
    clear HC h
    by_cases h2 : 1 ≤ n ∧ n ≤ 64
    · have HM : ∀ W, Calls Try.prog 44 #[s.a, .int .i64 n] W fun e w' => e = .returned (.int .i64 (mstI s n)) ∧ Below W.heap.size W w' := fun W => at_c s Hh.out n h2.1 h2.2 W
      have GM := K.H.mk HM
      have E := K.H.mk (most_0 Hh.out h2)
      clear HM
      obtain ⟨n1, n2⟩ := h2
      rw [E.out.1, E.out.2]
      go_enter Try.func16, Try.ntmps16
      go_wp2_with (first | (go_at_call 26; (with_reducible refine (GC.out _).mono ?_); rintro e W1 ⟨rfl, hb1⟩; obtain ⟨hB1, hC1, hF1, hZ1⟩ := K.bel_facts hb1; clear hb1; have hZZ := hZ1; (try simp at hZZ); have hz1_0 : w.heap.size < W1.heap.size := (by omega); clear hZZ) | (go_at_call 44; (with_reducible refine (GM.out _).mono ?_); rintro e W2 ⟨rfl, hb2⟩; obtain ⟨hB2, hC2, hF2, hZ2⟩ := K.bel_facts hb2; clear hb2))
      all_goals first | (exfalso; omega) | (go_ret2; exact ⟨rfl, (by repeat (first | (with_reducible exact Below.refl _ _) | (with_reducible refine K.b_bel ?_ (by assumption)) | (with_reducible refine K.b_alloc ?_ _) | (with_reducible refine K.b_drewN ?_ _) | (with_reducible refine K.b_drew ?_) | (with_reducible refine K.b_set ?_ (by first | omega | (simp <;> omega)) _) | (with_reducible refine K.b_only ?_ (by assumption) (by first | omega | (simp <;> omega)))))⟩)
    · have E := K.H.mk (most_3 (n := n) Hh.out (by omega))
      rw [E.out.1, E.out.2]
      go_enter Try.func16, Try.ntmps16
      go_wp2_with (first | (go_at_call 26; (with_reducible refine (GC.out _).mono ?_); rintro e W1 ⟨rfl, hb1⟩; obtain ⟨hB1, hC1, hF1, hZ1⟩ := K.bel_facts hb1; clear hb1; have hZZ := hZ1; (try simp at hZZ); have hz1_0 : w.heap.size < W1.heap.size := (by omega); clear hZZ))
      all_goals first | (exfalso; omega) | (go_ret2; exact ⟨rfl, (by repeat (first | (with_reducible exact Below.refl _ _) | (with_reducible refine K.b_bel ?_ (by assumption)) | (with_reducible refine K.b_alloc ?_ _) | (with_reducible refine K.b_drewN ?_ _) | (with_reducible refine K.b_drew ?_) | (with_reducible refine K.b_set ?_ (by first | omega | (simp <;> omega)) _) | (with_reducible refine K.b_only ?_ (by assumption) (by first | omega | (simp <;> omega)))))⟩)
  · have HC : ∀ W, Calls Try.prog 26 #[s.a] W fun e w' => e = .returned (.int .i64 4) ∧ Below W.heap.size W w' := fun W => by
      have h2 := chk_c s W
      rw [chk_4 h] at h2; exact h2
    have GC := K.H.mk HC
    have E := K.H.mk (most_4 (n := n) h)
    rw [E.out.1, E.out.2]
    clear HC h
    go_enter Try.func16, Try.ntmps16
    go_wp2_with (first | (go_at_call 26; (with_reducible refine (GC.out _).mono ?_); rintro e W1 ⟨rfl, hb1⟩; obtain ⟨hB1, hC1, hF1, hZ1⟩ := K.bel_facts hb1; clear hb1; have hZZ := hZ1; (try simp at hZZ); have hz1_0 : w.heap.size < W1.heap.size := (by omega); clear hZZ))
    go_ret2
    exact ⟨rfl, (by repeat (first | (with_reducible exact Below.refl _ _) | (with_reducible refine K.b_bel ?_ (by assumption)) | (with_reducible refine K.b_alloc ?_ _) | (with_reducible refine K.b_drewN ?_ _) | (with_reducible refine K.b_drew ?_) | (with_reducible refine K.b_set ?_ (by first | omega | (simp <;> omega)) _) | (with_reducible refine K.b_only ?_ (by assumption) (by first | omega | (simp <;> omega)))))⟩
/-- What Row tells: a row of its own, an error. -/
def RowPost (w : World) (told : List Int) (er : Int) (e : Ending) (w' : World) : Prop :=
  ∃ v, e = .returned (.tuple #[v, .int .i64 er]) ∧ w'.ownsRow w.heap.size 3 1 v told.length (told.map (Value.int .i64)) ∧ Below w.heap.size w w'
def eRow (s : S) (n : Int) : Int := if Ok s then (if 0 ≤ n ∧ n ≤ 64 then 0 else 3) else 4
def oRow (s : S) (n : Int) : List Int := if eRow s n = 0 then (List.range n.toNat).map (mst s) else []
theorem row_4 {s : S} {n : Int} (h : ¬ Ok s) : eRow s n = 4 ∧ oRow s n = [] := by simp [eRow, oRow, h]
theorem row_3 {s : S} {n : Int} (h : Ok s) (h2 : n < 0 ∨ 64 < n) : eRow s n = 3 ∧ oRow s n = [] := by
  have : ¬ (0 ≤ n ∧ n ≤ 64) := by omega
  simp [eRow, oRow, h, this]
theorem row_0 {s : S} {n : Int} (h : Ok s) (h2 : 0 ≤ n ∧ n ≤ 64) : eRow s n = 0 ∧ oRow s n = (List.range n.toNat).map (mst s) := by simp [eRow, oRow, h, h2]
theorem ups_map (s : S) : ∀ k, k ≤ 64 → (ups k).map (fun x => mst s x.1) = (List.range k).map (mst s)
  | 0, _ => rfl
  | k + 1, h => by rw [ups_succ (by omega), List.map_append, ups_map s k (by omega), List.range_succ, List.map_append]; rfl
theorem mem_ups {k : Nat} {x : I} (h : x.1 < k) : x ∈ ups k := by
  simp only [ups, List.mem_filterMap, List.mem_range]
  exact ⟨x.1, h, by simp [x.2]⟩
theorem info_int : (Try.prog.info? 3).map (fun i => (i.zero, i.size, i.bytes)) = some (some (.int .i64 0), 1, 8) := by kernel_rfl
set_option maxRecDepth 100000 in
set_option maxHeartbeats 2000000 in
theorem Row_ok (s : S) (hs : Ok s) (n : Int) (hn0 : 0 ≤ n) (hn1 : n ≤ 64) (w : World) : Calls Try.prog 18 #[s.a, .int .i64 n] w (RowPost w ((List.range n.toNat).map (mst s)) 0) := by
  obtain ⟨i0, hi, hz0, hz1, hz2⟩ := info_parts info_int
  have HC : ∀ W, Calls Try.prog 26 #[s.a] W fun e w' => e = .returned (.int .i64 0) ∧ Below W.heap.size W w' := fun W => by
    have h2 := chk_c s W
    rw [chk_0 hs] at h2; exact h2
  have GC := K.H.mk HC
  have Hs := K.H.mk hs
  have hd1 : decide (n < 0) = false := by simp; omega
  have hd2 : decide (64 < n) = false := by simp; omega
  clear HC hs
  refine (callsIn_wide (n := 3)).1 ?_
  refine callsIn_of_wp_marks Try.func18 rfl trivial ?_ rfl
  simp only [Try.ntmps18, List.size_toArray, List.length_cons, List.length_nil, Nat.reduceAdd, Nat.reduceSub, Array.replicate_succ, Array.replicate_zero, List.push_toArray, List.append_toArray, List.nil_append, List.cons_append]
  gi_wp2_with (first | (refine ⟨trivial, ?_⟩; gi_at_call 26; (with_reducible refine ((callsIn_wide.2 (GC.out _))).mono ?_); rintro e W1 ⟨rfl, hb1⟩; obtain ⟨hB1, hC1, hF1, hZ1⟩ := K.bel_facts hb1; clear hb1; have hZZ := hZ1; (try simp at hZZ); have hz1_0 : w.heap.size < W1.heap.size := (by omega); have hz1_1 : w.heap.size + 1 < W1.heap.size := (by omega); clear hZZ) | (refine ⟨trivial, ?_⟩; gi_at_call 45; refine (most_in Fence.wide 2 trivial rfl s _).mono ?_; rintro e w' ⟨rfl, rfl⟩))
  have hB0 : Below w.heap.size w ((W1.alloc (.cells #[.slice none 0 0] 30)).alloc (.cells s.c 74)) := (by repeat (first | (with_reducible exact Below.refl _ _) | (with_reducible refine K.b_bel ?_ (by assumption)) | (with_reducible refine K.b_alloc ?_ _) | (with_reducible refine K.b_drewN ?_ _) | (with_reducible refine K.b_drew ?_) | (with_reducible refine K.b_set ?_ (by first | omega | (simp <;> omega)) _) | (with_reducible refine K.b_only ?_ (by assumption) (by first | omega | (simp <;> omega)))))
  have hN1 : K.At W1 (w.heap.size + 1) 3 #[.int .i64 n] := (by refine K.At.cast (by repeat (first | (with_reducible refine K.At.new' _ _ _ _ (by first | rfl | (simp; done) | omega)) | (with_reducible apply K.At.over hB1) | (with_reducible apply K.At.set) | (with_reducible apply K.At.alloc) | (with_reducible apply K.At.drewN) | (with_reducible apply K.At.drew) | (with_reducible apply K.At.far) | omega | (simp <;> omega))) ?_; rfl)
  have bO := (Boxed.new W1 30 (.slice none 0 0)).alloc (.cells s.c 74)
  refine wpIn_rangeFunc_ownF rfl (by omega) (gf := 61) (lb := #[.pointer (some ⟨W1.heap.size + 1, 0, none⟩)]) rfl trivial (enters_of Try.func61 (by kernel_rfl) rfl)
    (most_stops Fence.wide 2 trivial rfl (by omega) (W1.heap.size + 1) s Hs.out _ (by refine K.At.cast (by repeat (first | (with_reducible refine K.At.new' _ _ _ _ (by first | rfl | (simp; done) | omega)) | (with_reducible apply K.At.set) | (with_reducible apply K.At.alloc) | (with_reducible apply K.At.drewN) | (with_reducible apply K.At.drew) | (with_reducible apply K.At.far) | omega | (simp <;> omega))) ?_; rfl)) kps_t (kps_b (by simp)) (Below.refl _ _) (fun _ => rfl)
    (fun pre W => (((∃ v, Boxed W W1.heap.size 30 v ∧ W.ownsRow W1.heap.size 3 1 v pre.length ((pre.map fun x : I => mst s x.1).map (Value.int .i64)) ∧ True) ∧ (∀ y ∈ pre, ((y.1 : Int) + 1) ≤ n)) ∧ K.At W (w.heap.size + 1) 3 #[.int .i64 n] ∧ K.At W (W1.heap.size + 1) 74 s.c) ∧ Below w.heap.size w W)
    (fun c pre W => (((∃ v, Boxed W W1.heap.size 30 v ∧ W.ownsRow W1.heap.size 3 1 v pre.dropLast.length ((pre.dropLast.map fun x : I => mst s x.1).map (Value.int .i64)) ∧ True) ∧ (c = .exit 0 ∧ ∃ (q : List I) (x : I), pre = q ++ [x] ∧ (∀ y ∈ q, ((y.1 : Int) + 1) ≤ n) ∧ n < (x.1 : Int) + 1)) ∧ K.At W (w.heap.size + 1) 3 #[.int .i64 n]) ∧ Below w.heap.size w W)
    (OwnFrom.and (Own.from (fun q A B row hs hg hr => ⟨⟨holdsRow_own W1.heap.size W1.heap.size 30 3 1 (fun pre : List I => pre.length) (fun pre => (pre.map fun x : I => mst s x.1).map (Value.int .i64)) (fun _ _ => True) q A B row hs.1.1 hg hr, hs.1.2⟩, at_kept hs.2.1 hg hr, at_kept hs.2.2 hg hr⟩) _) (ownFrom_below (Nat.le_refl _) (by simp; omega)))
    (fun c => OwnFrom.and (Own.from (fun q A B row hs hg hr => ⟨⟨holdsRow_own W1.heap.size W1.heap.size 30 3 1 (fun pre : List I => pre.dropLast.length) (fun pre => (pre.dropLast.map fun x : I => mst s x.1).map (Value.int .i64)) (fun _ _ => True) q A B row hs.1.1 hg hr, hs.1.2⟩, at_kept hs.2 hg hr⟩) _) (ownFrom_below (Nat.le_refl _) (by simp; omega)))
    ⟨⟨⟨⟨_, bO, World.ownsRow_nil _ _ _ _, trivial⟩, by simp⟩, (hN1.alloc _).alloc _, (by refine K.At.cast (by repeat (first | (with_reducible refine K.At.new' _ _ _ _ (by first | rfl | (simp; done) | omega)) | (with_reducible apply K.At.set) | (with_reducible apply K.At.alloc) | (with_reducible apply K.At.drewN) | (with_reducible apply K.At.drew) | (with_reducible apply K.At.far) | omega | (simp <;> omega))) ?_; rfl)⟩, hB0⟩
    (fun x => { tmps := #[s.a, .int .i64 n, .pointer (some ⟨w.heap.size, 0, none⟩), .pointer (some ⟨w.heap.size + 1, 0, none⟩), .slice none 0 0, .int .i64 0, .int .i64 0, .pointer (some ⟨W1.heap.size, 0, none⟩), .int .i64 (x.1 + 1), .int .i64 (mst s x.1), s.a, .int .i64 0, .int .i64 0, .bool false, undef, .int .i64 n, .bool false, .bool false, .int .i64 n, .bool false, .bool false, s.a, s.a, .func (.func 61) #[] #[.pointer (some ⟨W1.heap.size + 1, 0, none⟩)], .int .i64 (x.1 + 1), .int .i64 (mst s x.1), undef, undef, undef, undef, undef, undef, undef, undef], defers := [] }) ?assign ?body ?done ?stop
  case assign =>
    intro l x W K hK
    gi_wp2
    exact hK
  case body =>
    rintro l pre x W ⟨⟨⟨⟨v, hv, hrow, -⟩, hle⟩, hN, hD⟩, hB⟩ hlen
    have hc := hv.cell
    have hf := hv.frozen
    have hvl := hv.lt
    obtain ⟨hc7, hf7, hl7⟩ := K.At.facts hN
    have hBx := hB.size
    gi_wp2_with (gi_at_builtin; refine wpListIn_append_own _ rfl _ _ 30 rfl W1.heap.size 3 i0 (.int .i64 0) 1 8 Try.underlying30 hi hz0 hz1 hz2 rfl (by decide) _ _ _ rfl (hrow.alloc _) ⟨W.heap.size, 0, none⟩ 1 1 [.int .i64 (mst s x.1)] rfl rfl (cell_one_new _ _ _) (by simp [Value.oneCell']) (by simp only [maxLen]; omega) (by omega) (by simp; omega) ?_; intro v' w1 hown' hgrow _; obtain ⟨g', cap', rfl⟩ := ownsRow_succ hown'; obtain ⟨hv1, hv2, hr2, hk2, hb2⟩ := hv.appended (by decide) hrow (by omega) (by omega) hown' hgrow; have hc1 := hv1.cell; have hf1 := hv1.frozen)
    · have hx : n < (x.1 : Int) + 1 := by assumption
      exact ⟨KeepsOthers.refl _, ⟨⟨⟨v, hv, by rw [List.dropLast_concat]; exact hrow, trivial⟩, rfl, pre, x, rfl, hle, hx⟩, hN⟩, hB⟩
    · have hx : (x.1 : Int) + 1 ≤ n := by assumption
      have hqn : v.ownBlock ≠ some (w.heap.size + 1) := fun e => by have := Sl.own_base hrow _ e; omega
      have hD3 : K.At (w1.setCell ⟨W1.heap.size, 0, none⟩ (.slice (some ⟨g', 0, none⟩) (pre.length + 1) cap')) (W1.heap.size + 1) 74 s.c := (Sl.at_grown (hD.alloc _) hgrow (Sl.own_ne hrow hD (by decide))).far (p := ⟨W1.heap.size, 0, none⟩) (by simp) (.slice (some ⟨g', 0, none⟩) (pre.length + 1) cap')
      have hN3 := (Sl.at_grown (hN.alloc _) hgrow hqn).far (p := ⟨W1.heap.size, 0, none⟩) (by simp; omega) (.slice (some ⟨g', 0, none⟩) (pre.length + 1) cap')
      refine ⟨hk2, kps_at hD hD3, ⟨⟨⟨_, hv2, by simpa using hr2, trivial⟩, fun y hy => ?_⟩, hN3, hD3⟩, hB.trans (hb2.mono (by omega))⟩
      rcases List.mem_append.1 hy with hy | hy
      · exact hle y hy
      · simp at hy; subst hy; exact hx
  case done =>
    rintro D ys W hD rfl ⟨⟨⟨⟨v, hv, hrow, -⟩, hle⟩, hN, _⟩, hB⟩ hK
    have hc := hv.cell
    have h64 : ((63 : Nat) : Int) + 1 ≤ n := hle ⟨63, by omega⟩ (mem_ups (show 63 < 64 by omega))
    have e : n.toNat = 64 := by omega
    rw [ups_map s 64 (by omega), ups_len 64 (by omega), ← e] at hrow
    gi_wp2
    refine ⟨by simp, .inl ⟨_, _, rfl, run_takeDeferred hK, ?_⟩⟩
    refine ⟨.tuple #[v, .int .i64 0], ?_, v, rfl, by rw [List.length_map, List.length_range]; exact Sl.own_low (ownsRow_putObj hrow _ hK rfl) (by omega), hB.trans (belowK_b (w := w) (Nat.le_refl _) W D _ _ (by simp at hD; omega) hK rfl rfl)⟩
    simp [results, Try.f18, go_sem]
  case stop =>
    rintro D c pre W hD hpre ⟨⟨⟨⟨v, hv, hrow, -⟩, rfl, q, x, rfl, hq, hx⟩, hN⟩, hB⟩ hK
    have hc := hv.cell
    gi_wp2
    obtain ⟨k, hk, he⟩ := hpre
    obtain ⟨rfl, he2⟩ := ups_last hk he
    have e : n.toNat = x.1 := by
      by_cases h0 : x.1 = 0
      · omega
      · have := x.2
        have : ((x.1 - 1 : Nat) : Int) + 1 ≤ n := hq ⟨x.1 - 1, by omega⟩ (mem_ups (show x.1 - 1 < x.1 by omega))
        omega
    rw [List.dropLast_concat, ups_map s x.1 (by omega), ups_len x.1 (by omega), ← e] at hrow
    refine ⟨by simp, .inl ⟨_, _, rfl, run_takeDeferred hK, ?_⟩⟩
    refine ⟨.tuple #[v, .int .i64 0], ?_, v, rfl, by rw [List.length_map, List.length_range]; exact Sl.own_low (ownsRow_putObj hrow _ hK rfl) (by omega), hB.trans (belowK_b (w := w) (Nat.le_refl _) W D _ _ (by simp at hD; omega) hK rfl rfl)⟩
    simp [results, Try.f18, go_sem]
theorem Row_c (s : S) (n : Int) (w : World) : Calls Try.prog 18 #[s.a, .int .i64 n] w (RowPost w (oRow s n) (eRow s n)) := by
  by_cases h : Ok s
  · by_cases h2 : 0 ≤ n ∧ n ≤ 64
    · rw [(row_0 h h2).1, (row_0 h h2).2]
      exact Row_ok s h n h2.1 h2.2 w
    · have HC : ∀ W, Calls Try.prog 26 #[s.a] W fun e w' => e = .returned (.int .i64 0) ∧ Below W.heap.size W w' := fun W => by
        have h2 := chk_c s W
        rw [chk_0 h] at h2; exact h2
      have GC := K.H.mk HC
      have E := K.H.mk (row_3 (n := n) h (by omega))
      rw [E.out.1, E.out.2]
      clear HC h
      go_enter Try.func18, Try.ntmps18
      go_wp2_with (first | (go_at_call 26; (with_reducible refine (GC.out _).mono ?_); rintro e W1 ⟨rfl, hb1⟩; obtain ⟨hB1, hC1, hF1, hZ1⟩ := K.bel_facts hb1; clear hb1; have hZZ := hZ1; (try simp at hZZ); have hz1_0 : w.heap.size < W1.heap.size := (by omega); have hz1_1 : w.heap.size + 1 < W1.heap.size := (by omega); clear hZZ))
      all_goals first | (exfalso; omega) | (go_ret2; exact ⟨_, rfl, World.ownsRow_nil _ _ _ _, (by repeat (first | (with_reducible exact Below.refl _ _) | (with_reducible refine K.b_bel ?_ (by assumption)) | (with_reducible refine K.b_alloc ?_ _) | (with_reducible refine K.b_drewN ?_ _) | (with_reducible refine K.b_drew ?_) | (with_reducible refine K.b_set ?_ (by first | omega | (simp <;> omega)) _) | (with_reducible refine K.b_only ?_ (by assumption) (by first | omega | (simp <;> omega)))))⟩)
  · have HC : ∀ W, Calls Try.prog 26 #[s.a] W fun e w' => e = .returned (.int .i64 4) ∧ Below W.heap.size W w' := fun W => by
      have h2 := chk_c s W
      rw [chk_4 h] at h2; exact h2
    have GC := K.H.mk HC
    have E := K.H.mk (row_4 (n := n) h)
    rw [E.out.1, E.out.2]
    clear HC h
    go_enter Try.func18, Try.ntmps18
    go_wp2_with (first | (go_at_call 26; (with_reducible refine (GC.out _).mono ?_); rintro e W1 ⟨rfl, hb1⟩; obtain ⟨hB1, hC1, hF1, hZ1⟩ := K.bel_facts hb1; clear hb1; have hZZ := hZ1; (try simp at hZZ); have hz1_0 : w.heap.size < W1.heap.size := (by omega); clear hZZ))
    go_ret2
    exact ⟨_, rfl, World.ownsRow_nil _ _ _ _, (by repeat (first | (with_reducible exact Below.refl _ _) | (with_reducible refine K.b_bel ?_ (by assumption)) | (with_reducible refine K.b_alloc ?_ _) | (with_reducible refine K.b_drewN ?_ _) | (with_reducible refine K.b_drew ?_) | (with_reducible refine K.b_set ?_ (by first | omega | (simp <;> omega)) _) | (with_reducible refine K.b_only ?_ (by assumption) (by first | omega | (simp <;> omega)))))⟩
end Go.Proofs.Ytimdfnhagjlkoaa.Bof
