/- Calls: the attempts that take too long. -/
import Derived.Test.YtfepjpjkamlneaaClT
import Derived.Test.YtfepjpjkamlneaaClJ
set_option linter.unusedVariables false
namespace Go.Proofs.Ytfepjpjkamlneaa.Cl
open Go.RowKit Go.Shelf Go.Proofs.Ytfepjpjkamlneaa
attribute [local go_sem] Oper.semAt_some
attribute [local go_sem] K.max2_int K.min2_int K.max_two K.min_two K.max_three K.min_three
set_option linter.unusedSimpArgs false
/-- Is an attempt that is out slow? -/
def slowB (s : Set) (tick : Int) (p : NA) : Bool := decide (wrap64 (p.2.t + s.tmo) ≤ tick)
def slowL (s : Set) (tick : Int) (l : List NA) : List Int := (l.filter (slowB s tick)).map fun p => (p.1 : Int)
def oSlow (x : Cal) (s : Set) (tick : Int) : List Int := if eCall x s = 0 then slowL s tick (outT x.l x.l.length) else []
def SlowPost (w : World) (told : List Int) (er : Int) (e : Ending) (w' : World) : Prop :=
  ∃ v, e = .returned (.tuple #[v, .int .i64 er]) ∧ w'.ownsRow w.heap.size 3 1 v told.length (told.map (Value.int .i64)) ∧ Below w.heap.size w w'
theorem slowL_add (s : Set) (tick : Int) (l : List NA) (y : NA) : slowL s tick (l ++ [y]) = slowL s tick l ++ (if slowB s tick y = true then [(y.1 : Int)] else []) := by
  unfold slowL
  rw [List.filter_append, List.map_append]
  cases h : slowB s tick y <;> simp [h]
theorem slowL_len (s : Set) (tick : Int) (l : List NA) : (slowL s tick l).length ≤ l.length := by unfold slowL; rw [List.length_map]; exact List.length_filter_le _ _
set_option maxRecDepth 100000 in
set_option maxHeartbeats 4000000 in
theorem slow_bad (x : Cal) (s : Set) (tick : Int) (A : Option Addr) (n c : Nat) (w : World) (hr : Sl.Rds w 8 A n (x.l.flatMap Att.cs)) (h : eCall x s ≠ 0) : Calls Try.prog 24 #[x.a A n c, s.a, .int .i64 tick] w (SlowPost w [] (eCall x s)) := by
  have GA := K.H.mk (fun (W : World) (hb : Below w.heap.size w W) => ask_bad x s A n c W (hr.below hb) h)
  have hd : (eCall x s != 0) = true := by simpa using h
  generalize eCall x s = y at *
  clear hr h
  go_enter Try.func24, Try.ntmps24
  go_wp2_with (first
    | (go_at_call 34; (with_reducible refine (GA.out _ (by repeat (first | (with_reducible exact Below.refl _ _) | (with_reducible refine K.b_bel ?_ (by assumption)) | (with_reducible refine K.b_alloc ?_ _) | (with_reducible refine K.b_drewN ?_ _) | (with_reducible refine K.b_drew ?_) | (with_reducible refine K.b_set ?_ (by first | omega | (simp <;> omega)) _) | (with_reducible refine K.b_only ?_ (by assumption) (by first | omega | (simp <;> omega)))))).mono ?_); rintro e W1 ⟨g1, rfl, hb1⟩; obtain ⟨hB1, hC1, hF1, hZ1⟩ := K.bel_facts hb1; clear hb1))
  go_ret2
  exact ⟨_, rfl, World.ownsRow_nil _ _ _ _, (by repeat (first | (with_reducible exact Below.refl _ _) | (with_reducible refine K.b_bel ?_ (by assumption)) | (with_reducible refine K.b_alloc ?_ _) | (with_reducible refine K.b_drewN ?_ _) | (with_reducible refine K.b_drew ?_) | (with_reducible refine K.b_set ?_ (by first | omega | (simp <;> omega)) _) | (with_reducible refine K.b_only ?_ (by assumption) (by first | omega | (simp <;> omega)))))⟩
set_option maxRecDepth 100000 in
set_option maxHeartbeats 4000000 in
theorem slow_ok (x : Cal) (s : Set) (tick : Int) (A : Option Addr) (n c : Nat) (w : World) (hr : Sl.Rds w 8 A n (x.l.flatMap Att.cs)) (h : eCall x s = 0) : Calls Try.prog 24 #[x.a A n c, s.a, .int .i64 tick] w (SlowPost w (slowL s tick (outT x.l x.l.length)) 0) := by
  obtain rfl := hr.length Att.cs_len (by omega)
  obtain ⟨i0, hi, hz0, hz1, hz2⟩ := info_parts Bof.info_int
  have h16 := ok_len h
  have GA := K.H.mk (fun (W : World) (hb : Below w.heap.size w W) => ask_ok x s A x.l.length c W (hr.below hb) h)
  have Ht := K.H.mk (ok_t h)
  have htm : 1 ≤ s.tmo ∧ s.tmo ≤ 1048576 := by have := (eCall_ok h).1; unfold Set.ok at this; omega
  clear hr h
  refine (callsIn_wide (n := 3)).1 ?_
  refine callsIn_of_wp_marks Try.func24 rfl trivial ?_ rfl
  simp only [Try.ntmps24, List.size_toArray, List.length_cons, List.length_nil, Nat.reduceAdd, Nat.reduceSub, Array.replicate_succ, Array.replicate_zero, List.push_toArray, List.append_toArray, List.nil_append, List.cons_append]
  gi_wp2_with (first
    | (refine ⟨trivial, ?_⟩; gi_at_call 34; refine (callsIn_wide.2 (GA.out _ (by repeat (first | (with_reducible exact Below.refl _ _) | (with_reducible refine K.b_bel ?_ (by assumption)) | (with_reducible refine K.b_alloc ?_ _) | (with_reducible refine K.b_drewN ?_ _) | (with_reducible refine K.b_drew ?_) | (with_reducible refine K.b_set ?_ (by first | omega | (simp <;> omega)) _) | (with_reducible refine K.b_only ?_ (by assumption) (by first | omega | (simp <;> omega))))))).mono ?_; rintro e W1 ⟨g, B, d, rfl, hg1, hA1, hown1, hb1⟩; obtain ⟨_, _, he1, hRd1⟩ := Sl.Rds.of_own hown1; cases he1; obtain ⟨hB1, hC1, hF1, hZ1⟩ := K.bel_facts hb1; clear hb1)
    | (refine ⟨trivial, ?_⟩; gi_at_call 48; refine (out_in Fence.wide 2 trivial rfl g _).mono ?_; rintro e w' ⟨rfl, rfl⟩))
  have hgl := hA1.lt
  have hBl : 0 < x.l.length → ∀ a, B = some a → a.block < W1.heap.size := fun h0 a e => by obtain ⟨b, off, e2, hb, _⟩ := hRd1.at_ h0; rw [e] at e2; cases e2; exact hb
  have hS1 : K.At W1 (w.heap.size + 1) 30 s.c := (by refine K.At.cast (by repeat (first | (with_reducible refine K.At.new' _ _ _ _ (by first | rfl | (simp; done) | omega)) | (with_reducible apply K.At.over hB1) | (with_reducible apply K.At.set) | (with_reducible apply K.At.alloc) | (with_reducible apply K.At.drewN) | (with_reducible apply K.At.drew) | (with_reducible apply K.At.far) | omega | (simp <;> omega))) ?_; rfl)
  have hT1 : K.At W1 (w.heap.size + 1 + 1) 3 #[.int .i64 tick] := (by refine K.At.cast (by repeat (first | (with_reducible refine K.At.new' _ _ _ _ (by first | rfl | (simp; done) | omega)) | (with_reducible apply K.At.over hB1) | (with_reducible apply K.At.set) | (with_reducible apply K.At.alloc) | (with_reducible apply K.At.drewN) | (with_reducible apply K.At.drew) | (with_reducible apply K.At.far) | omega | (simp <;> omega))) ?_; rfl)
  have hB0 : Below w.heap.size w ((W1.alloc (.cells #[.slice none 0 0] 54)).alloc (.cells #[.pointer (some ⟨g, 0, none⟩)] 74)) := (by repeat (first | (with_reducible exact Below.refl _ _) | (with_reducible refine K.b_bel ?_ (by assumption)) | (with_reducible refine K.b_alloc ?_ _) | (with_reducible refine K.b_drewN ?_ _) | (with_reducible refine K.b_drew ?_) | (with_reducible refine K.b_set ?_ (by first | omega | (simp <;> omega)) _) | (with_reducible refine K.b_only ?_ (by assumption) (by first | omega | (simp <;> omega)))))
  have hB01 : Below W1.heap.size W1 ((W1.alloc (.cells #[.slice none 0 0] 54)).alloc (.cells #[.pointer (some ⟨g, 0, none⟩)] 74)) := (by repeat (first | (with_reducible exact Below.refl _ _) | (with_reducible refine K.b_bel ?_ (by assumption)) | (with_reducible refine K.b_alloc ?_ _) | (with_reducible refine K.b_drewN ?_ _) | (with_reducible refine K.b_drew ?_) | (with_reducible refine K.b_set ?_ (by first | omega | (simp <;> omega)) _) | (with_reducible refine K.b_only ?_ (by assumption) (by first | omega | (simp <;> omega)))))
  have hwl : w.heap.size + 2 < W1.heap.size := by have := hT1.lt; omega
  have bO := (Boxed.new W1 54 (.slice none 0 0)).alloc (.cells #[.pointer (some ⟨g, 0, none⟩)] 74)
  refine wpIn_rangeFunc_ownH rfl (by omega) (gf := 62) (lb := #[.pointer (some ⟨W1.heap.size + 1, 0, none⟩)]) rfl trivial (enters_of Try.func62 (by kernel_rfl) rfl)
    (out_stops Fence.wide 2 trivial rfl (by omega) (W1.heap.size + 1) g x s B d _ (by refine K.At.cast (by repeat (first | (with_reducible refine K.At.new' _ _ _ _ (by first | rfl | (simp; done) | omega)) | (with_reducible apply K.At.set) | (with_reducible apply K.At.alloc) | (with_reducible apply K.At.drewN) | (with_reducible apply K.At.drew) | (with_reducible apply K.At.far) | omega | (simp <;> omega))) ?_; rfl) ((hA1.bel ⟨hB01⟩)) (hRd1.below hB01) (by omega)) (fun h k => kpo_t h k) (kpo_b (by simp) (by simp; omega) (fun h0 a e => by have := hBl h0 a e; simp; omega)) (Below.refl _ _) (fun _ => rfl)
    (fun pre W => ((∃ v, Boxed W W1.heap.size 54 v ∧ W.ownsRow W1.heap.size 3 1 v (slowL s tick pre).length ((slowL s tick pre).map (Value.int .i64)) ∧ True) ∧ K.At W (w.heap.size + 1) 30 s.c ∧ K.At W (w.heap.size + 1 + 1) 3 #[.int .i64 tick] ∧ K.At W (W1.heap.size + 1) 74 #[.pointer (some ⟨g, 0, none⟩)]) ∧ Below w.heap.size w W)
    (fun c pre W => False ∧ Below w.heap.size w W)
    (OwnFrom.and (Own.from (fun q A B row hs hg hr => ⟨holdsRow_own W1.heap.size W1.heap.size 54 3 1 (fun pre : List NA => (slowL s tick pre).length) (fun pre => (slowL s tick pre).map (Value.int .i64)) (fun _ _ => True) q A B row hs.1 hg hr, Bof.at_kept hs.2.1 hg hr, Bof.at_kept hs.2.2.1 hg hr, Bof.at_kept hs.2.2.2 hg hr⟩) _) (ownFrom_below (Nat.le_refl _) (by simp; omega)))
    (fun c => OwnFrom.and (Own.from (fun q A B row hs hg hr => hs) _) (ownFrom_below (Nat.le_refl _) (by simp; omega)))
    ⟨⟨⟨_, bO, World.ownsRow_nil _ _ _ _, trivial⟩, (by refine K.At.cast (by repeat (first | (with_reducible exact hS1) | (with_reducible refine K.At.new' _ _ _ _ (by first | rfl | (simp; done) | omega)) | (with_reducible apply K.At.set) | (with_reducible apply K.At.alloc) | (with_reducible apply K.At.drewN) | (with_reducible apply K.At.drew) | (with_reducible apply K.At.far) | omega | (simp <;> omega))) ?_; rfl), (by refine K.At.cast (by repeat (first | (with_reducible exact hT1) | (with_reducible refine K.At.new' _ _ _ _ (by first | rfl | (simp; done) | omega)) | (with_reducible apply K.At.set) | (with_reducible apply K.At.alloc) | (with_reducible apply K.At.drewN) | (with_reducible apply K.At.drew) | (with_reducible apply K.At.far) | omega | (simp <;> omega))) ?_; rfl), (by refine K.At.cast (by repeat (first | (with_reducible refine K.At.new' _ _ _ _ (by first | rfl | (simp; done) | omega)) | (with_reducible apply K.At.set) | (with_reducible apply K.At.alloc) | (with_reducible apply K.At.drewN) | (with_reducible apply K.At.drew) | (with_reducible apply K.At.far) | omega | (simp <;> omega))) ?_; rfl)⟩, hB0⟩
    (fun y a' W => (∃ bk, a' = { tmps := #[x.a A x.l.length c, s.a, .int .i64 tick, .pointer (some ⟨w.heap.size, 0, none⟩), .pointer (some ⟨w.heap.size + 1, 0, none⟩), .pointer (some ⟨w.heap.size + 1 + 1, 0, none⟩), .slice none 0 0, .int .i64 0, .pointer (some ⟨g, 0, none⟩), .int .i64 0, .pointer (some ⟨W1.heap.size, 0, none⟩), .int .i64 y.1, .pointer (some ⟨bk, 0, none⟩), .tuple #[.pointer (some ⟨g, 0, none⟩), .int .i64 0], .agg (x.c A x.l.length c), .agg s.c, .tuple #[.pointer (some ⟨g, 0, none⟩), .int .i64 0], .pointer (some ⟨g, 0, none⟩), .int .i64 0, .int .i64 0, .bool false, undef, .pointer (some ⟨g, 0, none⟩), .func (.func 62) #[] #[.pointer (some ⟨W1.heap.size + 1, 0, none⟩)], .int .i64 y.1, y.2.a, undef, undef, undef, undef, undef, undef, undef, undef, undef, undef, undef, undef], defers := [] } ∧ W1.heap.size + 2 ≤ bk ∧ K.At W bk 37 #[.int .i64 y.2.b, .int .i64 y.2.i, .int .i64 y.2.s, .int .i64 y.2.q, .int .i64 y.2.t, .bool y.2.hedge, .bool y.2.probe, .bool y.2.over]))
    (fun y a' => Own.from (fun q A B row hs hg hr => by obtain ⟨bk, e, hbk, hk⟩ := hs; exact ⟨bk, e, hbk, Bof.at_kept hk hg hr⟩) _) ?assign ?body ?done ?stop
  case assign =>
    rintro l pre y W KK ⟨⟨⟨v, hv, hrow, -⟩, hS, hT, hC⟩, hB⟩ hK
    have hs := hB.size
    have hlt := hC.lt
    gi_wp2
    exact hK _ _ ((KeepsOthers.alloc _ _).from _) (kpo_bel hlt (by omega) (fun h0 a e => by have := hBl h0 a e; omega) (K.b_alloc (Below.refl _ _) _)) ⟨⟨⟨v, hv.alloc _, hrow.alloc _, trivial⟩, hS.alloc _, hT.alloc _, hC.alloc _⟩, K.b_alloc hB _⟩ ⟨W.heap.size, rfl, by omega, K.At.new _ _ _⟩
  case body =>
    rintro l pre y a' W hl _ ⟨⟨⟨v, hv, hrow, -⟩, hS, hT, hC⟩, hB⟩ ⟨bk, rfl, hbk, hK⟩ hlen
    have hc := hv.cell
    have hf := hv.frozen
    have hvl := hv.lt
    have HS := hS
    have HT := hT
    obtain ⟨hc5, hf5, hl5⟩ := K.At.facts hS
    obtain ⟨hc6, hf6, hl6⟩ := K.At.facts hT
    obtain ⟨hc7, hf7, hl7⟩ := K.At.facts hK
    have hBx := hB.size
    have hCl := hC.lt
    have hsl := slowL_len s tick pre
    have hadd := slowL_add s tick pre y
    cases hh : slowB s tick y
    · rw [hh] at hadd
      have Hadd := K.H.mk hadd
      have hd : decide (wrap64 (y.2.t + s.tmo) ≤ tick) = false := hh
      clear hh hadd
      gi_wp2
      refine ⟨(KeepsOthers.refl _).from _, kpo_bel hCl (by omega) (fun h0 a e => by have := hBl h0 a e; omega) (Below.refl _ _), ⟨⟨v, hv, ?_, trivial⟩, HS, HT, hC⟩, hB⟩
      rw [Hadd.out]; simpa using hrow
    · rw [hh] at hadd
      have Hadd := K.H.mk hadd
      have hd : decide (wrap64 (y.2.t + s.tmo) ≤ tick) = true := hh
      clear hh hadd
      gi_wp2_with (gi_at_builtin; refine wpListIn_append_own _ rfl _ _ 54 rfl W1.heap.size 3 i0 (.int .i64 0) 1 8 Try.underlying54 hi hz0 hz1 hz2 rfl (by decide) _ _ _ rfl (hrow.alloc _) ⟨W.heap.size, 0, none⟩ 1 1 [.int .i64 y.1] rfl rfl (cell_one_new _ _ _) (by simp [Value.oneCell']) (by simp only [maxLen]; omega) (by omega) (by simp; omega) ?_; intro v' w1 hown' hgrow _; obtain ⟨g', cap', rfl⟩ := ownsRow_succ hown'; obtain ⟨hv1, hv2, hr2, hk2, hb2⟩ := hv.appended (by decide) hrow (by omega) (by omega) hown' hgrow; have hc1 := hv1.cell; have hf1 := hv1.frozen)
      have hlow : ∀ k, k < W1.heap.size → v.ownBlock ≠ some k := fun k hk e => by have := Sl.own_base hrow _ e; omega
      have hqC := Sl.own_ne hrow hC (by decide)
      have hS3 := (Sl.at_grown (HS.alloc _) hgrow (hlow _ (by omega))).far (p := ⟨W1.heap.size, 0, none⟩) (by simp; omega) (.slice (some ⟨g', 0, none⟩) ((slowL s tick pre).length + 1) cap')
      have hT3 := (Sl.at_grown (HT.alloc _) hgrow (hlow _ (by omega))).far (p := ⟨W1.heap.size, 0, none⟩) (by simp; omega) (.slice (some ⟨g', 0, none⟩) ((slowL s tick pre).length + 1) cap')
      have hC3 := (Sl.at_grown (hC.alloc _) hgrow hqC).far (p := ⟨W1.heap.size, 0, none⟩) (by simp) (.slice (some ⟨g', 0, none⟩) ((slowL s tick pre).length + 1) cap')
      have hkp : KpO (W1.heap.size + 1) g B x.l.length (W.alloc (.cells #[.int .i64 y.1] 3)) w1 := ⟨hgrow.block _ (by simp; omega) (Ne.symm hqC), hgrow.block _ (by simp; omega) (Ne.symm (hlow _ hgl)), fun h0 a e => hgrow.block _ (by have := hBl h0 a e; simp; omega) (Ne.symm (hlow _ (hBl h0 a e))), hgrow.size⟩
      refine ⟨hk2.from _, kpo_t (kpo_bel hCl (by omega) (fun h0 a e => by have := hBl h0 a e; omega) (K.b_alloc (Below.refl _ _) _)) (kpo_t hkp (kpo_set (by simp) (by simp; omega) (fun h0 a e => by have := hBl h0 a e; simp; omega) _)), ⟨⟨_, hv2, ?_⟩, hS3, hT3, hC3⟩, hB.trans (hb2.mono (by omega))⟩
      rw [Hadd.out]; simpa using hr2
  case done =>
    rintro D ys W hD rfl ⟨⟨⟨v, hv, hrow, -⟩, hS, hT, hC⟩, hB⟩ hK
    have hc := hv.cell
    gi_wp2
    refine ⟨by simp, .inl ⟨_, _, rfl, run_takeDeferred hK, ?_⟩⟩
    refine ⟨.tuple #[v, .int .i64 0], ?_, v, rfl, Sl.own_low (ownsRow_putObj hrow _ hK rfl) (by omega), hB.trans (belowK_b (w := w) (Nat.le_refl _) W D _ _ (by simp at hD; omega) hK rfl rfl)⟩
    simp [results, Try.f24, go_sem]
  case stop =>
    rintro D c pre W hD hpre ⟨hf, _⟩ hK
    exact hf.elim
theorem Slow_c (x : Cal) (s : Set) (tick : Int) (A : Option Addr) (n c : Nat) (w : World) (hr : Sl.Rds w 8 A n (x.l.flatMap Att.cs)) : Calls Try.prog 24 #[x.a A n c, s.a, .int .i64 tick] w (SlowPost w (oSlow x s tick) (eCall x s)) := by
  unfold oSlow
  by_cases h : eCall x s = 0
  · rw [if_pos h, h]; exact slow_ok x s tick A n c w hr h
  · rw [if_neg h]; exact slow_bad x s tick A n c w hr h
end Go.Proofs.Ytfepjpjkamlneaa.Cl
