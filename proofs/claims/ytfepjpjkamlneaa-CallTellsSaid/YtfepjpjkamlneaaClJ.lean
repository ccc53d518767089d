/- Calls: how many attempts are out, and of these hedges. -/
import Derived.Test.YtfepjpjkamlneaaClI
import Derived.Test.YtfepjpjkamlneaaBofA
set_option linter.unusedVariables false
namespace Go.Proofs.Ytfepjpjkamlneaa.Cl
open Go.RowKit Go.Shelf Go.Proofs.Ytfepjpjkamlneaa
attribute [local go_sem] Oper.semAt_some
attribute [local go_sem] K.max2_int K.min2_int K.max_two K.min_two K.max_three K.min_three
set_option linter.unusedSimpArgs false
theorem at_put {W : World} {g D : Nat} {T : TypeId} {cs : Array Value} (h : K.At W g T cs) (hn : g ≠ D) (o : Obj) : K.At (W.putObj D o) g T cs := ⟨(World.putObj_heap_other (by omega)).trans h.out⟩
def nOut (l : List NA) : Int := l.length
def hOut (l : List NA) : Int := (l.filter fun p => p.2.hedge).length
set_option maxRecDepth 100000 in
set_option maxHeartbeats 4000000 in
theorem counts_c (x : Cal) (s : Set) (g : Nat) (A : Option Addr) (n c : Nat) (w : World) (hG : K.At w g 91 (akc x s A n c)) (hr : Sl.Rds w 8 A n (x.l.flatMap Att.cs)) (h64 : x.l.length ≤ 64) :
    Calls Try.prog 45 #[.pointer (some ⟨g, 0, none⟩)] w fun e w' => e = .returned (.tuple #[.int .i64 (nOut (outT x.l x.l.length)), .int .i64 (hOut (outT x.l x.l.length))]) ∧ Below w.heap.size w w' := by
  obtain rfl := hr.length Att.cs_len (by omega)
  have hle := hr.le
  refine (callsIn_wide (n := 3)).1 ?_
  refine callsIn_of_wp_marks Try.func45 rfl trivial ?_ rfl
  simp only [Try.ntmps45, List.size_toArray, List.length_cons, List.length_nil, Nat.reduceAdd, Nat.reduceSub, Array.replicate_succ, Array.replicate_zero, List.push_toArray, List.append_toArray, List.nil_append, List.cons_append]
  gi_wp2_with (first | (refine ⟨trivial, ?_⟩; gi_at_call 48; refine (out_in Fence.wide 2 trivial rfl g _).mono ?_; rintro e w' ⟨rfl, rfl⟩))
  have hgl := hG.lt
  have hAl : 0 < x.l.length → ∀ a, A = some a → a.block < w.heap.size := fun h0 a e => by obtain ⟨b, off, e2, hb, _⟩ := hr.at_ h0; rw [e] at e2; cases e2; exact hb
  have hB0 : Below w.heap.size w (((w.alloc (.cells #[.int .i64 0] 3)).alloc (.cells #[.int .i64 0] 3)).alloc (.cells #[.pointer (some ⟨g, 0, none⟩)] 74)) := (by repeat (first | (with_reducible exact Below.refl _ _) | (with_reducible refine K.b_bel ?_ (by assumption)) | (with_reducible refine K.b_alloc ?_ _) | (with_reducible refine K.b_drewN ?_ _) | (with_reducible refine K.b_drew ?_) | (with_reducible refine K.b_set ?_ (by first | omega | (simp <;> omega)) _) | (with_reducible refine K.b_only ?_ (by assumption) (by first | omega | (simp <;> omega)))))
  refine wpIn_rangeFunc_ownH rfl (by omega) (gf := 62) (lb := #[.pointer (some ⟨w.heap.size + 1 + 1, 0, none⟩)]) rfl trivial (enters_of Try.func62 (by kernel_rfl) rfl)
    (out_stops Fence.wide 2 trivial rfl (by omega) (w.heap.size + 1 + 1) g x s A c _ (by refine K.At.cast (by repeat (first | (with_reducible refine K.At.new' _ _ _ _ (by first | rfl | (simp; done) | omega)) | (with_reducible apply K.At.set) | (with_reducible apply K.At.alloc) | (with_reducible apply K.At.drewN) | (with_reducible apply K.At.drew) | (with_reducible apply K.At.far) | omega | (simp <;> omega))) ?_; rfl) ((hG.bel ⟨hB0⟩)) (hr.below hB0) h64) (fun h k => kpo_t h k) (kpo_b (by simp) (by simp; omega) (fun h0 a e => by have := hAl h0 a e; simp; omega)) (Below.refl _ _) (fun _ => rfl)
    (fun pre W => (K.At W w.heap.size 3 #[.int .i64 (nOut pre)] ∧ K.At W (w.heap.size + 1) 3 #[.int .i64 (hOut pre)] ∧ K.At W (w.heap.size + 1 + 1) 74 #[.pointer (some ⟨g, 0, none⟩)]) ∧ Below w.heap.size w W)
    (fun c pre W => False ∧ Below w.heap.size w W)
    (OwnFrom.and (Own.from (fun q A B row hs hg hr => ⟨Bof.at_kept hs.1 hg hr, Bof.at_kept hs.2.1 hg hr, Bof.at_kept hs.2.2 hg hr⟩) _) (ownFrom_below (Nat.le_refl _) (by simp; omega)))
    (fun c => OwnFrom.and (Own.from (fun q A B row hs hg hr => hs) _) (ownFrom_below (Nat.le_refl _) (by simp; omega)))
    ⟨⟨(by refine K.At.cast (by repeat (first | (with_reducible refine K.At.new' _ _ _ _ (by first | rfl | (simp; done) | omega)) | (with_reducible apply K.At.set) | (with_reducible apply K.At.alloc) | (with_reducible apply K.At.drewN) | (with_reducible apply K.At.drew) | (with_reducible apply K.At.far) | omega | (simp <;> omega))) ?_; simp [nOut]), (by refine K.At.cast (by repeat (first | (with_reducible refine K.At.new' _ _ _ _ (by first | rfl | (simp; done) | omega)) | (with_reducible apply K.At.set) | (with_reducible apply K.At.alloc) | (with_reducible apply K.At.drewN) | (with_reducible apply K.At.drew) | (with_reducible apply K.At.far) | omega | (simp <;> omega))) ?_; simp [hOut]), (by refine K.At.cast (by repeat (first | (with_reducible refine K.At.new' _ _ _ _ (by first | rfl | (simp; done) | omega)) | (with_reducible apply K.At.set) | (with_reducible apply K.At.alloc) | (with_reducible apply K.At.drewN) | (with_reducible apply K.At.drew) | (with_reducible apply K.At.far) | omega | (simp <;> omega))) ?_; rfl)⟩, hB0⟩
    (fun y a' W => (∃ bk, a' = { tmps := #[.pointer (some ⟨g, 0, none⟩), undef, .pointer (some ⟨w.heap.size, 0, none⟩), .pointer (some ⟨w.heap.size + 1, 0, none⟩), undef, .pointer (some ⟨bk, 0, none⟩), .pointer (some ⟨g, 0, none⟩), .func (.func 62) #[] #[.pointer (some ⟨w.heap.size + 1 + 1, 0, none⟩)], .int .i64 y.1, y.2.a, undef, undef, undef, undef, undef, undef, undef, undef], defers := [] } ∧ w.heap.size + 2 ≤ bk ∧ K.At W bk 37 #[.int .i64 y.2.b, .int .i64 y.2.i, .int .i64 y.2.s, .int .i64 y.2.q, .int .i64 y.2.t, .bool y.2.hedge, .bool y.2.probe, .bool y.2.over]))
    (fun y a' => Own.from (fun q A B row hs hg hr => by obtain ⟨bk, e, hbk, hk⟩ := hs; exact ⟨bk, e, hbk, Bof.at_kept hk hg hr⟩) _) ?assign ?body ?done ?stop
  case assign =>
    rintro l pre y W KK ⟨⟨hN, hH, hC⟩, hB⟩ hK
    have hs := hB.size
    have hlt := hC.lt
    gi_wp2
    exact hK _ _ ((KeepsOthers.alloc _ _).from _) (kpo_bel hlt (by omega) (fun h0 a e => by have := hAl h0 a e; omega) (K.b_alloc (Below.refl _ _) _)) ⟨⟨hN.alloc _, hH.alloc _, hC.alloc _⟩, K.b_alloc hB _⟩ ⟨W.heap.size, rfl, by omega, K.At.new _ _ _⟩
  case body =>
    rintro l pre y a' W hl _ ⟨⟨hN, hH, hC⟩, hB⟩ ⟨bk, rfl, hbk, hK⟩ hlen
    have HN := hN
    have HH := hH
    have HC := hC
    obtain ⟨hc5, hf5, hl5⟩ := K.At.facts hN
    obtain ⟨hc6, hf6, hl6⟩ := K.At.facts hH
    obtain ⟨hc7, hf7, hl7⟩ := K.At.facts hK
    have hn1 : nOut (pre ++ [y]) = nOut pre + 1 := by simp [nOut]
    have hn0 : 0 ≤ nOut pre ∧ nOut pre < 64 := by unfold nOut; omega
    have hh0 : 0 ≤ hOut pre ∧ hOut pre < 64 := by
      have := List.length_filter_le (fun p : NA => p.2.hedge) pre
      unfold hOut; omega
    have h1 : w.heap.size ≠ bk := by omega
    have h2 : bk ≠ w.heap.size := by omega
    cases hh : y.2.hedge
    · have hh1 := K.H.mk (show hOut (pre ++ [y]) = hOut pre by simp [hOut, hh])
      rw [hh] at hc7
      have Hn1 := K.H.mk hn1
      clear hh hn1
      gi_wp2
      refine ⟨(KeepsOthers.setCell _ _ _).from _, kpo_set (by simp; omega) (by simp; omega) (fun h0 a e => by have := hAl h0 a e; simp; omega) _, ⟨(HN.set 0 _).cast (by rw [Hn1.out]; rfl), ?_, HC.far (by simp; omega) _⟩, K.b_set hB (by simp) _⟩
      rw [hh1.out]; exact HH.far (by simp) _
    · have hh1 := K.H.mk (show hOut (pre ++ [y]) = hOut pre + 1 by simp [hOut, hh])
      rw [hh] at hc7
      have Hn1 := K.H.mk hn1
      clear hh hn1
      gi_wp2
      refine ⟨((KeepsOthers.setCell _ _ _).trans (KeepsOthers.setCell _ _ _)).from _, kpo_t (kpo_set (by simp; omega) (by simp; omega) (fun h0 a e => by have := hAl h0 a e; simp; omega) _) (kpo_set (by simp) (by simp; omega) (fun h0 a e => by have := hAl h0 a e; simp; omega) _), ⟨?_, ?_, (HC.far (by simp; omega) _).far (by simp) _⟩, K.b_set (K.b_set hB (by simp) _) (by simp) _⟩
      · exact ((HN.set 0 (.int .i64 (nOut pre + 1))).far (p := ⟨w.heap.size + 1, 0, none⟩) (by simp) _).cast (by rw [Hn1.out]; rfl)
      · exact ((HH.far (p := ⟨w.heap.size, 0, none⟩) (by simp) _).set 0 _).cast (by rw [hh1.out]; rfl)
  case done =>
    rintro D ys W hD rfl ⟨⟨hN, hH, hC⟩, hB⟩ hK
    obtain ⟨hc5, hf5, hl5⟩ := K.At.facts hN
    obtain ⟨hc6, hf6, hl6⟩ := K.At.facts hH
    have hmx : Try.prog.follows .mixedOrders = true := by kernel_rfl
    have hD2 : w.heap.size + 3 ≤ D := by simp at hD; omega
    gi_wp2
    gi_region_with_o (fail)
    all_goals gi_wp2
    all_goals
      have hK2 : (((W.setCell ⟨w.heap.size, 0, none⟩ (.int .i64 (nOut (outT x.l x.l.length)))).setCell ⟨w.heap.size + 1, 0, none⟩ (.int .i64 (hOut (outT x.l x.l.length)))).drew).heap[D]? = some (.deferred (some [])) := by
        show ((W.setCell ⟨w.heap.size, 0, none⟩ (.int .i64 (nOut (outT x.l x.l.length)))).setCell ⟨w.heap.size + 1, 0, none⟩ (.int .i64 (hOut (outT x.l x.l.length)))).heap[D]? = _
        rw [Below.heap_setCell _ _ _ _ (by simp; omega), Below.heap_setCell _ _ _ _ (by simp; omega)]; exact hK
      refine ⟨by simp, .inl ⟨_, _, rfl, run_takeDeferred hK2, ?_⟩⟩
      refine ⟨.tuple #[.int .i64 (nOut (outT x.l x.l.length)), .int .i64 (hOut (outT x.l x.l.length))], ?_, rfl, (K.b_drew (K.b_set (K.b_set hB (by simp) _) (by simp) _)).trans (belowK_b (w := w) (Nat.le_refl _) _ D _ _ (by omega) hK2 rfl rfl)⟩
      have hN9 := at_put (((hN.set 0 (.int .i64 (nOut (outT x.l x.l.length)))).far (p := ⟨w.heap.size + 1, 0, none⟩) (by simp) (.int .i64 (hOut (outT x.l x.l.length)))).drew) (show w.heap.size ≠ D by omega) (.deferred none)
      have hH9 := at_put (((hH.far (p := ⟨w.heap.size, 0, none⟩) (by simp) (.int .i64 (nOut (outT x.l x.l.length)))).set 0 (.int .i64 (hOut (outT x.l x.l.length)))).drew) (show w.heap.size + 1 ≠ D by omega) (.deferred none)
      have hcN := hN9.cell 0
      have hcH := hH9.cell 0
      simp at hcN hcH
      simp [results, Try.f45, go_sem, hcN, hcH]
  case stop =>
    rintro D c pre W hD hpre ⟨hf, _⟩ hK
    exact hf.elim
end Go.Proofs.Ytfepjpjkamlneaa.Cl
