/- Timer: pop. -/
import Derived.Test.YtmoaekjkihbicaaTm10
set_option linter.unusedVariables false
namespace Go.Proofs.Ytmoaekjkihbicaa.Tm
open Go.RowKit Go.Proofs.Ytmoaekjkihbicaa
set_option linter.unusedSimpArgs false
theorem own_take {w : World} {base g n cap k : Nat} {e : TypeId} {L : List Tm} (hown : w.ownsRow base e 2 (.slice (some ⟨g, 0, none⟩) n cap) n (L.flatMap Tm.cs)) (hk : k ≤ n) :
    w.ownsRow base e 2 (.slice (some ⟨g, 0, none⟩) k cap) k ((L.take k).flatMap Tm.cs) := by
  obtain ⟨h1, h2⟩ := hown
  have hl : L.length = n := by rw [Sl.flat_len Tm.cs_len] at h1; omega
  refine ⟨by rw [Sl.flat_len Tm.cs_len, List.length_take]; omega, ?_⟩
  rcases h2 with ⟨h3, h4⟩ | ⟨g2, cap2, cur, h3, hb, hg, hn, hm, hcs, ht⟩
  · cases h3
  · cases h3
    refine .inr ⟨g, cap, cur, rfl, hb, hg, by omega, hm, hcs, ?_⟩
    have h5 : (L.take k).flatMap Tm.cs = (L.flatMap Tm.cs).take (k * 2) := by
      have h6 : L.flatMap Tm.cs = (L.take k).flatMap Tm.cs ++ (L.drop k).flatMap Tm.cs := by rw [← List.flatMap_append, List.take_append_drop]
      rw [h6, List.take_left' (by rw [Sl.flat_len Tm.cs_len, List.length_take]; omega)]
    rw [h5, ← ht, List.take_take, Nat.min_eq_left (by omega)]
/-- Only the blocks g and h, and new ones, have turned. -/
structure Two (w W : World) (g h : Nat) : Prop where
  os : W.os = w.os
  tape : W.tape = w.tape
  output : W.output = w.output
  size : w.heap.size ≤ W.heap.size
  block : ∀ k, k < w.heap.size → k ≠ g → k ≠ h → W.heap[k]? = w.heap[k]?
section
variable {w W W2 : World} {g h : Nat}
theorem same_w {base n sz : Nat} {e : TypeId} {v : Value} {cs : List Value} {k : Nat} {T : TypeId} {ds : Array Value} (_ : W.ownsRow base e sz v n cs) (a : K.At W k T ds) : K.At W k T ds := a
theorem two_refl (w : World) (g h : Nat) : Two w w g h := ⟨rfl, rfl, rfl, Nat.le_refl _, fun _ _ _ _ => rfl⟩
theorem Two.trans (a : Two w W g h) (b : Two W W2 g h) : Two w W2 g h :=
  ⟨b.os.trans a.os, b.tape.trans a.tape, b.output.trans a.output, Nat.le_trans a.size b.size, fun k hk h1 h2 => (b.block k (Nat.lt_of_lt_of_le hk a.size) h1 h2).trans (a.block k hk h1 h2)⟩
theorem two_1 (a : w.grownBy W (some g)) : Two w W g h := ⟨a.os, a.tape, a.output, a.size, fun k hk h1 _ => a.block k hk (by simpa using h1)⟩
theorem two_2 (a : w.grownBy W (some h)) : Two w W g h := ⟨a.os, a.tape, a.output, a.size, fun k hk _ h1 => a.block k hk (by simpa using h1)⟩
theorem two_below (a : Below w.heap.size w W) : Two w W g h := ⟨a.os, a.tape, a.output, a.size, fun k hk _ _ => a.block k hk⟩
theorem Two.below {B : Nat} (a : Two w W g h) (h1 : B ≤ g) (h2 : B ≤ h) (h3 : B ≤ w.heap.size) : Below B w W := ⟨a.os, a.tape, a.output, a.size, fun k hk => a.block k (by omega) (by omega) (by omega)⟩
theorem Two.at_ {k : Nat} {T : TypeId} {cs : Array Value} (a : Two w W g h) (hA : K.At w k T cs) (h1 : k ≠ g) (h2 : k ≠ h) : K.At W k T cs := ⟨(a.block k hA.lt h1 h2).trans hA.out⟩
theorem Two.own {base n sz : Nat} {e : TypeId} {v : Value} {cs : List Value} (a : Two w W g h) (ho : w.ownsRow base e sz v n cs) (h1 : v.ownBlock ≠ some g) (h2 : v.ownBlock ≠ some h) : W.ownsRow base e sz v n cs := by
  refine ⟨ho.1, ?_⟩
  rcases ho.2 with hh | ⟨g2, cap, cur, rfl, hb, hg, r⟩
  · exact .inl hh
  · refine .inr ⟨g2, cap, cur, rfl, hb, ?_, r⟩
    rw [a.block g2 (Array.getElem?_eq_some_iff.1 hg).1 (by simpa [Value.ownBlock] using h1) (by simpa [Value.ownBlock] using h2)]
    exact hg
end
set_option maxRecDepth 100000 in
set_option maxHeartbeats 8000000 in
theorem pop_c (x : Tm) (r : List Tm) (gH g n cap base : Nat) (w : World) (hH : K.At w gH 57 #[.slice (some ⟨g, 0, none⟩) n cap]) (hown : w.ownsRow base 25 2 (.slice (some ⟨g, 0, none⟩) n cap) n ((x :: r).flatMap Tm.cs)) (hbase : base ≤ w.heap.size) (hn : n ≤ 1024) (hbg : base ≤ g) (hbh : base ≤ gH) (hgg : gH ≠ g) :
    Calls Try.prog 32 #[.pointer (some ⟨gH, 0, none⟩)] w fun e w' => e = .returned (.agg #[.int .i64 x.t, .int .i64 x.id]) ∧ K.At w' gH 57 #[.slice (some ⟨g, 0, none⟩) (n - 1) cap] ∧ w'.ownsRow base 25 2 (.slice (some ⟨g, 0, none⟩) (n - 1) cap) (n - 1) ((popL (x :: r)).flatMap Tm.cs) ∧ Two w w' g gH := by
  have hl : (x :: r).length = n := by have := hown.1; rw [Sl.flat_len Tm.cs_len] at this; omega
  have hn0 : 0 < n := by rw [← hl]; simp
  obtain ⟨m, rfl⟩ : ∃ m, n = m + 1 := ⟨n - 1, by omega⟩
  rw [Nat.add_sub_cancel]
  obtain ⟨y, hy⟩ : ∃ y, (x :: r)[m]? = some y := ⟨_, List.getElem?_eq_getElem (by omega)⟩
  have hcap : m + 1 ≤ cap := by
    rcases hown.2 with ⟨h3, _⟩ | ⟨g2, cap2, cur, h3, hb, hg, h4, _⟩
    · cases h3
    · cases h3; exact h4
  have hc0 : w.cell? ⟨g, 0, none⟩ = some (.int .i64 x.t) := by
    rw [hown.cellAt _ (by omega)]; rfl
  have hc1 : w.cell? ⟨g, 1, none⟩ = some (.int .i64 x.id) := by
    rw [hown.cellAt _ (by omega)]; rfl
  have hc2 : w.cell? ⟨g, m * 2, none⟩ = some (.int .i64 y.t) := by
    rw [hown.cellAt _ (by omega)]; have := Sl.flat_get Tm.cs_len (x :: r) m 0 y hy (by omega); simpa [Tm.cs] using this
  have hc3 : w.cell? ⟨g, m * 2 + 1, none⟩ = some (.int .i64 y.id) := by
    rw [hown.cellAt _ (by omega)]; have := Sl.flat_get Tm.cs_len (x :: r) m 1 y hy (by omega); simpa [Tm.cs] using this
  have hgl : g < w.heap.size := (hown.lt g rfl).2
  have hf0 := hown.frozenAt 0
  have hf1 := hown.frozenAt 1
  have hgl2 := hH.lt
  have hgg2 : g ≠ gH := Ne.symm hgg
  have HP := K.H.mk (show popL (x :: r) = down (m + 2) (((x :: r).set 0 y).take m) 0 by
    unfold popL offL; rw [hl, Nat.add_sub_cancel, List.getD_eq_getElem?_getD, hy]; rfl)
  have hw1 : IntKind.i64.wrap (((m + 1 : Nat) : Int) - 1) = (m : Int) := by rw [K.i64_in (by omega) (by omega)]; omega
  have hw2 : IntKind.i64.wrap ((m : Int) + 1 - 1) = (m : Int) := by rw [K.i64_in (by omega) (by omega)]; omega
  have hm1 : (m : Int) < ((m + 1 : Nat) : Int) := by omega
  have hm0 : (0 : Int) ≤ (m : Int) := by omega
  have hmc : (m : Int) ≤ (cap : Int) := by omega
  have hmc2 : m ≤ cap := by omega
  obtain ⟨hc5, hf5, hl5⟩ := K.At.facts hH
  have Hown := K.H.mk hown
  have HL := K.H.mk hl
  clear hown hy hl
  go_enter Try.func32, Try.ntmps32
  have h1 := (Hown.out.stored 0 (.int .i64 y.t)).1
  have h2 := (h1.stored 1 (.int .i64 y.id)).1
  have h3 := flat_set (x :: r) 0 y
  rw [Nat.zero_mul, Nat.zero_add] at h3
  rw [h3] at h2
  have hq : (Value.slice (some ⟨g, 0, none⟩) (m + 1) cap).ownBlock ≠ some gH := by simp [Value.ownBlock]; exact hgg2
  have h4 := own_take (k := m) (Sl.own_set (p := ⟨gH, 0, none⟩) h2 hq (.slice (some ⟨g, 0, none⟩) m cap)) (by omega)
  have h5 := (h4.alloc (.cells #[.int .i64 0, .int .i64 0] 25)).alloc (.cells #[.int .i64 x.t, .int .i64 x.id] 25)
  have HO := K.H.mk h5
  have hH1 := ((((K.At.far (p := ⟨g, 0, none⟩) hH hgg (.int .i64 y.t)).far (p := ⟨g, 1, none⟩) hgg (.int .i64 y.id)).set 0 (.slice (some ⟨g, 0, none⟩) m cap)).alloc (.cells #[.int .i64 0, .int .i64 0] 25)).alloc (.cells #[.int .i64 x.t, .int .i64 x.id] 25)
  have HH := K.H.mk (hH1.cast (by rfl : _ = #[.slice (some ⟨g, 0, none⟩) m cap]))
  have HT := K.H.mk (show Two w _ g gH from ((two_1 (K.o_set (K.o_set (K.o_refl w g) 0 (.int .i64 y.t)) 1 (.int .i64 y.id))).trans (two_2 (K.o_alloc (K.o_alloc (K.o_set (K.o_refl ((w.setCell ⟨g, 0, none⟩ (.int .i64 y.t)).setCell ⟨g, 1, none⟩ (.int .i64 y.id)) gH) 0 (.slice (some ⟨g, 0, none⟩) m cap)) (.cells #[.int .i64 0, .int .i64 0] 25)) (.cells #[.int .i64 x.t, .int .i64 x.id] 25)))))
  have HX := K.H.mk (same_w HO.out (K.At.new' _ 25 #[.int .i64 x.t, .int .i64 x.id] (w.heap.size + 1) (by simp [World.setCell])))
  have HY := K.H.mk (same_w HO.out ((K.At.new' _ 25 #[.int .i64 0, .int .i64 0] w.heap.size (by simp [World.setCell])).alloc _))
  have GS := K.H.mk (show Calls Try.prog 44 #[.pointer (some ⟨gH, 0, none⟩), .int .i64 0] _ _ from sink_c (((x :: r).set 0 y).take m) (m + 2) 0 gH g m cap base _ HH.out HO.out (by simp [World.setCell]; omega) (by omega) hbg hgg (by omega) (by omega))
  clear h1 h2 h3 h4 h5 hH1 hq hH
  go_wp2_with (first | (go_at_call 44; (with_reducible refine GS.out.mono ?_); rintro e W7 ⟨rfl, hH7, hown7, hgr7⟩; have hX7 := Sl.at_grown HX.out hgr7 (by simp; omega); have hY7 := Sl.at_grown HY.out hgr7 (by simp; omega); obtain ⟨hc8, hf8, hl8⟩ := K.At.facts hX7; obtain ⟨hc9, hf9, hl9⟩ := K.At.facts hY7))
  ((try simp only [Exit.inBlock, Exit.then]); refine bodyPost_ret (v := .agg #[.int .i64 x.t, .int .i64 x.id]) (by simp only [results, Try.results32]; go_simp) rfl ?_)
  rw [← HP.out] at hown7
  have hq7 : (Value.slice (some ⟨g, 0, none⟩) m cap).ownBlock ≠ some w.heap.size := by simp [Value.ownBlock]; omega
  refine ⟨rfl, (hH7.far (p := ⟨w.heap.size, 0, none⟩) (by simp; omega) _).far (p := ⟨w.heap.size, 1, none⟩) (by simp; omega) _, Sl.own_set (p := ⟨w.heap.size, 1, none⟩) (Sl.own_set (p := ⟨w.heap.size, 0, none⟩) hown7 hq7 _) hq7 _, ?_⟩
  have h8 := HT.out.trans (two_1 (h := gH) hgr7)
  exact ⟨h8.os, h8.tape, h8.output, by simpa [World.setCell] using h8.size, fun k hk h1 h2 => by
    rw [Below.heap_setCell _ _ _ _ (by simp; omega), Below.heap_setCell _ _ _ _ (by simp; omega)]
    exact h8.block k hk h1 h2⟩
end Go.Proofs.Ytmoaekjkihbicaa.Tm
