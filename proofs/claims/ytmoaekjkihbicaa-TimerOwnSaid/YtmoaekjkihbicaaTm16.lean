/- Timer: slices.SortFunc at timers; the order in a world that has only grown and drawn. -/
import Derived.Test.YtmoaekjkihbicaaTm15
import Derived.Test.YtmoaekjkihbicaaTmL
import Derived.Sort.OwnSortedInts
set_option linter.unusedVariables false
namespace Go
open Go.RowKit
namespace Proofs.Ytmoaekjkihbicaa.Tm
open Go.RowKit Go.Proofs Go.Proofs.Ytmoaekjkihbicaa Go.Proofs.Ytmoaekjkihbicaa.K Go.Sort
set_option linter.unusedSimpArgs false
theorem cmp_neg (a b : Tm) : a.cmp b < 0 ↔ ¬ b.le a = true := by
  rw [le_iff]
  unfold Tm.cmp cmpI
  (repeat' split) <;> omega
structure GrC (w W : World) : Prop where
  out : ∃ (q : Nat) (os : Array Obj), W = { w with drawn := w.drawn + q, heap := w.heap ++ os }
theorem grc_refl (w : World) : GrC w w := ⟨0, #[], by simp⟩
theorem grc_alloc {w W : World} (h : GrC w W) (o : Obj) : GrC w (W.alloc o) := by
  obtain ⟨q, os, rfl⟩ := h
  exact ⟨q, os.push o, by simp [World.alloc]⟩
theorem grc_drew1 (w : World) : GrC w { w with drawn := w.drawn + 1 } := ⟨1, #[], by simp⟩
theorem grc_trans {w W V : World} (h : GrC w W) (k : GrC W V) : GrC w V := by
  obtain ⟨q, os, rfl⟩ := h
  obtain ⟨q2, os2, rfl⟩ := k
  exact ⟨q + q2, os ++ os2, by simp [Nat.add_assoc]⟩
theorem GrC.inr {w W : World} (h : GrC w W) : InR w none W := by
  obtain ⟨q, os, rfl⟩ := h
  exact ⟨⟨rfl, rfl, rfl, by simp, fun k hk _ => by simp [Array.getElem?_append_left hk]⟩⟩
section
variable {P : Program} {ops : Array Oper} {w0 : World}
theorem wpMix_want_g {Q : Go.Act → World → Prop} {a : Go.Act} {w : World} {o : Oper} {rest : List Oper} (hw : Region.wanted o (yielded ops a.tmps) = true) (hp : isPure o.op = true)
    (h : ∀ K : Go.Act → World → Prop, (∀ a w, wpMix P ops (GrC w0) Q rest a w → K a w) → ∃ v, (∀ x : ExtR w0 none, PureAt P o a (w0.extr x) v) ∧ K (a.put o.dst v) w) : wpMix P ops (GrC w0) Q (o :: rest) a w :=
  wpMix_wantC hw hp fun K hK => by
    obtain ⟨v, h1, h2⟩ := h K hK
    exact ⟨v, fun w' hw' => h1 ⟨w', hw'.inr.out⟩, h2⟩
theorem wp_region_grc {id : Nat} {Q : Exit → Go.Act → World → Prop} {a : Go.Act} {w : World} {l : List Oper} (hm : P.follows .mixedOrders = true) (hB : mixB .any l.toArray l.length = true)
    (h : ∀ W, GrC w W → wpMix P l.toArray (GrC w) (fun a' W => Q .normal a' W) l a W) : (Code.region id l.toArray true).wp P Q a w :=
  wp_region_mixC hm hB (grc_drew1 w) h
end
set_option maxRecDepth 100000 in
set_option maxHeartbeats 2000000 in
theorem order_g (p q : Tm) (w : World) : Calls Try.prog 38 #[p.a, q.a] w fun e w' => e = .returned (.int .i64 (p.cmp q)) ∧ GrC w w' := by
  obtain ⟨c1, hc1⟩ : ∃ c, c = cmpI p.t q.t := ⟨_, rfl⟩
  obtain ⟨c2, hc2⟩ : ∃ c, c = cmpI p.id q.id := ⟨_, rfl⟩
  have HP := K.H.mk (show p.cmp q = if c1 = 0 then c2 else c1 by unfold Tm.cmp; rw [hc1, hc2])
  have G1 := K.H.mk (fun W => cmp_i64_c p.t q.t W)
  have G2 := K.H.mk (fun W => cmp_i64_c p.id q.id W)
  rw [← hc1] at G1
  rw [← hc2] at G2
  have GO := K.H.mk (fun (W : World) (g : Nat) (hA : K.At W g 3 #[.int .i64 c1, .int .i64 c2]) => or2_c c1 c2 g W hA)
  rw [HP.out]
  generalize (if c1 = 0 then c2 else c1) = r at *
  clear hc1 hc2 HP
  go_enter Try.func38, Try.ntmps38
  go_wp2
  refine wp_region_grc (by kernel_rfl) (by kernel_rfl) ?_
  intro W9 hR9
  have hB9 := K.InR.bel hR9.inr
  have hZ9 := K.inr_size hR9.inr
  repeat (any_goals (first | refine K.wpMix_skip2 (by rfl) (by rfl) ?_ | (refine K.wpMix_skip (by rfl) ?_; go_simp) | (refine wpMix_want_g (by rfl) (by rfl) (fun Kq hK => ?_); go_simp; refine hK _ _ ?_; clear hK Kq) | (refine K.wpMix_ser (by rfl) (by rfl) (fun Kq hK => ?_); first | (fail; refine ⟨(by repeat (first | (with_reducible exact hR9) | (with_reducible refine grc_alloc ?_ _))), hK _ _ ?_⟩; clear hK Kq) | (go_simp; first | (refine ⟨(by repeat (first | (with_reducible exact hR9) | (with_reducible refine grc_alloc ?_ _))), hK _ _ ?_⟩; clear hK Kq) | ((first | (go_at_call 51; (with_reducible refine (G1.out _).mono ?_); rintro e w' ⟨rfl, hw'⟩; have hw'2 := Eq.symm hw'; clear hw'; subst hw'2) | (go_at_call 51; (with_reducible refine (G2.out _).mono ?_); rintro e w' ⟨rfl, hw'⟩; have hw'2 := Eq.symm hw'; clear hw'; subst hw'2) | (go_at_call 50; (with_reducible refine (GO.out _ _ (K.At.new' _ _ _ _ (by simp))).mono ?_); rintro e w' ⟨rfl, hw'⟩; have hw'2 := Eq.symm hw'; clear hw'; subst hw'2)); refine ⟨_, rfl, (by repeat (first | (with_reducible exact hR9) | (with_reducible refine grc_alloc ?_ _))), hK _ _ ?_⟩; clear hK Kq)))))
  all_goals refine K.wpMix_nil ?_
  all_goals go_wp2
  go_ret
  exact ⟨rfl, grc_alloc (grc_trans (grc_alloc (grc_alloc (grc_refl _) _) _) hR9) _⟩
instance : Inhabited Tm := ⟨⟨0, 0⟩⟩
theorem flatK_tms (L : List Tm) : flatK Tm.cs 2 L.toArray = (L.flatMap Tm.cs).toArray := by
  apply Array.ext
  · simp [Sl.flat_len Tm.cs_len]
  · intro t h1 h2
    have h3 : t < L.length * 2 := by simpa using h1
    have h4 : t / 2 < L.length := by omega
    have h5 := Sl.flat_get Tm.cs_len L (t / 2) (t % 2) _ (List.getElem?_eq_getElem h4) (by omega)
    rw [show t / 2 * 2 + t % 2 = t by omega] at h5
    have h6 : (flatK Tm.cs 2 L.toArray)[t]! = (Tm.cs (L.toArray[t / 2]!))[t % 2]! := get_flatK _ _ _ _ (by simpa using h3)
    rw [getElem!_pos (flatK Tm.cs 2 L.toArray) t h1] at h6
    rw [h6, List.getElem_toArray]
    have h7 : t % 2 < (Tm.cs L[t / 2]).length := by rw [Tm.cs_len]; omega
    rw [List.getElem?_eq_getElem h7] at h5
    have h8 := (List.getElem?_eq_some_iff.1 h5).2
    rw [h8, getElem!_pos L.toArray (t / 2) (by simpa using h4), List.getElem_toArray, getElem!_pos (Tm.cs L[t / 2]) (t % 2) h7]
theorem ltOf_cmp (x y : Tm) : ltOf Tm.cmp x y = decide (x.cmp y < 0) := rfl
theorem holds_tms {w : World} {g : Nat} {cur : Array Value} {e : TypeId} {L : List Tm} (hb : w.heap[g]? = some (.cells cur e (0, 0))) (ht : cur.toList.take (L.length * 2) = L.flatMap Tm.cs) : HoldsK Tm.cs 2 w g 0 L.toArray := by
  unfold HoldsK
  rw [flatK_tms]
  intro j hj
  have hj' : j < (L.flatMap Tm.cs).length := by simpa using hj
  refine ⟨?_, by simp [World.frozen?, hb]⟩
  have h0 : j < L.length * 2 := by rw [Sl.flat_len Tm.cs_len] at hj'; exact hj'
  have h1 : (cur.toList.take (L.length * 2))[j]? = (L.flatMap Tm.cs)[j]? := by rw [ht]
  rw [List.getElem?_take_of_lt h0] at h1
  simp only [World.cell?, hb, Nat.zero_add]
  simp only [Option.isSome_none, Bool.false_eq_true, if_false]
  rw [← Array.getElem?_toList, h1, getElem!_pos (L.flatMap Tm.cs).toArray j (by simpa using hj'), List.getElem_toArray, List.getElem?_eq_getElem hj']
  rfl
theorem heap_sortedF {w : World} {g n : Nat} {os : Array Obj} {cur : Array Value} {e : TypeId} {fr : Nat × Nat} (F : Array Value) (hb : w.heap[g]? = some (.cells cur e fr)) :
    (grow (putRow id (Sort.ahead w n) g 0 F) os).heap[g]? = some (.cells (putCells id 0 F cur) e fr) := by
  have hg : g < w.heap.size := (Array.getElem?_eq_some_iff.1 hb).1
  rw [heap_grow_old _ _ (by simpa using hg)]
  simp [putRow, mapBlock, Sort.ahead, Array.getElem?_modify, hb, onCells]
theorem grownBy_sortedF {w : World} {g n : Nat} {os : Array Obj} (F : Array Value) : w.grownBy (grow (putRow id (Sort.ahead w n) g 0 F) os) (some g) := by
  refine ⟨rfl, rfl, rfl, by simp, fun k hk hne => ?_⟩
  rw [heap_grow_old _ _ (by simpa using hk)]
  have : g ≠ k := fun e => hne (by rw [e])
  simp [putRow, mapBlock, Sort.ahead, Array.getElem?_modify, this]
theorem take_putCellsF (cur : Array Value) (ts : List Value) (h : ts.length ≤ cur.size) : (putCells id 0 ts.toArray cur).toList.take ts.length = ts := by
  apply List.ext_getElem?
  intro j
  by_cases hj : j < ts.length
  · rw [List.getElem?_take_of_lt hj, Array.getElem?_toList]
    simp [putCells, hj, show j < cur.size by omega]
  · rw [List.getElem?_take_eq_none (by omega), List.getElem?_eq_none (by omega)]
theorem ltOf_lt (x y : Tm) : ltOf Tm.cmp x y = x.lt y := by rw [ltOf_cmp, cmp_lt]
theorem swo_cmp : SWO (ltOf Tm.cmp) where
  irrefl x := by rw [ltOf_lt, lt_f]; omega
  trans x y z h1 h2 := by rw [ltOf_lt, lt_iff] at *; omega
  ntrans x y z h1 h2 := by rw [ltOf_lt, lt_f] at *; omega
theorem ltOf_tot (x y : Tm) (h1 : ltOf Tm.cmp x y = false) (h2 : ltOf Tm.cmp y x = false) : x = y := by
  rw [ltOf_cmp] at h1 h2
  have h3 := of_decide_eq_false h1
  have h4 := of_decide_eq_false h2
  rw [cmp_neg] at h3 h4
  exact le_anti (by simpa using h4) (by simpa using h3)
theorem ltOf_le : (fun x y => !(ltOf Tm.cmp) y x) = Tm.le := by
  funext x y
  rw [ltOf_cmp]
  cases h : Tm.le x y <;> simp [cmp_neg, h]
theorem cmpLays (blk off size : Nat) (w : World) : CmpLays Try.prog 38 #[] Tm.cs 2 Tm.cmp blk off size w := fun m os dk _ x y => by
  refine (order_g x y (sortWorldK Tm.cs 2 w blk off m dk os)).mono ?_
  rintro e w' ⟨rfl, ⟨q, os', rfl⟩⟩
  exact ⟨rfl, q, os', rfl⟩
set_option maxRecDepth 100000 in
theorem SortTm_c (L : List Tm) (v : Value) (m base : Nat) (W : World) (hown : W.ownsRow base 25 2 v m (L.flatMap Tm.cs)) (hm : m ≤ 1024) :
    Calls Try.prog 48 #[v, .func (.func 38) #[] #[]] W fun e W' => e = .returned (.tuple #[]) ∧ W'.ownsRow base 25 2 v m ((sortT L).flatMap Tm.cs) ∧ W.grownBy W' v.ownBlock := by
  have hl : L.length = m := by have := hown.1; rw [Sl.flat_len Tm.cs_len] at this; omega
  subst hl
  have hs1 := sortT_len L
  rcases hown.2 with ⟨rfl, h0⟩ | ⟨g, cap, cur, rfl, hb, hg, h1, h2, h3, h4⟩
  · have hc := AnyF.slices_SortFunc_none Try.sortTm none 0 (.func (.func 38) #[] #[]) W
    have hc' : Calls Try.prog 48 #[.slice none 0 0, .func (.func 38) #[] #[]] W _ := hc
    have hn : L = [] := List.eq_nil_of_length_eq_zero h0
    refine hc'.mono ?_
    rintro e w' ⟨rfl, rfl⟩
    refine ⟨rfl, ?_, World.grownBy.refl _ _⟩
    subst hn
    simpa [sortT] using hown
  · have eg : ∀ args w, (callFunc 38 args).run Try.prog w = .ok (.enter 38 args) w := enters_of Try.func38 (by kernel_rfl) rfl
    have hc := AnyQ.slices_SortFunc_total Try.sortTm 2 Try.isAgg25 Try.sizeOf25 Tm.cs Tm.cs_len (fun x v hv => by simp [Tm.cs] at hv; rcases hv with rfl | rfl <;> rfl) Tm.cmp swo_cmp 38 #[] g 0 cap L.toArray W eg (cmpLays _ _ _ _) (holds_tms hg h4) (Array.getElem?_eq_some_iff.1 hg).1 (by simp; omega) ltOf_tot
    have hc' : Calls Try.prog 48 #[.slice (some ⟨g, 0, none⟩) L.length cap, .func (.func 38) #[] #[]] W _ := hc
    refine hc'.mono ?_
    rintro e w' ⟨rfl, q, os, rfl⟩
    have he : (List.mergeSort L.toArray.toList fun x y => !(ltOf Tm.cmp) y x) = sortT L := by rw [ltOf_le]; rfl
    rw [he]
    unfold sortWorldK putRowK
    rw [flatK_tms]
    have hfl := Sl.flat_len Tm.cs_len (sortT L)
    refine ⟨rfl, ⟨by rw [hfl, hs1], .inr ⟨g, cap, _, rfl, hb, heap_sortedF _ hg, h1, h2, by simp [putCells, h3], ?_⟩⟩, grownBy_sortedF _⟩
    rw [← hs1, ← hfl]
    exact take_putCellsF cur _ (by rw [hfl, hs1, h3]; omega)
end Proofs.Ytmoaekjkihbicaa.Tm
end Go
