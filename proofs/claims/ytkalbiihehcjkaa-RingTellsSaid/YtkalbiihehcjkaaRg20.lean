/- Ring: slices.SortFunc at points; Build. -/
import Derived.Test.YtkalbiihehcjkaaRg19
import Derived.Test.YtkalbiihehcjkaaRgL
import Derived.Sort.OwnSortedInts
set_option linter.unusedVariables false
namespace Go.Proofs.Ytkalbiihehcjkaa.Rg
open Go.RowKit Go.Proofs Go.Proofs.Ytkalbiihehcjkaa Go.Sort
set_option linter.unusedSimpArgs false
instance : Inhabited Pt := ⟨⟨0, 0⟩⟩
theorem flatK_pts (L : List Pt) : flatK Pt.cs 2 L.toArray = (L.flatMap Pt.cs).toArray := by
  apply Array.ext
  · simp [Sl.flat_len Pt.cs_len]
  · intro t h1 h2
    have h3 : t < L.length * 2 := by simpa using h1
    have h4 : t / 2 < L.length := by omega
    have h5 := Sl.flat_get Pt.cs_len L (t / 2) (t % 2) _ (List.getElem?_eq_getElem h4) (by omega)
    rw [show t / 2 * 2 + t % 2 = t by omega] at h5
    have h6 : (flatK Pt.cs 2 L.toArray)[t]! = (Pt.cs (L.toArray[t / 2]!))[t % 2]! := get_flatK _ _ _ _ (by simpa using h3)
    rw [getElem!_pos (flatK Pt.cs 2 L.toArray) t h1] at h6
    rw [h6, List.getElem_toArray]
    have h7 : t % 2 < (Pt.cs L[t / 2]).length := by rw [Pt.cs_len]; omega
    rw [List.getElem?_eq_getElem h7] at h5
    have h8 := (List.getElem?_eq_some_iff.1 h5).2
    rw [h8, getElem!_pos L.toArray (t / 2) (by simpa using h4), List.getElem_toArray, getElem!_pos (Pt.cs L[t / 2]) (t % 2) h7]
theorem ltOf_cmp (x y : Pt) : ltOf Pt.cmp x y = decide (x.cmp y < 0) := rfl
theorem holds_pts {w : World} {g : Nat} {cur : Array Value} {e : TypeId} {L : List Pt} (hb : w.heap[g]? = some (.cells cur e (0, 0))) (ht : cur.toList.take (L.length * 2) = L.flatMap Pt.cs) : HoldsK Pt.cs 2 w g 0 L.toArray := by
  unfold HoldsK
  rw [flatK_pts]
  intro j hj
  have hj' : j < (L.flatMap Pt.cs).length := by simpa using hj
  refine ⟨?_, by simp [World.frozen?, hb]⟩
  have h0 : j < L.length * 2 := by rw [Sl.flat_len Pt.cs_len] at hj'; exact hj'
  have h1 : (cur.toList.take (L.length * 2))[j]? = (L.flatMap Pt.cs)[j]? := by rw [ht]
  rw [List.getElem?_take_of_lt h0] at h1
  simp only [World.cell?, hb, Nat.zero_add]
  simp only [Option.isSome_none, Bool.false_eq_true, if_false]
  rw [← Array.getElem?_toList, h1, getElem!_pos (L.flatMap Pt.cs).toArray j (by simpa using hj'), List.getElem_toArray, List.getElem?_eq_getElem hj']
  rfl
theorem heap_sortedF {w : World} {g n : Nat} {os : Array Obj} {cur : Array Value} {e : TypeId} {fr : Nat × Nat} (F : Array Value) (hb : w.heap[g]? = some (.cells cur e fr)) :
    (grow (putRow id (Sort.ahead w n) g 0 F) os).heap[g]? = some (.cells (putCells id 0 F cur) e fr) := by
  have hg : g < w.heap.size := (Array.getElem?_eq_some_iff.1 hb).1
  rw [heap_grow_old _ _ (by simpa using hg)]
  simp [putRow, mapBlock, Sort.ahead, Array.getElem?_modify, hb, onCells]
theorem grownBy_sortedF {w : World} {g n : Nat} {os : Array Obj} (F : Array Value) : w.grownBy (grow (putRow id (Sort.ahead w n) g 0 F) os) (some g) := by
  refine ⟨rfl, rfl, rfl, by simp, fun k hk hne => ?_⟩
  rw [heap_grow_old _ _ (by simpa using hk)]
  have : g ≠ k := fun e => hne (by rw [e])
  simp [putRow, mapBlock, Sort.ahead, Array.getElem?_modify, this]
theorem take_putCellsF (cur : Array Value) (ts : List Value) (h : ts.length ≤ cur.size) : (putCells id 0 ts.toArray cur).toList.take ts.length = ts := by
  apply List.ext_getElem?
  intro j
  by_cases hj : j < ts.length
  · rw [List.getElem?_take_of_lt hj, Array.getElem?_toList]
    simp [putCells, hj, show j < cur.size by omega]
  · rw [List.getElem?_take_eq_none (by omega), List.getElem?_eq_none (by omega)]
theorem swo_cmp : SWO (ltOf Pt.cmp) where
  irrefl x := by rw [ltOf_cmp]; simp [cmp_neg, Pt.le]
  trans x y z h1 h2 := by rw [ltOf_cmp] at *; simp [cmp_neg, Pt.le] at *; omega
  ntrans x y z h1 h2 := by rw [ltOf_cmp] at *; simp [cmp_neg, Pt.le] at *; omega
theorem ltOf_tot (x y : Pt) (h1 : ltOf Pt.cmp x y = false) (h2 : ltOf Pt.cmp y x = false) : x = y := by
  rw [ltOf_cmp] at h1 h2
  have h3 := of_decide_eq_false h1
  have h4 := of_decide_eq_false h2
  rw [cmp_neg] at h3 h4
  exact le_anti (by simpa using h4) (by simpa using h3)
theorem ltOf_le : (fun x y => !(ltOf Pt.cmp) y x) = Pt.le := by
  funext x y
  rw [ltOf_cmp]
  cases h : Pt.le x y <;> simp [cmp_neg, h]
theorem cmpLays (blk off size : Nat) (w : World) : CmpLays Try.prog 29 #[] Pt.cs 2 Pt.cmp blk off size w := fun m os dk _ x y => by
  refine (order_g x y (sortWorldK Pt.cs 2 w blk off m dk os)).mono ?_
  rintro e w' ⟨rfl, ⟨q, os', rfl⟩⟩
  exact ⟨rfl, q, os', rfl⟩
set_option maxRecDepth 100000 in
theorem SortPt_c (L : List Pt) (v : Value) (m base : Nat) (W : World) (hown : W.ownsRow base 31 2 v m (L.flatMap Pt.cs)) (hm : m ≤ 1024) :
    Calls Try.prog 28 #[v, .func (.func 29) #[] #[]] W fun e W' => e = .returned (.tuple #[]) ∧ W'.ownsRow base 31 2 v m ((sortP L).flatMap Pt.cs) ∧ W.grownBy W' v.ownBlock := by
  have hl : L.length = m := by have := hown.1; rw [Sl.flat_len Pt.cs_len] at this; omega
  subst hl
  have hs1 := sortP_len L
  rcases hown.2 with ⟨rfl, h0⟩ | ⟨g, cap, cur, rfl, hb, hg, h1, h2, h3, h4⟩
  · have hc := AnyF.slices_SortFunc_none Try.sortPt none 0 (.func (.func 29) #[] #[]) W
    have hc' : Calls Try.prog 28 #[.slice none 0 0, .func (.func 29) #[] #[]] W _ := hc
    have hn : L = [] := List.eq_nil_of_length_eq_zero h0
    refine hc'.mono ?_
    rintro e w' ⟨rfl, rfl⟩
    refine ⟨rfl, ?_, World.grownBy.refl _ _⟩
    subst hn
    simpa [sortP] using hown
  · have eg : ∀ args w, (callFunc 29 args).run Try.prog w = .ok (.enter 29 args) w := enters_of Try.func29 (by kernel_rfl) rfl
    have hc := AnyQ.slices_SortFunc_total Try.sortPt 2 Try.isAgg31 Try.sizeOf31 Pt.cs Pt.cs_len (fun x v hv => by simp [Pt.cs] at hv; rcases hv with rfl | rfl <;> rfl) Pt.cmp swo_cmp 29 #[] g 0 cap L.toArray W eg (cmpLays _ _ _ _) (holds_pts hg h4) (Array.getElem?_eq_some_iff.1 hg).1 (by simp; omega) ltOf_tot
    have hc' : Calls Try.prog 28 #[.slice (some ⟨g, 0, none⟩) L.length cap, .func (.func 29) #[] #[]] W _ := hc
    refine hc'.mono ?_
    rintro e w' ⟨rfl, q, os, rfl⟩
    have he : (List.mergeSort L.toArray.toList fun x y => !(ltOf Pt.cmp) y x) = sortP L := by rw [ltOf_le]; rfl
    rw [he]
    unfold sortWorldK putRowK
    rw [flatK_pts]
    have hfl := Sl.flat_len Pt.cs_len (sortP L)
    refine ⟨rfl, ⟨by rw [hfl, hs1], .inr ⟨g, cap, _, rfl, hb, heap_sortedF _ hg, h1, h2, by simp [putCells, h3], ?_⟩⟩, grownBy_sortedF _⟩
    rw [← hs1, ← hfl]
    exact take_putCellsF cur _ (by rw [hfl, hs1, h3]; omega)
theorem Build_ok (l : List Bk) (p : Int) (A : Option Addr) (n c : Nat) (w : World) (hr : Sl.Rds w 2 A n (l.flatMap Bk.cs)) (h : eChk l = 0) (hp1 : 1 ≤ p) (hp2 : p ≤ 64) :
    Calls Try.prog 10 #[.int .i64 p, .slice A n c] w (BPost w (oBuild p l) (eBuild p l)) :=
  BuildG l p A n c w hr h hp1 hp2 SortPt_c (fun b k g W hW => Sb.Ints_c 1 [b.id, (k : Int)] _ 2 2 W (rds_two W g _ _ hW) (by omega))
end Go.Proofs.Ytkalbiihehcjkaa.Rg
