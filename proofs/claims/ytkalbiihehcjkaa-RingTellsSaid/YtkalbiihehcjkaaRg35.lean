/- Ring: sorted numbers; counts. -/
import Derived.Test.YtkalbiihehcjkaaRg31
import Derived.Test.YtkalbiihehcjkaaRg21
import Derived.Test.YtkalbiihehcjkaaRgM
import Derived.Sort.OwnSortedInts
import Derived.Deep.OwnRows
set_option linter.unusedVariables false
namespace Go.Proofs.Ytkalbiihehcjkaa.Rg
open Go.RowKit Go.Shelf Go.Proofs Go.Proofs.Ytkalbiihehcjkaa
set_option linter.unusedSimpArgs false
abbrev iv (n : Int) : Value := .int .i64 n
theorem flat_iv (L : List Int) : (L.flatMap fun n => [Value.int .i64 n]) = L.map iv := (Sl.map_flat _ _).symm
def sortI (L : List Int) : List Int := L.mergeSort fun x y => decide (x ≤ y)
theorem sortI_perm (L : List Int) : (sortI L).Perm L := List.mergeSort_perm L _
theorem sortI_len (L : List Int) : (sortI L).length = L.length := (sortI_perm L).length_eq
theorem sortI_le (L : List Int) : (sortI L).Pairwise (· ≤ ·) := by
  have := List.pairwise_mergeSort (le := fun x y : Int => decide (x ≤ y)) (fun a b c h1 h2 => by simp at *; omega) (fun a b => by simp; omega) L
  exact this.imp (fun h => by simpa using h)
theorem sortI_eq {L M : List Int} (hp : M.Perm L) (hs : M.Pairwise (· ≤ ·)) : sortI L = M :=
  List.Perm.eq_of_pairwise (le := (· ≤ ·)) (fun a b _ _ h1 h2 => by omega) (sortI_le L) hs ((sortI_perm L).trans hp.symm)
theorem sortI_lt {L : List Int} (h : L.Nodup) : (sortI L).Pairwise (· < ·) := by
  have h1 : (sortI L).Nodup := (sortI_perm L).nodup_iff.2 h
  exact ((sortI_le L).and h1).imp fun h => by obtain ⟨h2, h3⟩ := h; omega
/-- slices.Sort of a row that the call owns. -/
theorem Sort_c (L : List Int) (v : Value) (base n : Nat) (w : World) (hown : w.ownsRow base 3 1 v n (L.map iv)) (hn : 0 < n) (hsz : n < 4611686018427387904) :
    Calls Try.prog 38 #[v] w fun e w' => e = .returned (.tuple #[]) ∧ w'.ownsRow base 3 1 v n ((sortI L).map iv) ∧ w.grownBy w' v.ownBlock := by
  have hl : L.length = n := by have := hown.1; simpa using this
  subst hl
  rcases hown.2 with ⟨_, h0⟩ | ⟨g, cap, cur, rfl, hb, hg, h1, h2, h3, h4⟩
  · simp at h0; subst h0; simp at hn
  · have hc := AnyG.slices_Sort_int Try.sort g 0 cap L w (holds_of_blockI hg (by simpa using h4)) (Array.getElem?_eq_some_iff.1 hg).1 hsz
    have hc' : Calls Try.prog 38 #[.slice (some ⟨g, 0, none⟩) L.length cap] w _ := hc
    refine hc'.mono ?_
    rintro e w' ⟨rfl, q, os, rfl⟩
    exact ⟨rfl, ownsRow_sortedI (sortI_len L) hb hg h1 h2 h3, grownBy_sortedI _⟩
def below1 (ids : List Int) (x : Int) : Nat := ids.countP fun y => decide (y < x)
theorem below1_lt {ids : List Int} {x : Int} (h : x ∈ ids) : below1 ids x < ids.length := by
  unfold below1
  have h1 := List.countP_le_length (p := fun y => decide (y < x)) (l := ids)
  rcases Nat.lt_or_ge (ids.countP fun y => decide (y < x)) ids.length with h2 | h2
  · exact h2
  · have h3 : ids.countP (fun y => decide (y < x)) = ids.length := by omega
    rw [List.countP_eq_length] at h3
    have := h3 x h
    simp at this
theorem below1_at : ∀ {ids : List Int} {x : Int}, ids.Pairwise (· < ·) → x ∈ ids → ids[below1 ids x]? = some x
  | y :: r, x, hp, hx => by
    have hp2 := List.pairwise_cons.1 hp
    rcases List.mem_cons.1 hx with rfl | hx
    · have : below1 (x :: r) x = 0 := by
        unfold below1; rw [List.countP_eq_zero]; intro z hz
        rcases List.mem_cons.1 hz with rfl | hz
        · simp
        · have := hp2.1 z hz; simp; omega
      rw [this]; rfl
    · have h1 := hp2.1 x hx
      have : below1 (y :: r) x = below1 r x + 1 := by unfold below1; rw [List.countP_cons]; simp [h1]
      rw [this, List.getElem?_cons_succ]
      exact below1_at hp2.2 hx
theorem Search_i (ids : List Int) (x : Int) (A : Option Addr) (n c : Nat) (w : World) (hr : Sl.Rds w 1 A n (ids.flatMap fun n => [.int .i64 n])) (hs : ids.Pairwise (· < ·)) (h0 : 0 < n) (hn : n ≤ 1024) :
    Calls Try.prog 39 #[.slice A n c, .int .i64 x] w fun e w' => e = .returned (.tuple #[.int .i64 (below1 ids x : Nat), .bool (ids.contains x)]) ∧ Below w.heap.size w w' := by
  obtain rfl := hr.length (fun _ => rfl) (by omega)
  obtain ⟨b, off, rfl, hb, hc⟩ := hr.at_ h0
  have h := AnyG.slices_BinarySearch_int Try.search b off ids.length c ids x w (by omega) (by omega) (fun j hj => by
    have := hc j (by rw [flat_iv, List.length_map]; exact hj)
    rw [this, flat_iv, List.getElem?_map, List.getElem?_eq_getElem hj, List.getD_eq_getElem?_getD, List.getElem?_eq_getElem hj]; rfl) (by rw [List.take_length]; exact hs.imp (fun h => by omega))
  rw [List.take_length] at h
  have h' : Calls Try.prog 39 #[.slice (some ⟨b, off, none⟩) ids.length c, .int .i64 x] w _ := h
  refine h'.mono ?_
  rintro e w' ⟨rfl, q, rfl⟩
  exact ⟨rfl, K.b_drewN (Below.refl _ _) q⟩
/-- One more at a place. -/
def bump (o : List Int) (i : Nat) : List Int := o.set i (o.getD i 0 + 1)
theorem bump_len (o : List Int) (i : Nat) : (bump o i).length = o.length := by simp [bump]
def cntK (f : Nat → Int) (ids : List Int) : Nat → List Int
  | 0 => List.replicate ids.length 0
  | k + 1 => bump (cntK f ids k) (below1 ids (f k))
theorem cntK_len (f : Nat → Int) (ids : List Int) : ∀ k, (cntK f ids k).length = ids.length
  | 0 => by simp [cntK]
  | k + 1 => by unfold cntK; rw [bump_len, cntK_len f ids k]
theorem cntK_in (f : Nat → Int) (ids : List Int) : ∀ (k i : Nat), 0 ≤ (cntK f ids k).getD i 0 ∧ (cntK f ids k).getD i 0 ≤ k
  | 0, i => by
    unfold cntK
    rw [List.getD_eq_getElem?_getD, List.getElem?_replicate]
    split <;> simp
  | k + 1, i => by
    have h1 := cntK_in f ids k i
    have h2 := cntK_in f ids k (below1 ids (f k))
    unfold cntK bump
    rw [List.getD_eq_getElem?_getD] at *
    rw [List.getElem?_set]
    split
    · split
      · simp; omega
      · simp; omega
    · omega
theorem info_int1 : (Try.prog.info? 3).map (fun i => (i.zero, i.size, i.bytes)) = some (some (.int .i64 0), 1, 8) := by kernel_rfl
theorem make_i (n : Nat) (h : n ≤ 1024) (w : World) : (Instr.makeSlice 41 (.int .i64 n) (.int .i64 n)).run Try.prog w = .ok (.slice (some ⟨w.heap.size, 0, none⟩) n n) (w.alloc (.cells (madeCells #[.int .i64 0] n) 3)) :=
  run_make_row' 41 3 (.int .i64 0) 8 Try.underlying41 info_int1 rfl .i64 .i64 n (by omega) (by omega) w
theorem own_made (w : World) (n base : Nat) (h : n ≤ 1024) (hb : base ≤ w.heap.size) : (w.alloc (.cells (madeCells #[.int .i64 0] n) 3)).ownsRow base 3 1 (.slice (some ⟨w.heap.size, 0, none⟩) n n) n ((List.replicate n (0 : Int)).map iv) := by
  have := World.ownsRow_lit (e := 3) w (madeCells #[.int .i64 0] n) n (base := base) (size := 1) hb (by simp [maxLen]; omega) (by rw [size_madeCells, Nat.mul_one])
  rw [toList_madeCells_one] at this
  simpa using this
theorem map_getD {P : List Int} {i : Nat} (h : i < P.length) : (P.map iv)[i]? = some (iv (P.getD i 0)) := by
  rw [List.getElem?_map, List.getD_eq_getElem?_getD, List.getElem?_eq_getElem h]; rfl
/-! ### Shares, plain -/
def hashK (k : Nat) : Nat := Sb.intsN 2 [(k : Int)]
def keyAt (r : List Pt) (k : Nat) : Int := lookI r (hashK k)
def eShares (r : List Pt) (keys : Int) : Int := if eAsk r = 0 then (if keys < 0 ∨ 4096 < keys then 4 else 0) else eAsk r
def oShares (r : List Pt) (keys : Int) : List Int := if eShares r keys = 0 then cntK (keyAt r) (sortI (oWalk r 0)) keys.toNat else []
theorem key_in {r : List Pt} (h : eAsk r = 0) (k : Nat) : keyAt r k ∈ sortI (oWalk r 0) := by
  rw [(sortI_perm _).mem_iff, walk_mem h]
  obtain ⟨_, h2, _, _⟩ := eAsk_ok h
  obtain ⟨q, hq, e⟩ := look_mem h2 (hashK k)
  exact ⟨q, hq, e.symm⟩
end Go.Proofs.Ytkalbiihehcjkaa.Rg
