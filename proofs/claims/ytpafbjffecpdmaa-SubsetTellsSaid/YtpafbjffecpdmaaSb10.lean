/- Subset: the library's Contains, DeleteFunc, Compact; what came and what went. -/
import Derived.Test.YtpafbjffecpdmaaSb8
import Derived.Test.YtpafbjffecpdmaaSbM
import Derived.Test.YtpafbjffecpdmaaSbN
set_option linter.unusedVariables false
namespace Go.Proofs.Ytpafbjffecpdmaa.Sb
open Go.RowKit Go.Proofs.Ytpafbjffecpdmaa
attribute [local go_sem] K.max2_int K.min2_int K.max_two K.min_two K.max_three K.min_three
set_option linter.unusedSimpArgs false
theorem hasB_contains (xs : List Int) (y : Int) : xs.contains y = hasB xs y := by
  rw [Bool.eq_iff_iff, hasB_iff, List.contains_iff_mem]
theorem Contains_c (xs : List Int) (y : Int) (A : Option Addr) (n c : Nat) (w : World) (hr : Sl.Rds w 1 A n (xs.flatMap fun n => [.int .i64 n])) :
    Calls Try.prog 39 #[.slice A n c, .int .i64 y] w fun e w' => e = .returned (.bool (hasB xs y)) ∧ w' = w := by
  obtain rfl := hr.length (fun _ => rfl) (by omega)
  have hle := hr.le
  by_cases h0 : xs.length = 0
  · obtain rfl := List.eq_nil_of_length_eq_zero h0
    exact AnyG.slices_Contains_int_empty Try.contains A c y w
  · obtain ⟨b, off, rfl, hb, hc⟩ := hr.at_ (by omega)
    have h := AnyG.slices_Contains_int Try.contains b off xs.length c xs y w (by omega) (by omega) (fun j hj => by
      have := hc j (by rw [flat_iv, List.length_map]; exact hj)
      rw [this, flat_iv, List.getElem?_map, List.getElem?_eq_getElem hj, List.getD_eq_getElem?_getD, List.getElem?_eq_getElem hj]; rfl)
    rw [List.take_length, hasB_contains] at h
    exact h
theorem own_take {w : World} {base g n cap : Nat} {e : TypeId} {xs : List Value} {k : Nat} (h : w.ownsRow base e 1 (.slice (some ⟨g, 0, none⟩) n cap) n xs) (hk : k ≤ n) : w.ownsRow base e 1 (.slice (some ⟨g, 0, none⟩) k cap) k (xs.take k) := by
  have hl := h.1
  rcases h.2 with ⟨h0, _⟩ | ⟨g2, cap2, cur, hv, hb, hg, h1, h2, h3, h4⟩
  · cases h0
  · cases hv
    refine ⟨by simp; omega, .inr ⟨g, cap, cur, rfl, hb, hg, by omega, h2, h3, ?_⟩⟩
    rw [← h4, List.take_take, Nat.mul_one, Nat.mul_one, Nat.min_eq_left hk]
theorem own_put {w : World} {base g n cap q : Nat} {L D : List Int} {k : Nat} (h : w.ownsRow base 3 1 (.slice (some ⟨g, 0, none⟩) n cap) n (L.map iv)) (hD : D.length = n) (hk : k ≤ n) :
    (Go.Sort.putRow (Value.int .i64) (Go.Sort.ahead w q) g 0 D.toArray).ownsRow base 3 1 (.slice (some ⟨g, 0, none⟩) k cap) k ((D.take k).map iv) ∧ w.grownBy (Go.Sort.putRow (Value.int .i64) (Go.Sort.ahead w q) g 0 D.toArray) (some g) := by
  have hl : L.length = n := by have := h.1; simpa using this
  rcases h.2 with ⟨h0, _⟩ | ⟨g2, cap2, cur, hv, hb, hg, h1, h2, h3, h4⟩
  · cases h0
  · cases hv
    have a := ownsRow_sortedI (w := w) (base := base) (n := q) (os := #[]) (ss := L) (ts := D) (by omega) hb hg (by omega) h2 h3
    have b := grownBy_sortedI (w := w) (g := g) (n := q) (os := #[]) D.toArray
    rw [Go.Sort.grow_empty] at a b
    rw [hl] at a
    have c := own_take a hk
    rw [← List.map_take] at c
    exact ⟨c, b⟩
theorem holds_own {w : World} {base g n cap : Nat} {L : List Int} (h : w.ownsRow base 3 1 (.slice (some ⟨g, 0, none⟩) n cap) n (L.map iv)) : Go.Sort.Holds (Value.int .i64) w g 0 L.toArray ∧ g < w.heap.size ∧ L.length = n ∧ n ≤ cap := by
  have hl : L.length = n := by have := h.1; simpa using this
  rcases h.2 with ⟨h0, _⟩ | ⟨g2, cap2, cur, hv, hb, hg, h1, h2, h3, h4⟩
  · cases h0
  · cases hv
    exact ⟨holds_of_blockI hg (by rw [hl]; simpa using h4), (Array.getElem?_eq_some_iff.1 hg).1, hl, h1⟩
/-- The closure of 'without', in whatever world its list reads. -/
theorem gives_c (M : List Int) (x : Int) (B : Nat) (A : Option Addr) (n c : Nat) (W : World) (hc : W.cell? ⟨B, 0, none⟩ = some (.slice A n c)) (hr : Sl.Rds W 1 A n (M.flatMap fun n => [.int .i64 n])) :
    Go.Proofs.FnGives Try.prog 38 #[.pointer (some ⟨B, 0, none⟩)] #[.int .i64 x] (.bool (hasB M x)) W := by
  have GC := K.H.mk (fun (q : Nat) => Contains_c M x A n c W hr)
  clear hr
  show Calls Try.prog 38 #[.int .i64 x, .pointer (some ⟨B, 0, none⟩)] W _
  go_enter Try.func38, Try.ntmps38
  go_wp2_with (first | (go_at_call 39; (with_reducible refine (GC.out 0).mono ?_); rintro e w' ⟨rfl, hw'⟩; have hw'2 := Eq.symm hw'; clear hw'; subst hw'2))
  go_ret
  exact ⟨rfl, 0, rfl⟩
theorem rds_put {w : World} {A : Option Addr} {n : Nat} {cs : List Value} {blk q : Nat} {dk : Array Int} {os : Array Obj} (h : Sl.Rds w 1 A n cs) (hn : 0 < n → ∀ b off, A = some ⟨b, off, none⟩ → b ≠ blk) : Sl.Rds (Go.Sort.grow (Go.Sort.putRow (Value.int .i64) (Go.Sort.ahead w q) blk 0 dk) os) 1 A n cs :=
  ⟨h.len, h.small, fun h0 => by
    obtain ⟨b, off, e, hl, hc⟩ := h.at_ h0
    refine ⟨b, off, e, Nat.lt_of_lt_of_le hl (grownBy_sortedI (w := w) (g := blk) (n := q) (os := os) dk).size, fun j hj => ?_⟩
    rw [Go.Sort.cell?_grow _ _ _ (by show b < (Go.Sort.putRow _ _ _ _ _).heap.size; rw [Go.Sort.size_putRow]; exact hl), Go.Sort.cell?_putRow_other _ _ blk 0 _ _ (Or.inl (hn h0 b off e))]
    exact hc j hj⟩
set_option maxRecDepth 100000 in
theorem DelF_c (L M : List Int) (base g n cap B : Nat) (A : Option Addr) (n2 c2 : Nat) (w : World) (hown : w.ownsRow base 3 1 (.slice (some ⟨g, 0, none⟩) n cap) n (L.map iv)) (hB : K.At w B 22 #[.slice A n2 c2]) (hr : Sl.Rds w 1 A n2 (M.flatMap fun n => [.int .i64 n])) (hBg : B ≠ g) (hA : 0 < n2 → ∀ b off, A = some ⟨b, off, none⟩ → b ≠ g) (hn : n ≤ 9223372036854775807) :
    Calls Try.prog 36 #[.slice (some ⟨g, 0, none⟩) n cap, .func (.func 38) #[] #[.pointer (some ⟨B, 0, none⟩)]] w fun e w' => e = .returned (.slice (some ⟨g, 0, none⟩) (L.filter fun x => !hasB M x).length cap) ∧ w'.ownsRow base 3 1 (.slice (some ⟨g, 0, none⟩) (L.filter fun x => !hasB M x).length cap) (L.filter fun x => !hasB M x).length ((L.filter fun x => !hasB M x).map iv) ∧ w.grownBy w' (some g) := by
  obtain ⟨hH, hgl, hl, hnc⟩ := holds_own hown
  have eg : ∀ args w, (callFunc 38 args).run Try.prog w = .ok (.enter 38 args) w := enters_of Try.func38 (by kernel_rfl) rfl
  have hcon := AnyE.slices_DeleteFunc Try.delfunc (Value.int .i64) (fun _ => rfl) (hasB M) 38 #[.pointer (some ⟨B, 0, none⟩)] eg 0 Try.zeroValue3 g 0 cap L.toArray w
    (fun W x hb => gives_c M x B A n2 c2 W ((hb.cell (p := ⟨B, 0, none⟩) hB.lt).trans (by rw [hB.cell]; rfl)) (hr.below hb))
    (fun q os dk x _ => gives_c M x B A n2 c2 _ (by
      unfold Go.Proofs.sortWorld
      rw [Go.Sort.cell?_grow _ _ _ (by show B < (Go.Sort.putRow _ _ _ _ _).heap.size; rw [Go.Sort.size_putRow]; exact hB.lt), Go.Sort.cell?_putRow_other _ _ g 0 _ _ (Or.inl hBg)]
      show w.cell? _ = _
      rw [hB.cell]; rfl) (by unfold Go.Proofs.sortWorld; exact rds_put hr hA)) hH (by simp; omega) (by simp; omega)
  have hcon' : Calls Try.prog 36 #[.slice (some ⟨g, 0, none⟩) L.toArray.size cap, .func (.func 38) #[] #[.pointer (some ⟨B, 0, none⟩)]] w _ := hcon
  rw [show L.toArray.size = n by simpa using hl] at hcon'
  refine hcon'.mono ?_
  rintro e w' ⟨rfl, q, rfl⟩
  have hfl : (L.filter fun x => !hasB M x).length ≤ n := by rw [← hl]; exact List.length_filter_le _ _
  obtain ⟨o1, o2⟩ := own_put (q := q) (D := (L.filter fun x => !hasB M x) ++ List.replicate (n - (L.filter fun x => !hasB M x).length) 0) hown (by simp; omega) hfl
  rw [List.take_left' rfl] at o1
  exact ⟨rfl, o1, o2⟩
theorem compactUpTo_le (d : Array Int) (m : Nat) : (Lib.compactUpTo d m).length ≤ m := by
  unfold Lib.compactUpTo
  rw [List.length_map]
  have := List.length_filter_le (Lib.keeps d) (List.range m)
  simpa using this
theorem compact_le (L : List Int) : (Lib.compact L).length ≤ L.length := compactUpTo_le _ _
set_option maxRecDepth 100000 in
theorem Compact_c (L : List Int) (base g n cap : Nat) (w : World) (hown : w.ownsRow base 3 1 (.slice (some ⟨g, 0, none⟩) n cap) n (L.map iv)) (hn : n ≤ 9223372036854775807) :
    Calls Try.prog 41 #[.slice (some ⟨g, 0, none⟩) n cap] w fun e w' => e = .returned (.slice (some ⟨g, 0, none⟩) (Lib.compact L).length cap) ∧ w'.ownsRow base 3 1 (.slice (some ⟨g, 0, none⟩) (Lib.compact L).length cap) (Lib.compact L).length ((Lib.compact L).map iv) ∧ w.grownBy w' (some g) := by
  obtain ⟨hH, hgl, hl, hnc⟩ := holds_own hown
  have hcon := AnyG.slices_Compact_int Try.compact g 0 cap L w hH (by omega) (by omega)
  have hcon' : Calls Try.prog 41 #[.slice (some ⟨g, 0, none⟩) L.length cap] w _ := hcon
  rw [hl] at hcon'
  refine hcon'.mono ?_
  rintro e w' ⟨rfl, q, rfl⟩
  have hfl : (Lib.compact L).length ≤ n := by rw [← hl]; exact compact_le L
  obtain ⟨o1, o2⟩ := own_put (q := q) (D := Lib.compact L ++ List.replicate (n - (Lib.compact L).length) 0) hown (by simp; omega) hfl
  rw [List.take_left' rfl] at o1
  exact ⟨rfl, o1, o2⟩
end Go.Proofs.Ytpafbjffecpdmaa.Sb
