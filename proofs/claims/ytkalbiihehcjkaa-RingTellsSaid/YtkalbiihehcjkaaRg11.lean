/- Ring: slices.BinarySearchFunc at points. -/
import Derived.Test.YtkalbiihehcjkaaRg10
set_option linter.unusedVariables false
namespace Go.Proofs.Ytkalbiihehcjkaa.Rg
open Go.RowKit Go.Proofs.Ytkalbiihehcjkaa
set_option linter.unusedSimpArgs false
theorem ord_pair {l : List Pt} (h : ord l = true) {i j : Nat} {x y : Pt} (hij : i ≤ j) (hx : l[i]? = some x) (hy : l[j]? = some y) : x.h ≤ y.h := by
  induction j generalizing y with
  | zero => obtain rfl : i = 0 := by omega
            rw [hx] at hy; cases hy; omega
  | succ j ih =>
    by_cases he : i = j + 1
    · subst he; rw [hx] at hy; cases hy; omega
    · have hj := (List.getElem?_eq_some_iff.1 hy).1
      obtain ⟨z, hz⟩ : ∃ z, l[j]? = some z := ⟨_, List.getElem?_eq_getElem (by omega)⟩
      have h1 := ih (by omega) hz
      have h2 := (ord_iff l).1 h j y z hy hz
      unfold Pt.le at h2
      rw [decide_eq_true_eq] at h2
      omega
set_option maxRecDepth 100000 in
set_option maxHeartbeats 4000000 in
theorem Search_c (l : List Pt) (h : Int) (A : Option Addr) (n c : Nat) (w : World) (hr : Sl.Rds w 2 A n (l.flatMap Pt.cs)) (ho : ord l = true) (hn : n ≤ 1024) :
    Calls Try.prog 50 #[.slice A n c, .int .u64 h, .func (.func 51) #[] #[]] w fun e w' => ∃ f : Bool, e = .returned (.tuple #[.int .i64 (ahead l h : Nat), .bool f]) ∧ Below w.heap.size w w' := by
  obtain rfl := hr.length Pt.cs_len (by omega)
  have hle := hr.le
  have Hr := K.H.mk hr
  have Ho := K.H.mk ho
  clear hr ho
  go_enter Try.func50, Try.ntmps50
  go_wp2
  go_loopw [9, 10] (fun i j wr => ∃ lo hi : Nat, lo ≤ hi ∧ hi ≤ l.length ∧ i = .int .i64 lo ∧ j = .int .i64 hi ∧ K.H (Below w.heap.size w wr) ∧ K.H (∀ (j : Nat) (y : Pt), j < lo → l[j]? = some y → y.h < h) ∧ K.H (∀ (j : Nat) (y : Pt), hi ≤ j → l[j]? = some y → h ≤ y.h)) (fun i j _ => (intOf j).toNat - (intOf i).toNat)
  case atStart => exact ⟨0, l.length, by omega, by omega, rfl, rfl, ⟨Below.refl _ _⟩, ⟨fun j y h => by omega⟩, ⟨fun j y h hy => by have := (List.getElem?_eq_some_iff.1 hy).1; omega⟩⟩
  case round =>
    obtain ⟨lo, hi, hlh, hhl, rfl, rfl, Hb, HA, HB⟩ := hrel
    have hsz := Hb.out.size
    by_cases hlt : lo < hi
    · obtain ⟨m, hm⟩ : ∃ m, m = (lo + hi) / 2 := ⟨_, rfl⟩
      have hm1 : lo ≤ m := by omega
      have hm2 : m < hi := by omega
      obtain ⟨x, hx⟩ : ∃ x, l[m]? = some x := ⟨_, List.getElem?_eq_getElem (by omega)⟩
      have HX := K.H.mk hx
      obtain ⟨b, off, rfl, hbl, hbc⟩ := Sl.Rds.elem Hr.out Pt.cs_len (by omega) hx
      have q_0 : wr.cell? ⟨b, off + m * 2, none⟩ = some (.int .u64 x.h) := (Hb.out.cell (p := ⟨b, off + m * 2 + 0, none⟩) hbl).trans (hbc 0 (by omega))
      have q_1 : wr.cell? ⟨b, off + m * 2 + 1, none⟩ = some (.int .i64 x.i) := (Hb.out.cell (p := ⟨b, off + m * 2 + 1, none⟩) hbl).trans (hbc 1 (by omega))
      clear hbc
      have hbw : b < wr.heap.size := Nat.lt_of_lt_of_le hbl Hb.out.size
      have hml : (m : Int) < (l.length : Int) := by omega
      have hli : (lo : Int) < (hi : Int) := by omega
      have hw1 : IntKind.i64.wrap ((lo : Int) + (hi : Int)) = (lo : Int) + (hi : Int) := K.i64_in (by omega) (by omega)
      have hw2 : IntKind.u64.wrap ((lo : Int) + (hi : Int)) = (lo : Int) + (hi : Int) := by rw [IntKind.wrap_u64]; omega
      have hd : ((lo : Int) + (hi : Int)) / 2 = (m : Int) := by omega
      have hw3 : IntKind.i64.wrap (m : Int) = (m : Int) := K.i64_in (by omega) (by omega)
      have hw4 : IntKind.u64.wrap (m : Int) = (m : Int) := by rw [IntKind.wrap_u64]; omega
      have GC := K.H.mk (fun W => at_c x h W)
      have HC := K.H.mk (cmpI_neg x.h h)
      generalize cmpI x.h h = cm at *
      clear hx hm
      cases dd : decide (cm < 0)
      · have HN : K.H (∀ (j : Nat) (y : Pt), m ≤ j → l[j]? = some y → h ≤ y.h) := ⟨fun j y hj hy => by
          have h1 := ord_pair Ho.out hj HX.out hy
          have h2 := of_decide_eq_false dd
          rw [HC.out] at h2
          omega⟩
        clear HC HX
        go_wp2_with (first | (go_at_call 51; (with_reducible refine (GC.out _).mono ?_); rintro e W9 ⟨rfl, hb9⟩; obtain ⟨hB9, hC9, hF9, hZ9⟩ := K.bel_facts hb9; clear hb9))
        go_roundw
        case rel => exact ⟨lo, m, by omega, by omega, rfl, rfl, ⟨(by repeat (first | (with_reducible exact Below.refl _ _) | (with_reducible exact Hb.out) | (with_reducible refine K.b_bel ?_ (by assumption)) | (with_reducible refine K.b_alloc ?_ _) | (with_reducible refine K.b_drewN ?_ _) | (with_reducible refine K.b_drew ?_) | (with_reducible refine K.b_set ?_ (by first | omega | (simp <;> omega)) _) | (with_reducible refine K.b_only ?_ (by assumption) (by first | omega | (simp <;> omega)))))⟩, HA, HN⟩
        case measure => simp [intOf]; omega
      · have HN : K.H (∀ (j : Nat) (y : Pt), j < m + 1 → l[j]? = some y → y.h < h) := ⟨fun j y hj hy => by
          have h1 := ord_pair Ho.out (show j ≤ m by omega) hy HX.out
          have h2 := of_decide_eq_true dd
          rw [HC.out] at h2
          omega⟩
        clear HC HX
        go_wp2_with (first | (go_at_call 51; (with_reducible refine (GC.out _).mono ?_); rintro e W9 ⟨rfl, hb9⟩; obtain ⟨hB9, hC9, hF9, hZ9⟩ := K.bel_facts hb9; clear hb9))
        go_roundw
        case rel => exact ⟨m + 1, hi, by omega, by omega, by go_num, rfl, ⟨(by repeat (first | (with_reducible exact Below.refl _ _) | (with_reducible exact Hb.out) | (with_reducible refine K.b_bel ?_ (by assumption)) | (with_reducible refine K.b_alloc ?_ _) | (with_reducible refine K.b_drewN ?_ _) | (with_reducible refine K.b_drew ?_) | (with_reducible refine K.b_set ?_ (by first | omega | (simp <;> omega)) _) | (with_reducible refine K.b_only ?_ (by assumption) (by first | omega | (simp <;> omega)))))⟩, HN, HB⟩
        case measure => simp [intOf]; omega
    · obtain rfl : lo = hi := by omega
      have HN := K.H.mk (ahead_at hhl HA.out (fun j y hj hy => by have := HB.out j y hj hy; omega))
      clear HA HB
      by_cases hll : lo < l.length
      · obtain ⟨x, hx⟩ : ∃ x, l[lo]? = some x := ⟨_, List.getElem?_eq_getElem hll⟩
        obtain ⟨b, off, rfl, hbl, hbc⟩ := Sl.Rds.elem Hr.out Pt.cs_len (by omega) hx
        have q_0 : wr.cell? ⟨b, off + lo * 2, none⟩ = some (.int .u64 x.h) := (Hb.out.cell (p := ⟨b, off + lo * 2 + 0, none⟩) hbl).trans (hbc 0 (by omega))
        have q_1 : wr.cell? ⟨b, off + lo * 2 + 1, none⟩ = some (.int .i64 x.i) := (Hb.out.cell (p := ⟨b, off + lo * 2 + 1, none⟩) hbl).trans (hbc 1 (by omega))
        clear hbc
        have hbw : b < wr.heap.size := Nat.lt_of_lt_of_le hbl Hb.out.size
        have hml : (lo : Int) < (l.length : Int) := by omega
        have GC := K.H.mk (fun W => at_c x h W)
        generalize cmpI x.h h = cm at *
        clear hx
        go_wp2_with (first | (go_at_call 51; (with_reducible refine (GC.out _).mono ?_); rintro e W9 ⟨rfl, hb9⟩; obtain ⟨hB9, hC9, hF9, hZ9⟩ := K.bel_facts hb9; clear hb9))
        go_ret2
        exact ⟨cm == 0, by rw [HN.out]; rfl, (by repeat (first | (with_reducible exact Below.refl _ _) | (with_reducible exact Hb.out) | (with_reducible refine K.b_bel ?_ (by assumption)) | (with_reducible refine K.b_alloc ?_ _) | (with_reducible refine K.b_drewN ?_ _) | (with_reducible refine K.b_drew ?_) | (with_reducible refine K.b_set ?_ (by first | omega | (simp <;> omega)) _) | (with_reducible refine K.b_only ?_ (by assumption) (by first | omega | (simp <;> omega)))))⟩
      · obtain rfl : lo = l.length := by omega
        go_wp2
        go_ret2
        exact ⟨false, by rw [HN.out]; rfl, (by repeat (first | (with_reducible exact Below.refl _ _) | (with_reducible exact Hb.out) | (with_reducible refine K.b_bel ?_ (by assumption)) | (with_reducible refine K.b_alloc ?_ _) | (with_reducible refine K.b_drewN ?_ _) | (with_reducible refine K.b_drew ?_) | (with_reducible refine K.b_set ?_ (by first | omega | (simp <;> omega)) _) | (with_reducible refine K.b_only ?_ (by assumption) (by first | omega | (simp <;> omega)))))⟩
end Go.Proofs.Ytkalbiihehcjkaa.Rg
