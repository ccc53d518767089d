/- Acts, one by one: what the library's tests over a slice answer. -/
import Derived.Test.YtkckehpcdjlcpaaBrkW5
import Derived.Test.YtkckehpcdjlcpaaSl
namespace Go.Proofs.Ytkckehpcdjlcpaa.Brk
open Go.RowKit Go.Proofs.Ytkckehpcdjlcpaa
attribute [local go_sem] K.max2_int K.min2_int K.max_two K.min_two K.max_three K.min_three
set_option linter.unusedVariables false
set_option linter.unusedSimpArgs false
structure Act where
  what : Int
  tick : Int
  probe : Bool
  good : Bool
def Act.cs (x : Act) : List Value := [.int .i64 x.what, .int .i64 x.tick, .bool x.probe, .bool x.good]
abbrev Act.a (x : Act) : Value := .agg #[.int .i64 x.what, .int .i64 x.tick, .bool x.probe, .bool x.good]
theorem Act.cs_len (x : Act) : x.cs.length = 4 := rfl
def badKind (x : Act) : Bool := !inB x.what 1 3
def badTick (x : Act) : Bool := !inB x.tick 0 536870912
theorem kind_c (x : Act) (w : World) : Calls Try.prog 28 #[x.a] w fun e w' => e = .returned (.bool (badKind x)) ∧ Below w.heap.size w w' := by
  go_enter Try.func28, Try.ntmps28
  go_wp2_with (go_at_call 24; (with_reducible refine (in_c _ _ _ _).mono ?_); rintro e w' ⟨rfl, hw'⟩; have hw'2 := Eq.symm hw'; clear hw'; subst hw'2)
  go_ret
  exact ⟨rfl, (by repeat (first | (with_reducible exact Below.refl _ _) | (with_reducible refine K.b_bel ?_ (by assumption)) | (with_reducible refine K.b_alloc ?_ _) | (with_reducible refine K.b_drewN ?_ _) | (with_reducible refine K.b_drew ?_) | (with_reducible refine K.b_set ?_ (by first | omega | (simp <;> omega)) _) | (with_reducible refine K.b_only ?_ (by assumption) (by first | omega | (simp <;> omega)))))⟩
theorem tick_c (x : Act) (w : World) : Calls Try.prog 29 #[x.a] w fun e w' => e = .returned (.bool (badTick x)) ∧ Below w.heap.size w w' := by
  go_enter Try.func29, Try.ntmps29
  go_wp2_with (go_at_call 24; (with_reducible refine (in_c _ _ _ _).mono ?_); rintro e w' ⟨rfl, hw'⟩; have hw'2 := Eq.symm hw'; clear hw'; subst hw'2)
  go_ret
  exact ⟨rfl, (by repeat (first | (with_reducible exact Below.refl _ _) | (with_reducible refine K.b_bel ?_ (by assumption)) | (with_reducible refine K.b_alloc ?_ _) | (with_reducible refine K.b_drewN ?_ _) | (with_reducible refine K.b_drew ?_) | (with_reducible refine K.b_set ?_ (by first | omega | (simp <;> omega)) _) | (with_reducible refine K.b_only ?_ (by assumption) (by first | omega | (simp <;> omega)))))⟩
set_option maxHeartbeats 1000000 in
theorem ixKind_c (xs : List Act) (A : Option Addr) (n c : Nat) (w : World) (hr : Sl.Rds w 4 A n (xs.flatMap Act.cs)) :
    Calls Try.prog 38 #[.slice A n c, .func (.func 28) #[] #[]] w fun e w' => e = .returned (.int .i64 (Sl.idx (badKind) xs)) ∧ Below w.heap.size w w' := by
  obtain rfl := hr.length (fun _ => rfl) (by omega)
  have hle := hr.le
  have Hr := K.H.mk hr
  clear hr
  
  go_enter Try.func38, Try.ntmps38
  go_wp2
  go_loopw [8] (fun i wr => ∃ k : Nat, k ≤ xs.length ∧ i = .int .i64 k ∧ K.H (∀ j y, j < k → xs[j]? = some y → (badKind) y = false) ∧ K.H (Below w.heap.size w wr)) (fun i _ => xs.length - (intOf i).toNat)
  case atStart => exact ⟨0, by omega, rfl, ⟨fun j y h => by omega⟩, ⟨Below.refl _ _⟩⟩
  case round =>
    obtain ⟨k, hk, rfl, Hf, Hb⟩ := hrel
    by_cases hlt : k < xs.length
    · obtain ⟨x, hx⟩ : ∃ x, xs[k]? = some x := ⟨_, List.getElem?_eq_getElem hlt⟩
      obtain ⟨b, off, rfl, hbl, hbc⟩ := Sl.Rds.elem Hr.out Act.cs_len (by omega) hx
      have q_0 : wr.cell? ⟨b, off + k * 4, none⟩ = some (.int .i64 x.what) := (Hb.out.cell (p := ⟨b, off + k * 4 + 0, none⟩) hbl).trans (hbc 0 (by omega))
      have q_1 : wr.cell? ⟨b, off + k * 4 + 1, none⟩ = some (.int .i64 x.tick) := (Hb.out.cell (p := ⟨b, off + k * 4 + 1, none⟩) hbl).trans (hbc 1 (by omega))
      have q_2 : wr.cell? ⟨b, off + k * 4 + 2, none⟩ = some (.bool x.probe) := (Hb.out.cell (p := ⟨b, off + k * 4 + 2, none⟩) hbl).trans (hbc 2 (by omega))
      have q_3 : wr.cell? ⟨b, off + k * 4 + 3, none⟩ = some (.bool x.good) := (Hb.out.cell (p := ⟨b, off + k * 4 + 3, none⟩) hbl).trans (hbc 3 (by omega))
      clear hbc
      have hbw : b < wr.heap.size := Nat.lt_of_lt_of_le hbl Hb.out.size
      have Hx := K.H.mk hx
      clear hx
      
      cases hp : (badKind) x
      · go_wp2_with ((go_at_call 28; (with_reducible refine (kind_c x _).mono ?_); rintro e W4 ⟨rfl, hb4⟩; obtain ⟨hB4, hC4, hF4, hZ4⟩ := K.bel_facts hb4; clear hb4))
        go_roundw
        case rel =>
          refine ⟨k + 1, by omega, by go_num, ⟨fun j y hj hy => ?_⟩, ⟨(by repeat (first | (with_reducible exact Below.refl _ _) | (with_reducible exact Hb.out) | (with_reducible refine K.b_bel ?_ (by assumption)) | (with_reducible refine K.b_alloc ?_ _) | (with_reducible refine K.b_drewN ?_ _) | (with_reducible refine K.b_drew ?_) | (with_reducible refine K.b_set ?_ (by first | omega | (simp <;> omega)) _) | (with_reducible refine K.b_only ?_ (by assumption) (by first | omega | (simp <;> omega)))))⟩⟩
          by_cases hjk : j = k
          · subst hjk
            rw [Hx.out] at hy
            cases hy
            exact hp
          · exact Hf.out j y (by omega) hy
        case measure => simp [intOf]; omega
      · go_wp2_with ((go_at_call 28; (with_reducible refine (kind_c x _).mono ?_); rintro e W4 ⟨rfl, hb4⟩; obtain ⟨hB4, hC4, hF4, hZ4⟩ := K.bel_facts hb4; clear hb4))
        go_ret
        exact ⟨K.ret_int (Sl.idx_found Hx.out hp Hf.out).symm, (by repeat (first | (with_reducible exact Below.refl _ _) | (with_reducible exact Hb.out) | (with_reducible refine K.b_bel ?_ (by assumption)) | (with_reducible refine K.b_alloc ?_ _) | (with_reducible refine K.b_drewN ?_ _) | (with_reducible refine K.b_drew ?_) | (with_reducible refine K.b_set ?_ (by first | omega | (simp <;> omega)) _) | (with_reducible refine K.b_only ?_ (by assumption) (by first | omega | (simp <;> omega)))))⟩
    · obtain rfl : k = xs.length := by omega
      go_wp2
      go_ret
      exact ⟨K.ret_int (Sl.idx_none Hf.out).symm, Hb.out⟩
set_option maxHeartbeats 1000000 in
theorem ixTick_c (xs : List Act) (A : Option Addr) (n c : Nat) (w : World) (hr : Sl.Rds w 4 A n (xs.flatMap Act.cs)) :
    Calls Try.prog 38 #[.slice A n c, .func (.func 29) #[] #[]] w fun e w' => e = .returned (.int .i64 (Sl.idx (badTick) xs)) ∧ Below w.heap.size w w' := by
  obtain rfl := hr.length (fun _ => rfl) (by omega)
  have hle := hr.le
  have Hr := K.H.mk hr
  clear hr
  
  go_enter Try.func38, Try.ntmps38
  go_wp2
  go_loopw [8] (fun i wr => ∃ k : Nat, k ≤ xs.length ∧ i = .int .i64 k ∧ K.H (∀ j y, j < k → xs[j]? = some y → (badTick) y = false) ∧ K.H (Below w.heap.size w wr)) (fun i _ => xs.length - (intOf i).toNat)
  case atStart => exact ⟨0, by omega, rfl, ⟨fun j y h => by omega⟩, ⟨Below.refl _ _⟩⟩
  case round =>
    obtain ⟨k, hk, rfl, Hf, Hb⟩ := hrel
    by_cases hlt : k < xs.length
    · obtain ⟨x, hx⟩ : ∃ x, xs[k]? = some x := ⟨_, List.getElem?_eq_getElem hlt⟩
      obtain ⟨b, off, rfl, hbl, hbc⟩ := Sl.Rds.elem Hr.out Act.cs_len (by omega) hx
      have q_0 : wr.cell? ⟨b, off + k * 4, none⟩ = some (.int .i64 x.what) := (Hb.out.cell (p := ⟨b, off + k * 4 + 0, none⟩) hbl).trans (hbc 0 (by omega))
      have q_1 : wr.cell? ⟨b, off + k * 4 + 1, none⟩ = some (.int .i64 x.tick) := (Hb.out.cell (p := ⟨b, off + k * 4 + 1, none⟩) hbl).trans (hbc 1 (by omega))
      have q_2 : wr.cell? ⟨b, off + k * 4 + 2, none⟩ = some (.bool x.probe) := (Hb.out.cell (p := ⟨b, off + k * 4 + 2, none⟩) hbl).trans (hbc 2 (by omega))
      have q_3 : wr.cell? ⟨b, off + k * 4 + 3, none⟩ = some (.bool x.good) := (Hb.out.cell (p := ⟨b, off + k * 4 + 3, none⟩) hbl).trans (hbc 3 (by omega))
      clear hbc
      have hbw : b < wr.heap.size := Nat.lt_of_lt_of_le hbl Hb.out.size
      have Hx := K.H.mk hx
      clear hx
      
      cases hp : (badTick) x
      · go_wp2_with ((go_at_call 29; (with_reducible refine (tick_c x _).mono ?_); rintro e W4 ⟨rfl, hb4⟩; obtain ⟨hB4, hC4, hF4, hZ4⟩ := K.bel_facts hb4; clear hb4))
        go_roundw
        case rel =>
          refine ⟨k + 1, by omega, by go_num, ⟨fun j y hj hy => ?_⟩, ⟨(by repeat (first | (with_reducible exact Below.refl _ _) | (with_reducible exact Hb.out) | (with_reducible refine K.b_bel ?_ (by assumption)) | (with_reducible refine K.b_alloc ?_ _) | (with_reducible refine K.b_drewN ?_ _) | (with_reducible refine K.b_drew ?_) | (with_reducible refine K.b_set ?_ (by first | omega | (simp <;> omega)) _) | (with_reducible refine K.b_only ?_ (by assumption) (by first | omega | (simp <;> omega)))))⟩⟩
          by_cases hjk : j = k
          · subst hjk
            rw [Hx.out] at hy
            cases hy
            exact hp
          · exact Hf.out j y (by omega) hy
        case measure => simp [intOf]; omega
      · go_wp2_with ((go_at_call 29; (with_reducible refine (tick_c x _).mono ?_); rintro e W4 ⟨rfl, hb4⟩; obtain ⟨hB4, hC4, hF4, hZ4⟩ := K.bel_facts hb4; clear hb4))
        go_ret
        exact ⟨K.ret_int (Sl.idx_found Hx.out hp Hf.out).symm, (by repeat (first | (with_reducible exact Below.refl _ _) | (with_reducible exact Hb.out) | (with_reducible refine K.b_bel ?_ (by assumption)) | (with_reducible refine K.b_alloc ?_ _) | (with_reducible refine K.b_drewN ?_ _) | (with_reducible refine K.b_drew ?_) | (with_reducible refine K.b_set ?_ (by first | omega | (simp <;> omega)) _) | (with_reducible refine K.b_only ?_ (by assumption) (by first | omega | (simp <;> omega)))))⟩
    · obtain rfl : k = xs.length := by omega
      go_wp2
      go_ret
      exact ⟨K.ret_int (Sl.idx_none Hf.out).symm, Hb.out⟩
theorem cnKind_c (xs : List Act) (A : Option Addr) (n c : Nat) (w : World) (hr : Sl.Rds w 4 A n (xs.flatMap Act.cs)) :
    Calls Try.prog 27 #[.slice A n c, .func (.func 28) #[] #[]] w fun e w' => e = .returned (.bool (Sl.anyOf (badKind) xs)) ∧ Below w.heap.size w w' := by
  have Hr := K.H.mk hr
  clear hr
  go_enter Try.func27, Try.ntmps27
  go_wp2_with (go_at_call 38; (with_reducible refine (ixKind_c xs _ _ _ _ Hr.out).mono ?_); rintro e W1 ⟨rfl, hb1⟩; obtain ⟨hB1, hC1, hF1, hZ1⟩ := K.bel_facts hb1; clear hb1)
  go_ret
  exact ⟨K.ret_bool (Sl.idx_any _ _), (by repeat (first | (with_reducible exact Below.refl _ _) | (with_reducible refine K.b_bel ?_ (by assumption)) | (with_reducible refine K.b_alloc ?_ _) | (with_reducible refine K.b_drewN ?_ _) | (with_reducible refine K.b_drew ?_) | (with_reducible refine K.b_set ?_ (by first | omega | (simp <;> omega)) _) | (with_reducible refine K.b_only ?_ (by assumption) (by first | omega | (simp <;> omega)))))⟩
theorem cnTick_c (xs : List Act) (A : Option Addr) (n c : Nat) (w : World) (hr : Sl.Rds w 4 A n (xs.flatMap Act.cs)) :
    Calls Try.prog 27 #[.slice A n c, .func (.func 29) #[] #[]] w fun e w' => e = .returned (.bool (Sl.anyOf (badTick) xs)) ∧ Below w.heap.size w w' := by
  have Hr := K.H.mk hr
  clear hr
  go_enter Try.func27, Try.ntmps27
  go_wp2_with (go_at_call 38; (with_reducible refine (ixTick_c xs _ _ _ _ Hr.out).mono ?_); rintro e W1 ⟨rfl, hb1⟩; obtain ⟨hB1, hC1, hF1, hZ1⟩ := K.bel_facts hb1; clear hb1)
  go_ret
  exact ⟨K.ret_bool (Sl.idx_any _ _), (by repeat (first | (with_reducible exact Below.refl _ _) | (with_reducible refine K.b_bel ?_ (by assumption)) | (with_reducible refine K.b_alloc ?_ _) | (with_reducible refine K.b_drewN ?_ _) | (with_reducible refine K.b_drew ?_) | (with_reducible refine K.b_set ?_ (by first | omega | (simp <;> omega)) _) | (with_reducible refine K.b_only ?_ (by assumption) (by first | omega | (simp <;> omega)))))⟩

theorem late_c (x y : Act) (w : World) (hx0 : 0 ≤ x.tick) (hx1 : x.tick ≤ 536870912) (hy0 : 0 ≤ y.tick) (hy1 : y.tick ≤ 536870912) : Calls Try.prog 26 #[x.a, y.a] w fun e w' => e = .returned (.int .i64 (x.tick - y.tick)) ∧ Below w.heap.size w w' := by
  go_enter Try.func26, Try.ntmps26
  go_wp2
  go_ret
  exact ⟨rfl, (by repeat (first | (with_reducible exact Below.refl _ _) | (with_reducible refine K.b_bel ?_ (by assumption)) | (with_reducible refine K.b_alloc ?_ _) | (with_reducible refine K.b_drewN ?_ _) | (with_reducible refine K.b_drew ?_) | (with_reducible refine K.b_set ?_ (by first | omega | (simp <;> omega)) _) | (with_reducible refine K.b_only ?_ (by assumption) (by first | omega | (simp <;> omega)))))⟩
def srt : List Act → Bool
  | [] => true
  | [_] => true
  | x :: y :: r => decide (x.tick ≤ y.tick) && srt (y :: r)
theorem srt_iff : ∀ xs : List Act, srt xs = true ↔ ∀ j x y, xs[j]? = some x → xs[j + 1]? = some y → x.tick ≤ y.tick
  | [] => by simp [srt]
  | [a] => by simp [srt]
  | a :: b :: r => by
    simp only [srt, Bool.and_eq_true, decide_eq_true_eq, srt_iff (b :: r)]
    constructor
    · rintro ⟨h1, h2⟩ j x y hx hy
      cases j with
      | zero => simp at hx hy; subst hx; subst hy; exact h1
      | succ j => exact h2 j x y (by simpa using hx) (by simpa using hy)
    · intro h
      exact ⟨h 0 a b (by simp) (by simp), fun j x y hx hy => h (j + 1) x y (by simpa using hx) (by simpa using hy)⟩
set_option maxHeartbeats 1000000 in
theorem sorted_c (xs : List Act) (A : Option Addr) (n c : Nat) (w : World) (hr : Sl.Rds w 4 A n (xs.flatMap Act.cs)) (ht : ∀ x ∈ xs, 0 ≤ x.tick ∧ x.tick ≤ 536870912) :
    Calls Try.prog 30 #[.slice A n c, .func (.func 26) #[] #[]] w fun e w' => e = .returned (.bool (srt xs)) ∧ Below w.heap.size w w' := by
  obtain rfl := hr.length (fun _ => rfl) (by omega)
  have hle := hr.le
  have Hr := K.H.mk hr
  have Ht := K.H.mk ht
  clear hr ht
  go_enter Try.func30, Try.ntmps30
  go_wp2
  go_loopw [5] (fun i wr => ∃ m : Int, -1 ≤ m ∧ m < xs.length ∧ i = .int .i64 m ∧ K.H (∀ (j : Nat) (x y : Act), m ≤ (j : Int) → xs[j]? = some x → xs[j + 1]? = some y → x.tick ≤ y.tick) ∧ K.H (Below w.heap.size w wr)) (fun i _ => (intOf i).toNat)
  case atStart => exact ⟨(xs.length : Int) - 1, by omega, by omega, rfl, ⟨fun j x y h hx hy => by have := (List.getElem?_eq_some_iff.1 hy).1; omega⟩, ⟨Below.refl _ _⟩⟩
  case round =>
    obtain ⟨m, hm0, hm1, rfl, Hf, Hb⟩ := hrel
    by_cases hlt : 0 < m
    · obtain ⟨k, rfl⟩ : ∃ k : Nat, m = (k : Int) + 1 := ⟨(m - 1).toNat, by omega⟩
      obtain ⟨x, hx⟩ : ∃ x, xs[k + 1]? = some x := ⟨_, List.getElem?_eq_getElem (by omega)⟩
      obtain ⟨y, hy⟩ : ∃ y, xs[k]? = some y := ⟨_, List.getElem?_eq_getElem (by omega)⟩
      obtain ⟨b, off, rfl, hbl, hbc⟩ := Sl.Rds.elem Hr.out Act.cs_len (by omega) hx
      have q_0 : wr.cell? ⟨b, off + (k + 1) * 4, none⟩ = some (.int .i64 x.what) := (Hb.out.cell (p := ⟨b, off + (k + 1) * 4 + 0, none⟩) hbl).trans (hbc 0 (by omega))
      have q_1 : wr.cell? ⟨b, off + (k + 1) * 4 + 1, none⟩ = some (.int .i64 x.tick) := (Hb.out.cell (p := ⟨b, off + (k + 1) * 4 + 1, none⟩) hbl).trans (hbc 1 (by omega))
      have q_2 : wr.cell? ⟨b, off + (k + 1) * 4 + 2, none⟩ = some (.bool x.probe) := (Hb.out.cell (p := ⟨b, off + (k + 1) * 4 + 2, none⟩) hbl).trans (hbc 2 (by omega))
      have q_3 : wr.cell? ⟨b, off + (k + 1) * 4 + 3, none⟩ = some (.bool x.good) := (Hb.out.cell (p := ⟨b, off + (k + 1) * 4 + 3, none⟩) hbl).trans (hbc 3 (by omega))
      clear hbc
      obtain ⟨b2, off2, hee2, hbl2, hbc2⟩ := Sl.Rds.elem Hr.out Act.cs_len (by omega) hy
      cases hee2
      have q2_0 : wr.cell? ⟨b, off + k * 4, none⟩ = some (.int .i64 y.what) := (Hb.out.cell (p := ⟨b, off + k * 4 + 0, none⟩) hbl2).trans (hbc2 0 (by omega))
      have q2_1 : wr.cell? ⟨b, off + k * 4 + 1, none⟩ = some (.int .i64 y.tick) := (Hb.out.cell (p := ⟨b, off + k * 4 + 1, none⟩) hbl2).trans (hbc2 1 (by omega))
      have q2_2 : wr.cell? ⟨b, off + k * 4 + 2, none⟩ = some (.bool y.probe) := (Hb.out.cell (p := ⟨b, off + k * 4 + 2, none⟩) hbl2).trans (hbc2 2 (by omega))
      have q2_3 : wr.cell? ⟨b, off + k * 4 + 3, none⟩ = some (.bool y.good) := (Hb.out.cell (p := ⟨b, off + k * 4 + 3, none⟩) hbl2).trans (hbc2 3 (by omega))
      clear hbc2
      have hbw : b < wr.heap.size := Nat.lt_of_lt_of_le hbl Hb.out.size
      have hxt := Ht.out x (List.mem_of_getElem? hx)
      have hyt := Ht.out y (List.mem_of_getElem? hy)
      obtain ⟨xt0, xt1⟩ := hxt
      obtain ⟨yt0, yt1⟩ := hyt
      have Hx := K.H.mk hx
      have Hy := K.H.mk hy
      clear hx hy
      have hw0 : IntKind.i64.wrap ((k : Int) + 1 - 1) = k := K.i64_in (by omega) (by omega) |>.trans (by omega)
      have hw1 : IntKind.i64.wrap (k : Int) = k := K.i64_in (by omega) (by omega)
      have hi0 : 0 ≤ (k : Int) + 1 := by omega
      have hi1 : ((k : Int) + 1).toNat = k + 1 := by omega
      have hi2 : k + 1 < xs.length := by omega
      have hi3 : k < xs.length := by omega
      have hi4 : (k : Int) < xs.length := by omega
      go_wp2
      refine K.wp_region_ext_lit (by kernel_rfl) (by kernel_rfl) ?_
      repeat (any_goals (first | go_big_quiet_skip | quiet_step ((first | (go_at_call 26; first | (with_reducible exact K.q_below (late_c x y _ xt0 xt1 yt0 yt1))))) | (refine wpQuiet_step (fun K hK => ?_); go_simp; split <;> (refine hK _ ?_; clear hK K))))
      all_goals (refine wpQuiet_nil ?_; intro W4 hW4; obtain ⟨hB4, hC4, hF4, hZ4⟩ := K.ext_facts hW4; clear hW4)
      clear hw0 hw1 hi1
      by_cases hq : x.tick - y.tick < 0
      · go_wp2
        go_ret
        exact ⟨K.ret_bool (Eq.symm (by rw [Bool.eq_false_iff]; intro h; have := (srt_iff xs).1 h k y x Hy.out Hx.out; omega)), (by repeat (first | (with_reducible exact Below.refl _ _) | (with_reducible exact Hb.out) | (with_reducible refine K.b_bel ?_ (by assumption)) | (with_reducible refine K.b_alloc ?_ _) | (with_reducible refine K.b_drewN ?_ _) | (with_reducible refine K.b_drew ?_) | (with_reducible refine K.b_set ?_ (by first | omega | (simp <;> omega)) _) | (with_reducible refine K.b_only ?_ (by assumption) (by first | omega | (simp <;> omega)))))⟩
      · go_wp2
        go_roundw
        case rel =>
          refine ⟨(k : Int), by omega, by omega, by first | rfl | go_num, ⟨fun j a b hj ha hb => ?_⟩, ⟨(by repeat (first | (with_reducible exact Below.refl _ _) | (with_reducible exact Hb.out) | (with_reducible refine K.b_bel ?_ (by assumption)) | (with_reducible refine K.b_alloc ?_ _) | (with_reducible refine K.b_drewN ?_ _) | (with_reducible refine K.b_drew ?_) | (with_reducible refine K.b_set ?_ (by first | omega | (simp <;> omega)) _) | (with_reducible refine K.b_only ?_ (by assumption) (by first | omega | (simp <;> omega)))))⟩⟩
          by_cases hjk : j = k
          · subst hjk
            rw [Hx.out] at hb
            rw [Hy.out] at ha
            cases ha
            cases hb
            omega
          · exact Hf.out j a b (by omega) ha hb
        case measure => simp [intOf]; try omega
    · go_wp2
      go_ret
      exact ⟨K.ret_bool ((srt_iff xs).2 (fun j x y hx hy => Hf.out j x y (by omega) hx hy)).symm, Hb.out⟩
end Go.Proofs.Ytkckehpcdjlcpaa.Brk
