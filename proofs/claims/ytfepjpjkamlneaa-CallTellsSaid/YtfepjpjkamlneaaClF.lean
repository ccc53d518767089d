/- Calls: may a call be? -/
import Derived.Test.YtfepjpjkamlneaaClE
set_option linter.unusedVariables false
namespace Go.Proofs.Ytfepjpjkamlneaa.Cl
open Go.RowKit Go.Proofs.Ytfepjpjkamlneaa
attribute [local go_sem] K.max2_int K.min2_int K.max_two K.min_two K.max_three K.min_three
set_option linter.unusedSimpArgs false
instance : Inhabited Att := ⟨⟨0, 0, 0, 0, 0, false, false, false⟩⟩
/-- May an attempt be, behind another? -/
def okA (once : Bool) (last : Int) (first : Bool) (a f : Att) : Bool := inB4 0 1073741824 a.b a.i a.s a.q && inB last 536870912 a.t && !(a.hedge && (first || once)) && (!once || Pin.same a.pin f.pin)
abbrev akc (x : Cal) (s : Set) (A : Option Addr) (n c : Nat) : Array Value := #[.int .i64 x.num, .int .i64 x.op.what, .int .i64 x.op.key, .int .i64 x.op.other, .int .i64 x.op.amt, .bool x.once, .int .i64 x.at_, .int .i64 x.dl, .int .i64 x.nx, .slice A n c, .int .i64 s.att, .int .i64 s.hed, .int .i64 s.tmo, .int .i64 s.mil, .int .i64 s.lst, .int .i64 s.bas, .int .i64 s.cap, .int .i64 s.jit]
theorem odd_c0 (x : Cal) (s : Set) (a : Att) (g : Nat) (A : Option Addr) (c : Nat) (w : World) (h : K.At w g 91 (akc x s A x.l.length c)) (hr : Sl.Rds w 8 A x.l.length (x.l.flatMap Att.cs)) (ha : x.l[0]? = some a) :
    Calls Try.prog 59 #[.pointer (some ⟨g, 0, none⟩), .int .i64 0, a.a] w fun e w' => e = .returned (.bool (!okA x.once x.at_ true a a)) ∧ Below w.heap.size w w' := by
  obtain ⟨num, ⟨o0, o1, o2, o3⟩, on, T0, dl, nx, xs⟩ := x
  obtain ⟨B, I, S, Q, T, hd, pr, ov⟩ := a
  simp only [okA] at *
  cases h4 : inB4 0 1073741824 B I S Q
  · exact odd_0a num o0 o1 o2 o3 T0 dl nx B I S Q T pr ov hd on s xs g A c w h hr h4
  · cases h1 : inB T0 536870912 T
    · exact odd_0b num o0 o1 o2 o3 T0 dl nx B I S Q T pr ov hd on s xs g A c w h hr h4 h1
    · cases hd
      · cases on
        · exact odd_0d num o0 o1 o2 o3 T0 dl nx B I S Q T pr ov s xs g A c w h hr h4 h1
        · exact odd_0e num o0 o1 o2 o3 T0 dl nx B I S Q T pr ov s xs g A c w h hr _ ha _ rfl h4 h1
      · exact odd_0c num o0 o1 o2 o3 T0 dl nx B I S Q T pr ov on s xs g A c w h hr h4 h1
theorem odd_c1 (x : Cal) (s : Set) (a y f : Att) (k : Nat) (g : Nat) (A : Option Addr) (c : Nat) (w : World) (h : K.At w g 91 (akc x s A x.l.length c)) (hr : Sl.Rds w 8 A x.l.length (x.l.flatMap Att.cs)) (hy : x.l[k]? = some y) (hf : x.l[0]? = some f) :
    Calls Try.prog 59 #[.pointer (some ⟨g, 0, none⟩), .int .i64 (k + 1), a.a] w fun e w' => e = .returned (.bool (!okA x.once y.t false a f)) ∧ Below w.heap.size w w' := by
  obtain ⟨num, ⟨o0, o1, o2, o3⟩, on, T0, dl, nx, xs⟩ := x
  obtain ⟨B, I, S, Q, T, hd, pr, ov⟩ := a
  simp only [okA] at *
  cases h4 : inB4 0 1073741824 B I S Q
  · exact odd_1a num o0 o1 o2 o3 T0 dl nx B I S Q T pr ov hd on s xs g A c w h hr k y hy h4
  · cases h1 : inB y.t 536870912 T
    · exact odd_1b num o0 o1 o2 o3 T0 dl nx B I S Q T pr ov hd on s xs g A c w h hr k y hy h4 h1
    · cases hd
      · cases on
        · exact odd_1e num o0 o1 o2 o3 T0 dl nx B I S Q T pr ov s xs g A c w h hr k y hy h4 h1
        · exact odd_1f num o0 o1 o2 o3 T0 dl nx B I S Q T pr ov s xs g A c w h hr k y hy _ hf _ rfl h4 h1
      · cases on
        · exact odd_1d num o0 o1 o2 o3 T0 dl nx B I S Q T pr ov s xs g A c w h hr k y hy h4 h1
        · exact odd_1c num o0 o1 o2 o3 T0 dl nx B I S Q T pr ov s xs g A c w h hr k y hy h4 h1
def lastI (x : Cal) (k : Nat) : Int := if k = 0 then x.at_ else (x.l.getD (k - 1) default).t
def okI (x : Cal) (k : Nat) : Bool := okA x.once (lastI x k) (k == 0) (x.l.getD k default) (x.l.getD 0 default)
theorem getD_some {l : List Att} {k : Nat} {a : Att} (h : l[k]? = some a) : l.getD k default = a := by rw [List.getD_eq_getElem?_getD, h]; rfl
theorem odd_c (x : Cal) (s : Set) (a : Att) (k : Nat) (g : Nat) (A : Option Addr) (c : Nat) (w : World) (h : K.At w g 91 (akc x s A x.l.length c)) (hr : Sl.Rds w 8 A x.l.length (x.l.flatMap Att.cs)) (ha : x.l[k]? = some a) :
    Calls Try.prog 59 #[.pointer (some ⟨g, 0, none⟩), .int .i64 k, a.a] w fun e w' => e = .returned (.bool (!okI x k)) ∧ Below w.heap.size w w' := by
  unfold okI
  rw [getD_some ha]
  cases k with
  | zero =>
    rw [getD_some ha]
    exact odd_c0 x s a g A c w h hr ha
  | succ k =>
    have hk := (List.getElem?_eq_some_iff.1 ha).1
    have hy : x.l[k]? = some x.l[k] := List.getElem?_eq_getElem (by omega)
    have hf : x.l[0]? = some x.l[0] := List.getElem?_eq_getElem (by omega)
    rw [getD_some hf]
    have h1 := odd_c1 x s a _ _ k g A c w h hr hy hf
    rw [show ((k + 1 : Nat) : Int) = (k : Int) + 1 by omega]
    have hl : lastI x (k + 1) = x.l[k].t := by
      unfold lastI
      rw [if_neg (by omega), show k + 1 - 1 = k by omega, getD_some hy]
    rw [hl]
    exact h1
def headP (x : Cal) (s : Set) : Prop := (0 ≤ x.num ∧ x.num ≤ 1048576) ∧ eOp x.op = 0 ∧ x.once = oOnce x.op.what ∧ (0 ≤ x.at_ ∧ x.at_ ≤ 536870912) ∧ (0 ≤ x.nx ∧ x.nx ≤ 536870912) ∧ (x.at_ ≤ x.dl ∧ x.dl ≤ 536870912) ∧ (x.l.length : Int) ≤ s.att
instance (x : Cal) (s : Set) : Decidable (headP x s) := by unfold headP; infer_instance
def allOk (x : Cal) : Bool := (List.range x.l.length).all (okI x)
def fineB (x : Cal) (s : Set) : Bool := decide (headP x s) && allOk x
theorem allOk_t {x : Cal} (h : ∀ j, j < x.l.length → okI x j = true) : allOk x = true := by
  unfold allOk; rw [List.all_eq_true]; intro j hj; exact h j (List.mem_range.1 hj)
theorem allOk_f {x : Cal} {k : Nat} (hk : k < x.l.length) (h : okI x k = false) : allOk x = false := by
  unfold allOk; rw [← Bool.not_eq_true, List.all_eq_true]; intro hh
  have := hh k (List.mem_range.2 hk)
  rw [h] at this; cases this
theorem allOk_at {x : Cal} (h : allOk x = true) {j : Nat} (hj : j < x.l.length) : okI x j = true := by
  unfold allOk at h; rw [List.all_eq_true] at h; exact h j (List.mem_range.2 hj)
set_option maxRecDepth 100000 in
set_option maxHeartbeats 8000000 in
theorem fine_n0 (x : Cal) (s : Set) (b : Bool) (u y : Int) (g : Nat) (A : Option Addr) (c : Nat) (w : World) (h : K.At w g 91 (akc x s A x.l.length c)) (hle : x.l.length ≤ 9223372036854775807)
    (GC : K.H (∀ W, Calls Try.prog 38 #[.int .i64 x.op.what] W fun e w' => e = .returned (.tuple #[.bool b, .int .i64 u]) ∧ w' = W))
    (GO : K.H (∀ W, Calls Try.prog 37 #[x.op.a] W fun e w' => e = .returned (.int .i64 y) ∧ Below W.heap.size W w')) (d0 : inB 0 1048576 x.num = false) :
    Calls Try.prog 44 #[.pointer (some ⟨g, 0, none⟩)] w fun e w' => e = .returned (.bool false) ∧ Below w.heap.size w w' := by
  obtain ⟨hc5, hf5, hl5⟩ := K.At.facts h
  go_enter Try.func44, Try.ntmps44
  go_wp2_with (go_at_call 38; (with_reducible refine (GC.out _).mono ?_); rintro e w' ⟨rfl, hw'⟩; have hw'2 := Eq.symm hw'; clear hw'; subst hw'2)
  refine K.wp_region_mix none (by kernel_rfl) (by kernel_rfl) ?_
  intro W9 hR9
  have hB9 := K.InR.bel hR9
  have hZ9 := K.inr_size hR9
  repeat (any_goals (first | refine K.wpMix_skip2 (by rfl) (by rfl) ?_ | (refine K.wpMix_skip (by rfl) ?_; go_simp) | (refine K.wpMix_want (by rfl) (by rfl) (fun Kq hK => ?_); go_simp; refine hK _ _ ?_; clear hK Kq) | (refine K.wpMix_ser (by rfl) (by rfl) (fun Kq hK => ?_); first | (fail; refine ⟨(by repeat (first | (with_reducible exact hR9) | (with_reducible refine K.inr_bel ?_ (by assumption)) | (with_reducible refine K.inr_alloc ?_ _) | (with_reducible refine K.inr_row ?_ (by assumption)) | (with_reducible refine K.inr_new ?_ (by first | omega | (simp <;> omega)) _))), hK _ _ ?_⟩; clear hK Kq) | (go_simp; first | (refine ⟨(by repeat (first | (with_reducible exact hR9) | (with_reducible refine K.inr_bel ?_ (by assumption)) | (with_reducible refine K.inr_alloc ?_ _) | (with_reducible refine K.inr_row ?_ (by assumption)) | (with_reducible refine K.inr_new ?_ (by first | omega | (simp <;> omega)) _))), hK _ _ ?_⟩; clear hK Kq) | ((first | (go_at_call 36; first | (go_at_call 36; (with_reducible refine (in_one 0 1048576 _ _ _ (K.At.new' _ _ _ _ (by simp))).mono ?_); rintro e W1 ⟨rfl, hb1⟩; obtain ⟨hB1, hC1, hF1, hZ1⟩ := K.bel_facts hb1; clear hb1) | (go_at_call 36; (with_reducible refine (in_two 0 536870912 _ _ _ _ (K.At.new' _ _ _ _ (by simp))).mono ?_); rintro e W3 ⟨rfl, hb3⟩; obtain ⟨hB3, hC3, hF3, hZ3⟩ := K.bel_facts hb3; clear hb3) | (go_at_call 36; (with_reducible refine (in_one x.at_ 536870912 _ _ _ (K.At.new' _ _ _ _ (by simp))).mono ?_); rintro e W4 ⟨rfl, hb4⟩; obtain ⟨hB4, hC4, hF4, hZ4⟩ := K.bel_facts hb4; clear hb4)) | (go_at_call 37; (with_reducible refine (GO.out _).mono ?_); rintro e W2 ⟨rfl, hb2⟩; obtain ⟨hB2, hC2, hF2, hZ2⟩ := K.bel_facts hb2; clear hb2)); refine ⟨_, rfl, (by repeat (first | (with_reducible exact hR9) | (with_reducible refine K.inr_bel ?_ (by assumption)) | (with_reducible refine K.inr_alloc ?_ _) | (with_reducible refine K.inr_row ?_ (by assumption)) | (with_reducible refine K.inr_new ?_ (by first | omega | (simp <;> omega)) _))), hK _ _ ?_⟩; clear hK Kq)))))
  all_goals refine K.wpMix_nil ?_
  all_goals go_wp2
  all_goals (go_ret; exact ⟨rfl, (by repeat (first | (with_reducible exact Below.refl _ _) | (with_reducible exact hB9.out) | (with_reducible refine K.b_bel ?_ (by assumption)) | (with_reducible refine K.b_alloc ?_ _) | (with_reducible refine K.b_drewN ?_ _) | (with_reducible refine K.b_drew ?_) | (with_reducible refine K.b_set ?_ (by first | omega | (simp <;> omega)) _) | (with_reducible refine K.b_only ?_ (by assumption) (by first | omega | (simp <;> omega)))))⟩)
set_option maxRecDepth 100000 in
set_option maxHeartbeats 8000000 in
theorem fine_n1 (x : Cal) (s : Set) (b : Bool) (u y : Int) (g : Nat) (A : Option Addr) (c : Nat) (w : World) (h : K.At w g 91 (akc x s A x.l.length c)) (hle : x.l.length ≤ 9223372036854775807)
    (GC : K.H (∀ W, Calls Try.prog 38 #[.int .i64 x.op.what] W fun e w' => e = .returned (.tuple #[.bool b, .int .i64 u]) ∧ w' = W))
    (GO : K.H (∀ W, Calls Try.prog 37 #[x.op.a] W fun e w' => e = .returned (.int .i64 y) ∧ Below W.heap.size W w')) (d0 : inB 0 1048576 x.num = true) (d1 : (y != 0) = true) :
    Calls Try.prog 44 #[.pointer (some ⟨g, 0, none⟩)] w fun e w' => e = .returned (.bool false) ∧ Below w.heap.size w w' := by
  obtain ⟨hc5, hf5, hl5⟩ := K.At.facts h
  go_enter Try.func44, Try.ntmps44
  go_wp2_with (go_at_call 38; (with_reducible refine (GC.out _).mono ?_); rintro e w' ⟨rfl, hw'⟩; have hw'2 := Eq.symm hw'; clear hw'; subst hw'2)
  refine K.wp_region_mix none (by kernel_rfl) (by kernel_rfl) ?_
  intro W9 hR9
  have hB9 := K.InR.bel hR9
  have hZ9 := K.inr_size hR9
  repeat (any_goals (first | refine K.wpMix_skip2 (by rfl) (by rfl) ?_ | (refine K.wpMix_skip (by rfl) ?_; go_simp) | (refine K.wpMix_want (by rfl) (by rfl) (fun Kq hK => ?_); go_simp; refine hK _ _ ?_; clear hK Kq) | (refine K.wpMix_ser (by rfl) (by rfl) (fun Kq hK => ?_); first | (fail; refine ⟨(by repeat (first | (with_reducible exact hR9) | (with_reducible refine K.inr_bel ?_ (by assumption)) | (with_reducible refine K.inr_alloc ?_ _) | (with_reducible refine K.inr_row ?_ (by assumption)) | (with_reducible refine K.inr_new ?_ (by first | omega | (simp <;> omega)) _))), hK _ _ ?_⟩; clear hK Kq) | (go_simp; first | (refine ⟨(by repeat (first | (with_reducible exact hR9) | (with_reducible refine K.inr_bel ?_ (by assumption)) | (with_reducible refine K.inr_alloc ?_ _) | (with_reducible refine K.inr_row ?_ (by assumption)) | (with_reducible refine K.inr_new ?_ (by first | omega | (simp <;> omega)) _))), hK _ _ ?_⟩; clear hK Kq) | ((first | (go_at_call 36; first | (go_at_call 36; (with_reducible refine (in_one 0 1048576 _ _ _ (K.At.new' _ _ _ _ (by simp))).mono ?_); rintro e W1 ⟨rfl, hb1⟩; obtain ⟨hB1, hC1, hF1, hZ1⟩ := K.bel_facts hb1; clear hb1) | (go_at_call 36; (with_reducible refine (in_two 0 536870912 _ _ _ _ (K.At.new' _ _ _ _ (by simp))).mono ?_); rintro e W3 ⟨rfl, hb3⟩; obtain ⟨hB3, hC3, hF3, hZ3⟩ := K.bel_facts hb3; clear hb3) | (go_at_call 36; (with_reducible refine (in_one x.at_ 536870912 _ _ _ (K.At.new' _ _ _ _ (by simp))).mono ?_); rintro e W4 ⟨rfl, hb4⟩; obtain ⟨hB4, hC4, hF4, hZ4⟩ := K.bel_facts hb4; clear hb4)) | (go_at_call 37; (with_reducible refine (GO.out _).mono ?_); rintro e W2 ⟨rfl, hb2⟩; obtain ⟨hB2, hC2, hF2, hZ2⟩ := K.bel_facts hb2; clear hb2)); refine ⟨_, rfl, (by repeat (first | (with_reducible exact hR9) | (with_reducible refine K.inr_bel ?_ (by assumption)) | (with_reducible refine K.inr_alloc ?_ _) | (with_reducible refine K.inr_row ?_ (by assumption)) | (with_reducible refine K.inr_new ?_ (by first | omega | (simp <;> omega)) _))), hK _ _ ?_⟩; clear hK Kq)))))
  all_goals refine K.wpMix_nil ?_
  all_goals go_wp2
  all_goals (go_ret; exact ⟨rfl, (by repeat (first | (with_reducible exact Below.refl _ _) | (with_reducible exact hB9.out) | (with_reducible refine K.b_bel ?_ (by assumption)) | (with_reducible refine K.b_alloc ?_ _) | (with_reducible refine K.b_drewN ?_ _) | (with_reducible refine K.b_drew ?_) | (with_reducible refine K.b_set ?_ (by first | omega | (simp <;> omega)) _) | (with_reducible refine K.b_only ?_ (by assumption) (by first | omega | (simp <;> omega)))))⟩)
set_option maxRecDepth 100000 in
set_option maxHeartbeats 8000000 in
theorem fine_n2 (x : Cal) (s : Set) (b : Bool) (u y : Int) (g : Nat) (A : Option Addr) (c : Nat) (w : World) (h : K.At w g 91 (akc x s A x.l.length c)) (hle : x.l.length ≤ 9223372036854775807)
    (GC : K.H (∀ W, Calls Try.prog 38 #[.int .i64 x.op.what] W fun e w' => e = .returned (.tuple #[.bool b, .int .i64 u]) ∧ w' = W))
    (GO : K.H (∀ W, Calls Try.prog 37 #[x.op.a] W fun e w' => e = .returned (.int .i64 y) ∧ Below W.heap.size W w')) (d0 : inB 0 1048576 x.num = true) (d1 : (y != 0) = false) (d2 : (x.once == b) = false) :
    Calls Try.prog 44 #[.pointer (some ⟨g, 0, none⟩)] w fun e w' => e = .returned (.bool false) ∧ Below w.heap.size w w' := by
  obtain ⟨hc5, hf5, hl5⟩ := K.At.facts h
  go_enter Try.func44, Try.ntmps44
  go_wp2_with (go_at_call 38; (with_reducible refine (GC.out _).mono ?_); rintro e w' ⟨rfl, hw'⟩; have hw'2 := Eq.symm hw'; clear hw'; subst hw'2)
  refine K.wp_region_mix none (by kernel_rfl) (by kernel_rfl) ?_
  intro W9 hR9
  have hB9 := K.InR.bel hR9
  have hZ9 := K.inr_size hR9
  repeat (any_goals (first | refine K.wpMix_skip2 (by rfl) (by rfl) ?_ | (refine K.wpMix_skip (by rfl) ?_; go_simp) | (refine K.wpMix_want (by rfl) (by rfl) (fun Kq hK => ?_); go_simp; refine hK _ _ ?_; clear hK Kq) | (refine K.wpMix_ser (by rfl) (by rfl) (fun Kq hK => ?_); first | (fail; refine ⟨(by repeat (first | (with_reducible exact hR9) | (with_reducible refine K.inr_bel ?_ (by assumption)) | (with_reducible refine K.inr_alloc ?_ _) | (with_reducible refine K.inr_row ?_ (by assumption)) | (with_reducible refine K.inr_new ?_ (by first | omega | (simp <;> omega)) _))), hK _ _ ?_⟩; clear hK Kq) | (go_simp; first | (refine ⟨(by repeat (first | (with_reducible exact hR9) | (with_reducible refine K.inr_bel ?_ (by assumption)) | (with_reducible refine K.inr_alloc ?_ _) | (with_reducible refine K.inr_row ?_ (by assumption)) | (with_reducible refine K.inr_new ?_ (by first | omega | (simp <;> omega)) _))), hK _ _ ?_⟩; clear hK Kq) | ((first | (go_at_call 36; first | (go_at_call 36; (with_reducible refine (in_one 0 1048576 _ _ _ (K.At.new' _ _ _ _ (by simp))).mono ?_); rintro e W1 ⟨rfl, hb1⟩; obtain ⟨hB1, hC1, hF1, hZ1⟩ := K.bel_facts hb1; clear hb1) | (go_at_call 36; (with_reducible refine (in_two 0 536870912 _ _ _ _ (K.At.new' _ _ _ _ (by simp))).mono ?_); rintro e W3 ⟨rfl, hb3⟩; obtain ⟨hB3, hC3, hF3, hZ3⟩ := K.bel_facts hb3; clear hb3) | (go_at_call 36; (with_reducible refine (in_one x.at_ 536870912 _ _ _ (K.At.new' _ _ _ _ (by simp))).mono ?_); rintro e W4 ⟨rfl, hb4⟩; obtain ⟨hB4, hC4, hF4, hZ4⟩ := K.bel_facts hb4; clear hb4)) | (go_at_call 37; (with_reducible refine (GO.out _).mono ?_); rintro e W2 ⟨rfl, hb2⟩; obtain ⟨hB2, hC2, hF2, hZ2⟩ := K.bel_facts hb2; clear hb2)); refine ⟨_, rfl, (by repeat (first | (with_reducible exact hR9) | (with_reducible refine K.inr_bel ?_ (by assumption)) | (with_reducible refine K.inr_alloc ?_ _) | (with_reducible refine K.inr_row ?_ (by assumption)) | (with_reducible refine K.inr_new ?_ (by first | omega | (simp <;> omega)) _))), hK _ _ ?_⟩; clear hK Kq)))))
  all_goals refine K.wpMix_nil ?_
  all_goals go_wp2
  all_goals (go_ret; exact ⟨rfl, (by repeat (first | (with_reducible exact Below.refl _ _) | (with_reducible exact hB9.out) | (with_reducible refine K.b_bel ?_ (by assumption)) | (with_reducible refine K.b_alloc ?_ _) | (with_reducible refine K.b_drewN ?_ _) | (with_reducible refine K.b_drew ?_) | (with_reducible refine K.b_set ?_ (by first | omega | (simp <;> omega)) _) | (with_reducible refine K.b_only ?_ (by assumption) (by first | omega | (simp <;> omega)))))⟩)
set_option maxRecDepth 100000 in
set_option maxHeartbeats 8000000 in
theorem fine_n3 (x : Cal) (s : Set) (b : Bool) (u y : Int) (g : Nat) (A : Option Addr) (c : Nat) (w : World) (h : K.At w g 91 (akc x s A x.l.length c)) (hle : x.l.length ≤ 9223372036854775807)
    (GC : K.H (∀ W, Calls Try.prog 38 #[.int .i64 x.op.what] W fun e w' => e = .returned (.tuple #[.bool b, .int .i64 u]) ∧ w' = W))
    (GO : K.H (∀ W, Calls Try.prog 37 #[x.op.a] W fun e w' => e = .returned (.int .i64 y) ∧ Below W.heap.size W w')) (d0 : inB 0 1048576 x.num = true) (d1 : (y != 0) = false) (d2 : (x.once == b) = true) (d3 : inB2 0 536870912 x.at_ x.nx = false) :
    Calls Try.prog 44 #[.pointer (some ⟨g, 0, none⟩)] w fun e w' => e = .returned (.bool false) ∧ Below w.heap.size w w' := by
  obtain ⟨hc5, hf5, hl5⟩ := K.At.facts h
  go_enter Try.func44, Try.ntmps44
  go_wp2_with (go_at_call 38; (with_reducible refine (GC.out _).mono ?_); rintro e w' ⟨rfl, hw'⟩; have hw'2 := Eq.symm hw'; clear hw'; subst hw'2)
  refine K.wp_region_mix none (by kernel_rfl) (by kernel_rfl) ?_
  intro W9 hR9
  have hB9 := K.InR.bel hR9
  have hZ9 := K.inr_size hR9
  repeat (any_goals (first | refine K.wpMix_skip2 (by rfl) (by rfl) ?_ | (refine K.wpMix_skip (by rfl) ?_; go_simp) | (refine K.wpMix_want (by rfl) (by rfl) (fun Kq hK => ?_); go_simp; refine hK _ _ ?_; clear hK Kq) | (refine K.wpMix_ser (by rfl) (by rfl) (fun Kq hK => ?_); first | (fail; refine ⟨(by repeat (first | (with_reducible exact hR9) | (with_reducible refine K.inr_bel ?_ (by assumption)) | (with_reducible refine K.inr_alloc ?_ _) | (with_reducible refine K.inr_row ?_ (by assumption)) | (with_reducible refine K.inr_new ?_ (by first | omega | (simp <;> omega)) _))), hK _ _ ?_⟩; clear hK Kq) | (go_simp; first | (refine ⟨(by repeat (first | (with_reducible exact hR9) | (with_reducible refine K.inr_bel ?_ (by assumption)) | (with_reducible refine K.inr_alloc ?_ _) | (with_reducible refine K.inr_row ?_ (by assumption)) | (with_reducible refine K.inr_new ?_ (by first | omega | (simp <;> omega)) _))), hK _ _ ?_⟩; clear hK Kq) | ((first | (go_at_call 36; first | (go_at_call 36; (with_reducible refine (in_one 0 1048576 _ _ _ (K.At.new' _ _ _ _ (by simp))).mono ?_); rintro e W1 ⟨rfl, hb1⟩; obtain ⟨hB1, hC1, hF1, hZ1⟩ := K.bel_facts hb1; clear hb1) | (go_at_call 36; (with_reducible refine (in_two 0 536870912 _ _ _ _ (K.At.new' _ _ _ _ (by simp))).mono ?_); rintro e W3 ⟨rfl, hb3⟩; obtain ⟨hB3, hC3, hF3, hZ3⟩ := K.bel_facts hb3; clear hb3) | (go_at_call 36; (with_reducible refine (in_one x.at_ 536870912 _ _ _ (K.At.new' _ _ _ _ (by simp))).mono ?_); rintro e W4 ⟨rfl, hb4⟩; obtain ⟨hB4, hC4, hF4, hZ4⟩ := K.bel_facts hb4; clear hb4)) | (go_at_call 37; (with_reducible refine (GO.out _).mono ?_); rintro e W2 ⟨rfl, hb2⟩; obtain ⟨hB2, hC2, hF2, hZ2⟩ := K.bel_facts hb2; clear hb2)); refine ⟨_, rfl, (by repeat (first | (with_reducible exact hR9) | (with_reducible refine K.inr_bel ?_ (by assumption)) | (with_reducible refine K.inr_alloc ?_ _) | (with_reducible refine K.inr_row ?_ (by assumption)) | (with_reducible refine K.inr_new ?_ (by first | omega | (simp <;> omega)) _))), hK _ _ ?_⟩; clear hK Kq)))))
  all_goals refine K.wpMix_nil ?_
  all_goals go_wp2
  all_goals (go_ret; exact ⟨rfl, (by repeat (first | (with_reducible exact Below.refl _ _) | (with_reducible exact hB9.out) | (with_reducible refine K.b_bel ?_ (by assumption)) | (with_reducible refine K.b_alloc ?_ _) | (with_reducible refine K.b_drewN ?_ _) | (with_reducible refine K.b_drew ?_) | (with_reducible refine K.b_set ?_ (by first | omega | (simp <;> omega)) _) | (with_reducible refine K.b_only ?_ (by assumption) (by first | omega | (simp <;> omega)))))⟩)
set_option maxRecDepth 100000 in
set_option maxHeartbeats 8000000 in
theorem fine_n4 (x : Cal) (s : Set) (b : Bool) (u y : Int) (g : Nat) (A : Option Addr) (c : Nat) (w : World) (h : K.At w g 91 (akc x s A x.l.length c)) (hle : x.l.length ≤ 9223372036854775807)
    (GC : K.H (∀ W, Calls Try.prog 38 #[.int .i64 x.op.what] W fun e w' => e = .returned (.tuple #[.bool b, .int .i64 u]) ∧ w' = W))
    (GO : K.H (∀ W, Calls Try.prog 37 #[x.op.a] W fun e w' => e = .returned (.int .i64 y) ∧ Below W.heap.size W w')) (d0 : inB 0 1048576 x.num = true) (d1 : (y != 0) = false) (d2 : (x.once == b) = true) (d3 : inB2 0 536870912 x.at_ x.nx = true) (d4 : inB x.at_ 536870912 x.dl = false) :
    Calls Try.prog 44 #[.pointer (some ⟨g, 0, none⟩)] w fun e w' => e = .returned (.bool false) ∧ Below w.heap.size w w' := by
  obtain ⟨hc5, hf5, hl5⟩ := K.At.facts h
  go_enter Try.func44, Try.ntmps44
  go_wp2_with (go_at_call 38; (with_reducible refine (GC.out _).mono ?_); rintro e w' ⟨rfl, hw'⟩; have hw'2 := Eq.symm hw'; clear hw'; subst hw'2)
  refine K.wp_region_mix none (by kernel_rfl) (by kernel_rfl) ?_
  intro W9 hR9
  have hB9 := K.InR.bel hR9
  have hZ9 := K.inr_size hR9
  repeat (any_goals (first | refine K.wpMix_skip2 (by rfl) (by rfl) ?_ | (refine K.wpMix_skip (by rfl) ?_; go_simp) | (refine K.wpMix_want (by rfl) (by rfl) (fun Kq hK => ?_); go_simp; refine hK _ _ ?_; clear hK Kq) | (refine K.wpMix_ser (by rfl) (by rfl) (fun Kq hK => ?_); first | (fail; refine ⟨(by repeat (first | (with_reducible exact hR9) | (with_reducible refine K.inr_bel ?_ (by assumption)) | (with_reducible refine K.inr_alloc ?_ _) | (with_reducible refine K.inr_row ?_ (by assumption)) | (with_reducible refine K.inr_new ?_ (by first | omega | (simp <;> omega)) _))), hK _ _ ?_⟩; clear hK Kq) | (go_simp; first | (refine ⟨(by repeat (first | (with_reducible exact hR9) | (with_reducible refine K.inr_bel ?_ (by assumption)) | (with_reducible refine K.inr_alloc ?_ _) | (with_reducible refine K.inr_row ?_ (by assumption)) | (with_reducible refine K.inr_new ?_ (by first | omega | (simp <;> omega)) _))), hK _ _ ?_⟩; clear hK Kq) | ((first | (go_at_call 36; first | (go_at_call 36; (with_reducible refine (in_one 0 1048576 _ _ _ (K.At.new' _ _ _ _ (by simp))).mono ?_); rintro e W1 ⟨rfl, hb1⟩; obtain ⟨hB1, hC1, hF1, hZ1⟩ := K.bel_facts hb1; clear hb1) | (go_at_call 36; (with_reducible refine (in_two 0 536870912 _ _ _ _ (K.At.new' _ _ _ _ (by simp))).mono ?_); rintro e W3 ⟨rfl, hb3⟩; obtain ⟨hB3, hC3, hF3, hZ3⟩ := K.bel_facts hb3; clear hb3) | (go_at_call 36; (with_reducible refine (in_one x.at_ 536870912 _ _ _ (K.At.new' _ _ _ _ (by simp))).mono ?_); rintro e W4 ⟨rfl, hb4⟩; obtain ⟨hB4, hC4, hF4, hZ4⟩ := K.bel_facts hb4; clear hb4)) | (go_at_call 37; (with_reducible refine (GO.out _).mono ?_); rintro e W2 ⟨rfl, hb2⟩; obtain ⟨hB2, hC2, hF2, hZ2⟩ := K.bel_facts hb2; clear hb2)); refine ⟨_, rfl, (by repeat (first | (with_reducible exact hR9) | (with_reducible refine K.inr_bel ?_ (by assumption)) | (with_reducible refine K.inr_alloc ?_ _) | (with_reducible refine K.inr_row ?_ (by assumption)) | (with_reducible refine K.inr_new ?_ (by first | omega | (simp <;> omega)) _))), hK _ _ ?_⟩; clear hK Kq)))))
  all_goals refine K.wpMix_nil ?_
  all_goals go_wp2
  all_goals (go_ret; exact ⟨rfl, (by repeat (first | (with_reducible exact Below.refl _ _) | (with_reducible exact hB9.out) | (with_reducible refine K.b_bel ?_ (by assumption)) | (with_reducible refine K.b_alloc ?_ _) | (with_reducible refine K.b_drewN ?_ _) | (with_reducible refine K.b_drew ?_) | (with_reducible refine K.b_set ?_ (by first | omega | (simp <;> omega)) _) | (with_reducible refine K.b_only ?_ (by assumption) (by first | omega | (simp <;> omega)))))⟩)
set_option maxRecDepth 100000 in
set_option maxHeartbeats 8000000 in
theorem fine_n5 (x : Cal) (s : Set) (b : Bool) (u y : Int) (g : Nat) (A : Option Addr) (c : Nat) (w : World) (h : K.At w g 91 (akc x s A x.l.length c)) (hle : x.l.length ≤ 9223372036854775807)
    (GC : K.H (∀ W, Calls Try.prog 38 #[.int .i64 x.op.what] W fun e w' => e = .returned (.tuple #[.bool b, .int .i64 u]) ∧ w' = W))
    (GO : K.H (∀ W, Calls Try.prog 37 #[x.op.a] W fun e w' => e = .returned (.int .i64 y) ∧ Below W.heap.size W w')) (d0 : inB 0 1048576 x.num = true) (d1 : (y != 0) = false) (d2 : (x.once == b) = true) (d3 : inB2 0 536870912 x.at_ x.nx = true) (d4 : inB x.at_ 536870912 x.dl = true) (d5 : decide (s.att < (x.l.length : Int)) = true) :
    Calls Try.prog 44 #[.pointer (some ⟨g, 0, none⟩)] w fun e w' => e = .returned (.bool false) ∧ Below w.heap.size w w' := by
  obtain ⟨hc5, hf5, hl5⟩ := K.At.facts h
  go_enter Try.func44, Try.ntmps44
  go_wp2_with (go_at_call 38; (with_reducible refine (GC.out _).mono ?_); rintro e w' ⟨rfl, hw'⟩; have hw'2 := Eq.symm hw'; clear hw'; subst hw'2)
  refine K.wp_region_mix none (by kernel_rfl) (by kernel_rfl) ?_
  intro W9 hR9
  have hB9 := K.InR.bel hR9
  have hZ9 := K.inr_size hR9
  repeat (any_goals (first | refine K.wpMix_skip2 (by rfl) (by rfl) ?_ | (refine K.wpMix_skip (by rfl) ?_; go_simp) | (refine K.wpMix_want (by rfl) (by rfl) (fun Kq hK => ?_); go_simp; refine hK _ _ ?_; clear hK Kq) | (refine K.wpMix_ser (by rfl) (by rfl) (fun Kq hK => ?_); first | (fail; refine ⟨(by repeat (first | (with_reducible exact hR9) | (with_reducible refine K.inr_bel ?_ (by assumption)) | (with_reducible refine K.inr_alloc ?_ _) | (with_reducible refine K.inr_row ?_ (by assumption)) | (with_reducible refine K.inr_new ?_ (by first | omega | (simp <;> omega)) _))), hK _ _ ?_⟩; clear hK Kq) | (go_simp; first | (refine ⟨(by repeat (first | (with_reducible exact hR9) | (with_reducible refine K.inr_bel ?_ (by assumption)) | (with_reducible refine K.inr_alloc ?_ _) | (with_reducible refine K.inr_row ?_ (by assumption)) | (with_reducible refine K.inr_new ?_ (by first | omega | (simp <;> omega)) _))), hK _ _ ?_⟩; clear hK Kq) | ((first | (go_at_call 36; first | (go_at_call 36; (with_reducible refine (in_one 0 1048576 _ _ _ (K.At.new' _ _ _ _ (by simp))).mono ?_); rintro e W1 ⟨rfl, hb1⟩; obtain ⟨hB1, hC1, hF1, hZ1⟩ := K.bel_facts hb1; clear hb1) | (go_at_call 36; (with_reducible refine (in_two 0 536870912 _ _ _ _ (K.At.new' _ _ _ _ (by simp))).mono ?_); rintro e W3 ⟨rfl, hb3⟩; obtain ⟨hB3, hC3, hF3, hZ3⟩ := K.bel_facts hb3; clear hb3) | (go_at_call 36; (with_reducible refine (in_one x.at_ 536870912 _ _ _ (K.At.new' _ _ _ _ (by simp))).mono ?_); rintro e W4 ⟨rfl, hb4⟩; obtain ⟨hB4, hC4, hF4, hZ4⟩ := K.bel_facts hb4; clear hb4)) | (go_at_call 37; (with_reducible refine (GO.out _).mono ?_); rintro e W2 ⟨rfl, hb2⟩; obtain ⟨hB2, hC2, hF2, hZ2⟩ := K.bel_facts hb2; clear hb2)); refine ⟨_, rfl, (by repeat (first | (with_reducible exact hR9) | (with_reducible refine K.inr_bel ?_ (by assumption)) | (with_reducible refine K.inr_alloc ?_ _) | (with_reducible refine K.inr_row ?_ (by assumption)) | (with_reducible refine K.inr_new ?_ (by first | omega | (simp <;> omega)) _))), hK _ _ ?_⟩; clear hK Kq)))))
  all_goals refine K.wpMix_nil ?_
  all_goals go_wp2
  all_goals (go_ret; exact ⟨rfl, (by repeat (first | (with_reducible exact Below.refl _ _) | (with_reducible exact hB9.out) | (with_reducible refine K.b_bel ?_ (by assumption)) | (with_reducible refine K.b_alloc ?_ _) | (with_reducible refine K.b_drewN ?_ _) | (with_reducible refine K.b_drew ?_) | (with_reducible refine K.b_set ?_ (by first | omega | (simp <;> omega)) _) | (with_reducible refine K.b_only ?_ (by assumption) (by first | omega | (simp <;> omega)))))⟩)
set_option maxRecDepth 100000 in
set_option maxHeartbeats 8000000 in
theorem fine_y (x : Cal) (s : Set) (bo : Bool) (u y : Int) (g : Nat) (A : Option Addr) (c : Nat) (w : World) (h : K.At w g 91 (akc x s A x.l.length c)) (hle : x.l.length ≤ 9223372036854775807) (hr : Sl.Rds w 8 A x.l.length (x.l.flatMap Att.cs))
    (GC : K.H (∀ W, Calls Try.prog 38 #[.int .i64 x.op.what] W fun e w' => e = .returned (.tuple #[.bool bo, .int .i64 u]) ∧ w' = W))
    (GO : K.H (∀ W, Calls Try.prog 37 #[x.op.a] W fun e w' => e = .returned (.int .i64 y) ∧ Below W.heap.size W w')) (d0 : inB 0 1048576 x.num = true) (d1 : (y != 0) = false) (d2 : (x.once == bo) = true) (d3 : inB2 0 536870912 x.at_ x.nx = true) (d4 : inB x.at_ 536870912 x.dl = true) (d5 : decide (s.att < (x.l.length : Int)) = false) :
    Calls Try.prog 44 #[.pointer (some ⟨g, 0, none⟩)] w fun e w' => e = .returned (.bool (allOk x)) ∧ Below w.heap.size w w' := by
  obtain ⟨hc5, hf5, hl5⟩ := K.At.facts h
  go_enter Try.func44, Try.ntmps44
  go_wp2_with (go_at_call 38; (with_reducible refine (GC.out _).mono ?_); rintro e w' ⟨rfl, hw'⟩; have hw'2 := Eq.symm hw'; clear hw'; subst hw'2)
  refine K.wp_region_mix none (by kernel_rfl) (by kernel_rfl) ?_
  intro W9 hR9
  have hB9 := K.InR.bel hR9
  have hZ9 := K.inr_size hR9
  repeat (any_goals (first | refine K.wpMix_skip2 (by rfl) (by rfl) ?_ | (refine K.wpMix_skip (by rfl) ?_; go_simp) | (refine K.wpMix_want (by rfl) (by rfl) (fun Kq hK => ?_); go_simp; refine hK _ _ ?_; clear hK Kq) | (refine K.wpMix_ser (by rfl) (by rfl) (fun Kq hK => ?_); first | (fail; refine ⟨(by repeat (first | (with_reducible exact hR9) | (with_reducible refine K.inr_bel ?_ (by assumption)) | (with_reducible refine K.inr_alloc ?_ _) | (with_reducible refine K.inr_row ?_ (by assumption)) | (with_reducible refine K.inr_new ?_ (by first | omega | (simp <;> omega)) _))), hK _ _ ?_⟩; clear hK Kq) | (go_simp; first | (refine ⟨(by repeat (first | (with_reducible exact hR9) | (with_reducible refine K.inr_bel ?_ (by assumption)) | (with_reducible refine K.inr_alloc ?_ _) | (with_reducible refine K.inr_row ?_ (by assumption)) | (with_reducible refine K.inr_new ?_ (by first | omega | (simp <;> omega)) _))), hK _ _ ?_⟩; clear hK Kq) | ((first | (go_at_call 36; first | (go_at_call 36; (with_reducible refine (in_one 0 1048576 _ _ _ (K.At.new' _ _ _ _ (by simp))).mono ?_); rintro e W1 ⟨rfl, hb1⟩; obtain ⟨hB1, hC1, hF1, hZ1⟩ := K.bel_facts hb1; clear hb1) | (go_at_call 36; (with_reducible refine (in_two 0 536870912 _ _ _ _ (K.At.new' _ _ _ _ (by simp))).mono ?_); rintro e W3 ⟨rfl, hb3⟩; obtain ⟨hB3, hC3, hF3, hZ3⟩ := K.bel_facts hb3; clear hb3) | (go_at_call 36; (with_reducible refine (in_one x.at_ 536870912 _ _ _ (K.At.new' _ _ _ _ (by simp))).mono ?_); rintro e W4 ⟨rfl, hb4⟩; obtain ⟨hB4, hC4, hF4, hZ4⟩ := K.bel_facts hb4; clear hb4)) | (go_at_call 37; (with_reducible refine (GO.out _).mono ?_); rintro e W2 ⟨rfl, hb2⟩; obtain ⟨hB2, hC2, hF2, hZ2⟩ := K.bel_facts hb2; clear hb2)); refine ⟨_, rfl, (by repeat (first | (with_reducible exact hR9) | (with_reducible refine K.inr_bel ?_ (by assumption)) | (with_reducible refine K.inr_alloc ?_ _) | (with_reducible refine K.inr_row ?_ (by assumption)) | (with_reducible refine K.inr_new ?_ (by first | omega | (simp <;> omega)) _))), hK _ _ ?_⟩; clear hK Kq)))))
  all_goals refine K.wpMix_nil ?_
  have hG4 : K.At W4 g 91 (akc x s A x.l.length c) := (by refine K.At.cast (by repeat (first | (with_reducible exact h) | (with_reducible refine K.At.new' _ _ _ _ (by first | rfl | (simp; done) | omega)) | (with_reducible apply K.At.over hB4) | (with_reducible apply K.At.over hB3) | (with_reducible apply K.At.over hB2) | (with_reducible apply K.At.over hB1) | (with_reducible apply K.At.over hB9) | (with_reducible apply K.At.set) | (with_reducible apply K.At.alloc) | (with_reducible apply K.At.drewN) | (with_reducible apply K.At.drew) | (with_reducible apply K.At.far) | omega | (simp <;> omega))) ?_; rfl)
  obtain ⟨hc6, hf6, hl6⟩ := K.At.facts hG4
  go_wp2
  refine K.wp_gen (fun W => K.At W g 91 (akc x s A x.l.length c) ∧ Below w.heap.size w W) ⟨(by refine K.At.cast (by repeat (first | (with_reducible exact hG4) | (with_reducible refine K.At.new' _ _ _ _ (by first | rfl | (simp; done) | omega)) | (with_reducible apply K.At.set) | (with_reducible apply K.At.alloc) | (with_reducible apply K.At.drewN) | (with_reducible apply K.At.drew) | (with_reducible apply K.At.far) | omega | (simp <;> omega))) ?_; rfl), (by repeat (first | (with_reducible exact Below.refl _ _) | (with_reducible exact hB9.out) | (with_reducible refine K.b_bel ?_ (by assumption)) | (with_reducible refine K.b_alloc ?_ _) | (with_reducible refine K.b_drewN ?_ _) | (with_reducible refine K.b_drew ?_) | (with_reducible refine K.b_set ?_ (by first | omega | (simp <;> omega)) _) | (with_reducible refine K.b_only ?_ (by assumption) (by first | omega | (simp <;> omega)))))⟩ ?_
  rintro W5 ⟨hG, hb5⟩
  have Hb5 := K.H.mk hb5
  have Hr := K.H.mk hr
  clear hb5 hr d0 d1 d2 d3 d4 d5 h GC GO hc5 hf5 hl5 hc6 hf6 hl6 hG4
  ((try clear hC4); (try clear hF4); (try clear hZ4); (try clear hc4); (try clear hf4); (try clear hl4); (try clear hB4); (try clear hO4); (try clear hA4); (try clear hz4_0); (try clear hz4_1); (try clear hz4_2); (try clear hz4_3); (try clear hz4_1_0); (try clear hz4_1_1); (try clear hz4_2_0); (try clear hz4_2_1); (try clear hz4_3_0); (try clear hz4_3_1); (try clear hC3); (try clear hF3); (try clear hZ3); (try clear hc3); (try clear hf3); (try clear hl3); (try clear hB3); (try clear hO3); (try clear hA3); (try clear hz3_0); (try clear hz3_1); (try clear hz3_2); (try clear hz3_3); (try clear hz3_1_0); (try clear hz3_1_1); (try clear hz3_2_0); (try clear hz3_2_1); (try clear hC2); (try clear hF2); (try clear hZ2); (try clear hc2); (try clear hf2); (try clear hl2); (try clear hB2); (try clear hO2); (try clear hA2); (try clear hz2_0); (try clear hz2_1); (try clear hz2_2); (try clear hz2_3); (try clear hz2_1_0); (try clear hz2_1_1); (try clear hC1); (try clear hF1); (try clear hZ1); (try clear hc1); (try clear hf1); (try clear hl1); (try clear hB1); (try clear hO1); (try clear hA1); (try clear hz1_0); (try clear hz1_1); (try clear hz1_2); (try clear hz1_3); (try clear hB9); (try clear hZ9))
  go_loopw [93] (fun i wr => ∃ k : Nat, k ≤ x.l.length ∧ i = .int .i64 k ∧ K.At wr g 91 (akc x s A x.l.length c) ∧ K.H (∀ j, j < k → okI x j = true) ∧ K.H (Below w.heap.size w wr)) (fun i _ => x.l.length - (intOf i).toNat)
  case atStart => exact ⟨0, by omega, rfl, hG, ⟨fun j h => by omega⟩, Hb5⟩
  case round =>
    clear hG Hb5
    obtain ⟨k, hk, rfl, hG, Hf, Hb⟩ := hrel
    have hG2 := hG
    obtain ⟨hc6, hf6, hl6⟩ := K.At.facts hG
    by_cases hlt : k < x.l.length
    · obtain ⟨a, hx⟩ : ∃ a, x.l[k]? = some a := ⟨_, List.getElem?_eq_getElem hlt⟩
      have GD := K.H.mk (fun (W : World) (hW : Below wr.heap.size wr W) => odd_c x s a k g A c W (K.At.over ⟨hW⟩ hG2) ((Hr.out.below Hb.out).below hW) hx)
      obtain ⟨b, off, rfl, hbl, hbc⟩ := Sl.Rds.elem Hr.out Att.cs_len (by omega) hx
      have q_0 : wr.cell? ⟨b, off + k * 8, none⟩ = some (.int .i64 a.b) := (Hb.out.cell (p := ⟨b, off + k * 8 + 0, none⟩) hbl).trans (hbc 0 (by omega))
      have q_1 : wr.cell? ⟨b, off + k * 8 + 1, none⟩ = some (.int .i64 a.i) := (Hb.out.cell (p := ⟨b, off + k * 8 + 1, none⟩) hbl).trans (hbc 1 (by omega))
      have q_2 : wr.cell? ⟨b, off + k * 8 + 2, none⟩ = some (.int .i64 a.s) := (Hb.out.cell (p := ⟨b, off + k * 8 + 2, none⟩) hbl).trans (hbc 2 (by omega))
      have q_3 : wr.cell? ⟨b, off + k * 8 + 3, none⟩ = some (.int .i64 a.q) := (Hb.out.cell (p := ⟨b, off + k * 8 + 3, none⟩) hbl).trans (hbc 3 (by omega))
      have q_4 : wr.cell? ⟨b, off + k * 8 + 4, none⟩ = some (.int .i64 a.t) := (Hb.out.cell (p := ⟨b, off + k * 8 + 4, none⟩) hbl).trans (hbc 4 (by omega))
      have q_5 : wr.cell? ⟨b, off + k * 8 + 5, none⟩ = some (.bool a.hedge) := (Hb.out.cell (p := ⟨b, off + k * 8 + 5, none⟩) hbl).trans (hbc 5 (by omega))
      have q_6 : wr.cell? ⟨b, off + k * 8 + 6, none⟩ = some (.bool a.probe) := (Hb.out.cell (p := ⟨b, off + k * 8 + 6, none⟩) hbl).trans (hbc 6 (by omega))
      have q_7 : wr.cell? ⟨b, off + k * 8 + 7, none⟩ = some (.bool a.over) := (Hb.out.cell (p := ⟨b, off + k * 8 + 7, none⟩) hbl).trans (hbc 7 (by omega))
      clear hbc
      have hbw : b < wr.heap.size := Nat.lt_of_lt_of_le hbl Hb.out.size
      clear hx
      cases ho : okI x k
      · rw [ho] at GD
        have Ho := K.H.mk ho
        clear ho
        go_wp2_with (go_at_call 59; (with_reducible refine (GD.out _ (by repeat (first | (with_reducible exact Below.refl _ _) | (with_reducible refine K.b_bel ?_ (by assumption)) | (with_reducible refine K.b_alloc ?_ _) | (with_reducible refine K.b_drewN ?_ _) | (with_reducible refine K.b_drew ?_) | (with_reducible refine K.b_set ?_ (by first | omega | (simp <;> omega)) _) | (with_reducible refine K.b_only ?_ (by assumption) (by first | omega | (simp <;> omega)))))).mono ?_); rintro e W7 ⟨rfl, hb7⟩; obtain ⟨hB7, hC7, hF7, hZ7⟩ := K.bel_facts hb7; clear hb7)
        go_ret
        exact ⟨K.ret_bool (allOk_f hlt Ho.out).symm, (by repeat (first | (with_reducible exact Below.refl _ _) | (with_reducible exact Hb.out) | (with_reducible refine K.b_bel ?_ (by assumption)) | (with_reducible refine K.b_alloc ?_ _) | (with_reducible refine K.b_drewN ?_ _) | (with_reducible refine K.b_drew ?_) | (with_reducible refine K.b_set ?_ (by first | omega | (simp <;> omega)) _) | (with_reducible refine K.b_only ?_ (by assumption) (by first | omega | (simp <;> omega)))))⟩
      · rw [ho] at GD
        have Ho := K.H.mk ho
        clear ho
        go_wp2_with (go_at_call 59; (with_reducible refine (GD.out _ (by repeat (first | (with_reducible exact Below.refl _ _) | (with_reducible refine K.b_bel ?_ (by assumption)) | (with_reducible refine K.b_alloc ?_ _) | (with_reducible refine K.b_drewN ?_ _) | (with_reducible refine K.b_drew ?_) | (with_reducible refine K.b_set ?_ (by first | omega | (simp <;> omega)) _) | (with_reducible refine K.b_only ?_ (by assumption) (by first | omega | (simp <;> omega)))))).mono ?_); rintro e W7 ⟨rfl, hb7⟩; obtain ⟨hB7, hC7, hF7, hZ7⟩ := K.bel_facts hb7; clear hb7)
        go_roundw
        case rel =>
          refine ⟨k + 1, by omega, by go_num, (by refine K.At.cast (by repeat (first | (with_reducible exact hG2) | (with_reducible refine K.At.new' _ _ _ _ (by first | rfl | (simp; done) | omega)) | (with_reducible apply K.At.over hB7) | (with_reducible apply K.At.set) | (with_reducible apply K.At.alloc) | (with_reducible apply K.At.drewN) | (with_reducible apply K.At.drew) | (with_reducible apply K.At.far) | omega | (simp <;> omega))) ?_; rfl), ⟨fun j hj => ?_⟩, ⟨(by repeat (first | (with_reducible exact Below.refl _ _) | (with_reducible exact Hb.out) | (with_reducible refine K.b_bel ?_ (by assumption)) | (with_reducible refine K.b_alloc ?_ _) | (with_reducible refine K.b_drewN ?_ _) | (with_reducible refine K.b_drew ?_) | (with_reducible refine K.b_set ?_ (by first | omega | (simp <;> omega)) _) | (with_reducible refine K.b_only ?_ (by assumption) (by first | omega | (simp <;> omega)))))⟩⟩
          by_cases hjk : j = k
          · rw [hjk]; exact Ho.out
          · exact Hf.out j (by omega)
        case measure => simp [intOf]; omega
    · obtain rfl : k = x.l.length := by omega
      go_wp2
      go_ret
      exact ⟨K.ret_bool (allOk_t Hf.out).symm, Hb.out⟩
theorem fine_c (x : Cal) (s : Set) (g : Nat) (A : Option Addr) (n c : Nat) (w : World) (h : K.At w g 91 (akc x s A n c)) (hr : Sl.Rds w 8 A n (x.l.flatMap Att.cs)) :
    Calls Try.prog 44 #[.pointer (some ⟨g, 0, none⟩)] w fun e w' => e = .returned (.bool (fineB x s)) ∧ Below w.heap.size w w' := by
  obtain rfl := hr.length Att.cs_len (by omega)
  have hle := hr.le
  have GC := K.H.mk (fun W => Once_c x.op.what W)
  have GO := K.H.mk (fun W => Op_c x.op W)
  unfold fineB
  cases d0 : inB 0 1048576 x.num
  · rw [decide_eq_false (fun hh => by have := inB_f.1 d0; unfold headP at hh; omega)]
    exact fine_n0 x s _ _ _ g A c w h hle GC GO d0
  · cases d1 : (eOp x.op != 0)
    · cases d2 : (x.once == oOnce x.op.what)
      · rw [decide_eq_false (fun hh => by have := hh.2.2.1; simp [this] at d2)]
        exact fine_n2 x s _ _ _ g A c w h hle GC GO d0 d1 d2
      · cases d3 : inB2 0 536870912 x.at_ x.nx
        · rw [decide_eq_false (fun hh => by have := inB2_f.1 d3; unfold headP at hh; omega)]
          exact fine_n3 x s _ _ _ g A c w h hle GC GO d0 d1 d2 d3
        · cases d4 : inB x.at_ 536870912 x.dl
          · rw [decide_eq_false (fun hh => by have := inB_f.1 d4; unfold headP at hh; omega)]
            exact fine_n4 x s _ _ _ g A c w h hle GC GO d0 d1 d2 d3 d4
          · cases d5 : decide (s.att < (x.l.length : Int))
            · rw [decide_eq_true (show headP x s from by
                have e0 := inB_t.1 d0; have e3 := inB2_t.1 d3; have e4 := inB_t.1 d4
                have e1 : eOp x.op = 0 := by simpa using d1
                have e2 : x.once = oOnce x.op.what := by simpa using d2
                have e5 := of_decide_eq_false d5
                exact ⟨e0, e1, e2, e3.1, e3.2, e4, by omega⟩), Bool.true_and]
              exact fine_y x s _ _ _ g A c w h hle hr GC GO d0 d1 d2 d3 d4 d5
            · rw [decide_eq_false (fun hh => by have := of_decide_eq_true d5; unfold headP at hh; omega)]
              exact fine_n5 x s _ _ _ g A c w h hle GC GO d0 d1 d2 d3 d4 d5
    · rw [decide_eq_false (fun hh => by have := hh.2.1; simp [this] at d1)]
      exact fine_n1 x s _ _ _ g A c w h hle GC GO d0 d1
def eCall (x : Cal) (s : Set) : Int := if s.ok then (if fineB x s = true then 0 else 9) else 4
theorem eCall_4 {x : Cal} {s : Set} (h : ¬ s.ok) : eCall x s = 4 := by simp [eCall, h]
theorem eCall_9 {x : Cal} {s : Set} (h : s.ok) (h2 : fineB x s = false) : eCall x s = 9 := by simp [eCall, h, h2]
theorem eCall_0 {x : Cal} {s : Set} (h : s.ok) (h2 : fineB x s = true) : eCall x s = 0 := by simp [eCall, h, h2]
theorem eCall_ok {x : Cal} {s : Set} (h : eCall x s = 0) : s.ok ∧ fineB x s = true := by
  unfold eCall at h
  split at h
  · split at h
    · exact ⟨by assumption, by assumption⟩
    · omega
  · omega
set_option maxRecDepth 100000 in
set_option maxHeartbeats 4000000 in
theorem Check_c (x : Cal) (s : Set) (A : Option Addr) (n c : Nat) (w : World) (hr : Sl.Rds w 8 A n (x.l.flatMap Att.cs)) :
    Calls Try.prog 21 #[x.a A n c, s.a] w fun e w' => e = .returned (.int .i64 (eCall x s)) ∧ Below w.heap.size w w' := by
  have GS := K.H.mk (fun W => Sets_c s W)
  have GF := K.H.mk (fun (W : World) (g : Nat) h (hb : Below w.heap.size w W) => fine_c x s g A n c W h (hr.below hb))
  clear hr
  by_cases h : s.ok
  · rw [eSet_0 h] at GS
    cases hf : fineB x s
    all_goals
      rw [hf] at GF
      first | rw [eCall_9 h hf] | rw [eCall_0 h hf]
      clear h hf
      
      
      
      go_enter Try.func21, Try.ntmps21
      go_wp2_with (first
        | (go_at_call 32; (with_reducible refine (GS.out _).mono ?_); rintro e W1 ⟨rfl, hb1⟩; obtain ⟨hB1, hC1, hF1, hZ1⟩ := K.bel_facts hb1; clear hb1; have kX1 : K.At W1 w.heap.size 26 (x.c A n c) := (by refine K.At.cast (by repeat (first | (with_reducible refine K.At.new' _ _ _ _ (by first | rfl | (simp; done) | omega)) | (with_reducible apply K.At.over hB1) | (with_reducible apply K.At.set) | (with_reducible apply K.At.alloc) | (with_reducible apply K.At.drewN) | (with_reducible apply K.At.drew) | (with_reducible apply K.At.far) | omega | (simp <;> omega))) ?_; rfl); obtain ⟨hc_kX1, hf_kX1, hl_kX1⟩ := K.At.facts kX1; have kS1 : K.At W1 (w.heap.size + 1) 30 s.c := (by refine K.At.cast (by repeat (first | (with_reducible refine K.At.new' _ _ _ _ (by first | rfl | (simp; done) | omega)) | (with_reducible apply K.At.over hB1) | (with_reducible apply K.At.set) | (with_reducible apply K.At.alloc) | (with_reducible apply K.At.drewN) | (with_reducible apply K.At.drew) | (with_reducible apply K.At.far) | omega | (simp <;> omega))) ?_; rfl); obtain ⟨hc_kS1, hf_kS1, hl_kS1⟩ := K.At.facts kS1)
        | (go_at_call 44; (with_reducible refine (GF.out _ _ (K.At.new' _ _ _ _ (by simp)) (by repeat (first | (with_reducible exact Below.refl _ _) | (with_reducible refine K.b_bel ?_ (by assumption)) | (with_reducible refine K.b_alloc ?_ _) | (with_reducible refine K.b_drewN ?_ _) | (with_reducible refine K.b_drew ?_) | (with_reducible refine K.b_set ?_ (by first | omega | (simp <;> omega)) _) | (with_reducible refine K.b_only ?_ (by assumption) (by first | omega | (simp <;> omega)))))).mono ?_); rintro e W2 ⟨rfl, hb2⟩; obtain ⟨hB2, hC2, hF2, hZ2⟩ := K.bel_facts hb2; clear hb2))
      go_ret
      exact ⟨rfl, (by repeat (first | (with_reducible exact Below.refl _ _) | (with_reducible refine K.b_bel ?_ (by assumption)) | (with_reducible refine K.b_alloc ?_ _) | (with_reducible refine K.b_drewN ?_ _) | (with_reducible refine K.b_drew ?_) | (with_reducible refine K.b_set ?_ (by first | omega | (simp <;> omega)) _) | (with_reducible refine K.b_only ?_ (by assumption) (by first | omega | (simp <;> omega)))))⟩
  · rw [eSet_4 h] at GS
    rw [eCall_4 h]
    clear h
    go_enter Try.func21, Try.ntmps21
    go_wp2_with (first
      | (go_at_call 32; (with_reducible refine (GS.out _).mono ?_); rintro e W1 ⟨rfl, hb1⟩; obtain ⟨hB1, hC1, hF1, hZ1⟩ := K.bel_facts hb1; clear hb1))
    go_ret
    exact ⟨rfl, (by repeat (first | (with_reducible exact Below.refl _ _) | (with_reducible refine K.b_bel ?_ (by assumption)) | (with_reducible refine K.b_alloc ?_ _) | (with_reducible refine K.b_drewN ?_ _) | (with_reducible refine K.b_drew ?_) | (with_reducible refine K.b_set ?_ (by first | omega | (simp <;> omega)) _) | (with_reducible refine K.b_only ?_ (by assumption) (by first | omega | (simp <;> omega)))))⟩
end Go.Proofs.Ytfepjpjkamlneaa.Cl
