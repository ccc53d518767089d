/- Calls: data; whether numbers lie in a range; ops; settings. -/
import Derived.Test.YtfepjpjkamlneaaBofD
import Derived.Test.YtfepjpjkamlneaaSl
import Derived.Laws.StructEq
set_option linter.unusedVariables false
namespace Go.Proofs.Ytfepjpjkamlneaa.Cl
open Go.RowKit Go.Proofs.Ytfepjpjkamlneaa
attribute [local go_sem] K.max2_int K.min2_int K.max_two K.min_two K.max_three K.min_three
set_option linter.unusedSimpArgs false
def I1 (n : Int) : List Value := [.int .i64 n]
/-- Does a number lie outside? -/
def bad (f t x : Int) : Bool := decide (x < f) || decide (t < x)
theorem bad_f {f t x : Int} : bad f t x = false ↔ f ≤ x ∧ x ≤ t := by simp [bad]
theorem bad_t {f t x : Int} : bad f t x = true ↔ x < f ∨ t < x := by simp [bad]
set_option maxHeartbeats 1000000 in
theorem in1_c (f t x : Int) (g1 g2 : Nat) (w : World) (h1 : K.At w g1 3 #[.int .i64 f]) (h2 : K.At w g2 3 #[.int .i64 t]) :
    Calls Try.prog 57 #[.int .i64 x, .pointer (some ⟨g1, 0, none⟩), .pointer (some ⟨g2, 0, none⟩)] w fun e w' => e = .returned (.bool (bad f t x)) ∧ Below w.heap.size w w' := by
  obtain ⟨hc1, hf1, hl1⟩ := K.At.facts h1
  obtain ⟨hc2, hf2, hl2⟩ := K.At.facts h2
  go_enter Try.func57, Try.ntmps57
  go_wp2
  all_goals (go_ret; refine ⟨K.ret_bool ?_, (by repeat (first | (with_reducible exact Below.refl _ _) | (with_reducible refine K.b_bel ?_ (by assumption)) | (with_reducible refine K.b_alloc ?_ _) | (with_reducible refine K.b_drewN ?_ _) | (with_reducible refine K.b_drew ?_) | (with_reducible refine K.b_set ?_ (by first | omega | (simp <;> omega)) _) | (with_reducible refine K.b_only ?_ (by assumption) (by first | omega | (simp <;> omega)))))⟩; go_light)
  all_goals first
    | exact (bad_t.2 (by omega)).symm
    | exact (bad_f.2 (by omega)).symm
    | (simp [bad, *]; done)
    | (simp [bad]; omega)
set_option maxHeartbeats 1000000 in
theorem inIdx_c (f t : Int) (g1 g2 : Nat) (xs : List Int) (A : Option Addr) (n c : Nat) (w : World) (hr : Sl.Rds w 1 A n (xs.flatMap (fun n : Int => [Value.int .i64 n]))) (h1 : K.At w g1 3 #[.int .i64 f]) (h2 : K.At w g2 3 #[.int .i64 t]) :
    Calls Try.prog 64 #[.slice A n c, .func (.func 57) #[] #[.pointer (some ⟨g1, 0, none⟩), .pointer (some ⟨g2, 0, none⟩)]] w fun e w' => e = .returned (.int .i64 (Sl.idx (bad f t) xs)) ∧ Below w.heap.size w w' := by
  obtain rfl := hr.length (fun _ => rfl) (by omega)
  have hle := hr.le
  have Hr := K.H.mk hr
  clear hr
  
  go_enter Try.func64, Try.ntmps64
  go_wp2
  go_loopw [8] (fun i wr => ∃ k : Nat, k ≤ xs.length ∧ i = .int .i64 k ∧ K.H (∀ j y, j < k → xs[j]? = some y → (bad f t) y = false) ∧ K.H (Below w.heap.size w wr)) (fun i _ => xs.length - (intOf i).toNat)
  case atStart => exact ⟨0, by omega, rfl, ⟨fun j y h => by omega⟩, ⟨Below.refl _ _⟩⟩
  case round =>
    obtain ⟨k, hk, rfl, Hf, Hb⟩ := hrel
    by_cases hlt : k < xs.length
    · obtain ⟨x, hx⟩ : ∃ x, xs[k]? = some x := ⟨_, List.getElem?_eq_getElem hlt⟩
      obtain ⟨b, off, rfl, hbl, hbc⟩ := Sl.Rds.elem Hr.out (enc := fun n => [.int .i64 n]) (fun _ => rfl) (by omega) hx
      have q_0 : wr.cell? ⟨b, off + k, none⟩ = some (.int .i64 x) := by
        have := (Hb.out.cell (p := ⟨b, off + k * 1 + 0, none⟩) hbl).trans (hbc 0 (by omega))
        simpa using this
      have hbw : b < wr.heap.size := Nat.lt_of_lt_of_le hbl Hb.out.size
      have Hx := K.H.mk hx
      clear hx
      have h1w := K.At.over ⟨Hb.out⟩ h1; have h2w := K.At.over ⟨Hb.out⟩ h2; clear h1 h2
      cases hp : (bad f t) x
      · go_wp2_with ((go_at_call 57; (with_reducible refine (in1_c f t x g1 g2 _ h1w h2w).mono ?_); rintro e W4 ⟨rfl, hb4⟩; obtain ⟨hB4, hC4, hF4, hZ4⟩ := K.bel_facts hb4; clear hb4))
        go_roundw
        case rel =>
          refine ⟨k + 1, by omega, by go_num, ⟨fun j y hj hy => ?_⟩, ⟨(by repeat (first | (with_reducible exact Below.refl _ _) | (with_reducible exact Hb.out) | (with_reducible refine K.b_bel ?_ (by assumption)) | (with_reducible refine K.b_alloc ?_ _) | (with_reducible refine K.b_drewN ?_ _) | (with_reducible refine K.b_drew ?_) | (with_reducible refine K.b_set ?_ (by first | omega | (simp <;> omega)) _) | (with_reducible refine K.b_only ?_ (by assumption) (by first | omega | (simp <;> omega)))))⟩⟩
          by_cases hjk : j = k
          · subst hjk
            rw [Hx.out] at hy
            cases hy
            exact hp
          · exact Hf.out j y (by omega) hy
        case measure => simp [intOf]; omega
      · go_wp2_with ((go_at_call 57; (with_reducible refine (in1_c f t x g1 g2 _ h1w h2w).mono ?_); rintro e W4 ⟨rfl, hb4⟩; obtain ⟨hB4, hC4, hF4, hZ4⟩ := K.bel_facts hb4; clear hb4))
        go_ret
        exact ⟨K.ret_int (Sl.idx_found Hx.out hp Hf.out).symm, (by repeat (first | (with_reducible exact Below.refl _ _) | (with_reducible exact Hb.out) | (with_reducible refine K.b_bel ?_ (by assumption)) | (with_reducible refine K.b_alloc ?_ _) | (with_reducible refine K.b_drewN ?_ _) | (with_reducible refine K.b_drew ?_) | (with_reducible refine K.b_set ?_ (by first | omega | (simp <;> omega)) _) | (with_reducible refine K.b_only ?_ (by assumption) (by first | omega | (simp <;> omega)))))⟩
    · obtain rfl : k = xs.length := by omega
      go_wp2
      go_ret
      exact ⟨K.ret_int (Sl.idx_none Hf.out).symm, Hb.out⟩
theorem inAny_c (f t : Int) (g1 g2 : Nat) (xs : List Int) (A : Option Addr) (n c : Nat) (w : World) (hr : Sl.Rds w 1 A n (xs.flatMap (fun n : Int => [Value.int .i64 n]))) (h1 : K.At w g1 3 #[.int .i64 f]) (h2 : K.At w g2 3 #[.int .i64 t]) :
    Calls Try.prog 56 #[.slice A n c, .func (.func 57) #[] #[.pointer (some ⟨g1, 0, none⟩), .pointer (some ⟨g2, 0, none⟩)]] w fun e w' => e = .returned (.bool (Sl.anyOf (bad f t) xs)) ∧ Below w.heap.size w w' := by
  have Hr := K.H.mk hr
  clear hr
  go_enter Try.func56, Try.ntmps56
  go_wp2_with (go_at_call 64; (with_reducible refine (inIdx_c f t g1 g2 xs _ _ _ _ Hr.out h1 h2).mono ?_); rintro e W1 ⟨rfl, hb1⟩; obtain ⟨hB1, hC1, hF1, hZ1⟩ := K.bel_facts hb1; clear hb1)
  go_ret
  exact ⟨K.ret_bool (Sl.idx_any _ _), (by repeat (first | (with_reducible exact Below.refl _ _) | (with_reducible refine K.b_bel ?_ (by assumption)) | (with_reducible refine K.b_alloc ?_ _) | (with_reducible refine K.b_drewN ?_ _) | (with_reducible refine K.b_drew ?_) | (with_reducible refine K.b_set ?_ (by first | omega | (simp <;> omega)) _) | (with_reducible refine K.b_only ?_ (by assumption) (by first | omega | (simp <;> omega)))))⟩
/-- Do all lie inside? -/
def inAll (f t : Int) (xs : List Int) : Bool := !Sl.anyOf (bad f t) xs
set_option maxHeartbeats 1000000 in
theorem in_c (f t : Int) (xs : List Int) (A : Option Addr) (n c : Nat) (w : World) (hr : Sl.Rds w 1 A n (xs.flatMap fun n => [.int .i64 n])) :
    Calls Try.prog 36 #[.int .i64 f, .int .i64 t, .slice A n c] w fun e w' => e = .returned (.bool (inAll f t xs)) ∧ Below w.heap.size w w' := by
  have Hr := K.H.mk hr
  clear hr
  unfold inAll
  go_enter Try.func36, Try.ntmps36
  go_wp2_with (go_at_call 56; (with_reducible refine (inAny_c f t _ _ xs _ _ _ _ (Hr.out.below (by repeat (first | (with_reducible exact Below.refl _ _) | (with_reducible refine K.b_bel ?_ (by assumption)) | (with_reducible refine K.b_alloc ?_ _) | (with_reducible refine K.b_drewN ?_ _) | (with_reducible refine K.b_drew ?_) | (with_reducible refine K.b_set ?_ (by first | omega | (simp <;> omega)) _) | (with_reducible refine K.b_only ?_ (by assumption) (by first | omega | (simp <;> omega)))))) (by refine K.At.cast (by repeat (first | (with_reducible refine K.At.new' _ _ _ _ (by first | rfl | (simp; done) | omega)) | (with_reducible apply K.At.set) | (with_reducible apply K.At.alloc) | (with_reducible apply K.At.drewN) | (with_reducible apply K.At.drew) | (with_reducible apply K.At.far) | omega | (simp <;> omega))) ?_; rfl) (by refine K.At.cast (by repeat (first | (with_reducible refine K.At.new' _ _ _ _ (by first | rfl | (simp; done) | omega)) | (with_reducible apply K.At.set) | (with_reducible apply K.At.alloc) | (with_reducible apply K.At.drewN) | (with_reducible apply K.At.drew) | (with_reducible apply K.At.far) | omega | (simp <;> omega))) ?_; rfl)).mono ?_); rintro e W1 ⟨rfl, hb1⟩; obtain ⟨hB1, hC1, hF1, hZ1⟩ := K.bel_facts hb1; clear hb1)
  go_ret
  exact ⟨rfl, (by repeat (first | (with_reducible exact Below.refl _ _) | (with_reducible refine K.b_bel ?_ (by assumption)) | (with_reducible refine K.b_alloc ?_ _) | (with_reducible refine K.b_drewN ?_ _) | (with_reducible refine K.b_drew ?_) | (with_reducible refine K.b_set ?_ (by first | omega | (simp <;> omega)) _) | (with_reducible refine K.b_only ?_ (by assumption) (by first | omega | (simp <;> omega)))))⟩
theorem rds_lit (w : World) (g : Nat) (xs : List Int) (h : K.At w g 3 (xs.map (Value.int .i64)).toArray) (hl : xs.length ≤ maxLen) : Sl.Rds w 1 (some ⟨g, 0, none⟩) xs.length (xs.flatMap fun n => [.int .i64 n]) := by
  rw [← Sl.map_flat]
  refine ⟨by simp, hl, fun _ => ⟨g, 0, rfl, h.lt, fun j hj => ?_⟩⟩
  rw [Nat.zero_add, h.cell]
  simp
def inB (f t x : Int) : Bool := !bad f t x
theorem inB_t {f t x : Int} : inB f t x = true ↔ f ≤ x ∧ x ≤ t := by simp [inB, bad]
theorem inB_f {f t x : Int} : inB f t x = false ↔ x < f ∨ t < x := by simp [inB, bad]; omega
theorem inA1 (f t x : Int) : inAll f t [x] = inB f t x := by simp [inAll, inB, Sl.anyOf]
theorem in_one (f t x : Int) (g : Nat) (w : World) (h : K.At w g 3 #[.int .i64 x]) :
    Calls Try.prog 36 #[.int .i64 f, .int .i64 t, .slice (some ⟨g, 0, none⟩) 1 1] w fun e w' => e = .returned (.bool (inB f t x)) ∧ Below w.heap.size w w' := by
  have := in_c f t [x] (some ⟨g, 0, none⟩) 1 1 w (rds_lit w g [x] h (by simp [maxLen]))
  rwa [inA1] at this
def inB2 (f t x y : Int) : Bool := inB f t x && inB f t y
def inB4 (f t x y z u : Int) : Bool := inB f t x && inB f t y && inB f t z && inB f t u
theorem inB2_t {f t x y : Int} : inB2 f t x y = true ↔ (f ≤ x ∧ x ≤ t) ∧ (f ≤ y ∧ y ≤ t) := by simp [inB2, inB_t]
theorem inB2_f {f t x y : Int} : inB2 f t x y = false ↔ (x < f ∨ t < x) ∨ (y < f ∨ t < y) := by rw [← Bool.not_eq_true, inB2_t]; omega
theorem inB4_t {f t x y z u : Int} : inB4 f t x y z u = true ↔ (f ≤ x ∧ x ≤ t) ∧ (f ≤ y ∧ y ≤ t) ∧ (f ≤ z ∧ z ≤ t) ∧ (f ≤ u ∧ u ≤ t) := by simp [inB4, inB_t, and_assoc]
theorem inB4_f {f t x y z u : Int} : inB4 f t x y z u = false ↔ (x < f ∨ t < x) ∨ (y < f ∨ t < y) ∨ (z < f ∨ t < z) ∨ (u < f ∨ t < u) := by rw [← Bool.not_eq_true, inB4_t]; omega
theorem in_two (f t x y : Int) (g : Nat) (w : World) (h : K.At w g 3 #[.int .i64 x, .int .i64 y]) :
    Calls Try.prog 36 #[.int .i64 f, .int .i64 t, .slice (some ⟨g, 0, none⟩) 2 2] w fun e w' => e = .returned (.bool (inB2 f t x y)) ∧ Below w.heap.size w w' := by
  have := in_c f t [x, y] (some ⟨g, 0, none⟩) 2 2 w (rds_lit w g [x, y] h (by simp [maxLen]))
  rwa [show inAll f t [x, y] = inB2 f t x y by simp [inAll, inB2, inB, Sl.anyOf]] at this
theorem in_four (f t x y z u : Int) (g : Nat) (w : World) (h : K.At w g 3 #[.int .i64 x, .int .i64 y, .int .i64 z, .int .i64 u]) :
    Calls Try.prog 36 #[.int .i64 f, .int .i64 t, .slice (some ⟨g, 0, none⟩) 4 4] w fun e w' => e = .returned (.bool (inB4 f t x y z u)) ∧ Below w.heap.size w w' := by
  have := in_c f t [x, y, z, u] (some ⟨g, 0, none⟩) 4 4 w (rds_lit w g [x, y, z, u] h (by simp [maxLen]))
  rwa [show inAll f t [x, y, z, u] = inB4 f t x y z u by simp [inAll, inB4, inB, Sl.anyOf, Bool.and_assoc]] at this
/-! ### Ops -/
structure Op where
  what : Int
  key : Int
  other : Int
  amt : Int
abbrev Op.c (o : Op) : Array Value := #[.int .i64 o.what, .int .i64 o.key, .int .i64 o.other, .int .i64 o.amt]
abbrev Op.a (o : Op) : Value := .agg #[.int .i64 o.what, .int .i64 o.key, .int .i64 o.other, .int .i64 o.amt]
def Op.same (u v : Op) : Bool := (u.what == v.what) && (u.key == v.key) && (u.other == v.other) && (u.amt == v.amt)
theorem Op.same_iff {u v : Op} : Op.same u v = true ↔ u = v := by
  obtain ⟨a0, a1, a2, a3⟩ := u
  obtain ⟨b0, b1, b2, b3⟩ := v
  simp [Op.same, and_assoc]
theorem Op.same_f {u v : Op} : Op.same u v = false ↔ u ≠ v := by
  rw [← Bool.not_eq_true, Op.same_iff]
theorem Op.eqIn (u v : Op) (W : World) : (Op.equalIn 10000 23 (.agg #[.int .i64 u.what, .int .i64 u.key, .int .i64 u.other, .int .i64 u.amt]) (.agg #[.int .i64 v.what, .int .i64 v.key, .int .i64 v.other, .int .i64 v.amt])).run Try.prog W = .ok (Op.same u v) W := by
  have hst : Try.prog.stoodInHeld 23 = false := by kernel_rfl
  have hf : Try.prog.underlying 23 = some (.struct (Try.prog.fieldsOf 23)) := by kernel_rfl
  rw [run_equalIn_agg W 9999 _ _ _ hf hst]
  have hi : Try.prog.underlying 3 = some (.int .i64) := by kernel_rfl
  have hb : Try.prog.underlying 4 = some .bool := by kernel_rfl
  unfold Program.fieldsOf
  rw [show Try.prog.underlying 23 = _ from Try.underlying23]
  simp [Go.Op.eqFields, part, go_sem, hi, hb, run_equalIn_int, run_equalIn_bool', Op.same]
  (repeat' split) <;> simp_all
theorem Op.eql (u v : Op) (W : World) : (binOp .eql 23 (.agg #[.int .i64 u.what, .int .i64 u.key, .int .i64 u.other, .int .i64 u.amt]) (.agg #[.int .i64 v.what, .int .i64 v.key, .int .i64 v.other, .int .i64 v.amt])).run Try.prog W = .ok (.bool (Op.same u v)) W := by
  rw [run_eql_struct, Op.eqIn]; rfl
theorem Op.neq (u v : Op) (W : World) : (binOp .neq 23 (.agg #[.int .i64 u.what, .int .i64 u.key, .int .i64 u.other, .int .i64 u.amt]) (.agg #[.int .i64 v.what, .int .i64 v.key, .int .i64 v.other, .int .i64 v.amt])).run Try.prog W = .ok (.bool (!Op.same u v)) W := by
  rw [run_neq_struct, Op.eqIn]; rfl
theorem Op.guard (op : BinOp) (x y : Operand) (u v : Op) (W : World) : (eqGuard op 23 x y (.agg #[.int .i64 u.what, .int .i64 u.key, .int .i64 u.other, .int .i64 u.amt]) (.agg #[.int .i64 v.what, .int .i64 v.key, .int .i64 v.other, .int .i64 v.amt])).run Try.prog W = .ok () W :=
  run_eqGuard_agg W op 23 x y _ _ (by kernel_rfl)
def eOnce (n : Int) : Int := if 1 ≤ n ∧ n ≤ 4 then 0 else 23
def oOnce (n : Int) : Bool := decide (1 ≤ n ∧ n ≤ 2)
set_option maxHeartbeats 1000000 in
theorem Once_c (n : Int) (w : World) : Calls Try.prog 38 #[.int .i64 n] w fun e w' => e = .returned (.tuple #[.bool (oOnce n), .int .i64 (eOnce n)]) ∧ w' = w := by
  go_enter Try.func38, Try.ntmps38
  go_wp2
  all_goals (go_ret2; refine ⟨?_, rfl⟩; unfold oOnce eOnce; go_light)
  all_goals first
    | (rw [if_pos (by omega)]; congr 4; (simp; omega))
    | (rw [if_neg (by omega)]; congr 4; (simp; omega))
set_option maxHeartbeats 1000000 in
theorem rOnce_c (n : Int) (w : World) : Calls Try.prog 40 #[.int .i64 n] w fun e w' => e = .returned (.tuple #[.bool (oOnce n), .int .i64 (eOnce n)]) ∧ w' = w := by
  go_enter Try.func40, Try.ntmps40
  go_wp2
  all_goals (go_ret2; refine ⟨?_, rfl⟩; unfold oOnce eOnce; go_light)
  all_goals first
    | (rw [if_pos (by omega)]; congr 4; (simp; omega))
    | (rw [if_neg (by omega)]; congr 4; (simp; omega))
def Op.kind (o : Op) : Prop := 1 ≤ o.what ∧ o.what ≤ 4
def Op.range (o : Op) : Prop := (0 ≤ o.key ∧ o.key < 16) ∧ (0 ≤ o.other ∧ o.other < 16) ∧ (-1073741824 ≤ o.amt ∧ o.amt ≤ 1073741824) ∧ (o.what = 2 → 0 ≤ o.amt)
def Op.plain (o : Op) : Prop := (o.what ≠ 2 → o.other = 0) ∧ (2 < o.what → o.amt = 0) ∧ (o.what = 4 → o.key = 0)
instance (o : Op) : Decidable o.kind := by unfold Op.kind; infer_instance
instance (o : Op) : Decidable o.range := by unfold Op.range; infer_instance
instance (o : Op) : Decidable o.plain := by unfold Op.plain; infer_instance
def eOp (o : Op) : Int := if o.kind then (if o.range then (if o.plain then 0 else 9) else 4) else 23
theorem eOp_23 {o : Op} (h : ¬ o.kind) : eOp o = 23 := by simp [eOp, h]
theorem eOp_4 {o : Op} (h : o.kind) (h2 : ¬ o.range) : eOp o = 4 := by simp [eOp, h, h2]
theorem eOp_9 {o : Op} (h : o.kind) (h2 : o.range) (h3 : ¬ o.plain) : eOp o = 9 := by simp [eOp, h, h2, h3]
theorem eOp_0 {o : Op} (h : o.kind) (h2 : o.range) (h3 : o.plain) : eOp o = 0 := by simp [eOp, h, h2, h3]
set_option maxRecDepth 100000 in
set_option maxHeartbeats 2000000 in
theorem rOp_c (o : Op) (w : World) : Calls Try.prog 39 #[o.a] w fun e w' => e = .returned (.int .i64 (eOp o)) ∧ Below w.heap.size w w' := by
  go_enter Try.func39, Try.ntmps39
  go_wp2
  all_goals (go_ret; refine ⟨K.ret_int ?_, (by repeat (first | (with_reducible exact Below.refl _ _) | (with_reducible refine K.b_bel ?_ (by assumption)) | (with_reducible refine K.b_alloc ?_ _) | (with_reducible refine K.b_drewN ?_ _) | (with_reducible refine K.b_drew ?_) | (with_reducible refine K.b_set ?_ (by first | omega | (simp <;> omega)) _) | (with_reducible refine K.b_only ?_ (by assumption) (by first | omega | (simp <;> omega)))))⟩; go_light; (try simp only [beq_iff_eq, bne_iff_ne, beq_eq_false_iff_ne, bne_eq_false_iff_eq, ne_eq, Bool.not_eq_true] at *))
  all_goals first
    | exact (eOp_23 (by unfold Op.kind; omega)).symm
    | exact (eOp_4 (by unfold Op.kind; omega) (by unfold Op.range; omega)).symm
    | exact (eOp_9 (by unfold Op.kind; omega) (by unfold Op.range; omega) (by unfold Op.plain; omega)).symm
    | exact (eOp_0 (by unfold Op.kind; omega) (by unfold Op.range; omega) (by unfold Op.plain; omega)).symm
end Go.Proofs.Ytfepjpjkamlneaa.Cl
