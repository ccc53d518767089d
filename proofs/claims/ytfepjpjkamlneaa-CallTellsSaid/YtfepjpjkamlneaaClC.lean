/- Calls: settings, new calls, which attempt a message answers, whether calls are one. -/
import Derived.Test.YtfepjpjkamlneaaClB
import Derived.Test.YtfepjpjkamlneaaOpnS
set_option linter.unusedVariables false
namespace Go.Proofs.Ytfepjpjkamlneaa.Cl
open Go.RowKit Go.Proofs.Ytfepjpjkamlneaa
attribute [local go_sem] K.max2_int K.min2_int K.max_two K.min_two K.max_three K.min_three
set_option linter.unusedSimpArgs false
structure Pin where
  b : Int
  i : Int
  s : Int
  q : Int
structure Att where
  b : Int
  i : Int
  s : Int
  q : Int
  t : Int
  hedge : Bool
  probe : Bool
  over : Bool
def Att.cs (x : Att) : List Value := [.int .i64 x.b, .int .i64 x.i, .int .i64 x.s, .int .i64 x.q, .int .i64 x.t, .bool x.hedge, .bool x.probe, .bool x.over]
abbrev Att.a (x : Att) : Value := .agg #[.int .i64 x.b, .int .i64 x.i, .int .i64 x.s, .int .i64 x.q, .int .i64 x.t, .bool x.hedge, .bool x.probe, .bool x.over]
theorem Att.cs_len (x : Att) : x.cs.length = 8 := rfl
def Pin.same (u v : Pin) : Bool := (u.b == v.b) && (u.i == v.i) && (u.s == v.s) && (u.q == v.q)
theorem Pin.same_iff {u v : Pin} : Pin.same u v = true ↔ u = v := by
  obtain ⟨a0, a1, a2, a3⟩ := u
  obtain ⟨b0, b1, b2, b3⟩ := v
  simp [Pin.same, and_assoc]
theorem Pin.same_f {u v : Pin} : Pin.same u v = false ↔ u ≠ v := by
  rw [← Bool.not_eq_true, Pin.same_iff]
theorem Pin.eqIn (u v : Pin) (W : World) : (Op.equalIn 10000 87 (.agg #[.int .i64 u.b, .int .i64 u.i, .int .i64 u.s, .int .i64 u.q]) (.agg #[.int .i64 v.b, .int .i64 v.i, .int .i64 v.s, .int .i64 v.q])).run Try.prog W = .ok (Pin.same u v) W := by
  have hst : Try.prog.stoodInHeld 87 = false := by kernel_rfl
  have hf : Try.prog.underlying 87 = some (.struct (Try.prog.fieldsOf 87)) := by kernel_rfl
  rw [run_equalIn_agg W 9999 _ _ _ hf hst]
  have hi : Try.prog.underlying 3 = some (.int .i64) := by kernel_rfl
  have hb : Try.prog.underlying 4 = some .bool := by kernel_rfl
  unfold Program.fieldsOf
  rw [show Try.prog.underlying 87 = _ from Try.underlying87]
  simp [Go.Op.eqFields, part, go_sem, hi, hb, run_equalIn_int, run_equalIn_bool', Pin.same]
  (repeat' split) <;> simp_all
theorem Pin.eql (u v : Pin) (W : World) : (binOp .eql 87 (.agg #[.int .i64 u.b, .int .i64 u.i, .int .i64 u.s, .int .i64 u.q]) (.agg #[.int .i64 v.b, .int .i64 v.i, .int .i64 v.s, .int .i64 v.q])).run Try.prog W = .ok (.bool (Pin.same u v)) W := by
  rw [run_eql_struct, Pin.eqIn]; rfl
theorem Pin.neq (u v : Pin) (W : World) : (binOp .neq 87 (.agg #[.int .i64 u.b, .int .i64 u.i, .int .i64 u.s, .int .i64 u.q]) (.agg #[.int .i64 v.b, .int .i64 v.i, .int .i64 v.s, .int .i64 v.q])).run Try.prog W = .ok (.bool (!Pin.same u v)) W := by
  rw [run_neq_struct, Pin.eqIn]; rfl
theorem Pin.guard (op : BinOp) (x y : Operand) (u v : Pin) (W : World) : (eqGuard op 87 x y (.agg #[.int .i64 u.b, .int .i64 u.i, .int .i64 u.s, .int .i64 u.q]) (.agg #[.int .i64 v.b, .int .i64 v.i, .int .i64 v.s, .int .i64 v.q])).run Try.prog W = .ok () W :=
  run_eqGuard_agg W op 87 x y _ _ (by kernel_rfl)
def Att.same (u v : Att) : Bool := (u.b == v.b) && (u.i == v.i) && (u.s == v.s) && (u.q == v.q) && (u.t == v.t) && (u.hedge == v.hedge) && (u.probe == v.probe) && (u.over == v.over)
theorem Att.same_iff {u v : Att} : Att.same u v = true ↔ u = v := by
  obtain ⟨a0, a1, a2, a3, a4, a5, a6, a7⟩ := u
  obtain ⟨b0, b1, b2, b3, b4, b5, b6, b7⟩ := v
  simp [Att.same, and_assoc]
theorem Att.same_f {u v : Att} : Att.same u v = false ↔ u ≠ v := by
  rw [← Bool.not_eq_true, Att.same_iff]
theorem Att.eqIn (u v : Att) (W : World) : (Op.equalIn 10000 37 (.agg #[.int .i64 u.b, .int .i64 u.i, .int .i64 u.s, .int .i64 u.q, .int .i64 u.t, .bool u.hedge, .bool u.probe, .bool u.over]) (.agg #[.int .i64 v.b, .int .i64 v.i, .int .i64 v.s, .int .i64 v.q, .int .i64 v.t, .bool v.hedge, .bool v.probe, .bool v.over])).run Try.prog W = .ok (Att.same u v) W := by
  have hst : Try.prog.stoodInHeld 37 = false := by kernel_rfl
  have hf : Try.prog.underlying 37 = some (.struct (Try.prog.fieldsOf 37)) := by kernel_rfl
  rw [run_equalIn_agg W 9999 _ _ _ hf hst]
  have hi : Try.prog.underlying 3 = some (.int .i64) := by kernel_rfl
  have hb : Try.prog.underlying 4 = some .bool := by kernel_rfl
  unfold Program.fieldsOf
  rw [show Try.prog.underlying 37 = _ from Try.underlying37]
  simp [Go.Op.eqFields, part, go_sem, hi, hb, run_equalIn_int, run_equalIn_bool', Att.same]
  (repeat' split) <;> simp_all
theorem Att.eql (u v : Att) (W : World) : (binOp .eql 37 (.agg #[.int .i64 u.b, .int .i64 u.i, .int .i64 u.s, .int .i64 u.q, .int .i64 u.t, .bool u.hedge, .bool u.probe, .bool u.over]) (.agg #[.int .i64 v.b, .int .i64 v.i, .int .i64 v.s, .int .i64 v.q, .int .i64 v.t, .bool v.hedge, .bool v.probe, .bool v.over])).run Try.prog W = .ok (.bool (Att.same u v)) W := by
  rw [run_eql_struct, Att.eqIn]; rfl
theorem Att.neq (u v : Att) (W : World) : (binOp .neq 37 (.agg #[.int .i64 u.b, .int .i64 u.i, .int .i64 u.s, .int .i64 u.q, .int .i64 u.t, .bool u.hedge, .bool u.probe, .bool u.over]) (.agg #[.int .i64 v.b, .int .i64 v.i, .int .i64 v.s, .int .i64 v.q, .int .i64 v.t, .bool v.hedge, .bool v.probe, .bool v.over])).run Try.prog W = .ok (.bool (!Att.same u v)) W := by
  rw [run_neq_struct, Att.eqIn]; rfl
theorem Att.guard (op : BinOp) (x y : Operand) (u v : Att) (W : World) : (eqGuard op 37 x y (.agg #[.int .i64 u.b, .int .i64 u.i, .int .i64 u.s, .int .i64 u.q, .int .i64 u.t, .bool u.hedge, .bool u.probe, .bool u.over]) (.agg #[.int .i64 v.b, .int .i64 v.i, .int .i64 v.s, .int .i64 v.q, .int .i64 v.t, .bool v.hedge, .bool v.probe, .bool v.over])).run Try.prog W = .ok () W :=
  run_eqGuard_agg W op 37 x y _ _ (by kernel_rfl)
abbrev Att.pin (a : Att) : Pin := ⟨a.b, a.i, a.s, a.q⟩
structure Cal where
  num : Int
  op : Op
  once : Bool
  at_ : Int
  dl : Int
  nx : Int
  l : List Att
abbrev Cal.c (x : Cal) (A : Option Addr) (n c : Nat) : Array Value := #[.int .i64 x.num, .int .i64 x.op.what, .int .i64 x.op.key, .int .i64 x.op.other, .int .i64 x.op.amt, .bool x.once, .int .i64 x.at_, .int .i64 x.dl, .int .i64 x.nx, .slice A n c]
abbrev Cal.a (x : Cal) (A : Option Addr) (n c : Nat) : Value := .agg #[.int .i64 x.num, .int .i64 x.op.what, .int .i64 x.op.key, .int .i64 x.op.other, .int .i64 x.op.amt, .bool x.once, .int .i64 x.at_, .int .i64 x.dl, .int .i64 x.nx, .slice A n c]
def Cal.zero : Cal := ⟨0, ⟨0, 0, 0, 0⟩, false, 0, 0, 0, []⟩
structure Set where
  att : Int
  hed : Int
  tmo : Int
  mil : Int
  lst : Int
  bas : Int
  cap : Int
  jit : Int
abbrev Set.c (s : Set) : Array Value := #[.int .i64 s.att, .int .i64 s.hed, .int .i64 s.tmo, .int .i64 s.mil, .int .i64 s.lst, .int .i64 s.bas, .int .i64 s.cap, .int .i64 s.jit]
abbrev Set.a (s : Set) : Value := .agg #[.int .i64 s.att, .int .i64 s.hed, .int .i64 s.tmo, .int .i64 s.mil, .int .i64 s.lst, .int .i64 s.bas, .int .i64 s.cap, .int .i64 s.jit]
abbrev Set.bo (s : Set) : Bof.S := ⟨s.bas, s.cap, s.jit⟩
def Set.ok (s : Set) : Prop := (1 ≤ s.att ∧ s.att ≤ 16) ∧ (0 ≤ s.hed ∧ s.hed ≤ 8) ∧ (1 ≤ s.tmo ∧ s.tmo ≤ 1048576) ∧ (1 ≤ s.lst ∧ s.lst ≤ 1048576) ∧ (1 ≤ s.mil ∧ s.mil ≤ 1000) ∧ Bof.Ok s.bo
instance (s : Set) : Decidable s.ok := by unfold Set.ok; infer_instance
def eSet (s : Set) : Int := if s.ok then 0 else 4
theorem eSet_0 {s : Set} (h : s.ok) : eSet s = 0 := by simp [eSet, h]
theorem eSet_4 {s : Set} (h : ¬ s.ok) : eSet s = 4 := by simp [eSet, h]
set_option maxRecDepth 100000 in
set_option maxHeartbeats 4000000 in
theorem Sets_c (s : Set) (w : World) : Calls Try.prog 32 #[s.a] w fun e w' => e = .returned (.int .i64 (eSet s)) ∧ Below w.heap.size w w' := by
  obtain ⟨y, hy, hyo⟩ : ∃ y : Int, y = Bof.chk s.bo ∧ (Bof.Ok s.bo ∧ y = 0 ∨ ¬ Bof.Ok s.bo ∧ y = 4) := by
    by_cases h : Bof.Ok s.bo
    · exact ⟨_, rfl, .inl ⟨h, Bof.chk_0 h⟩⟩
    · exact ⟨_, rfl, .inr ⟨h, Bof.chk_4 h⟩⟩
  have GB := K.H.mk (fun W => Bof.chk_c s.bo W)
  rw [← hy] at GB
  have HY := K.H.mk hyo
  clear hy hyo
  
  
  go_enter Try.func32, Try.ntmps32
  go_wp2_with (first
    | (go_at_call 36; first
        | (go_at_call 36; (with_reducible refine (in_one 1 16 _ _ _ (K.At.new' _ _ _ _ (by simp))).mono ?_); rintro e W1 ⟨rfl, hb1⟩; obtain ⟨hB1, hC1, hF1, hZ1⟩ := K.bel_facts hb1; clear hb1; have kS1 : K.At W1 w.heap.size 30 s.c := (by refine K.At.cast (by repeat (first | (with_reducible refine K.At.new' _ _ _ _ (by first | rfl | (simp; done) | omega)) | (with_reducible apply K.At.over hB1) | (with_reducible apply K.At.set) | (with_reducible apply K.At.alloc) | (with_reducible apply K.At.drewN) | (with_reducible apply K.At.drew) | (with_reducible apply K.At.far) | omega | (simp <;> omega))) ?_; rfl); obtain ⟨hc_kS1, hf_kS1, hl_kS1⟩ := K.At.facts kS1)
        | (go_at_call 36; (with_reducible refine (in_one 0 8 _ _ _ (K.At.new' _ _ _ _ (by simp))).mono ?_); rintro e W2 ⟨rfl, hb2⟩; obtain ⟨hB2, hC2, hF2, hZ2⟩ := K.bel_facts hb2; clear hb2; have kS2 : K.At W2 w.heap.size 30 s.c := (by refine K.At.cast (by repeat (first | (with_reducible exact kS1) | (with_reducible refine K.At.new' _ _ _ _ (by first | rfl | (simp; done) | omega)) | (with_reducible apply K.At.over hB2) | (with_reducible apply K.At.set) | (with_reducible apply K.At.alloc) | (with_reducible apply K.At.drewN) | (with_reducible apply K.At.drew) | (with_reducible apply K.At.far) | omega | (simp <;> omega))) ?_; rfl); obtain ⟨hc_kS2, hf_kS2, hl_kS2⟩ := K.At.facts kS2; clear hc_kS1 hf_kS1 hl_kS1)
        | (go_at_call 36; (with_reducible refine (in_two 1 1048576 _ _ _ _ (K.At.new' _ _ _ _ (by simp))).mono ?_); rintro e W3 ⟨rfl, hb3⟩; obtain ⟨hB3, hC3, hF3, hZ3⟩ := K.bel_facts hb3; clear hb3; have kS3 : K.At W3 w.heap.size 30 s.c := (by refine K.At.cast (by repeat (first | (with_reducible exact kS2) | (with_reducible refine K.At.new' _ _ _ _ (by first | rfl | (simp; done) | omega)) | (with_reducible apply K.At.over hB3) | (with_reducible apply K.At.set) | (with_reducible apply K.At.alloc) | (with_reducible apply K.At.drewN) | (with_reducible apply K.At.drew) | (with_reducible apply K.At.far) | omega | (simp <;> omega))) ?_; rfl); obtain ⟨hc_kS3, hf_kS3, hl_kS3⟩ := K.At.facts kS3; clear hc_kS2 hf_kS2 hl_kS2)
        | (go_at_call 36; (with_reducible refine (in_one 1 1000 _ _ _ (K.At.new' _ _ _ _ (by simp))).mono ?_); rintro e W4 ⟨rfl, hb4⟩; obtain ⟨hB4, hC4, hF4, hZ4⟩ := K.bel_facts hb4; clear hb4; have kS4 : K.At W4 w.heap.size 30 s.c := (by refine K.At.cast (by repeat (first | (with_reducible exact kS3) | (with_reducible refine K.At.new' _ _ _ _ (by first | rfl | (simp; done) | omega)) | (with_reducible apply K.At.over hB4) | (with_reducible apply K.At.set) | (with_reducible apply K.At.alloc) | (with_reducible apply K.At.drewN) | (with_reducible apply K.At.drew) | (with_reducible apply K.At.far) | omega | (simp <;> omega))) ?_; rfl); obtain ⟨hc_kS4, hf_kS4, hl_kS4⟩ := K.At.facts kS4; clear hc_kS3 hf_kS3 hl_kS3))
    | (go_at_call 53; (with_reducible refine (GB.out _).mono ?_); rintro e W5 ⟨rfl, hb5⟩; obtain ⟨hB5, hC5, hF5, hZ5⟩ := K.bel_facts hb5; clear hb5))
  all_goals (go_ret; refine ⟨K.ret_int ?_, (by repeat (first | (with_reducible exact Below.refl _ _) | (with_reducible refine K.b_bel ?_ (by assumption)) | (with_reducible refine K.b_alloc ?_ _) | (with_reducible refine K.b_drewN ?_ _) | (with_reducible refine K.b_drew ?_) | (with_reducible refine K.b_set ?_ (by first | omega | (simp <;> omega)) _) | (with_reducible refine K.b_only ?_ (by assumption) (by first | omega | (simp <;> omega)))))⟩; have hyo := HY.out; clear HY; go_light; simp only [Bool.not_eq_true', Bool.not_eq_true, Bool.not_eq_false', inB_t, inB_f, inB2_t, inB2_f] at *)
  all_goals unfold Bof.Ok at hyo
  all_goals first
    | exact (eSet_4 (by unfold Set.ok Bof.Ok; omega)).symm
    | (rcases hyo with ⟨h1, rfl⟩ | ⟨h1, rfl⟩
       · exact (eSet_0 (by unfold Set.ok Bof.Ok; omega)).symm
       · exact (eSet_4 (by unfold Set.ok Bof.Ok; omega)).symm)
set_option maxRecDepth 100000 in
set_option maxHeartbeats 4000000 in
theorem rSets_c (s : Set) (w : World) : Calls Try.prog 33 #[s.a] w fun e w' => e = .returned (.int .i64 (eSet s)) ∧ Below w.heap.size w w' := by
  obtain ⟨y, hy, hyo⟩ : ∃ y : Int, y = Bof.chk s.bo ∧ (Bof.Ok s.bo ∧ y = 0 ∨ ¬ Bof.Ok s.bo ∧ y = 4) := by
    by_cases h : Bof.Ok s.bo
    · exact ⟨_, rfl, .inl ⟨h, Bof.chk_0 h⟩⟩
    · exact ⟨_, rfl, .inr ⟨h, Bof.chk_4 h⟩⟩
  have GB := K.H.mk (fun W => Bof.rchk_c s.bo W)
  rw [← hy] at GB
  have HY := K.H.mk hyo
  clear hy hyo
  go_enter Try.func33, Try.ntmps33
  go_wp2_with (go_at_call 47; (with_reducible refine (GB.out _).mono ?_); rintro e W5 ⟨rfl, hb5⟩; obtain ⟨hB5, hC5, hF5, hZ5⟩ := K.bel_facts hb5; clear hb5)
  all_goals (go_ret; refine ⟨K.ret_int ?_, (by repeat (first | (with_reducible exact Below.refl _ _) | (with_reducible refine K.b_bel ?_ (by assumption)) | (with_reducible refine K.b_alloc ?_ _) | (with_reducible refine K.b_drewN ?_ _) | (with_reducible refine K.b_drew ?_) | (with_reducible refine K.b_set ?_ (by first | omega | (simp <;> omega)) _) | (with_reducible refine K.b_only ?_ (by assumption) (by first | omega | (simp <;> omega)))))⟩; have hyo := HY.out; clear HY; go_light; (try simp only [beq_iff_eq, bne_iff_ne, beq_eq_false_iff_ne, bne_eq_false_iff_eq, ne_eq, Bool.not_eq_true] at *))
  all_goals unfold Bof.Ok at hyo
  all_goals first
    | exact (eSet_4 (by unfold Set.ok Bof.Ok; omega)).symm
    | exact (eSet_0 (by unfold Set.ok Bof.Ok; omega)).symm
/-! ### Which attempt a message answers -/
structure Msg where
  k0 : Int
  k1 : Int
  b : Int
  i : Int
  s : Int
  q : Int
  k6 : Int
  k7 : Int
  k8 : Int
  k9 : Int
  k10 : Int
abbrev Msg.c (m : Msg) (D : Value) : Array Value := #[.int .i64 m.k0, .int .i64 m.k1, .int .i64 m.b, .int .i64 m.i, .int .i64 m.s, .int .i64 m.q, .int .i64 m.k6, .int .i64 m.k7, .int .i64 m.k8, .int .i64 m.k9, .int .i64 m.k10, D]
abbrev Msg.a (m : Msg) (D : Value) : Value := .agg #[.int .i64 m.k0, .int .i64 m.k1, .int .i64 m.b, .int .i64 m.i, .int .i64 m.s, .int .i64 m.q, .int .i64 m.k6, .int .i64 m.k7, .int .i64 m.k8, .int .i64 m.k9, .int .i64 m.k10, D]
abbrev Msg.pin (m : Msg) : Pin := ⟨m.b, m.i, m.s, m.q⟩
def isAt (m : Pin) (a : Att) : Bool := Pin.same a.pin m
set_option maxHeartbeats 1000000 in
theorem pin_c (a : Att) (w : World) : Calls Try.prog 43 #[a.a] w fun e w' => e = .returned (.agg #[.int .i64 a.b, .int .i64 a.i, .int .i64 a.s, .int .i64 a.q]) ∧ Below w.heap.size w w' := by
  go_enter Try.func43, Try.ntmps43
  go_wp2
  ((try simp only [Exit.inBlock, Exit.then]); refine bodyPost_ret (v := .agg #[.int .i64 a.b, .int .i64 a.i, .int .i64 a.s, .int .i64 a.q]) (by simp only [results, Try.results43]; go_simp) rfl ?_)
  exact ⟨rfl, (by repeat (first | (with_reducible exact Below.refl _ _) | (with_reducible refine K.b_bel ?_ (by assumption)) | (with_reducible refine K.b_alloc ?_ _) | (with_reducible refine K.b_drewN ?_ _) | (with_reducible refine K.b_drew ?_) | (with_reducible refine K.b_set ?_ (by first | omega | (simp <;> omega)) _) | (with_reducible refine K.b_only ?_ (by assumption) (by first | omega | (simp <;> omega)))))⟩
set_option maxRecDepth 100000 in
set_option maxHeartbeats 2000000 in
theorem match1_c (m : Msg) (D : Value) (a : Att) (g : Nat) (w : World) (h : K.At w g 41 (m.c D)) : Calls Try.prog 42 #[a.a, .pointer (some ⟨g, 0, none⟩)] w fun e w' => e = .returned (.bool (isAt m.pin a)) ∧ Below w.heap.size w w' := by
  obtain ⟨hc1, hf1, hl1⟩ := K.At.facts h
  have hq := fun W => Pin.eql a.pin m.pin W
  have hg := fun op x y W => Pin.guard op x y a.pin m.pin W
  unfold isAt
  generalize Pin.same a.pin m.pin = r at *
  go_enter Try.func42, Try.ntmps42
  go_wp2
  refine K.wp_gen (fun W => K.At W w.heap.size 37 #[.int .i64 a.b, .int .i64 a.i, .int .i64 a.s, .int .i64 a.q, .int .i64 a.t, .bool a.hedge, .bool a.probe, .bool a.over] ∧ K.At W g 41 (m.c D) ∧ Below w.heap.size w W) ⟨(by refine K.At.cast (by repeat (first | (with_reducible refine K.At.new' _ _ _ _ (by first | rfl | (simp; done) | omega)) | (with_reducible apply K.At.set) | (with_reducible apply K.At.alloc) | (with_reducible apply K.At.drewN) | (with_reducible apply K.At.drew) | (with_reducible apply K.At.far) | omega | (simp <;> omega))) ?_; rfl), (by refine K.At.cast (by repeat (first | (with_reducible exact h) | (with_reducible refine K.At.new' _ _ _ _ (by first | rfl | (simp; done) | omega)) | (with_reducible apply K.At.set) | (with_reducible apply K.At.alloc) | (with_reducible apply K.At.drewN) | (with_reducible apply K.At.drew) | (with_reducible apply K.At.far) | omega | (simp <;> omega))) ?_; rfl), (by repeat (first | (with_reducible exact Below.refl _ _) | (with_reducible refine K.b_bel ?_ (by assumption)) | (with_reducible refine K.b_alloc ?_ _) | (with_reducible refine K.b_drewN ?_ _) | (with_reducible refine K.b_drew ?_) | (with_reducible refine K.b_set ?_ (by first | omega | (simp <;> omega)) _) | (with_reducible refine K.b_only ?_ (by assumption) (by first | omega | (simp <;> omega)))))⟩ ?_
  rintro W2 ⟨hA, hM, hb2⟩
  obtain ⟨hc5, hf5, hl5⟩ := K.At.facts hA
  obtain ⟨hc6, hf6, hl6⟩ := K.At.facts hM
  refine K.wp_region_ext_lit (by kernel_rfl) (by kernel_rfl) ?_
  repeat (any_goals (first | go_big_quiet_skip | quiet_step ((go_at_call 43; first | (with_reducible exact K.q_below (pin_c a _)))) | (refine wpQuiet_step (fun K hK => ?_); go_simp; split <;> (refine hK _ ?_; clear hK K))))
  all_goals (refine wpQuiet_nil ?_; intro W9 hW9; obtain ⟨hB9, hC9, hF9, hZ9⟩ := K.ext_facts hW9; clear hW9)
  go_wp2
  go_ret
  exact ⟨rfl, (by repeat (first | (with_reducible exact Below.refl _ _) | (with_reducible exact hb2) | (with_reducible refine K.b_bel ?_ (by assumption)) | (with_reducible refine K.b_alloc ?_ _) | (with_reducible refine K.b_drewN ?_ _) | (with_reducible refine K.b_drew ?_) | (with_reducible refine K.b_set ?_ (by first | omega | (simp <;> omega)) _) | (with_reducible refine K.b_only ?_ (by assumption) (by first | omega | (simp <;> omega)))))⟩
set_option maxHeartbeats 1000000 in
theorem mIdx_c (m : Msg) (D : Value) (g : Nat) (xs : List Att) (A : Option Addr) (n c : Nat) (w : World) (hr : Sl.Rds w 8 A n (xs.flatMap Att.cs)) (h1 : K.At w g 41 (m.c D)) :
    Calls Try.prog 41 #[.slice A n c, .func (.func 42) #[] #[.pointer (some ⟨g, 0, none⟩)]] w fun e w' => e = .returned (.int .i64 (Sl.idx (isAt m.pin) xs)) ∧ Below w.heap.size w w' := by
  obtain rfl := hr.length (fun _ => rfl) (by omega)
  have hle := hr.le
  have Hr := K.H.mk hr
  clear hr
  
  go_enter Try.func41, Try.ntmps41
  go_wp2
  go_loopw [8] (fun i wr => ∃ k : Nat, k ≤ xs.length ∧ i = .int .i64 k ∧ K.H (∀ j y, j < k → xs[j]? = some y → (isAt m.pin) y = false) ∧ K.H (Below w.heap.size w wr)) (fun i _ => xs.length - (intOf i).toNat)
  case atStart => exact ⟨0, by omega, rfl, ⟨fun j y h => by omega⟩, ⟨Below.refl _ _⟩⟩
  case round =>
    obtain ⟨k, hk, rfl, Hf, Hb⟩ := hrel
    by_cases hlt : k < xs.length
    · obtain ⟨x, hx⟩ : ∃ x, xs[k]? = some x := ⟨_, List.getElem?_eq_getElem hlt⟩
      obtain ⟨b, off, rfl, hbl, hbc⟩ := Sl.Rds.elem Hr.out Att.cs_len (by omega) hx
      have q_0 : wr.cell? ⟨b, off + k * 8, none⟩ = some (.int .i64 x.b) := (Hb.out.cell (p := ⟨b, off + k * 8 + 0, none⟩) hbl).trans (hbc 0 (by omega))
      have q_1 : wr.cell? ⟨b, off + k * 8 + 1, none⟩ = some (.int .i64 x.i) := (Hb.out.cell (p := ⟨b, off + k * 8 + 1, none⟩) hbl).trans (hbc 1 (by omega))
      have q_2 : wr.cell? ⟨b, off + k * 8 + 2, none⟩ = some (.int .i64 x.s) := (Hb.out.cell (p := ⟨b, off + k * 8 + 2, none⟩) hbl).trans (hbc 2 (by omega))
      have q_3 : wr.cell? ⟨b, off + k * 8 + 3, none⟩ = some (.int .i64 x.q) := (Hb.out.cell (p := ⟨b, off + k * 8 + 3, none⟩) hbl).trans (hbc 3 (by omega))
      have q_4 : wr.cell? ⟨b, off + k * 8 + 4, none⟩ = some (.int .i64 x.t) := (Hb.out.cell (p := ⟨b, off + k * 8 + 4, none⟩) hbl).trans (hbc 4 (by omega))
      have q_5 : wr.cell? ⟨b, off + k * 8 + 5, none⟩ = some (.bool x.hedge) := (Hb.out.cell (p := ⟨b, off + k * 8 + 5, none⟩) hbl).trans (hbc 5 (by omega))
      have q_6 : wr.cell? ⟨b, off + k * 8 + 6, none⟩ = some (.bool x.probe) := (Hb.out.cell (p := ⟨b, off + k * 8 + 6, none⟩) hbl).trans (hbc 6 (by omega))
      have q_7 : wr.cell? ⟨b, off + k * 8 + 7, none⟩ = some (.bool x.over) := (Hb.out.cell (p := ⟨b, off + k * 8 + 7, none⟩) hbl).trans (hbc 7 (by omega))
      clear hbc
      have hbw : b < wr.heap.size := Nat.lt_of_lt_of_le hbl Hb.out.size
      have Hx := K.H.mk hx
      clear hx
      have h1w := K.At.over ⟨Hb.out⟩ h1; clear h1
      cases hp : (isAt m.pin) x
      · go_wp2_with ((go_at_call 42; (with_reducible refine (match1_c m D x g _ h1w).mono ?_); rintro e W4 ⟨rfl, hb4⟩; obtain ⟨hB4, hC4, hF4, hZ4⟩ := K.bel_facts hb4; clear hb4))
        go_roundw
        case rel =>
          refine ⟨k + 1, by omega, by go_num, ⟨fun j y hj hy => ?_⟩, ⟨(by repeat (first | (with_reducible exact Below.refl _ _) | (with_reducible exact Hb.out) | (with_reducible refine K.b_bel ?_ (by assumption)) | (with_reducible refine K.b_alloc ?_ _) | (with_reducible refine K.b_drewN ?_ _) | (with_reducible refine K.b_drew ?_) | (with_reducible refine K.b_set ?_ (by first | omega | (simp <;> omega)) _) | (with_reducible refine K.b_only ?_ (by assumption) (by first | omega | (simp <;> omega)))))⟩⟩
          by_cases hjk : j = k
          · subst hjk
            rw [Hx.out] at hy
            cases hy
            exact hp
          · exact Hf.out j y (by omega) hy
        case measure => simp [intOf]; omega
      · go_wp2_with ((go_at_call 42; (with_reducible refine (match1_c m D x g _ h1w).mono ?_); rintro e W4 ⟨rfl, hb4⟩; obtain ⟨hB4, hC4, hF4, hZ4⟩ := K.bel_facts hb4; clear hb4))
        go_ret
        exact ⟨K.ret_int (Sl.idx_found Hx.out hp Hf.out).symm, (by repeat (first | (with_reducible exact Below.refl _ _) | (with_reducible exact Hb.out) | (with_reducible refine K.b_bel ?_ (by assumption)) | (with_reducible refine K.b_alloc ?_ _) | (with_reducible refine K.b_drewN ?_ _) | (with_reducible refine K.b_drew ?_) | (with_reducible refine K.b_set ?_ (by first | omega | (simp <;> omega)) _) | (with_reducible refine K.b_only ?_ (by assumption) (by first | omega | (simp <;> omega)))))⟩
    · obtain rfl : k = xs.length := by omega
      go_wp2
      go_ret
      exact ⟨K.ret_int (Sl.idx_none Hf.out).symm, Hb.out⟩
set_option maxRecDepth 100000 in
set_option maxHeartbeats 2000000 in
theorem Match_c (x : Cal) (m : Msg) (D : Value) (A : Option Addr) (n c : Nat) (w : World) (hr : Sl.Rds w 8 A n (x.l.flatMap Att.cs)) :
    Calls Try.prog 16 #[x.a A n c, m.a D] w fun e w' => e = .returned (.int .i64 (Sl.idx (isAt m.pin) x.l)) ∧ Below w.heap.size w w' := by
  have Hr := K.H.mk hr
  clear hr
  go_enter Try.func16, Try.ntmps16
  go_wp2_with (go_at_call 41; (with_reducible refine (mIdx_c m D _ x.l _ _ _ _ (Hr.out.below (by repeat (first | (with_reducible exact Below.refl _ _) | (with_reducible refine K.b_bel ?_ (by assumption)) | (with_reducible refine K.b_alloc ?_ _) | (with_reducible refine K.b_drewN ?_ _) | (with_reducible refine K.b_drew ?_) | (with_reducible refine K.b_set ?_ (by first | omega | (simp <;> omega)) _) | (with_reducible refine K.b_only ?_ (by assumption) (by first | omega | (simp <;> omega)))))) (by refine K.At.cast (by repeat (first | (with_reducible refine K.At.new' _ _ _ _ (by first | rfl | (simp; done) | omega)) | (with_reducible apply K.At.set) | (with_reducible apply K.At.alloc) | (with_reducible apply K.At.drewN) | (with_reducible apply K.At.drew) | (with_reducible apply K.At.far) | omega | (simp <;> omega))) ?_; rfl)).mono ?_); rintro e W1 ⟨rfl, hb1⟩; obtain ⟨hB1, hC1, hF1, hZ1⟩ := K.bel_facts hb1; clear hb1)
  go_ret
  exact ⟨rfl, (by repeat (first | (with_reducible exact Below.refl _ _) | (with_reducible refine K.b_bel ?_ (by assumption)) | (with_reducible refine K.b_alloc ?_ _) | (with_reducible refine K.b_drewN ?_ _) | (with_reducible refine K.b_drew ?_) | (with_reducible refine K.b_set ?_ (by first | omega | (simp <;> omega)) _) | (with_reducible refine K.b_only ?_ (by assumption) (by first | omega | (simp <;> omega)))))⟩
end Go.Proofs.Ytfepjpjkamlneaa.Cl
