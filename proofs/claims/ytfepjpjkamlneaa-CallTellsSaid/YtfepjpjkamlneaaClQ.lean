/- Calls: attempts that are over. -/
import Derived.Test.YtfepjpjkamlneaaClP
import Derived.Test.YtfepjpjkamlneaaBofQ
import Derived.Laws.OwnMore
set_option linter.unusedVariables false
namespace Go.Proofs.Ytfepjpjkamlneaa.Cl
open Go.RowKit Go.Proofs.Ytfepjpjkamlneaa
attribute [local go_sem] K.max2_int K.min2_int K.max_two K.min_two K.max_three K.min_three
set_option linter.unusedSimpArgs false
section
variable {α : Type} {enc : α → List Value} {sz : Nat}
/-- One cell of one element written over. -/
theorem flat_set (he : ∀ x, (enc x).length = sz) {j : Nat} (hj : j < sz) (v : Value) : ∀ (xs : List α) (k : Nat) (x y : α), xs[k]? = some x → (enc x).set j v = enc y → (xs.flatMap enc).set (k * sz + j) v = (xs.set k y).flatMap enc
  | [], k, x, y, h, _ => by simp at h
  | a :: r, 0, x, y, h, h2 => by
    simp at h; subst h
    simp only [List.flatMap_cons, List.set_cons_zero, Nat.zero_mul, Nat.zero_add]
    rw [List.set_append_left _ _ (by rw [he]; exact hj), h2]
  | a :: r, k + 1, x, y, h, h2 => by
    simp at h
    simp only [List.flatMap_cons, List.set_cons_succ]
    rw [List.set_append_right _ _ (by rw [he, Nat.succ_mul]; omega), he, show (k + 1) * sz + j - sz = k * sz + j by rw [Nat.succ_mul]; omega, flat_set he hj v r k x y h h2]
end
def Att.done (a : Att) : Att := { a with over := true }
/-- One attempt is over. -/
def mark (l : List Att) (p : Int) : List Att := match l[p.toNat]? with
  | some a => l.set p.toNat a.done
  | none => l
def marks (l : List Att) (ps : List Int) : List Att := ps.foldl mark l
theorem mark_len (l : List Att) (p : Int) : (mark l p).length = l.length := by unfold mark; split <;> simp
theorem marks_len (ps : List Int) : ∀ l, (marks l ps).length = l.length := by
  induction ps with
  | nil => intro l; rfl
  | cons p r ih => intro l; show (marks (mark l p) r).length = _; rw [ih, mark_len]
theorem marks_take {l : List Att} {ps : List Int} {k : Nat} {p : Int} (h : ps[k]? = some p) : marks l (ps.take (k + 1)) = mark (marks l (ps.take k)) p := by
  unfold marks
  rw [List.take_add_one, h, Option.toList_some, List.foldl_append]; rfl

def markC (x : Cal) (ps : List Int) : Cal := { x with l := marks x.l ps }
/-- What 'Over' makes of a call that may be. -/
def overF (x : Cal) (s : Set) (tick draw : Int) (ps : List Int) : Cal × Int :=
  if inB 0 268435456 tick = false then (Cal.zero, 4)
  else if inAll 0 ((x.l.length : Int) - 1) ps = false then (Cal.zero, 71)
  else if nO (markC x ps) = 0 ∧ 0 < x.l.length then ({ markC x ps with nx := tick + Bof.oDelay s.bo x.l.length draw }, 0) else (markC x ps, 0)
def oOver (x : Cal) (s : Set) (tick draw : Int) (ps : List Int) : Cal × Int := if eCall x s = 0 then overF x s tick draw ps else (Cal.zero, eCall x s)
theorem one_ints {ps : List Int} {f t : Int} (h : inAll f t ps = true) {k : Nat} {p : Int} (hp : ps[k]? = some p) : f ≤ p ∧ p ≤ t := by
  unfold inAll at h
  have h2 : Sl.anyOf (bad f t) ps = false := by simpa using h
  have := Sl.anyOf_false h2 p (List.mem_of_getElem? hp)
  simp [bad] at this
  omega
set_option maxRecDepth 100000 in
set_option maxHeartbeats 4000000 in
theorem over_bad (x : Cal) (s : Set) (tick draw : Int) (v : Value) (A : Option Addr) (n c : Nat) (w : World) (hr : Sl.Rds w 8 A n (x.l.flatMap Att.cs)) (h : eCall x s ≠ 0) : Calls Try.prog 22 #[x.a A n c, s.a, .int .i64 tick, .int .u64 draw, v] w (CalPost w Cal.zero (eCall x s)) := by
  have GA := K.H.mk (fun (W : World) (hb : Below w.heap.size w W) => ask_bad x s A n c W (hr.below hb) h)
  have hd : (eCall x s != 0) = true := by simpa using h
  generalize eCall x s = y at *
  clear hr h
  
  
  go_enter Try.func22, Try.ntmps22
  go_wp2_with (first
    | (go_at_call 34; (with_reducible refine (GA.out _ (by repeat (first | (with_reducible exact Below.refl _ _) | (with_reducible refine K.b_bel ?_ (by assumption)) | (with_reducible refine K.b_alloc ?_ _) | (with_reducible refine K.b_drewN ?_ _) | (with_reducible refine K.b_drew ?_) | (with_reducible refine K.b_set ?_ (by first | omega | (simp <;> omega)) _) | (with_reducible refine K.b_only ?_ (by assumption) (by first | omega | (simp <;> omega)))))).mono ?_); rintro e W1 ⟨g1, rfl, hb1⟩; obtain ⟨hB1, hC1, hF1, hZ1⟩ := K.bel_facts hb1; clear hb1; have kR1 : K.At W1 (w.heap.size + 1 + 1) 26 #[.int .i64 0, .int .i64 0, .int .i64 0, .int .i64 0, .int .i64 0, .bool false, .int .i64 0, .int .i64 0, .int .i64 0, .slice none 0 0] := (by refine K.At.cast (by repeat (first | (with_reducible refine K.At.new' _ _ _ _ (by first | rfl | (simp; done) | omega)) | (with_reducible apply K.At.over hB1) | (with_reducible apply K.At.set) | (with_reducible apply K.At.alloc) | (with_reducible apply K.At.drewN) | (with_reducible apply K.At.drew) | (with_reducible apply K.At.far) | omega | (simp <;> omega))) ?_; rfl); obtain ⟨hc_kR1, hf_kR1, hl_kR1⟩ := K.At.facts kR1))
  ((try simp only [Exit.inBlock, Exit.then]); refine bodyPost_ret (v := .tuple #[.agg #[.int .i64 0, .int .i64 0, .int .i64 0, .int .i64 0, .int .i64 0, .bool false, .int .i64 0, .int .i64 0, .int .i64 0, .slice none 0 0], .int .i64 y]) (by simp only [results, Try.results22]; go_simp) rfl ?_)
  exact zero_post (by repeat (first | (with_reducible exact Below.refl _ _) | (with_reducible refine K.b_bel ?_ (by assumption)) | (with_reducible refine K.b_alloc ?_ _) | (with_reducible refine K.b_drewN ?_ _) | (with_reducible refine K.b_drew ?_) | (with_reducible refine K.b_set ?_ (by first | omega | (simp <;> omega)) _) | (with_reducible refine K.b_only ?_ (by assumption) (by first | omega | (simp <;> omega)))))
set_option maxRecDepth 100000 in
set_option maxHeartbeats 4000000 in
theorem over_tick (x : Cal) (s : Set) (tick draw : Int) (v : Value) (A : Option Addr) (n c : Nat) (w : World) (hr : Sl.Rds w 8 A n (x.l.flatMap Att.cs)) (h : eCall x s = 0) (ht : inB 0 268435456 tick = false) : Calls Try.prog 22 #[x.a A n c, s.a, .int .i64 tick, .int .u64 draw, v] w (CalPost w Cal.zero 4) := by
  have GA := K.H.mk (fun (W : World) (hb : Below w.heap.size w W) => ask_ok x s A n c W (hr.below hb) h)
  clear hr h
  
  
  go_enter Try.func22, Try.ntmps22
  go_wp2_with (first
    | (go_at_call 34; (with_reducible refine (GA.out _ (by repeat (first | (with_reducible exact Below.refl _ _) | (with_reducible refine K.b_bel ?_ (by assumption)) | (with_reducible refine K.b_alloc ?_ _) | (with_reducible refine K.b_drewN ?_ _) | (with_reducible refine K.b_drew ?_) | (with_reducible refine K.b_set ?_ (by first | omega | (simp <;> omega)) _) | (with_reducible refine K.b_only ?_ (by assumption) (by first | omega | (simp <;> omega)))))).mono ?_); rintro e W1 ⟨g, B1, d1, rfl, hg1, hA1, hown1, hb1⟩; obtain ⟨hB1, hC1, hF1, hZ1⟩ := K.bel_facts hb1; clear hb1; have kR1 : K.At W1 (w.heap.size + 1 + 1) 26 #[.int .i64 0, .int .i64 0, .int .i64 0, .int .i64 0, .int .i64 0, .bool false, .int .i64 0, .int .i64 0, .int .i64 0, .slice none 0 0] := (by refine K.At.cast (by repeat (first | (with_reducible refine K.At.new' _ _ _ _ (by first | rfl | (simp; done) | omega)) | (with_reducible apply K.At.over hB1) | (with_reducible apply K.At.set) | (with_reducible apply K.At.alloc) | (with_reducible apply K.At.drewN) | (with_reducible apply K.At.drew) | (with_reducible apply K.At.far) | omega | (simp <;> omega))) ?_; rfl); obtain ⟨hc_kR1, hf_kR1, hl_kR1⟩ := K.At.facts kR1)
    | (go_at_call 36; (with_reducible refine (in_one 0 268435456 _ _ _ (K.At.new' _ _ _ _ (by simp))).mono ?_); rintro e W2 ⟨rfl, hb2⟩; obtain ⟨hB2, hC2, hF2, hZ2⟩ := K.bel_facts hb2; clear hb2; have kR2 : K.At W2 (w.heap.size + 1 + 1) 26 #[.int .i64 0, .int .i64 0, .int .i64 0, .int .i64 0, .int .i64 0, .bool false, .int .i64 0, .int .i64 0, .int .i64 0, .slice none 0 0] := (by refine K.At.cast (by repeat (first | (with_reducible exact kR1) | (with_reducible refine K.At.new' _ _ _ _ (by first | rfl | (simp; done) | omega)) | (with_reducible apply K.At.over hB2) | (with_reducible apply K.At.set) | (with_reducible apply K.At.alloc) | (with_reducible apply K.At.drewN) | (with_reducible apply K.At.drew) | (with_reducible apply K.At.far) | omega | (simp <;> omega))) ?_; rfl); obtain ⟨hc_kR2, hf_kR2, hl_kR2⟩ := K.At.facts kR2; clear hc_kR1 hf_kR1 hl_kR1))
  ((try simp only [Exit.inBlock, Exit.then]); refine bodyPost_ret (v := .tuple #[.agg #[.int .i64 0, .int .i64 0, .int .i64 0, .int .i64 0, .int .i64 0, .bool false, .int .i64 0, .int .i64 0, .int .i64 0, .slice none 0 0], .int .i64 4]) (by simp only [results, Try.results22]; go_simp) rfl ?_)
  exact zero_post (by repeat (first | (with_reducible exact Below.refl _ _) | (with_reducible refine K.b_bel ?_ (by assumption)) | (with_reducible refine K.b_alloc ?_ _) | (with_reducible refine K.b_drewN ?_ _) | (with_reducible refine K.b_drew ?_) | (with_reducible refine K.b_set ?_ (by first | omega | (simp <;> omega)) _) | (with_reducible refine K.b_only ?_ (by assumption) (by first | omega | (simp <;> omega)))))
set_option maxRecDepth 100000 in
set_option maxHeartbeats 4000000 in
theorem over_none (x : Cal) (s : Set) (tick draw : Int) (ps : List Int) (A : Option Addr) (n c : Nat) (A2 : Option Addr) (n2 c2 : Nat) (w : World) (hr : Sl.Rds w 8 A n (x.l.flatMap Att.cs)) (hr2 : Sl.Rds w 1 A2 n2 (ps.flatMap fun n => [.int .i64 n])) (h : eCall x s = 0) (ht : inB 0 268435456 tick = true) (hp : inAll 0 ((x.l.length : Int) - 1) ps = false) :
    Calls Try.prog 22 #[x.a A n c, s.a, .int .i64 tick, .int .u64 draw, .slice A2 n2 c2] w (CalPost w Cal.zero 71) := by
  obtain rfl := hr.length Att.cs_len (by omega)
  have h16 := ok_len h
  have GA := K.H.mk (fun (W : World) (hb : Below w.heap.size w W) => ask_ok x s A x.l.length c W (hr.below hb) h)
  have GI := K.H.mk (fun (W : World) (hb : Below w.heap.size w W) => in_c 0 ((x.l.length : Int) - 1) ps A2 n2 c2 W (hr2.below hb))
  rw [hp] at GI
  clear hr hr2 h hp
  
  
  go_enter Try.func22, Try.ntmps22
  go_wp2_with (first
    | (go_at_call 34; (with_reducible refine (GA.out _ (by repeat (first | (with_reducible exact Below.refl _ _) | (with_reducible refine K.b_bel ?_ (by assumption)) | (with_reducible refine K.b_alloc ?_ _) | (with_reducible refine K.b_drewN ?_ _) | (with_reducible refine K.b_drew ?_) | (with_reducible refine K.b_set ?_ (by first | omega | (simp <;> omega)) _) | (with_reducible refine K.b_only ?_ (by assumption) (by first | omega | (simp <;> omega)))))).mono ?_); rintro e W1 ⟨g, B1, d1, rfl, hg1, hA1, hown1, hb1⟩; obtain ⟨_, _, he1, hRd1⟩ := Sl.Rds.of_own hown1; cases he1; obtain ⟨hB1, hC1, hF1, hZ1⟩ := K.bel_facts hb1; clear hb1; have kR1 : K.At W1 (w.heap.size + 1 + 1) 26 #[.int .i64 0, .int .i64 0, .int .i64 0, .int .i64 0, .int .i64 0, .bool false, .int .i64 0, .int .i64 0, .int .i64 0, .slice none 0 0] := (by refine K.At.cast (by repeat (first | (with_reducible refine K.At.new' _ _ _ _ (by first | rfl | (simp; done) | omega)) | (with_reducible apply K.At.over hB1) | (with_reducible apply K.At.set) | (with_reducible apply K.At.alloc) | (with_reducible apply K.At.drewN) | (with_reducible apply K.At.drew) | (with_reducible apply K.At.far) | omega | (simp <;> omega))) ?_; rfl); obtain ⟨hc_kR1, hf_kR1, hl_kR1⟩ := K.At.facts kR1; obtain ⟨hc21, hf21, hl21⟩ := K.At.facts hA1)
    
    
    | (go_at_call 36; first | (go_at_call 36; (with_reducible refine (in_one 0 268435456 _ _ _ (K.At.new' _ _ _ _ (by simp))).mono ?_); rintro e W2 ⟨rfl, hb2⟩; obtain ⟨hB2, hC2, hF2, hZ2⟩ := K.bel_facts hb2; clear hb2; have kR2 : K.At W2 (w.heap.size + 1 + 1) 26 #[.int .i64 0, .int .i64 0, .int .i64 0, .int .i64 0, .int .i64 0, .bool false, .int .i64 0, .int .i64 0, .int .i64 0, .slice none 0 0] := (by refine K.At.cast (by repeat (first | (with_reducible exact kR1) | (with_reducible refine K.At.new' _ _ _ _ (by first | rfl | (simp; done) | omega)) | (with_reducible apply K.At.over hB2) | (with_reducible apply K.At.set) | (with_reducible apply K.At.alloc) | (with_reducible apply K.At.drewN) | (with_reducible apply K.At.drew) | (with_reducible apply K.At.far) | omega | (simp <;> omega))) ?_; rfl); obtain ⟨hc_kR2, hf_kR2, hl_kR2⟩ := K.At.facts kR2; clear hc_kR1 hf_kR1 hl_kR1; have hG2 : K.At W2 g 91 (akc x s B1 x.l.length d1) := (by refine K.At.cast (by repeat (first | (with_reducible exact hA1) | (with_reducible refine K.At.new' _ _ _ _ (by first | rfl | (simp; done) | omega)) | (with_reducible apply K.At.over hB2) | (with_reducible apply K.At.set) | (with_reducible apply K.At.alloc) | (with_reducible apply K.At.drewN) | (with_reducible apply K.At.drew) | (with_reducible apply K.At.far) | omega | (simp <;> omega))) ?_; rfl); obtain ⟨hc_hG2, hf_hG2, hl_hG2⟩ := K.At.facts hG2) | (go_at_call 36; (with_reducible refine (GI.out _ (by repeat (first | (with_reducible exact Below.refl _ _) | (with_reducible refine K.b_bel ?_ (by assumption)) | (with_reducible refine K.b_alloc ?_ _) | (with_reducible refine K.b_drewN ?_ _) | (with_reducible refine K.b_drew ?_) | (with_reducible refine K.b_set ?_ (by first | omega | (simp <;> omega)) _) | (with_reducible refine K.b_only ?_ (by assumption) (by first | omega | (simp <;> omega)))))).mono ?_); rintro e W3 ⟨rfl, hb3⟩; obtain ⟨hB3, hC3, hF3, hZ3⟩ := K.bel_facts hb3; clear hb3; have kR3 : K.At W3 (w.heap.size + 1 + 1) 26 #[.int .i64 0, .int .i64 0, .int .i64 0, .int .i64 0, .int .i64 0, .bool false, .int .i64 0, .int .i64 0, .int .i64 0, .slice none 0 0] := (by refine K.At.cast (by repeat (first | (with_reducible exact kR2) | (with_reducible refine K.At.new' _ _ _ _ (by first | rfl | (simp; done) | omega)) | (with_reducible apply K.At.over hB3) | (with_reducible apply K.At.set) | (with_reducible apply K.At.alloc) | (with_reducible apply K.At.drewN) | (with_reducible apply K.At.drew) | (with_reducible apply K.At.far) | omega | (simp <;> omega))) ?_; rfl); obtain ⟨hc_kR3, hf_kR3, hl_kR3⟩ := K.At.facts kR3; clear hc_kR2 hf_kR2 hl_kR2; have hG3 : K.At W3 g 91 (akc x s B1 x.l.length d1) := (by refine K.At.cast (by repeat (first | (with_reducible exact hG2) | (with_reducible refine K.At.new' _ _ _ _ (by first | rfl | (simp; done) | omega)) | (with_reducible apply K.At.over hB3) | (with_reducible apply K.At.set) | (with_reducible apply K.At.alloc) | (with_reducible apply K.At.drewN) | (with_reducible apply K.At.drew) | (with_reducible apply K.At.far) | omega | (simp <;> omega))) ?_; rfl); obtain ⟨hc_hG3, hf_hG3, hl_hG3⟩ := K.At.facts hG3; clear hc_hG2 hf_hG2 hl_hG2)))
  ((try simp only [Exit.inBlock, Exit.then]); refine bodyPost_ret (v := .tuple #[.agg #[.int .i64 0, .int .i64 0, .int .i64 0, .int .i64 0, .int .i64 0, .bool false, .int .i64 0, .int .i64 0, .int .i64 0, .slice none 0 0], .int .i64 71]) (by simp only [results, Try.results22]; go_simp) rfl ?_)
  exact zero_post (by repeat (first | (with_reducible exact Below.refl _ _) | (with_reducible refine K.b_bel ?_ (by assumption)) | (with_reducible refine K.b_alloc ?_ _) | (with_reducible refine K.b_drewN ?_ _) | (with_reducible refine K.b_drew ?_) | (with_reducible refine K.b_set ?_ (by first | omega | (simp <;> omega)) _) | (with_reducible refine K.b_only ?_ (by assumption) (by first | omega | (simp <;> omega)))))
end Go.Proofs.Ytfepjpjkamlneaa.Cl
