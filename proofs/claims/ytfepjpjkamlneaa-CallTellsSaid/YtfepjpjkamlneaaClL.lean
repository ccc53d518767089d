/- Calls: a call in memory of its own; what is to be done. -/
import Derived.Test.YtfepjpjkamlneaaClK
import Derived.Test.YtfepjpjkamlneaaCln
set_option linter.unusedVariables false
namespace Go.Proofs.Ytfepjpjkamlneaa.Cl
open Go.RowKit Go.Proofs.Ytfepjpjkamlneaa
attribute [local go_sem] K.max2_int K.min2_int K.max_two K.min_two K.max_three K.min_three
set_option linter.unusedSimpArgs false
set_option maxRecDepth 100000 in
set_option maxHeartbeats 2000000 in
theorem clone_c (cs : List Value) (A : Option Addr) (n c : Nat) (w : World) (hr : Sl.Rds w 8 A n cs) (h1 : ∀ u ∈ cs, u.oneCell' = true) (hn : n * 48 ≤ 140737488355328) :
    Calls Try.prog 54 #[.slice A n c] w fun e w' => (∃ v, e = .returned v ∧ w'.ownsRow w.heap.size 37 8 v n cs) ∧ Below w.heap.size w w' := by
  cases A with
  | none =>
    have hn0 : n = 0 := Nat.eq_zero_of_not_pos fun h => by obtain ⟨b, off, e, _⟩ := hr.at_ h; cases e
    subst hn0
    have hc0 : cs = [] := List.eq_nil_of_length_eq_zero (by have := hr.len; omega)
    subst hc0
    have hq := fun W => Lib.run_eql_slice_nil (P := Try.prog) W 24 37 none 0 c 0 0 Try.underlying24
    clear hr h1 hn
    go_enter Try.func54, Try.ntmps54
    go_wp2
    go_ret
    exact ⟨⟨_, rfl, World.ownsRow_nil _ _ _ _⟩, (by repeat (first | (with_reducible exact Below.refl _ _) | (with_reducible refine K.b_bel ?_ (by assumption)) | (with_reducible refine K.b_alloc ?_ _) | (with_reducible refine K.b_drewN ?_ _) | (with_reducible refine K.b_drew ?_) | (with_reducible refine K.b_set ?_ (by first | omega | (simp <;> omega)) _) | (with_reducible refine K.b_only ?_ (by assumption) (by first | omega | (simp <;> omega)))))⟩
  | some ad =>
    have hq := fun W => Lib.run_eql_slice_nil (P := Try.prog) W 24 37 (some ad) n c 0 0 Try.underlying24
    have Hr := K.H.mk hr
    have H1 := K.H.mk h1
    have Hn := K.H.mk hn
    clear hr h1 hn
    go_enter Try.func54, Try.ntmps54
    go_wp2_with (at_builtin; refine Sl.app_to (base := w.heap.size) (g := w.heap.size) rfl _ _ 24 37 (.agg #[.int .i64 0, .int .i64 0, .int .i64 0, .int .i64 0, .int .i64 0, .bool false, .bool false, .bool false]) 8 48 rfl Try.underlying24 (by kernel_rfl) rfl (by decide) (some ad) n c cs rfl (K.At.new' _ _ _ _ (by rfl)) (Nat.le_refl _) rfl (Hr.out.below (by repeat (first | (with_reducible exact Below.refl _ _) | (with_reducible refine K.b_bel ?_ (by assumption)) | (with_reducible refine K.b_alloc ?_ _) | (with_reducible refine K.b_drewN ?_ _) | (with_reducible refine K.b_drew ?_) | (with_reducible refine K.b_set ?_ (by first | omega | (simp <;> omega)) _) | (with_reducible refine K.b_only ?_ (by assumption) (by first | omega | (simp <;> omega)))))) H1.out Hn.out ?_; intro v W1 hown hb; have Hown := K.H.mk hown; have HB := K.Bel.mk hb; clear hown hb)
    go_ret
    exact ⟨⟨v, rfl, Hown.out⟩, (by repeat (first | (with_reducible exact Below.refl _ _) | (with_reducible refine K.b_bel ?_ (by assumption)) | (with_reducible refine K.b_alloc ?_ _) | (with_reducible refine K.b_drewN ?_ _) | (with_reducible refine K.b_drew ?_) | (with_reducible refine K.b_set ?_ (by first | omega | (simp <;> omega)) _) | (with_reducible refine K.b_only ?_ (by assumption) (by first | omega | (simp <;> omega)))))⟩
/-- What 'ask' hands back. -/
def AskBad (w : World) (y : Int) (e : Ending) (w' : World) : Prop := ∃ g, e = .returned (.tuple #[.pointer (some ⟨g, 0, none⟩), .int .i64 y]) ∧ Below w.heap.size w w'
def AskOk (w : World) (x : Cal) (s : Set) (n : Nat) (e : Ending) (w' : World) : Prop := ∃ g B d, e = .returned (.tuple #[.pointer (some ⟨g, 0, none⟩), .int .i64 0]) ∧ w.heap.size ≤ g ∧ K.At w' g 91 (akc x s B n d) ∧ w'.ownsRow w.heap.size 37 8 (.slice B n d) n (x.l.flatMap Att.cs) ∧ Below w.heap.size w w'
theorem one_att (l : List Att) : ∀ u ∈ l.flatMap Att.cs, u.oneCell' = true := fun u hu => by
  obtain ⟨a, _, h⟩ := List.mem_flatMap.1 hu
  simp [Att.cs] at h
  rcases h with h | h | h | h | h | h | h | h <;> (subst h; rfl)
theorem ok_len {x : Cal} {s : Set} (h : eCall x s = 0) : x.l.length ≤ 16 := by
  obtain ⟨h1, h2⟩ := eCall_ok h
  unfold fineB at h2
  rw [Bool.and_eq_true, decide_eq_true_eq] at h2
  have h3 := h2.1.2.2.2.2.2.2
  unfold Set.ok at h1
  omega
theorem ok_at {x : Cal} {s : Set} (h : eCall x s = 0) {k : Nat} (hk : k < x.l.length) : okI x k = true := by
  obtain ⟨h1, h2⟩ := eCall_ok h
  unfold fineB at h2
  rw [Bool.and_eq_true] at h2
  exact allOk_at h2.2 hk
theorem ok_head {x : Cal} {s : Set} (h : eCall x s = 0) : headP x s := by
  obtain ⟨h1, h2⟩ := eCall_ok h
  unfold fineB at h2
  rw [Bool.and_eq_true, decide_eq_true_eq] at h2
  exact h2.1
theorem okI_t {x : Cal} {k : Nat} {a : Att} (h : okI x k = true) (ha : x.l[k]? = some a) : lastI x k ≤ a.t ∧ a.t ≤ 536870912 := by
  unfold okI okA at h
  rw [getD_some ha] at h
  simp only [Bool.and_eq_true] at h
  exact inB_t.1 h.1.1.2
theorem ok_t {x : Cal} {s : Set} (h : eCall x s = 0) : ∀ (k : Nat) (a : Att), x.l[k]? = some a → x.at_ ≤ a.t ∧ a.t ≤ 536870912
  | 0, a, ha => by
    have := okI_t (ok_at h (List.getElem?_eq_some_iff.1 ha).1) ha
    unfold lastI at this
    rwa [if_pos rfl] at this
  | k + 1, a, ha => by
    have hk := (List.getElem?_eq_some_iff.1 ha).1
    have h1 := okI_t (ok_at h hk) ha
    have hb : x.l[k]? = some x.l[k] := List.getElem?_eq_getElem (by omega)
    have h2 := ok_t h k _ hb
    unfold lastI at h1
    rw [if_neg (by omega), show k + 1 - 1 = k by omega, getD_some hb] at h1
    omega
theorem ok_lastT {x : Cal} {s : Set} (h : eCall x s = 0) (hp : 0 < x.l.length) : 0 ≤ lastT x := by
  have hb : x.l[x.l.length - 1]? = some x.l[x.l.length - 1] := List.getElem?_eq_getElem (by omega)
  have h2 := ok_t h _ _ hb
  have h3 := (ok_head h).2.2.2.1
  unfold lastT
  rw [getD_some hb]
  omega
set_option maxRecDepth 100000 in
set_option maxHeartbeats 4000000 in
theorem ask_bad (x : Cal) (s : Set) (A : Option Addr) (n c : Nat) (w : World) (hr : Sl.Rds w 8 A n (x.l.flatMap Att.cs)) (h : eCall x s ≠ 0) : Calls Try.prog 34 #[x.a A n c, s.a] w (AskBad w (eCall x s)) := by
  have GC := K.H.mk (fun (W : World) (hb : Below w.heap.size w W) => Check_c x s A n c W (hr.below hb))
  have hd : (eCall x s != 0) = true := by simpa using h
  generalize eCall x s = y at *
  clear hr h
  go_enter Try.func34, Try.ntmps34
  go_wp2_with (first | (go_at_call 21; (with_reducible refine (GC.out _ (by repeat (first | (with_reducible exact Below.refl _ _) | (with_reducible refine K.b_bel ?_ (by assumption)) | (with_reducible refine K.b_alloc ?_ _) | (with_reducible refine K.b_drewN ?_ _) | (with_reducible refine K.b_drew ?_) | (with_reducible refine K.b_set ?_ (by first | omega | (simp <;> omega)) _) | (with_reducible refine K.b_only ?_ (by assumption) (by first | omega | (simp <;> omega)))))).mono ?_); rintro e W1 ⟨rfl, hb1⟩; obtain ⟨hB1, hC1, hF1, hZ1⟩ := K.bel_facts hb1; clear hb1; have hZZ := hZ1; (try simp at hZZ); have hz1_0 : w.heap.size < W1.heap.size := (by omega); have hz1_1 : w.heap.size + 1 < W1.heap.size := (by omega); clear hZZ))
  go_ret2
  exact ⟨_, rfl, (by repeat (first | (with_reducible exact Below.refl _ _) | (with_reducible refine K.b_bel ?_ (by assumption)) | (with_reducible refine K.b_alloc ?_ _) | (with_reducible refine K.b_drewN ?_ _) | (with_reducible refine K.b_drew ?_) | (with_reducible refine K.b_set ?_ (by first | omega | (simp <;> omega)) _) | (with_reducible refine K.b_only ?_ (by assumption) (by first | omega | (simp <;> omega)))))⟩
set_option maxRecDepth 100000 in
set_option maxHeartbeats 4000000 in
theorem ask_ok (x : Cal) (s : Set) (A : Option Addr) (n c : Nat) (w : World) (hr : Sl.Rds w 8 A n (x.l.flatMap Att.cs)) (h : eCall x s = 0) : Calls Try.prog 34 #[x.a A n c, s.a] w (AskOk w x s n) := by
  have hlen := hr.length Att.cs_len (by omega)
  have h16 := ok_len h
  have GC := K.H.mk (fun (W : World) (hb : Below w.heap.size w W) => Check_c x s A n c W (hr.below hb))
  have GL := K.H.mk (fun (W : World) (hb : Below w.heap.size w W) => clone_c (x.l.flatMap Att.cs) A n c W (hr.below hb) (one_att _) (by omega))
  rw [h] at GC
  clear hr h hlen
  
  
  
  go_enter Try.func34, Try.ntmps34
  go_wp2_with (first
    | (go_at_call 21; (with_reducible refine (GC.out _ (by repeat (first | (with_reducible exact Below.refl _ _) | (with_reducible refine K.b_bel ?_ (by assumption)) | (with_reducible refine K.b_alloc ?_ _) | (with_reducible refine K.b_drewN ?_ _) | (with_reducible refine K.b_drew ?_) | (with_reducible refine K.b_set ?_ (by first | omega | (simp <;> omega)) _) | (with_reducible refine K.b_only ?_ (by assumption) (by first | omega | (simp <;> omega)))))).mono ?_); rintro e W1 ⟨rfl, hb1⟩; obtain ⟨hB1, hC1, hF1, hZ1⟩ := K.bel_facts hb1; clear hb1; have kX1 : K.At W1 w.heap.size 26 (x.c A n c) := (by refine K.At.cast (by repeat (first | (with_reducible refine K.At.new' _ _ _ _ (by first | rfl | (simp; done) | omega)) | (with_reducible apply K.At.over hB1) | (with_reducible apply K.At.set) | (with_reducible apply K.At.alloc) | (with_reducible apply K.At.drewN) | (with_reducible apply K.At.drew) | (with_reducible apply K.At.far) | omega | (simp <;> omega))) ?_; rfl); obtain ⟨hc_kX1, hf_kX1, hl_kX1⟩ := K.At.facts kX1; have kS1 : K.At W1 (w.heap.size + 1) 30 s.c := (by refine K.At.cast (by repeat (first | (with_reducible refine K.At.new' _ _ _ _ (by first | rfl | (simp; done) | omega)) | (with_reducible apply K.At.over hB1) | (with_reducible apply K.At.set) | (with_reducible apply K.At.alloc) | (with_reducible apply K.At.drewN) | (with_reducible apply K.At.drew) | (with_reducible apply K.At.far) | omega | (simp <;> omega))) ?_; rfl); obtain ⟨hc_kS1, hf_kS1, hl_kS1⟩ := K.At.facts kS1)
    | (go_at_call 54; (with_reducible refine (GL.out _ (by repeat (first | (with_reducible exact Below.refl _ _) | (with_reducible refine K.b_bel ?_ (by assumption)) | (with_reducible refine K.b_alloc ?_ _) | (with_reducible refine K.b_drewN ?_ _) | (with_reducible refine K.b_drew ?_) | (with_reducible refine K.b_set ?_ (by first | omega | (simp <;> omega)) _) | (with_reducible refine K.b_only ?_ (by assumption) (by first | omega | (simp <;> omega)))))).mono ?_); rintro e W2 ⟨⟨v2, rfl, hown2⟩, hb2⟩; obtain ⟨B2, d2, rfl, hR2⟩ := Sl.Rds.of_own hown2; have Hown2 := K.H.mk hown2; clear hown2 hR2; obtain ⟨hB2, hC2, hF2, hZ2⟩ := K.bel_facts hb2; clear hb2; have kX2 : K.At W2 w.heap.size 26 (x.c A n c) := (by refine K.At.cast (by repeat (first | (with_reducible exact kX1) | (with_reducible refine K.At.new' _ _ _ _ (by first | rfl | (simp; done) | omega)) | (with_reducible apply K.At.over hB2) | (with_reducible apply K.At.set) | (with_reducible apply K.At.alloc) | (with_reducible apply K.At.drewN) | (with_reducible apply K.At.drew) | (with_reducible apply K.At.far) | omega | (simp <;> omega))) ?_; rfl); obtain ⟨hc_kX2, hf_kX2, hl_kX2⟩ := K.At.facts kX2; clear hc_kX1 hf_kX1 hl_kX1; have kS2 : K.At W2 (w.heap.size + 1) 30 s.c := (by refine K.At.cast (by repeat (first | (with_reducible exact kS1) | (with_reducible refine K.At.new' _ _ _ _ (by first | rfl | (simp; done) | omega)) | (with_reducible apply K.At.over hB2) | (with_reducible apply K.At.set) | (with_reducible apply K.At.alloc) | (with_reducible apply K.At.drewN) | (with_reducible apply K.At.drew) | (with_reducible apply K.At.far) | omega | (simp <;> omega))) ?_; rfl); obtain ⟨hc_kS2, hf_kS2, hl_kS2⟩ := K.At.facts kS2; clear hc_kS1 hf_kS1 hl_kS1))
  have hq := Sl.own_ne Hown2.out kX2 (by decide)
  have hb2 : w.heap.size ≤ W2.heap.size := by have := kX2.lt; omega
  go_ret2
  refine ⟨W2.heap.size, B2, d2, rfl, hb2, (by refine K.At.cast (by repeat (first | (with_reducible refine K.At.new' _ _ _ _ (by first | rfl | (simp; done) | omega)) | (with_reducible apply K.At.set) | (with_reducible apply K.At.alloc) | (with_reducible apply K.At.drewN) | (with_reducible apply K.At.drew) | (with_reducible apply K.At.far) | omega | (simp <;> omega))) ?_; rfl), (Sl.own_set (Sl.own_low Hown2.out ?_) hq _).alloc _, (by repeat (first | (with_reducible exact Below.refl _ _) | (with_reducible refine K.b_bel ?_ (by assumption)) | (with_reducible refine K.b_alloc ?_ _) | (with_reducible refine K.b_drewN ?_ _) | (with_reducible refine K.b_drew ?_) | (with_reducible refine K.b_set ?_ (by first | omega | (simp <;> omega)) _) | (with_reducible refine K.b_only ?_ (by assumption) (by first | omega | (simp <;> omega)))))⟩
  have := hB1.out.size
  simp at this
  omega
def ePlan (x : Cal) (s : Set) : Int := eCall x s
def oPlan (x : Cal) (s : Set) (tick wait : Int) : Int := if eCall x s = 0 then planF x s tick wait else 0
set_option maxRecDepth 100000 in
set_option maxHeartbeats 4000000 in
theorem Plan_c (x : Cal) (s : Set) (tick wait : Int) (A : Option Addr) (n c : Nat) (w : World) (hr : Sl.Rds w 8 A n (x.l.flatMap Att.cs)) (ht : tick ≤ 9223372036854775807) :
    Calls Try.prog 11 #[x.a A n c, s.a, .int .i64 tick, .int .i64 wait] w fun e w' => e = .returned (.tuple #[.int .i64 (oPlan x s tick wait), .int .i64 (eCall x s)]) ∧ Below w.heap.size w w' := by
  have hlen := hr.length Att.cs_len (by omega)
  by_cases h : eCall x s = 0
  · have GA := K.H.mk (fun (W : World) (hb : Below w.heap.size w W) => ask_ok x s A n c W (hr.below hb) h)
    have h16 := ok_len h
    have hl := ok_lastT h
    unfold oPlan
    rw [if_pos h, h]
    have GP := K.H.mk (fun (W : World) (g : Nat) (B : Option Addr) (d : Nat) hg hr2 => plan_c x s tick wait g B n d W hg hr2 (by omega) hl ht)
    generalize planF x s tick wait = y at *
    clear hr h h16 hl hlen
    go_enter Try.func11, Try.ntmps11
    go_wp2_with (first
      | (go_at_call 34; (with_reducible refine (GA.out _ (by repeat (first | (with_reducible exact Below.refl _ _) | (with_reducible refine K.b_bel ?_ (by assumption)) | (with_reducible refine K.b_alloc ?_ _) | (with_reducible refine K.b_drewN ?_ _) | (with_reducible refine K.b_drew ?_) | (with_reducible refine K.b_set ?_ (by first | omega | (simp <;> omega)) _) | (with_reducible refine K.b_only ?_ (by assumption) (by first | omega | (simp <;> omega)))))).mono ?_); rintro e W1 ⟨g1, B1, d1, rfl, hg1, hA1, hown1, hb1⟩; obtain ⟨B1x, d1x, he1, hR1⟩ := Sl.Rds.of_own hown1; cases he1; clear hown1; obtain ⟨hB1, hC1, hF1, hZ1⟩ := K.bel_facts hb1; clear hb1)
      | (go_at_call 35; (with_reducible refine (GP.out _ _ _ _ hA1 hR1).mono ?_); rintro e W2 ⟨rfl, hb2⟩; obtain ⟨hB2, hC2, hF2, hZ2⟩ := K.bel_facts hb2; clear hb2))
    go_ret2
    exact ⟨rfl, (by repeat (first | (with_reducible exact Below.refl _ _) | (with_reducible refine K.b_bel ?_ (by assumption)) | (with_reducible refine K.b_alloc ?_ _) | (with_reducible refine K.b_drewN ?_ _) | (with_reducible refine K.b_drew ?_) | (with_reducible refine K.b_set ?_ (by first | omega | (simp <;> omega)) _) | (with_reducible refine K.b_only ?_ (by assumption) (by first | omega | (simp <;> omega)))))⟩
  · have GA := K.H.mk (fun (W : World) (hb : Below w.heap.size w W) => ask_bad x s A n c W (hr.below hb) h)
    have hd : (eCall x s != 0) = true := by simpa using h
    unfold oPlan
    rw [if_neg h]
    generalize eCall x s = y at *
    clear hr h
    go_enter Try.func11, Try.ntmps11
    go_wp2_with (first
      | (go_at_call 34; (with_reducible refine (GA.out _ (by repeat (first | (with_reducible exact Below.refl _ _) | (with_reducible refine K.b_bel ?_ (by assumption)) | (with_reducible refine K.b_alloc ?_ _) | (with_reducible refine K.b_drewN ?_ _) | (with_reducible refine K.b_drew ?_) | (with_reducible refine K.b_set ?_ (by first | omega | (simp <;> omega)) _) | (with_reducible refine K.b_only ?_ (by assumption) (by first | omega | (simp <;> omega)))))).mono ?_); rintro e W1 ⟨g1, rfl, hb1⟩; obtain ⟨hB1, hC1, hF1, hZ1⟩ := K.bel_facts hb1; clear hb1))
    go_ret2
    exact ⟨rfl, (by repeat (first | (with_reducible exact Below.refl _ _) | (with_reducible refine K.b_bel ?_ (by assumption)) | (with_reducible refine K.b_alloc ?_ _) | (with_reducible refine K.b_drewN ?_ _) | (with_reducible refine K.b_drew ?_) | (with_reducible refine K.b_set ?_ (by first | omega | (simp <;> omega)) _) | (with_reducible refine K.b_only ?_ (by assumption) (by first | omega | (simp <;> omega)))))⟩
end Go.Proofs.Ytfepjpjkamlneaa.Cl
