/- Calls: the reference's Over. -/
import Derived.Test.YtfepjpjkamlneaaClZ2
set_option linter.unusedVariables false
namespace Go.Proofs.Ytfepjpjkamlneaa.Cl
open Go.RowKit Go.Proofs.Ytfepjpjkamlneaa
attribute [local go_sem] K.max2_int K.min2_int K.max_two K.min_two K.max_three K.min_three
set_option linter.unusedSimpArgs false
set_option maxRecDepth 100000 in
set_option maxHeartbeats 4000000 in
theorem rOver_bad (x : Cal) (s : Set) (tick draw : Int) (v : Value) (A : Option Addr) (n c : Nat) (w : World) (hr : Sl.Rds w 8 A n (x.l.flatMap Att.cs)) (h : eCall x s ≠ 0) : Calls Try.prog 27 #[x.a A n c, s.a, .int .i64 tick, .int .u64 draw, v] w (CalPost w Cal.zero (eCall x s)) := by
  have GA := K.H.mk (fun (W : World) (hb : Below w.heap.size w W) => rCheck_c x s A n c W (hr.below hb))
  have hd : (eCall x s != 0) = true := by simpa using h
  generalize eCall x s = y at *
  clear hr h
  
  
  go_enter Try.func27, Try.ntmps27
  go_wp2_with (first | (go_at_call 31; (with_reducible refine (GA.out _ (by repeat (first | (with_reducible exact Below.refl _ _) | (with_reducible refine K.b_bel ?_ (by assumption)) | (with_reducible refine K.b_alloc ?_ _) | (with_reducible refine K.b_drewN ?_ _) | (with_reducible refine K.b_drew ?_) | (with_reducible refine K.b_set ?_ (by first | omega | (simp <;> omega)) _) | (with_reducible refine K.b_only ?_ (by assumption) (by first | omega | (simp <;> omega)))))).mono ?_); rintro e W1 ⟨rfl, hb1⟩; obtain ⟨hB1, hC1, hF1, hZ1⟩ := K.bel_facts hb1; clear hb1; have kR1 : K.At W1 (w.heap.size + 1 + 1) 26 #[.int .i64 0, .int .i64 0, .int .i64 0, .int .i64 0, .int .i64 0, .bool false, .int .i64 0, .int .i64 0, .int .i64 0, .slice none 0 0] := (by refine K.At.cast (by repeat (first | (with_reducible refine K.At.new' _ _ _ _ (by first | rfl | (simp; done) | omega)) | (with_reducible apply K.At.over hB1) | (with_reducible apply K.At.set) | (with_reducible apply K.At.alloc) | (with_reducible apply K.At.drewN) | (with_reducible apply K.At.drew) | (with_reducible apply K.At.far) | omega | (simp <;> omega))) ?_; rfl); obtain ⟨hc_kR1, hf_kR1, hl_kR1⟩ := K.At.facts kR1))
  ((try simp only [Exit.inBlock, Exit.then]); refine bodyPost_ret (v := .tuple #[.agg #[.int .i64 0, .int .i64 0, .int .i64 0, .int .i64 0, .int .i64 0, .bool false, .int .i64 0, .int .i64 0, .int .i64 0, .slice none 0 0], .int .i64 y]) (by simp only [results, Try.results27]; go_simp) rfl ?_)
  exact zero_post (by repeat (first | (with_reducible exact Below.refl _ _) | (with_reducible refine K.b_bel ?_ (by assumption)) | (with_reducible refine K.b_alloc ?_ _) | (with_reducible refine K.b_drewN ?_ _) | (with_reducible refine K.b_drew ?_) | (with_reducible refine K.b_set ?_ (by first | omega | (simp <;> omega)) _) | (with_reducible refine K.b_only ?_ (by assumption) (by first | omega | (simp <;> omega)))))
set_option maxRecDepth 100000 in
set_option maxHeartbeats 4000000 in
theorem rOver_tick (x : Cal) (s : Set) (tick draw : Int) (v : Value) (A : Option Addr) (n c : Nat) (w : World) (hr : Sl.Rds w 8 A n (x.l.flatMap Att.cs)) (h : eCall x s = 0) (ht : inB 0 268435456 tick = false) : Calls Try.prog 27 #[x.a A n c, s.a, .int .i64 tick, .int .u64 draw, v] w (CalPost w Cal.zero 4) := by
  have GA := K.H.mk (fun (W : World) (hb : Below w.heap.size w W) => rCheck_c x s A n c W (hr.below hb))
  rw [h] at GA
  have ht2 := inB_f.1 ht
  have hd : decide (tick < 0) = true ∨ (decide (tick < 0) = false ∧ decide (268435456 < tick) = true) := by
    by_cases h0 : tick < 0
    · exact .inl (by simpa using h0)
    · exact .inr ⟨by simpa using h0, by simp; omega⟩
  clear hr h ht ht2
  
  
  rcases hd with d1 | ⟨d1, d2⟩
  all_goals
    go_enter Try.func27, Try.ntmps27
    go_wp2_with (first | (go_at_call 31; (with_reducible refine (GA.out _ (by repeat (first | (with_reducible exact Below.refl _ _) | (with_reducible refine K.b_bel ?_ (by assumption)) | (with_reducible refine K.b_alloc ?_ _) | (with_reducible refine K.b_drewN ?_ _) | (with_reducible refine K.b_drew ?_) | (with_reducible refine K.b_set ?_ (by first | omega | (simp <;> omega)) _) | (with_reducible refine K.b_only ?_ (by assumption) (by first | omega | (simp <;> omega)))))).mono ?_); rintro e W1 ⟨rfl, hb1⟩; obtain ⟨hB1, hC1, hF1, hZ1⟩ := K.bel_facts hb1; clear hb1; have kR1 : K.At W1 (w.heap.size + 1 + 1) 26 #[.int .i64 0, .int .i64 0, .int .i64 0, .int .i64 0, .int .i64 0, .bool false, .int .i64 0, .int .i64 0, .int .i64 0, .slice none 0 0] := (by refine K.At.cast (by repeat (first | (with_reducible refine K.At.new' _ _ _ _ (by first | rfl | (simp; done) | omega)) | (with_reducible apply K.At.over hB1) | (with_reducible apply K.At.set) | (with_reducible apply K.At.alloc) | (with_reducible apply K.At.drewN) | (with_reducible apply K.At.drew) | (with_reducible apply K.At.far) | omega | (simp <;> omega))) ?_; rfl); obtain ⟨hc_kR1, hf_kR1, hl_kR1⟩ := K.At.facts kR1))
    ((try simp only [Exit.inBlock, Exit.then]); refine bodyPost_ret (v := .tuple #[.agg #[.int .i64 0, .int .i64 0, .int .i64 0, .int .i64 0, .int .i64 0, .bool false, .int .i64 0, .int .i64 0, .int .i64 0, .slice none 0 0], .int .i64 4]) (by simp only [results, Try.results27]; go_simp) rfl ?_)
    exact zero_post (by repeat (first | (with_reducible exact Below.refl _ _) | (with_reducible refine K.b_bel ?_ (by assumption)) | (with_reducible refine K.b_alloc ?_ _) | (with_reducible refine K.b_drewN ?_ _) | (with_reducible refine K.b_drew ?_) | (with_reducible refine K.b_set ?_ (by first | omega | (simp <;> omega)) _) | (with_reducible refine K.b_only ?_ (by assumption) (by first | omega | (simp <;> omega)))))
theorem overF_71 {x : Cal} {s : Set} {tick draw : Int} {ps : List Int} (ht : inB 0 268435456 tick = true) (hp : inAll 0 ((x.l.length : Int) - 1) ps = false) : overF x s tick draw ps = (Cal.zero, 71) := by
  unfold overF; rw [if_neg (by rw [ht]; decide), if_pos hp]
theorem inAll_f {f t : Int} {ps : List Int} {k : Nat} {p : Int} (hp : ps[k]? = some p) (h : p < f ∨ t < p) : inAll f t ps = false := by
  unfold inAll Sl.anyOf
  rw [Bool.not_eq_false', List.any_eq_true]
  exact ⟨p, List.mem_of_getElem? hp, bad_t.2 h⟩
theorem inAll_t {f t : Int} {ps : List Int} (h : ∀ (k : Nat) (p : Int), ps[k]? = some p → f ≤ p ∧ p ≤ t) : inAll f t ps = true := by
  unfold inAll Sl.anyOf
  rw [Bool.not_eq_true', List.any_eq_false]
  intro p hp
  obtain ⟨k, hk⟩ := List.getElem?_of_mem hp
  have := h k p hk
  rw [Bool.not_eq_true, bad_f]; omega
set_option maxRecDepth 100000 in
set_option maxHeartbeats 8000000 in
theorem rOver_ok (x : Cal) (s : Set) (tick draw : Int) (ps : List Int) (A : Option Addr) (n c : Nat) (A2 : Option Addr) (n2 c2 : Nat) (w : World) (hr : Sl.Rds w 8 A n (x.l.flatMap Att.cs)) (hr2 : Sl.Rds w 1 A2 n2 (ps.flatMap fun n => [.int .i64 n])) (h : eCall x s = 0) (ht : inB 0 268435456 tick = true) (dr0 : 0 ≤ draw) (dr1 : draw < 18446744073709551616) :
    Calls Try.prog 27 #[x.a A n c, s.a, .int .i64 tick, .int .u64 draw, .slice A2 n2 c2] w (CalPost w (overF x s tick draw ps).1 (overF x s tick draw ps).2) := by
  obtain rfl := hr.length Att.cs_len (by omega)
  obtain rfl := hr2.length (fun _ => rfl) (by omega)
  have hle := hr2.le
  have h16 := ok_len h
  have htk := inB_t.1 ht
  have GA := K.H.mk (fun (W : World) (hb : Below w.heap.size w W) => rCheck_c x s A x.l.length c W (hr.below hb))
  rw [h] at GA
  have GO := K.H.mk (fun (W : World) (hb : Below w.heap.size w W) => rOwn_c x A x.l.length c W (hr.below hb) (by omega))
  have Hr2 := K.H.mk hr2
  obtain ⟨P, hP⟩ : ∃ P, P = overF x s tick draw ps := ⟨_, rfl⟩
  have HF := K.H.mk (fun hp : inAll 0 ((x.l.length : Int) - 1) ps = true => hP.trans (show overF x s tick draw ps = if nO (markC x ps) = 0 ∧ 0 < x.l.length then ({ markC x ps with nx := tick + Bof.oDelay s.bo x.l.length draw }, 0) else (markC x ps, 0) by unfold overF; rw [if_neg (by rw [ht]; decide), if_neg (by rw [hp]; decide)]))
  have H71 := K.H.mk (fun hp : inAll 0 ((x.l.length : Int) - 1) ps = false => hP.trans (overF_71 ht hp))
  rw [← hP]
  have t1 : decide (tick < 0) = false := by simp; omega
  have t2 : decide (268435456 < tick) = false := by simp; omega
  clear hr hr2 h hP ht
  
  
  
  
  go_enter Try.func27, Try.ntmps27
  go_wp2_with (first
    | (go_at_call 31; (with_reducible refine (GA.out _ (by repeat (first | (with_reducible exact Below.refl _ _) | (with_reducible refine K.b_bel ?_ (by assumption)) | (with_reducible refine K.b_alloc ?_ _) | (with_reducible refine K.b_drewN ?_ _) | (with_reducible refine K.b_drew ?_) | (with_reducible refine K.b_set ?_ (by first | omega | (simp <;> omega)) _) | (with_reducible refine K.b_only ?_ (by assumption) (by first | omega | (simp <;> omega)))))).mono ?_); rintro e W1 ⟨rfl, hb1⟩; obtain ⟨hB1, hC1, hF1, hZ1⟩ := K.bel_facts hb1; clear hb1; have kX1 : K.At W1 w.heap.size 26 (x.c A x.l.length c) := (by refine K.At.cast (by repeat (first | (with_reducible refine K.At.new' _ _ _ _ (by first | rfl | (simp; done) | omega)) | (with_reducible apply K.At.over hB1) | (with_reducible apply K.At.set) | (with_reducible apply K.At.alloc) | (with_reducible apply K.At.drewN) | (with_reducible apply K.At.drew) | (with_reducible apply K.At.far) | omega | (simp <;> omega))) ?_; rfl); obtain ⟨hc_kX1, hf_kX1, hl_kX1⟩ := K.At.facts kX1; have kS1 : K.At W1 (w.heap.size + 1) 30 s.c := (by refine K.At.cast (by repeat (first | (with_reducible refine K.At.new' _ _ _ _ (by first | rfl | (simp; done) | omega)) | (with_reducible apply K.At.over hB1) | (with_reducible apply K.At.set) | (with_reducible apply K.At.alloc) | (with_reducible apply K.At.drewN) | (with_reducible apply K.At.drew) | (with_reducible apply K.At.far) | omega | (simp <;> omega))) ?_; rfl); obtain ⟨hc_kS1, hf_kS1, hl_kS1⟩ := K.At.facts kS1; have kR1 : K.At W1 (w.heap.size + 1 + 1) 26 #[.int .i64 0, .int .i64 0, .int .i64 0, .int .i64 0, .int .i64 0, .bool false, .int .i64 0, .int .i64 0, .int .i64 0, .slice none 0 0] := (by refine K.At.cast (by repeat (first | (with_reducible refine K.At.new' _ _ _ _ (by first | rfl | (simp; done) | omega)) | (with_reducible apply K.At.over hB1) | (with_reducible apply K.At.set) | (with_reducible apply K.At.alloc) | (with_reducible apply K.At.drewN) | (with_reducible apply K.At.drew) | (with_reducible apply K.At.far) | omega | (simp <;> omega))) ?_; rfl); obtain ⟨hc_kR1, hf_kR1, hl_kR1⟩ := K.At.facts kR1)
    | (go_at_call 25; (with_reducible refine (GO.out _ (by repeat (first | (with_reducible exact Below.refl _ _) | (with_reducible refine K.b_bel ?_ (by assumption)) | (with_reducible refine K.b_alloc ?_ _) | (with_reducible refine K.b_drewN ?_ _) | (with_reducible refine K.b_drew ?_) | (with_reducible refine K.b_set ?_ (by first | omega | (simp <;> omega)) _) | (with_reducible refine K.b_only ?_ (by assumption) (by first | omega | (simp <;> omega)))))).mono ?_); rintro e W2 ⟨B1, d1, rfl, hown1, hb2⟩; obtain ⟨hB2, hC2, hF2, hZ2⟩ := K.bel_facts hb2; clear hb2; have kX2 : K.At W2 w.heap.size 26 (x.c A x.l.length c) := (by refine K.At.cast (by repeat (first | (with_reducible exact kX1) | (with_reducible refine K.At.new' _ _ _ _ (by first | rfl | (simp; done) | omega)) | (with_reducible apply K.At.over hB2) | (with_reducible apply K.At.set) | (with_reducible apply K.At.alloc) | (with_reducible apply K.At.drewN) | (with_reducible apply K.At.drew) | (with_reducible apply K.At.far) | omega | (simp <;> omega))) ?_; rfl); obtain ⟨hc_kX2, hf_kX2, hl_kX2⟩ := K.At.facts kX2; clear hc_kX1 hf_kX1 hl_kX1; have kS2 : K.At W2 (w.heap.size + 1) 30 s.c := (by refine K.At.cast (by repeat (first | (with_reducible exact kS1) | (with_reducible refine K.At.new' _ _ _ _ (by first | rfl | (simp; done) | omega)) | (with_reducible apply K.At.over hB2) | (with_reducible apply K.At.set) | (with_reducible apply K.At.alloc) | (with_reducible apply K.At.drewN) | (with_reducible apply K.At.drew) | (with_reducible apply K.At.far) | omega | (simp <;> omega))) ?_; rfl); obtain ⟨hc_kS2, hf_kS2, hl_kS2⟩ := K.At.facts kS2; clear hc_kS1 hf_kS1 hl_kS1; have kR2 : K.At W2 (w.heap.size + 1 + 1) 26 #[.int .i64 0, .int .i64 0, .int .i64 0, .int .i64 0, .int .i64 0, .bool false, .int .i64 0, .int .i64 0, .int .i64 0, .slice none 0 0] := (by refine K.At.cast (by repeat (first | (with_reducible exact kR1) | (with_reducible refine K.At.new' _ _ _ _ (by first | rfl | (simp; done) | omega)) | (with_reducible apply K.At.over hB2) | (with_reducible apply K.At.set) | (with_reducible apply K.At.alloc) | (with_reducible apply K.At.drewN) | (with_reducible apply K.At.drew) | (with_reducible apply K.At.far) | omega | (simp <;> omega))) ?_; rfl); obtain ⟨hc_kR2, hf_kR2, hl_kR2⟩ := K.At.facts kR2; clear hc_kR1 hf_kR1 hl_kR1))
  obtain ⟨g, hg⟩ : ∃ g, g = W2.heap.size := ⟨_, rfl⟩
  have hz1 := kR1.lt
  have hz2 := kR2.lt
  refine K.wp_gen (fun W => K.At W (w.heap.size + 1) 30 s.c ∧ K.At W (w.heap.size + 1 + 1) 26 #[.int .i64 0, .int .i64 0, .int .i64 0, .int .i64 0, .int .i64 0, .bool false, .int .i64 0, .int .i64 0, .int .i64 0, .slice none 0 0] ∧ K.At W W2.heap.size 26 (x.c B1 x.l.length d1) ∧ W.ownsRow w.heap.size 37 8 (.slice B1 x.l.length d1) x.l.length (x.l.flatMap Att.cs) ∧ Below w.heap.size w W) ⟨(by refine K.At.cast (by repeat (first | (with_reducible exact kS2) | (with_reducible refine K.At.new' _ _ _ _ (by first | rfl | (simp; done) | omega)) | (with_reducible apply K.At.set) | (with_reducible apply K.At.alloc) | (with_reducible apply K.At.drewN) | (with_reducible apply K.At.drew) | (with_reducible apply K.At.far) | omega | (simp <;> omega))) ?_; rfl), (by refine K.At.cast (by repeat (first | (with_reducible exact kR2) | (with_reducible refine K.At.new' _ _ _ _ (by first | rfl | (simp; done) | omega)) | (with_reducible apply K.At.set) | (with_reducible apply K.At.alloc) | (with_reducible apply K.At.drewN) | (with_reducible apply K.At.drew) | (with_reducible apply K.At.far) | omega | (simp <;> omega))) ?_; rfl), (by refine K.At.cast (by repeat (first | (with_reducible refine K.At.new' _ _ _ _ (by first | rfl | (simp; done) | omega)) | (with_reducible apply K.At.set) | (with_reducible apply K.At.alloc) | (with_reducible apply K.At.drewN) | (with_reducible apply K.At.drew) | (with_reducible apply K.At.far) | omega | (simp <;> omega))) ?_; rfl), ?_, (by repeat (first | (with_reducible exact Below.refl _ _) | (with_reducible refine K.b_bel ?_ (by assumption)) | (with_reducible refine K.b_alloc ?_ _) | (with_reducible refine K.b_drewN ?_ _) | (with_reducible refine K.b_drew ?_) | (with_reducible refine K.b_set ?_ (by first | omega | (simp <;> omega)) _) | (with_reducible refine K.b_only ?_ (by assumption) (by first | omega | (simp <;> omega)))))⟩ ?_
  · have hq : (Value.slice B1 x.l.length d1).ownBlock ≠ some W2.heap.size := fun e => by have := (hown1.lt _ e).2; omega
    repeat (first | (with_reducible refine Sl.own_set ?_ hq _) | (with_reducible refine World.ownsRow.alloc ?_ _))
    exact Sl.own_low hown1 (by omega)
  rintro W3 ⟨kS3, kR3, kO3, hownl, hb3⟩
  rw [← hg]
  rw [← hg] at kO3 hz2
  have Hb1 := K.H.mk hb3
  have hg2 : w.heap.size + 2 < g := by omega
  clear hown1 hb3 GA GO
  clear hg
  ((try clear hC2); (try clear hF2); (try clear hZ2); (try clear hc2); (try clear hf2); (try clear hl2); (try clear hB2); (try clear hO2); (try clear hA2); (try clear hz2_0); (try clear hz2_1); (try clear hz2_2); (try clear hz2_3); (try clear hz2_1_0); (try clear hz2_1_1); (try clear hC1); (try clear hF1); (try clear hZ1); (try clear hc1); (try clear hf1); (try clear hl1); (try clear hB1); (try clear hO1); (try clear hA1); (try clear hz1_0); (try clear hz1_1); (try clear hz1_2); (try clear hz1_3); (try clear kX1); (try clear kS1); (try clear kR1); (try clear kX2); (try clear kS2); (try clear kR2); (try clear hc_kX2); (try clear hf_kX2); (try clear hl_kX2); (try clear hc_kS2); (try clear hf_kS2); (try clear hl_kS2); (try clear hc_kR2); (try clear hf_kR2); (try clear hl_kR2); (try clear hz1); (try clear hz2); (try clear t1); (try clear t2))
  go_loopw [14] (fun i wr => ∃ k : Nat, k ≤ ps.length ∧ i = .int .i64 k ∧ K.At wr (w.heap.size + 1) 30 s.c ∧ K.At wr (w.heap.size + 1 + 1) 26 #[.int .i64 0, .int .i64 0, .int .i64 0, .int .i64 0, .int .i64 0, .bool false, .int .i64 0, .int .i64 0, .int .i64 0, .slice none 0 0] ∧ K.At wr g 26 (x.c B1 x.l.length d1) ∧ wr.ownsRow w.heap.size 37 8 (.slice B1 x.l.length d1) x.l.length ((marks x.l (ps.take k)).flatMap Att.cs) ∧ K.H (Below w.heap.size w wr) ∧ K.H (∀ j p, j < k → ps[j]? = some p → 0 ≤ p ∧ p ≤ (x.l.length : Int) - 1)) (fun i _ => ps.length - (intOf i).toNat)
  case atStart => exact ⟨0, by omega, rfl, kS3, kR3, kO3, hownl, Hb1, ⟨fun j p h => by omega⟩⟩
  case round =>
    clear hownl kS3 kR3 kO3 Hb1
    obtain ⟨k, hk, rfl, hS, hR, hG, hown, Hb, Hin⟩ := hrel
    have hgl := hG.lt
    by_cases hlt : k < ps.length
    · obtain ⟨p, hx⟩ : ∃ p, ps[k]? = some p := ⟨_, List.getElem?_eq_getElem hlt⟩
      obtain ⟨hc5, hf5, hl5⟩ := K.At.facts hG
      obtain ⟨b, off, rfl, hbl, hbc⟩ := Sl.Rds.elem Hr2.out (enc := fun n => [.int .i64 n]) (fun _ => rfl) (by omega) hx
      have q_0 : wr.cell? ⟨b, off + k, none⟩ = some (.int .i64 p) := by
        have := (Hb.out.cell (p := ⟨b, off + k * 1 + 0, none⟩) hbl).trans (hbc 0 (by omega))
        simpa using this
      have hbw : b < wr.heap.size := Nat.lt_of_lt_of_le hbl Hb.out.size
      have Hx := K.H.mk hx
      clear hx hbc
      by_cases hin : 0 ≤ p ∧ p ≤ (x.l.length : Int) - 1
      · obtain ⟨m, rfl⟩ : ∃ m : Nat, p = (m : Int) := ⟨p.toNat, by omega⟩
        have hml : m < x.l.length := by omega
        have d1 : decide ((m : Int) < 0) = false := decide_eq_false (by omega)
        have d2 : decide ((x.l.length : Int) ≤ (m : Int)) = false := decide_eq_false (by omega)
        have d3 : decide (x.l.length ≤ m) = false := decide_eq_false (by omega)
        have hm0 : (m : Int) < x.l.length := by omega
        obtain ⟨b1, cap1, he1, hbg, hbl1⟩ := own_form hown (by omega)
        cases he1
        go_wp2
        refine K.wp_region_ext_lit (by kernel_rfl) (by kernel_rfl) ?_
        repeat (any_goals (first | go_big_quiet_skip | quiet_step (fail) | (refine wpQuiet_step (fun K hK => ?_); go_simp; split <;> (refine hK _ ?_; clear hK K))))
        all_goals (refine wpQuiet_nil ?_; intro W9 hW9; obtain ⟨hB9, hC9, hF9, hZ9⟩ := K.ext_facts hW9; clear hW9; have hS_9 := K.At.bel hS hB9; have hR_9 := K.At.bel hR hB9; have hG_9 := K.At.bel hG hB9)
        have hown9 := Sl.own_over hown hB9
        have hbw9 : b < W9.heap.size := by omega
        obtain ⟨hc6, hf6, hl6⟩ := K.At.facts hG_9
        go_wp2
        refine K.wp_region_ext_tail 8 (by kernel_rfl) (by kernel_rfl) ?_
        simp only [List.take_succ_cons, List.take_zero, List.drop_succ_cons, List.drop_zero]
        repeat (any_goals (first | go_big_quiet_skip | quiet_step (fail) | (refine wpQuiet_step (fun K hK => ?_); go_simp; split <;> (refine hK _ ?_; clear hK K))))
        all_goals (refine wpQuiet_nil ?_; intro W12 hW12; obtain ⟨hB12, hC12, hF12, hZ12⟩ := K.ext_facts hW12; clear hW12; have hS_9_12 := K.At.bel hS_9 hB12; have hR_9_12 := K.At.bel hR_9 hB12; have hG_9_12 := K.At.bel hG_9 hB12)
        have hown12 := Sl.own_over hown9 hB12
        have hmt := marks_take (l := x.l) Hx.out
        obtain ⟨a, ha⟩ : ∃ a, (marks x.l (ps.take k))[m]? = some a := ⟨_, List.getElem?_eq_getElem (by rw [marks_len]; exact hml)⟩
        have hmk : marks x.l (ps.take (k + 1)) = (marks x.l (ps.take k)).set m a.done := by rw [hmt]; simp [mark, ha]
        have hfs := flat_set (enc := Att.cs) Att.cs_len (j := 7) (by omega) (.bool true) _ _ a a.done ha rfl
        have hqg := Sl.own_ne hown12 hG_9_12 (by decide)
        have hqs := Sl.own_ne hown12 hS_9_12 (by decide)
        have hqr := Sl.own_ne hown12 hR_9_12 (by decide)
        have hbl12 : b1 < W12.heap.size := by omega
        have hcell : W12.cell? ⟨b1, m * 8 + 7, none⟩ = some (.bool a.over) := by
          rw [hown12.cellAt _ (by omega), Sl.flat_get Att.cs_len _ _ 7 _ ha (by omega)]; rfl
        have hfz := hown12.frozenAt (m * 8 + 7)
        have hst := hown12.stored (m * 8 + 7) (.bool true)
        rw [hfs, ← hmk] at hst
        have hbg1 : b1 ≠ g := fun e => hqg (by rw [e]; rfl)
        have hbs1 : b1 ≠ w.heap.size + 1 := fun e => hqs (by rw [e]; rfl)
        have hbr1 : b1 ≠ w.heap.size + 1 + 1 := fun e => hqr (by rw [e]; rfl)
        have Hst := K.H.mk hst
        clear hmt ha hmk hfs hst hqg hqs hqr hown12 hown9 hown
        go_wp2
        go_roundw
        case rel =>
          refine ⟨k + 1, by omega, by go_num, at_set_far hS_9_12 hbs1, at_set_far hR_9_12 hbr1, at_set_far hG_9_12 hbg1, Hst.out.1, ⟨(show Below w.heap.size w W12 from (by repeat (first | (with_reducible exact Below.refl _ _) | (with_reducible exact Hb.out) | (with_reducible refine K.b_bel ?_ (by assumption)) | (with_reducible refine K.b_alloc ?_ _) | (with_reducible refine K.b_drewN ?_ _) | (with_reducible refine K.b_drew ?_) | (with_reducible refine K.b_set ?_ (by first | omega | (simp <;> omega)) _) | (with_reducible refine K.b_only ?_ (by assumption) (by first | omega | (simp <;> omega)))))).setCell hbg _⟩, ⟨fun j q hj hq => ?_⟩⟩
          by_cases hjk : j = k
          · rw [hjk, Hx.out] at hq; cases hq; exact hin
          · exact Hin.out j q (by omega) hq
        case measure => simp [intOf]; omega
      · have HP := K.H.mk (H71.out (inAll_f Hx.out (by omega)))
        have hd : decide (p < 0) = true ∨ (decide (p < 0) = false ∧ decide ((x.l.length : Int) ≤ p) = true) := by
          by_cases h0 : p < 0
          · exact .inl (by simpa using h0)
          · exact .inr ⟨by simpa using h0, by simp; omega⟩
        clear hin H71 HF Hx
        rcases hd with d1 | ⟨d1, d2⟩
        all_goals
          go_wp2
          refine K.wp_region_ext_lit (by kernel_rfl) (by kernel_rfl) ?_
          repeat (any_goals (first | go_big_quiet_skip | quiet_step (fail) | (refine wpQuiet_step (fun K hK => ?_); go_simp; split <;> (refine hK _ ?_; clear hK K))))
          all_goals (refine wpQuiet_nil ?_; intro W9 hW9; obtain ⟨hB9, hC9, hF9, hZ9⟩ := K.ext_facts hW9; clear hW9; have hS_9 := K.At.bel hS hB9; have hR_9 := K.At.bel hR hB9; have hG_9 := K.At.bel hG hB9)
          obtain ⟨hc6, hf6, hl6⟩ := K.At.facts hR_9
          go_wp2
          ((try simp only [Exit.inBlock, Exit.then]); refine bodyPost_ret (v := .tuple #[.agg #[.int .i64 0, .int .i64 0, .int .i64 0, .int .i64 0, .int .i64 0, .bool false, .int .i64 0, .int .i64 0, .int .i64 0, .slice none 0 0], .int .i64 71]) (by simp only [results, Try.results27]; go_simp) rfl ?_)
          rw [HP.out]
          exact zero_post (by repeat (first | (with_reducible exact Below.refl _ _) | (with_reducible exact Hb.out) | (with_reducible refine K.b_bel ?_ (by assumption)) | (with_reducible refine K.b_alloc ?_ _) | (with_reducible refine K.b_drewN ?_ _) | (with_reducible refine K.b_drew ?_) | (with_reducible refine K.b_set ?_ (by first | omega | (simp <;> omega)) _) | (with_reducible refine K.b_only ?_ (by assumption) (by first | omega | (simp <;> omega)))))
    · obtain rfl : k = ps.length := by omega
      have HFo := HF.out (inAll_t fun j p hj => Hin.out j p (List.getElem?_eq_some_iff.1 hj).1 hj)
      rw [List.take_length] at hown
      have hrdm : Sl.Rds wr 8 B1 x.l.length ((markC x ps).l.flatMap Att.cs) := by obtain ⟨_, _, he, hR⟩ := Sl.Rds.of_own hown; cases he; exact hR
      have GN := K.H.mk (show ∀ W, K.Bel wr W → Calls Try.prog 49 #[x.a B1 x.l.length d1] W fun e w' => e = .returned (.tuple #[.int .i64 (nO (markC x ps)), .int .i64 (hO (markC x ps))]) ∧ Below W.heap.size W w' from fun W hb => rOuts_c (markC x ps) B1 x.l.length d1 W (hrdm.bel hb) (by rw [show (markC x ps).l = marks x.l ps from rfl, marks_len]; omega))
      have HO := K.H.mk (show wr.ownsRow w.heap.size 37 8 (.slice B1 x.l.length d1) x.l.length ((markC x ps).l.flatMap Att.cs) from hown)
      generalize nO (markC x ps) = N at *
      generalize hO (markC x ps) = M at *
      clear hown hrdm HF Hr2 hk hlt Hin H71
      have hwb := Hb.out
      obtain ⟨hc4, hf4, hl4⟩ := K.At.facts hG
      obtain ⟨hc5, hf5, hl5⟩ := K.At.facts hR
      obtain ⟨hc6, hf6, hl6⟩ := K.At.facts hS
      have Hb0 := K.H.mk (K.Bel.mk (Below.refl wr.heap.size wr))
      by_cases hN : N = 0
      · subst hN
        by_cases hl : 0 < x.l.length
        · rw [if_pos ⟨rfl, hl⟩] at HFo
          have HFp := K.H.mk HFo
          have GD := K.H.mk (fun W => Bof.rDelay_c s.bo x.l.length draw W dr0 dr1)
          have hdl := delay_in s.bo x.l.length draw dr0 dr1
          generalize Bof.oDelay s.bo x.l.length draw = dl at *
          generalize Bof.eMost s.bo x.l.length = em at *
          clear HFo
          have hl2 : decide (0 < x.l.length) = true := by simpa using hl
          have hgr : g ≠ w.heap.size + 1 + 1 := by omega
          have hrg : w.heap.size + 1 + 1 ≠ g := by omega
          
          
          
          
          
          
          
          go_wp2_with (first | (go_at_call 49; (with_reducible refine (GN.out _ Hb0.out).mono ?_); rintro e W7 ⟨rfl, hb7⟩; obtain ⟨hB7, hC7, hF7, hZ7⟩ := K.bel_facts hb7; clear hb7; have kS7 : K.At W7 (w.heap.size + 1) 30 s.c := (by refine K.At.cast (by repeat (first | (with_reducible exact hS) | (with_reducible refine K.At.new' _ _ _ _ (by first | rfl | (simp; done) | omega)) | (with_reducible apply K.At.over hB7) | (with_reducible apply K.At.set) | (with_reducible apply K.At.alloc) | (with_reducible apply K.At.drewN) | (with_reducible apply K.At.drew) | (with_reducible apply K.At.far) | omega | (simp <;> omega))) ?_; rfl); obtain ⟨hc_kS7, hf_kS7, hl_kS7⟩ := K.At.facts kS7; have kR7 : K.At W7 (w.heap.size + 1 + 1) 26 #[.int .i64 0, .int .i64 0, .int .i64 0, .int .i64 0, .int .i64 0, .bool false, .int .i64 0, .int .i64 0, .int .i64 0, .slice none 0 0] := (by refine K.At.cast (by repeat (first | (with_reducible exact hR) | (with_reducible refine K.At.new' _ _ _ _ (by first | rfl | (simp; done) | omega)) | (with_reducible apply K.At.over hB7) | (with_reducible apply K.At.set) | (with_reducible apply K.At.alloc) | (with_reducible apply K.At.drewN) | (with_reducible apply K.At.drew) | (with_reducible apply K.At.far) | omega | (simp <;> omega))) ?_; rfl); obtain ⟨hc_kR7, hf_kR7, hl_kR7⟩ := K.At.facts kR7; have kG7 : K.At W7 g 26 (x.c B1 x.l.length d1) := (by refine K.At.cast (by repeat (first | (with_reducible exact hG) | (with_reducible refine K.At.new' _ _ _ _ (by first | rfl | (simp; done) | omega)) | (with_reducible apply K.At.over hB7) | (with_reducible apply K.At.set) | (with_reducible apply K.At.alloc) | (with_reducible apply K.At.drewN) | (with_reducible apply K.At.drew) | (with_reducible apply K.At.far) | omega | (simp <;> omega))) ?_; rfl); obtain ⟨hc_kG7, hf_kG7, hl_kG7⟩ := K.At.facts kG7) | (go_at_call 50; (with_reducible refine (GD.out _).mono ?_); rintro e W8 ⟨rfl, hb8⟩; obtain ⟨hB8, hC8, hF8, hZ8⟩ := K.bel_facts hb8; clear hb8; have kS8 : K.At W8 (w.heap.size + 1) 30 s.c := (by refine K.At.cast (by repeat (first | (with_reducible exact kS7) | (with_reducible refine K.At.new' _ _ _ _ (by first | rfl | (simp; done) | omega)) | (with_reducible apply K.At.over hB8) | (with_reducible apply K.At.set) | (with_reducible apply K.At.alloc) | (with_reducible apply K.At.drewN) | (with_reducible apply K.At.drew) | (with_reducible apply K.At.far) | omega | (simp <;> omega))) ?_; rfl); obtain ⟨hc_kS8, hf_kS8, hl_kS8⟩ := K.At.facts kS8; clear hc_kS7 hf_kS7 hl_kS7; have kR8 : K.At W8 (w.heap.size + 1 + 1) 26 #[.int .i64 0, .int .i64 0, .int .i64 0, .int .i64 0, .int .i64 0, .bool false, .int .i64 0, .int .i64 0, .int .i64 0, .slice none 0 0] := (by refine K.At.cast (by repeat (first | (with_reducible exact kR7) | (with_reducible refine K.At.new' _ _ _ _ (by first | rfl | (simp; done) | omega)) | (with_reducible apply K.At.over hB8) | (with_reducible apply K.At.set) | (with_reducible apply K.At.alloc) | (with_reducible apply K.At.drewN) | (with_reducible apply K.At.drew) | (with_reducible apply K.At.far) | omega | (simp <;> omega))) ?_; rfl); obtain ⟨hc_kR8, hf_kR8, hl_kR8⟩ := K.At.facts kR8; clear hc_kR7 hf_kR7 hl_kR7; have kG8 : K.At W8 g 26 (x.c B1 x.l.length d1) := (by refine K.At.cast (by repeat (first | (with_reducible exact kG7) | (with_reducible refine K.At.new' _ _ _ _ (by first | rfl | (simp; done) | omega)) | (with_reducible apply K.At.over hB8) | (with_reducible apply K.At.set) | (with_reducible apply K.At.alloc) | (with_reducible apply K.At.drewN) | (with_reducible apply K.At.drew) | (with_reducible apply K.At.far) | omega | (simp <;> omega))) ?_; rfl); obtain ⟨hc_kG8, hf_kG8, hl_kG8⟩ := K.At.facts kG8; clear hc_kG7 hf_kG7 hl_kG7))
          have hO15 := Sl.own_over (Sl.own_over HO.out hB7) hB8
          have hng := Sl.own_ne hO15 kG8 (by decide)
          have hnr := Sl.own_ne hO15 kR8 (by decide)
          ((try simp only [Exit.inBlock, Exit.then]); refine bodyPost_ret (v := .tuple #[.agg #[.int .i64 x.num, .int .i64 x.op.what, .int .i64 x.op.key, .int .i64 x.op.other, .int .i64 x.op.amt, .bool x.once, .int .i64 x.at_, .int .i64 x.dl, .int .i64 (tick + dl), .slice B1 x.l.length d1], .int .i64 0]) (by simp only [results, Try.results27]; go_simp) rfl ?_)
          rw [HFp.out]
          refine ⟨B1, x.l.length, d1, rfl, ?_, (by repeat (first | (with_reducible exact Below.refl _ _) | (with_reducible exact hwb) | (with_reducible refine K.b_bel ?_ (by assumption)) | (with_reducible refine K.b_alloc ?_ _) | (with_reducible refine K.b_drewN ?_ _) | (with_reducible refine K.b_drew ?_) | (with_reducible refine K.b_set ?_ (by first | omega | (simp <;> omega)) _) | (with_reducible refine K.b_only ?_ (by assumption) (by first | omega | (simp <;> omega)))))⟩
          repeat (first | (with_reducible refine Sl.own_set ?_ hnr _) | (with_reducible refine Sl.own_set ?_ hng _))
          exact hO15
        · rw [if_neg (by omega)] at HFo
          have HFp := K.H.mk HFo
          have Hl2 := K.H.mk (show decide (0 < x.l.length) = false by simpa using hl)
          clear HFo
          clear hl
          
          
          
          
          
          
          
          go_wp2_with (first | (go_at_call 49; (with_reducible refine (GN.out _ Hb0.out).mono ?_); rintro e W7 ⟨rfl, hb7⟩; obtain ⟨hB7, hC7, hF7, hZ7⟩ := K.bel_facts hb7; clear hb7; have kS7 : K.At W7 (w.heap.size + 1) 30 s.c := (by refine K.At.cast (by repeat (first | (with_reducible exact hS) | (with_reducible refine K.At.new' _ _ _ _ (by first | rfl | (simp; done) | omega)) | (with_reducible apply K.At.over hB7) | (with_reducible apply K.At.set) | (with_reducible apply K.At.alloc) | (with_reducible apply K.At.drewN) | (with_reducible apply K.At.drew) | (with_reducible apply K.At.far) | omega | (simp <;> omega))) ?_; rfl); obtain ⟨hc_kS7, hf_kS7, hl_kS7⟩ := K.At.facts kS7; have kR7 : K.At W7 (w.heap.size + 1 + 1) 26 #[.int .i64 0, .int .i64 0, .int .i64 0, .int .i64 0, .int .i64 0, .bool false, .int .i64 0, .int .i64 0, .int .i64 0, .slice none 0 0] := (by refine K.At.cast (by repeat (first | (with_reducible exact hR) | (with_reducible refine K.At.new' _ _ _ _ (by first | rfl | (simp; done) | omega)) | (with_reducible apply K.At.over hB7) | (with_reducible apply K.At.set) | (with_reducible apply K.At.alloc) | (with_reducible apply K.At.drewN) | (with_reducible apply K.At.drew) | (with_reducible apply K.At.far) | omega | (simp <;> omega))) ?_; rfl); obtain ⟨hc_kR7, hf_kR7, hl_kR7⟩ := K.At.facts kR7; have kG7 : K.At W7 g 26 (x.c B1 x.l.length d1) := (by refine K.At.cast (by repeat (first | (with_reducible exact hG) | (with_reducible refine K.At.new' _ _ _ _ (by first | rfl | (simp; done) | omega)) | (with_reducible apply K.At.over hB7) | (with_reducible apply K.At.set) | (with_reducible apply K.At.alloc) | (with_reducible apply K.At.drewN) | (with_reducible apply K.At.drew) | (with_reducible apply K.At.far) | omega | (simp <;> omega))) ?_; rfl); obtain ⟨hc_kG7, hf_kG7, hl_kG7⟩ := K.At.facts kG7; have hl2 := Hl2.out))
          have hO7 := Sl.own_over HO.out hB7
          have hnr := Sl.own_ne hO7 kR7 (by decide)
          ((try simp only [Exit.inBlock, Exit.then]); refine bodyPost_ret (v := .tuple #[x.a B1 x.l.length d1, .int .i64 0]) (by simp only [results, Try.results27]; go_simp) rfl ?_)
          rw [HFp.out]
          refine ⟨B1, x.l.length, d1, rfl, ?_, (by repeat (first | (with_reducible exact Below.refl _ _) | (with_reducible exact hwb) | (with_reducible refine K.b_bel ?_ (by assumption)) | (with_reducible refine K.b_alloc ?_ _) | (with_reducible refine K.b_drewN ?_ _) | (with_reducible refine K.b_drew ?_) | (with_reducible refine K.b_set ?_ (by first | omega | (simp <;> omega)) _) | (with_reducible refine K.b_only ?_ (by assumption) (by first | omega | (simp <;> omega)))))⟩
          repeat (with_reducible refine Sl.own_set ?_ hnr _)
          exact hO7
      · rw [if_neg (fun e => hN e.1)] at HFo
        have HFp := K.H.mk HFo
        have hN2 : (N == 0) = false := by simpa using hN
        clear HFo hN
        
        
        
        
        
        
        
        go_wp2_with (first | (go_at_call 49; (with_reducible refine (GN.out _ Hb0.out).mono ?_); rintro e W7 ⟨rfl, hb7⟩; obtain ⟨hB7, hC7, hF7, hZ7⟩ := K.bel_facts hb7; clear hb7; have kS7 : K.At W7 (w.heap.size + 1) 30 s.c := (by refine K.At.cast (by repeat (first | (with_reducible exact hS) | (with_reducible refine K.At.new' _ _ _ _ (by first | rfl | (simp; done) | omega)) | (with_reducible apply K.At.over hB7) | (with_reducible apply K.At.set) | (with_reducible apply K.At.alloc) | (with_reducible apply K.At.drewN) | (with_reducible apply K.At.drew) | (with_reducible apply K.At.far) | omega | (simp <;> omega))) ?_; rfl); obtain ⟨hc_kS7, hf_kS7, hl_kS7⟩ := K.At.facts kS7; have kR7 : K.At W7 (w.heap.size + 1 + 1) 26 #[.int .i64 0, .int .i64 0, .int .i64 0, .int .i64 0, .int .i64 0, .bool false, .int .i64 0, .int .i64 0, .int .i64 0, .slice none 0 0] := (by refine K.At.cast (by repeat (first | (with_reducible exact hR) | (with_reducible refine K.At.new' _ _ _ _ (by first | rfl | (simp; done) | omega)) | (with_reducible apply K.At.over hB7) | (with_reducible apply K.At.set) | (with_reducible apply K.At.alloc) | (with_reducible apply K.At.drewN) | (with_reducible apply K.At.drew) | (with_reducible apply K.At.far) | omega | (simp <;> omega))) ?_; rfl); obtain ⟨hc_kR7, hf_kR7, hl_kR7⟩ := K.At.facts kR7; have kG7 : K.At W7 g 26 (x.c B1 x.l.length d1) := (by refine K.At.cast (by repeat (first | (with_reducible exact hG) | (with_reducible refine K.At.new' _ _ _ _ (by first | rfl | (simp; done) | omega)) | (with_reducible apply K.At.over hB7) | (with_reducible apply K.At.set) | (with_reducible apply K.At.alloc) | (with_reducible apply K.At.drewN) | (with_reducible apply K.At.drew) | (with_reducible apply K.At.far) | omega | (simp <;> omega))) ?_; rfl); obtain ⟨hc_kG7, hf_kG7, hl_kG7⟩ := K.At.facts kG7))
        have hO7 := Sl.own_over HO.out hB7
        have hnr := Sl.own_ne hO7 kR7 (by decide)
        ((try simp only [Exit.inBlock, Exit.then]); refine bodyPost_ret (v := .tuple #[x.a B1 x.l.length d1, .int .i64 0]) (by simp only [results, Try.results27]; go_simp) rfl ?_)
        rw [HFp.out]
        refine ⟨B1, x.l.length, d1, rfl, ?_, (by repeat (first | (with_reducible exact Below.refl _ _) | (with_reducible exact hwb) | (with_reducible refine K.b_bel ?_ (by assumption)) | (with_reducible refine K.b_alloc ?_ _) | (with_reducible refine K.b_drewN ?_ _) | (with_reducible refine K.b_drew ?_) | (with_reducible refine K.b_set ?_ (by first | omega | (simp <;> omega)) _) | (with_reducible refine K.b_only ?_ (by assumption) (by first | omega | (simp <;> omega)))))⟩
        repeat (with_reducible refine Sl.own_set ?_ hnr _)
        exact hO7
theorem rOver_c (x : Cal) (s : Set) (tick draw : Int) (ps : List Int) (A : Option Addr) (n c : Nat) (A2 : Option Addr) (n2 c2 : Nat) (w : World) (hr : Sl.Rds w 8 A n (x.l.flatMap Att.cs)) (hr2 : Sl.Rds w 1 A2 n2 (ps.flatMap fun n => [.int .i64 n])) (dr0 : 0 ≤ draw) (dr1 : draw < 18446744073709551616) :
    Calls Try.prog 27 #[x.a A n c, s.a, .int .i64 tick, .int .u64 draw, .slice A2 n2 c2] w (CalPost w (oOver x s tick draw ps).1 (oOver x s tick draw ps).2) := by
  unfold oOver
  by_cases h : eCall x s = 0
  · rw [if_pos h]
    cases ht : inB 0 268435456 tick
    · unfold overF; rw [if_pos ht]
      exact rOver_tick x s tick draw _ A n c w hr h ht
    · exact rOver_ok x s tick draw ps A n c A2 n2 c2 w hr hr2 h ht dr0 dr1
  · rw [if_neg h]
    exact rOver_bad x s tick draw _ A n c w hr h
end Go.Proofs.Ytfepjpjkamlneaa.Cl
