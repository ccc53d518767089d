/- Calls: the reference's Match; new calls; how a call ends; whether calls are one. -/
import Derived.Test.YtfepjpjkamlneaaClC
set_option linter.unusedVariables false
namespace Go.Proofs.Ytfepjpjkamlneaa.Cl
open Go.RowKit Go.Proofs.Ytfepjpjkamlneaa
attribute [local go_sem] K.max2_int K.min2_int K.max_two K.min_two K.max_three K.min_three
set_option linter.unusedSimpArgs false
theorem isAt_t {m : Pin} {a : Att} : isAt m a = true ↔ a.b = m.b ∧ a.i = m.i ∧ a.s = m.s ∧ a.q = m.q := by simp [isAt, Pin.same, and_assoc]
set_option maxRecDepth 100000 in
set_option maxHeartbeats 4000000 in
theorem rMatch_c (x : Cal) (m : Msg) (D : Value) (A : Option Addr) (n c : Nat) (w : World) (hr : Sl.Rds w 8 A n (x.l.flatMap Att.cs)) :
    Calls Try.prog 17 #[x.a A n c, m.a D] w fun e w' => e = .returned (.int .i64 (Sl.idx (isAt m.pin) x.l)) ∧ Below w.heap.size w w' := by
  obtain rfl := hr.length Att.cs_len (by omega)
  have hle := hr.le
  have Hr := K.H.mk hr
  clear hr
  go_enter Try.func17, Try.ntmps17
  go_wp2
  refine K.wp_gen (fun W => K.At W w.heap.size 26 (x.c A x.l.length c) ∧ K.At W (w.heap.size + 1) 41 (m.c D) ∧ Below w.heap.size w W) ⟨(by refine K.At.cast (by repeat (first | (with_reducible refine K.At.new' _ _ _ _ (by first | rfl | (simp; done) | omega)) | (with_reducible apply K.At.set) | (with_reducible apply K.At.alloc) | (with_reducible apply K.At.drewN) | (with_reducible apply K.At.drew) | (with_reducible apply K.At.far) | omega | (simp <;> omega))) ?_; rfl), (by refine K.At.cast (by repeat (first | (with_reducible refine K.At.new' _ _ _ _ (by first | rfl | (simp; done) | omega)) | (with_reducible apply K.At.set) | (with_reducible apply K.At.alloc) | (with_reducible apply K.At.drewN) | (with_reducible apply K.At.drew) | (with_reducible apply K.At.far) | omega | (simp <;> omega))) ?_; rfl), (by repeat (first | (with_reducible exact Below.refl _ _) | (with_reducible refine K.b_bel ?_ (by assumption)) | (with_reducible refine K.b_alloc ?_ _) | (with_reducible refine K.b_drewN ?_ _) | (with_reducible refine K.b_drew ?_) | (with_reducible refine K.b_set ?_ (by first | omega | (simp <;> omega)) _) | (with_reducible refine K.b_only ?_ (by assumption) (by first | omega | (simp <;> omega)))))⟩ ?_
  rintro W1 ⟨hX, hM, hb1⟩
  have Hb1 := K.H.mk hb1
  clear hb1
  go_loopw [5] (fun i wr => ∃ k : Nat, k ≤ x.l.length ∧ i = .int .i64 k ∧ K.At wr w.heap.size 26 (x.c A x.l.length c) ∧ K.At wr (w.heap.size + 1) 41 (m.c D) ∧ K.H (∀ j y, j < k → x.l[j]? = some y → isAt m.pin y = false) ∧ K.H (Below w.heap.size w wr)) (fun i _ => x.l.length - (intOf i).toNat)
  case atStart => exact ⟨0, by omega, rfl, hX, hM, ⟨fun j y h => by omega⟩, Hb1⟩
  case round =>
    clear hX hM Hb1
    obtain ⟨k, hk, rfl, hX, hM, Hf, Hb⟩ := hrel
    have hX2 := hX
    have hM2 := hM
    obtain ⟨hc5, hf5, hl5⟩ := K.At.facts hX
    obtain ⟨hc6, hf6, hl6⟩ := K.At.facts hM
    by_cases hlt : k < x.l.length
    · obtain ⟨y, hx⟩ : ∃ y, x.l[k]? = some y := ⟨_, List.getElem?_eq_getElem hlt⟩
      obtain ⟨b, off, rfl, hbl, hbc⟩ := Sl.Rds.elem Hr.out Att.cs_len (by omega) hx
      have q_0 : wr.cell? ⟨b, off + k * 8, none⟩ = some (.int .i64 y.b) := (Hb.out.cell (p := ⟨b, off + k * 8 + 0, none⟩) hbl).trans (hbc 0 (by omega))
      have q_1 : wr.cell? ⟨b, off + k * 8 + 1, none⟩ = some (.int .i64 y.i) := (Hb.out.cell (p := ⟨b, off + k * 8 + 1, none⟩) hbl).trans (hbc 1 (by omega))
      have q_2 : wr.cell? ⟨b, off + k * 8 + 2, none⟩ = some (.int .i64 y.s) := (Hb.out.cell (p := ⟨b, off + k * 8 + 2, none⟩) hbl).trans (hbc 2 (by omega))
      have q_3 : wr.cell? ⟨b, off + k * 8 + 3, none⟩ = some (.int .i64 y.q) := (Hb.out.cell (p := ⟨b, off + k * 8 + 3, none⟩) hbl).trans (hbc 3 (by omega))
      have q_4 : wr.cell? ⟨b, off + k * 8 + 4, none⟩ = some (.int .i64 y.t) := (Hb.out.cell (p := ⟨b, off + k * 8 + 4, none⟩) hbl).trans (hbc 4 (by omega))
      have q_5 : wr.cell? ⟨b, off + k * 8 + 5, none⟩ = some (.bool y.hedge) := (Hb.out.cell (p := ⟨b, off + k * 8 + 5, none⟩) hbl).trans (hbc 5 (by omega))
      have q_6 : wr.cell? ⟨b, off + k * 8 + 6, none⟩ = some (.bool y.probe) := (Hb.out.cell (p := ⟨b, off + k * 8 + 6, none⟩) hbl).trans (hbc 6 (by omega))
      have q_7 : wr.cell? ⟨b, off + k * 8 + 7, none⟩ = some (.bool y.over) := (Hb.out.cell (p := ⟨b, off + k * 8 + 7, none⟩) hbl).trans (hbc 7 (by omega))
      clear hbc
      have hbw : b < wr.heap.size := Nat.lt_of_lt_of_le hbl Hb.out.size
      have Hx := K.H.mk hx
      clear hx
      cases hp : isAt m.pin y
      · have Hp := K.H.mk hp
        have Hn := K.H.mk (show ¬ (y.b = m.b ∧ y.i = m.i ∧ y.s = m.s ∧ y.q = m.q) from fun h => by rw [isAt_t.2 h] at hp; cases hp)
        clear hp
        go_wp2
        all_goals try (exfalso; apply Hn.out; refine ⟨?_, ?_, ?_, ?_⟩ <;> first | assumption | exact beq_iff_eq.1 (by assumption))
        all_goals
          go_roundw
          case rel =>
            refine ⟨k + 1, by omega, by go_num, hX2.alloc _, hM2.alloc _, ⟨fun j z hj hz => ?_⟩, ⟨K.b_alloc Hb.out _⟩⟩
            by_cases hjk : j = k
            · subst hjk
              rw [Hx.out] at hz
              cases hz
              exact Hp.out
            · exact Hf.out j z (by omega) hz
          case measure => simp [intOf]; omega
      · obtain ⟨e1, e2, e3, e4⟩ := isAt_t.1 hp
        have d1 : (y.b == m.b) = true := by simpa using e1
        have d2 : (y.i == m.i) = true := by simpa using e2
        have d3 : (y.s == m.s) = true := by simpa using e3
        have d4 : (y.q == m.q) = true := by simpa using e4
        have Hp := K.H.mk hp
        clear hp e1 e2 e3 e4
        go_wp2
        go_ret
        exact ⟨K.ret_int (Sl.idx_found Hx.out Hp.out Hf.out).symm, K.b_alloc Hb.out _⟩
    · obtain rfl : k = x.l.length := by omega
      go_wp2
      go_ret
      exact ⟨K.ret_int (Sl.idx_none Hf.out).symm, Hb.out⟩
/-! ### New -/
def nOk (num tick left : Int) : Prop := (0 ≤ num ∧ num ≤ 1048576) ∧ (0 ≤ tick ∧ tick ≤ 268435456) ∧ (0 ≤ left ∧ left ≤ 1048576)
instance (a b c : Int) : Decidable (nOk a b c) := by unfold nOk; infer_instance
def eNew (num : Int) (op : Op) (tick left : Int) : Int := if nOk num tick left then eOp op else 4
def oNew (num : Int) (op : Op) (tick left : Int) : Cal := if nOk num tick left ∧ eOp op = 0 then ⟨num, op, oOnce op.what, tick, tick + left, tick, []⟩ else Cal.zero
theorem eOp_kind {o : Op} (h : eOp o = 0) : eOnce o.what = 0 := by
  unfold eOp at h
  split at h
  · unfold eOnce; rw [if_pos (by assumption)]
  · omega
set_option maxRecDepth 100000 in
set_option maxHeartbeats 4000000 in
theorem New_c (num : Int) (op : Op) (tick left : Int) (w : World) :
    Calls Try.prog 13 #[.int .i64 num, op.a, .int .i64 tick, .int .i64 left] w fun e w' => e = .returned (.tuple #[(oNew num op tick left).a none 0 0, .int .i64 (eNew num op tick left)]) ∧ Below w.heap.size w w' := by
  have GO := K.H.mk (fun W => Op_c op W)
  by_cases h : nOk num tick left
  · have Hh := K.H.mk h
    by_cases h2 : eOp op = 0
    · have GC := K.H.mk (fun W => Once_c op.what W)
      rw [eOp_kind h2] at GC
      rw [h2] at GO
      rw [show eNew num op tick left = 0 by simp [eNew, h, h2], show oNew num op tick left = ⟨num, op, oOnce op.what, tick, tick + left, tick, []⟩ by simp [oNew, h, h2]]
      generalize oOnce op.what = o at *
      clear h2
      unfold nOk at h
      have d1 : inB 0 1048576 num = true := inB_t.2 h.1
      have d2 : inB 0 268435456 tick = true := inB_t.2 h.2.1
      have d3 : inB 0 1048576 left = true := inB_t.2 h.2.2
      
      
      
      go_enter Try.func13, Try.ntmps13
      go_wp2_with (first
        | (go_at_call 36; first
          | (go_at_call 36; (with_reducible refine (in_one 0 1048576 num _ _ (K.At.new' _ _ _ _ (by simp))).mono ?_); rintro e W1 ⟨rfl, hb1⟩; obtain ⟨hB1, hC1, hF1, hZ1⟩ := K.bel_facts hb1; clear hb1; have kO1 : K.At W1 w.heap.size 23 op.c := (by refine K.At.cast (by repeat (first | (with_reducible refine K.At.new' _ _ _ _ (by first | rfl | (simp; done) | omega)) | (with_reducible apply K.At.over hB1) | (with_reducible apply K.At.set) | (with_reducible apply K.At.alloc) | (with_reducible apply K.At.drewN) | (with_reducible apply K.At.drew) | (with_reducible apply K.At.far) | omega | (simp <;> omega))) ?_; rfl); obtain ⟨hc_kO1, hf_kO1, hl_kO1⟩ := K.At.facts kO1; have kR1 : K.At W1 (w.heap.size + 1) 26 (Cal.zero.c none 0 0) := (by refine K.At.cast (by repeat (first | (with_reducible refine K.At.new' _ _ _ _ (by first | rfl | (simp; done) | omega)) | (with_reducible apply K.At.over hB1) | (with_reducible apply K.At.set) | (with_reducible apply K.At.alloc) | (with_reducible apply K.At.drewN) | (with_reducible apply K.At.drew) | (with_reducible apply K.At.far) | omega | (simp <;> omega))) ?_; rfl); obtain ⟨hc_kR1, hf_kR1, hl_kR1⟩ := K.At.facts kR1)
          | (go_at_call 36; (with_reducible refine (in_one 0 268435456 tick _ _ (K.At.new' _ _ _ _ (by simp))).mono ?_); rintro e W2 ⟨rfl, hb2⟩; obtain ⟨hB2, hC2, hF2, hZ2⟩ := K.bel_facts hb2; clear hb2; have kO2 : K.At W2 w.heap.size 23 op.c := (by refine K.At.cast (by repeat (first | (with_reducible exact kO1) | (with_reducible refine K.At.new' _ _ _ _ (by first | rfl | (simp; done) | omega)) | (with_reducible apply K.At.over hB2) | (with_reducible apply K.At.set) | (with_reducible apply K.At.alloc) | (with_reducible apply K.At.drewN) | (with_reducible apply K.At.drew) | (with_reducible apply K.At.far) | omega | (simp <;> omega))) ?_; rfl); obtain ⟨hc_kO2, hf_kO2, hl_kO2⟩ := K.At.facts kO2; clear hc_kO1 hf_kO1 hl_kO1; have kR2 : K.At W2 (w.heap.size + 1) 26 (Cal.zero.c none 0 0) := (by refine K.At.cast (by repeat (first | (with_reducible exact kR1) | (with_reducible refine K.At.new' _ _ _ _ (by first | rfl | (simp; done) | omega)) | (with_reducible apply K.At.over hB2) | (with_reducible apply K.At.set) | (with_reducible apply K.At.alloc) | (with_reducible apply K.At.drewN) | (with_reducible apply K.At.drew) | (with_reducible apply K.At.far) | omega | (simp <;> omega))) ?_; rfl); obtain ⟨hc_kR2, hf_kR2, hl_kR2⟩ := K.At.facts kR2; clear hc_kR1 hf_kR1 hl_kR1)
          | (go_at_call 36; (with_reducible refine (in_one 0 1048576 left _ _ (K.At.new' _ _ _ _ (by simp))).mono ?_); rintro e W3 ⟨rfl, hb3⟩; obtain ⟨hB3, hC3, hF3, hZ3⟩ := K.bel_facts hb3; clear hb3; have kO3 : K.At W3 w.heap.size 23 op.c := (by refine K.At.cast (by repeat (first | (with_reducible exact kO2) | (with_reducible refine K.At.new' _ _ _ _ (by first | rfl | (simp; done) | omega)) | (with_reducible apply K.At.over hB3) | (with_reducible apply K.At.set) | (with_reducible apply K.At.alloc) | (with_reducible apply K.At.drewN) | (with_reducible apply K.At.drew) | (with_reducible apply K.At.far) | omega | (simp <;> omega))) ?_; rfl); obtain ⟨hc_kO3, hf_kO3, hl_kO3⟩ := K.At.facts kO3; clear hc_kO2 hf_kO2 hl_kO2; have kR3 : K.At W3 (w.heap.size + 1) 26 (Cal.zero.c none 0 0) := (by refine K.At.cast (by repeat (first | (with_reducible exact kR2) | (with_reducible refine K.At.new' _ _ _ _ (by first | rfl | (simp; done) | omega)) | (with_reducible apply K.At.over hB3) | (with_reducible apply K.At.set) | (with_reducible apply K.At.alloc) | (with_reducible apply K.At.drewN) | (with_reducible apply K.At.drew) | (with_reducible apply K.At.far) | omega | (simp <;> omega))) ?_; rfl); obtain ⟨hc_kR3, hf_kR3, hl_kR3⟩ := K.At.facts kR3; clear hc_kR2 hf_kR2 hl_kR2))
        | (go_at_call 37; (with_reducible refine (GO.out _).mono ?_); rintro e W4 ⟨rfl, hb4⟩; obtain ⟨hB4, hC4, hF4, hZ4⟩ := K.bel_facts hb4; clear hb4; have kO4 : K.At W4 w.heap.size 23 op.c := (by refine K.At.cast (by repeat (first | (with_reducible exact kO3) | (with_reducible refine K.At.new' _ _ _ _ (by first | rfl | (simp; done) | omega)) | (with_reducible apply K.At.over hB4) | (with_reducible apply K.At.set) | (with_reducible apply K.At.alloc) | (with_reducible apply K.At.drewN) | (with_reducible apply K.At.drew) | (with_reducible apply K.At.far) | omega | (simp <;> omega))) ?_; rfl); obtain ⟨hc_kO4, hf_kO4, hl_kO4⟩ := K.At.facts kO4; clear hc_kO3 hf_kO3 hl_kO3; have kR4 : K.At W4 (w.heap.size + 1) 26 (Cal.zero.c none 0 0) := (by refine K.At.cast (by repeat (first | (with_reducible exact kR3) | (with_reducible refine K.At.new' _ _ _ _ (by first | rfl | (simp; done) | omega)) | (with_reducible apply K.At.over hB4) | (with_reducible apply K.At.set) | (with_reducible apply K.At.alloc) | (with_reducible apply K.At.drewN) | (with_reducible apply K.At.drew) | (with_reducible apply K.At.far) | omega | (simp <;> omega))) ?_; rfl); obtain ⟨hc_kR4, hf_kR4, hl_kR4⟩ := K.At.facts kR4; clear hc_kR3 hf_kR3 hl_kR3)
        | (go_at_call 38; (with_reducible refine (GC.out _).mono ?_); rintro e w' ⟨rfl, hw'⟩; have hw'2 := Eq.symm hw'; clear hw'; subst hw'2))
      ((try simp only [Exit.inBlock, Exit.then]); refine bodyPost_ret (v := .tuple #[.agg #[.int .i64 num, .int .i64 op.what, .int .i64 op.key, .int .i64 op.other, .int .i64 op.amt, .bool o, .int .i64 tick, .int .i64 (tick + left), .int .i64 tick, .slice none 0 0], .int .i64 0]) (by simp only [results, Try.results13]; go_simp) rfl ?_)
      exact ⟨rfl, (by repeat (first | (with_reducible exact Below.refl _ _) | (with_reducible refine K.b_bel ?_ (by assumption)) | (with_reducible refine K.b_alloc ?_ _) | (with_reducible refine K.b_drewN ?_ _) | (with_reducible refine K.b_drew ?_) | (with_reducible refine K.b_set ?_ (by first | omega | (simp <;> omega)) _) | (with_reducible refine K.b_only ?_ (by assumption) (by first | omega | (simp <;> omega)))))⟩
    · have hd : (eOp op != 0) = true := by simp [h2]
      rw [show eNew num op tick left = eOp op by simp [eNew, h], show oNew num op tick left = Cal.zero by simp [oNew, h2]]
      clear h2
      unfold nOk at h
      have d1 : inB 0 1048576 num = true := inB_t.2 h.1
      have d2 : inB 0 268435456 tick = true := inB_t.2 h.2.1
      have d3 : inB 0 1048576 left = true := inB_t.2 h.2.2
      generalize eOp op = y at *
      
      
      
      go_enter Try.func13, Try.ntmps13
      go_wp2_with (first
        | (go_at_call 36; first
          | (go_at_call 36; (with_reducible refine (in_one 0 1048576 num _ _ (K.At.new' _ _ _ _ (by simp))).mono ?_); rintro e W1 ⟨rfl, hb1⟩; obtain ⟨hB1, hC1, hF1, hZ1⟩ := K.bel_facts hb1; clear hb1; have kO1 : K.At W1 w.heap.size 23 op.c := (by refine K.At.cast (by repeat (first | (with_reducible refine K.At.new' _ _ _ _ (by first | rfl | (simp; done) | omega)) | (with_reducible apply K.At.over hB1) | (with_reducible apply K.At.set) | (with_reducible apply K.At.alloc) | (with_reducible apply K.At.drewN) | (with_reducible apply K.At.drew) | (with_reducible apply K.At.far) | omega | (simp <;> omega))) ?_; rfl); obtain ⟨hc_kO1, hf_kO1, hl_kO1⟩ := K.At.facts kO1; have kR1 : K.At W1 (w.heap.size + 1) 26 (Cal.zero.c none 0 0) := (by refine K.At.cast (by repeat (first | (with_reducible refine K.At.new' _ _ _ _ (by first | rfl | (simp; done) | omega)) | (with_reducible apply K.At.over hB1) | (with_reducible apply K.At.set) | (with_reducible apply K.At.alloc) | (with_reducible apply K.At.drewN) | (with_reducible apply K.At.drew) | (with_reducible apply K.At.far) | omega | (simp <;> omega))) ?_; rfl); obtain ⟨hc_kR1, hf_kR1, hl_kR1⟩ := K.At.facts kR1)
          | (go_at_call 36; (with_reducible refine (in_one 0 268435456 tick _ _ (K.At.new' _ _ _ _ (by simp))).mono ?_); rintro e W2 ⟨rfl, hb2⟩; obtain ⟨hB2, hC2, hF2, hZ2⟩ := K.bel_facts hb2; clear hb2; have kO2 : K.At W2 w.heap.size 23 op.c := (by refine K.At.cast (by repeat (first | (with_reducible exact kO1) | (with_reducible refine K.At.new' _ _ _ _ (by first | rfl | (simp; done) | omega)) | (with_reducible apply K.At.over hB2) | (with_reducible apply K.At.set) | (with_reducible apply K.At.alloc) | (with_reducible apply K.At.drewN) | (with_reducible apply K.At.drew) | (with_reducible apply K.At.far) | omega | (simp <;> omega))) ?_; rfl); obtain ⟨hc_kO2, hf_kO2, hl_kO2⟩ := K.At.facts kO2; clear hc_kO1 hf_kO1 hl_kO1; have kR2 : K.At W2 (w.heap.size + 1) 26 (Cal.zero.c none 0 0) := (by refine K.At.cast (by repeat (first | (with_reducible exact kR1) | (with_reducible refine K.At.new' _ _ _ _ (by first | rfl | (simp; done) | omega)) | (with_reducible apply K.At.over hB2) | (with_reducible apply K.At.set) | (with_reducible apply K.At.alloc) | (with_reducible apply K.At.drewN) | (with_reducible apply K.At.drew) | (with_reducible apply K.At.far) | omega | (simp <;> omega))) ?_; rfl); obtain ⟨hc_kR2, hf_kR2, hl_kR2⟩ := K.At.facts kR2; clear hc_kR1 hf_kR1 hl_kR1)
          | (go_at_call 36; (with_reducible refine (in_one 0 1048576 left _ _ (K.At.new' _ _ _ _ (by simp))).mono ?_); rintro e W3 ⟨rfl, hb3⟩; obtain ⟨hB3, hC3, hF3, hZ3⟩ := K.bel_facts hb3; clear hb3; have kO3 : K.At W3 w.heap.size 23 op.c := (by refine K.At.cast (by repeat (first | (with_reducible exact kO2) | (with_reducible refine K.At.new' _ _ _ _ (by first | rfl | (simp; done) | omega)) | (with_reducible apply K.At.over hB3) | (with_reducible apply K.At.set) | (with_reducible apply K.At.alloc) | (with_reducible apply K.At.drewN) | (with_reducible apply K.At.drew) | (with_reducible apply K.At.far) | omega | (simp <;> omega))) ?_; rfl); obtain ⟨hc_kO3, hf_kO3, hl_kO3⟩ := K.At.facts kO3; clear hc_kO2 hf_kO2 hl_kO2; have kR3 : K.At W3 (w.heap.size + 1) 26 (Cal.zero.c none 0 0) := (by refine K.At.cast (by repeat (first | (with_reducible exact kR2) | (with_reducible refine K.At.new' _ _ _ _ (by first | rfl | (simp; done) | omega)) | (with_reducible apply K.At.over hB3) | (with_reducible apply K.At.set) | (with_reducible apply K.At.alloc) | (with_reducible apply K.At.drewN) | (with_reducible apply K.At.drew) | (with_reducible apply K.At.far) | omega | (simp <;> omega))) ?_; rfl); obtain ⟨hc_kR3, hf_kR3, hl_kR3⟩ := K.At.facts kR3; clear hc_kR2 hf_kR2 hl_kR2))
        | (go_at_call 37; (with_reducible refine (GO.out _).mono ?_); rintro e W4 ⟨rfl, hb4⟩; obtain ⟨hB4, hC4, hF4, hZ4⟩ := K.bel_facts hb4; clear hb4; have kO4 : K.At W4 w.heap.size 23 op.c := (by refine K.At.cast (by repeat (first | (with_reducible exact kO3) | (with_reducible refine K.At.new' _ _ _ _ (by first | rfl | (simp; done) | omega)) | (with_reducible apply K.At.over hB4) | (with_reducible apply K.At.set) | (with_reducible apply K.At.alloc) | (with_reducible apply K.At.drewN) | (with_reducible apply K.At.drew) | (with_reducible apply K.At.far) | omega | (simp <;> omega))) ?_; rfl); obtain ⟨hc_kO4, hf_kO4, hl_kO4⟩ := K.At.facts kO4; clear hc_kO3 hf_kO3 hl_kO3; have kR4 : K.At W4 (w.heap.size + 1) 26 (Cal.zero.c none 0 0) := (by refine K.At.cast (by repeat (first | (with_reducible exact kR3) | (with_reducible refine K.At.new' _ _ _ _ (by first | rfl | (simp; done) | omega)) | (with_reducible apply K.At.over hB4) | (with_reducible apply K.At.set) | (with_reducible apply K.At.alloc) | (with_reducible apply K.At.drewN) | (with_reducible apply K.At.drew) | (with_reducible apply K.At.far) | omega | (simp <;> omega))) ?_; rfl); obtain ⟨hc_kR4, hf_kR4, hl_kR4⟩ := K.At.facts kR4; clear hc_kR3 hf_kR3 hl_kR3))
      ((try simp only [Exit.inBlock, Exit.then]); refine bodyPost_ret (v := .tuple #[.agg #[.int .i64 0, .int .i64 0, .int .i64 0, .int .i64 0, .int .i64 0, .bool false, .int .i64 0, .int .i64 0, .int .i64 0, .slice none 0 0], .int .i64 y]) (by simp only [results, Try.results13]; go_simp) rfl ?_)
      exact ⟨rfl, (by repeat (first | (with_reducible exact Below.refl _ _) | (with_reducible refine K.b_bel ?_ (by assumption)) | (with_reducible refine K.b_alloc ?_ _) | (with_reducible refine K.b_drewN ?_ _) | (with_reducible refine K.b_drew ?_) | (with_reducible refine K.b_set ?_ (by first | omega | (simp <;> omega)) _) | (with_reducible refine K.b_only ?_ (by assumption) (by first | omega | (simp <;> omega)))))⟩
  · have Hn := K.H.mk h
    rw [show eNew num op tick left = 4 by simp [eNew, h], show oNew num op tick left = Cal.zero by simp [oNew, h]]
    clear h
    
    
    
    go_enter Try.func13, Try.ntmps13
    go_wp2_with (first
      | (go_at_call 36; first
        | (go_at_call 36; (with_reducible refine (in_one 0 1048576 num _ _ (K.At.new' _ _ _ _ (by simp))).mono ?_); rintro e W1 ⟨rfl, hb1⟩; obtain ⟨hB1, hC1, hF1, hZ1⟩ := K.bel_facts hb1; clear hb1; have kO1 : K.At W1 w.heap.size 23 op.c := (by refine K.At.cast (by repeat (first | (with_reducible refine K.At.new' _ _ _ _ (by first | rfl | (simp; done) | omega)) | (with_reducible apply K.At.over hB1) | (with_reducible apply K.At.set) | (with_reducible apply K.At.alloc) | (with_reducible apply K.At.drewN) | (with_reducible apply K.At.drew) | (with_reducible apply K.At.far) | omega | (simp <;> omega))) ?_; rfl); obtain ⟨hc_kO1, hf_kO1, hl_kO1⟩ := K.At.facts kO1; have kR1 : K.At W1 (w.heap.size + 1) 26 (Cal.zero.c none 0 0) := (by refine K.At.cast (by repeat (first | (with_reducible refine K.At.new' _ _ _ _ (by first | rfl | (simp; done) | omega)) | (with_reducible apply K.At.over hB1) | (with_reducible apply K.At.set) | (with_reducible apply K.At.alloc) | (with_reducible apply K.At.drewN) | (with_reducible apply K.At.drew) | (with_reducible apply K.At.far) | omega | (simp <;> omega))) ?_; rfl); obtain ⟨hc_kR1, hf_kR1, hl_kR1⟩ := K.At.facts kR1)
        | (go_at_call 36; (with_reducible refine (in_one 0 268435456 tick _ _ (K.At.new' _ _ _ _ (by simp))).mono ?_); rintro e W2 ⟨rfl, hb2⟩; obtain ⟨hB2, hC2, hF2, hZ2⟩ := K.bel_facts hb2; clear hb2; have kO2 : K.At W2 w.heap.size 23 op.c := (by refine K.At.cast (by repeat (first | (with_reducible exact kO1) | (with_reducible refine K.At.new' _ _ _ _ (by first | rfl | (simp; done) | omega)) | (with_reducible apply K.At.over hB2) | (with_reducible apply K.At.set) | (with_reducible apply K.At.alloc) | (with_reducible apply K.At.drewN) | (with_reducible apply K.At.drew) | (with_reducible apply K.At.far) | omega | (simp <;> omega))) ?_; rfl); obtain ⟨hc_kO2, hf_kO2, hl_kO2⟩ := K.At.facts kO2; clear hc_kO1 hf_kO1 hl_kO1; have kR2 : K.At W2 (w.heap.size + 1) 26 (Cal.zero.c none 0 0) := (by refine K.At.cast (by repeat (first | (with_reducible exact kR1) | (with_reducible refine K.At.new' _ _ _ _ (by first | rfl | (simp; done) | omega)) | (with_reducible apply K.At.over hB2) | (with_reducible apply K.At.set) | (with_reducible apply K.At.alloc) | (with_reducible apply K.At.drewN) | (with_reducible apply K.At.drew) | (with_reducible apply K.At.far) | omega | (simp <;> omega))) ?_; rfl); obtain ⟨hc_kR2, hf_kR2, hl_kR2⟩ := K.At.facts kR2; clear hc_kR1 hf_kR1 hl_kR1)
        | (go_at_call 36; (with_reducible refine (in_one 0 1048576 left _ _ (K.At.new' _ _ _ _ (by simp))).mono ?_); rintro e W3 ⟨rfl, hb3⟩; obtain ⟨hB3, hC3, hF3, hZ3⟩ := K.bel_facts hb3; clear hb3; have kO3 : K.At W3 w.heap.size 23 op.c := (by refine K.At.cast (by repeat (first | (with_reducible exact kO2) | (with_reducible refine K.At.new' _ _ _ _ (by first | rfl | (simp; done) | omega)) | (with_reducible apply K.At.over hB3) | (with_reducible apply K.At.set) | (with_reducible apply K.At.alloc) | (with_reducible apply K.At.drewN) | (with_reducible apply K.At.drew) | (with_reducible apply K.At.far) | omega | (simp <;> omega))) ?_; rfl); obtain ⟨hc_kO3, hf_kO3, hl_kO3⟩ := K.At.facts kO3; clear hc_kO2 hf_kO2 hl_kO2; have kR3 : K.At W3 (w.heap.size + 1) 26 (Cal.zero.c none 0 0) := (by refine K.At.cast (by repeat (first | (with_reducible exact kR2) | (with_reducible refine K.At.new' _ _ _ _ (by first | rfl | (simp; done) | omega)) | (with_reducible apply K.At.over hB3) | (with_reducible apply K.At.set) | (with_reducible apply K.At.alloc) | (with_reducible apply K.At.drewN) | (with_reducible apply K.At.drew) | (with_reducible apply K.At.far) | omega | (simp <;> omega))) ?_; rfl); obtain ⟨hc_kR3, hf_kR3, hl_kR3⟩ := K.At.facts kR3; clear hc_kR2 hf_kR2 hl_kR2)))
    all_goals first
      | (((try simp only [Exit.inBlock, Exit.then]); refine bodyPost_ret (v := .tuple #[.agg #[.int .i64 0, .int .i64 0, .int .i64 0, .int .i64 0, .int .i64 0, .bool false, .int .i64 0, .int .i64 0, .int .i64 0, .slice none 0 0], .int .i64 4]) (by simp only [results, Try.results13]; go_simp) rfl ?_)
         exact ⟨rfl, (by repeat (first | (with_reducible exact Below.refl _ _) | (with_reducible refine K.b_bel ?_ (by assumption)) | (with_reducible refine K.b_alloc ?_ _) | (with_reducible refine K.b_drewN ?_ _) | (with_reducible refine K.b_drew ?_) | (with_reducible refine K.b_set ?_ (by first | omega | (simp <;> omega)) _) | (with_reducible refine K.b_only ?_ (by assumption) (by first | omega | (simp <;> omega)))))⟩)
      | (exfalso; apply Hn.out; unfold nOk; clear Hn; go_light; simp only [Bool.not_eq_true', Bool.not_eq_true, Bool.not_eq_false', inB_t, inB_f] at *; omega)
set_option maxRecDepth 100000 in
set_option maxHeartbeats 4000000 in
theorem rNew_c (num : Int) (op : Op) (tick left : Int) (w : World) :
    Calls Try.prog 14 #[.int .i64 num, op.a, .int .i64 tick, .int .i64 left] w fun e w' => e = .returned (.tuple #[(oNew num op tick left).a none 0 0, .int .i64 (eNew num op tick left)]) ∧ Below w.heap.size w w' := by
  have GO := K.H.mk (fun W => rOp_c op W)
  by_cases h : nOk num tick left
  · have Hh := K.H.mk h
    have hh := h
    unfold nOk at hh
    have d1 : decide (num < 0) = false := by simp; omega
    have d2 : decide (1048576 < num) = false := by simp; omega
    have d3 : decide (tick < 0) = false := by simp; omega
    have d4 : decide (268435456 < tick) = false := by simp; omega
    have d5 : decide (left < 0) = false := by simp; omega
    have d6 : decide (1048576 < left) = false := by simp; omega
    by_cases h2 : eOp op = 0
    · have GC := K.H.mk (fun W => rOnce_c op.what W)
      rw [eOp_kind h2] at GC
      rw [h2] at GO
      rw [show eNew num op tick left = 0 by simp [eNew, h, h2], show oNew num op tick left = ⟨num, op, oOnce op.what, tick, tick + left, tick, []⟩ by simp [oNew, h, h2]]
      generalize oOnce op.what = o at *
      clear h2 h
      
      
      
      go_enter Try.func14, Try.ntmps14
      go_wp2_with (first
        | (go_at_call 39; (with_reducible refine (GO.out _).mono ?_); rintro e W4 ⟨rfl, hb4⟩; obtain ⟨hB4, hC4, hF4, hZ4⟩ := K.bel_facts hb4; clear hb4; have kO4 : K.At W4 w.heap.size 23 op.c := (by refine K.At.cast (by repeat (first | (with_reducible refine K.At.new' _ _ _ _ (by first | rfl | (simp; done) | omega)) | (with_reducible apply K.At.over hB4) | (with_reducible apply K.At.set) | (with_reducible apply K.At.alloc) | (with_reducible apply K.At.drewN) | (with_reducible apply K.At.drew) | (with_reducible apply K.At.far) | omega | (simp <;> omega))) ?_; rfl); obtain ⟨hc_kO4, hf_kO4, hl_kO4⟩ := K.At.facts kO4; have kR4 : K.At W4 (w.heap.size + 1) 26 (Cal.zero.c none 0 0) := (by refine K.At.cast (by repeat (first | (with_reducible refine K.At.new' _ _ _ _ (by first | rfl | (simp; done) | omega)) | (with_reducible apply K.At.over hB4) | (with_reducible apply K.At.set) | (with_reducible apply K.At.alloc) | (with_reducible apply K.At.drewN) | (with_reducible apply K.At.drew) | (with_reducible apply K.At.far) | omega | (simp <;> omega))) ?_; rfl); obtain ⟨hc_kR4, hf_kR4, hl_kR4⟩ := K.At.facts kR4)
        | (go_at_call 40; (with_reducible refine (GC.out _).mono ?_); rintro e w' ⟨rfl, hw'⟩; have hw'2 := Eq.symm hw'; clear hw'; subst hw'2))
      ((try simp only [Exit.inBlock, Exit.then]); refine bodyPost_ret (v := .tuple #[.agg #[.int .i64 num, .int .i64 op.what, .int .i64 op.key, .int .i64 op.other, .int .i64 op.amt, .bool o, .int .i64 tick, .int .i64 (tick + left), .int .i64 tick, .slice none 0 0], .int .i64 0]) (by simp only [results, Try.results14]; go_simp) rfl ?_)
      exact ⟨rfl, (by repeat (first | (with_reducible exact Below.refl _ _) | (with_reducible refine K.b_bel ?_ (by assumption)) | (with_reducible refine K.b_alloc ?_ _) | (with_reducible refine K.b_drewN ?_ _) | (with_reducible refine K.b_drew ?_) | (with_reducible refine K.b_set ?_ (by first | omega | (simp <;> omega)) _) | (with_reducible refine K.b_only ?_ (by assumption) (by first | omega | (simp <;> omega)))))⟩
    · have hd : (eOp op != 0) = true := by simp [h2]
      rw [show eNew num op tick left = eOp op by simp [eNew, h], show oNew num op tick left = Cal.zero by simp [oNew, h2]]
      clear h2 h
      generalize eOp op = y at *
      
      
      
      go_enter Try.func14, Try.ntmps14
      go_wp2_with (first
        | (go_at_call 39; (with_reducible refine (GO.out _).mono ?_); rintro e W4 ⟨rfl, hb4⟩; obtain ⟨hB4, hC4, hF4, hZ4⟩ := K.bel_facts hb4; clear hb4; have kO4 : K.At W4 w.heap.size 23 op.c := (by refine K.At.cast (by repeat (first | (with_reducible refine K.At.new' _ _ _ _ (by first | rfl | (simp; done) | omega)) | (with_reducible apply K.At.over hB4) | (with_reducible apply K.At.set) | (with_reducible apply K.At.alloc) | (with_reducible apply K.At.drewN) | (with_reducible apply K.At.drew) | (with_reducible apply K.At.far) | omega | (simp <;> omega))) ?_; rfl); obtain ⟨hc_kO4, hf_kO4, hl_kO4⟩ := K.At.facts kO4; have kR4 : K.At W4 (w.heap.size + 1) 26 (Cal.zero.c none 0 0) := (by refine K.At.cast (by repeat (first | (with_reducible refine K.At.new' _ _ _ _ (by first | rfl | (simp; done) | omega)) | (with_reducible apply K.At.over hB4) | (with_reducible apply K.At.set) | (with_reducible apply K.At.alloc) | (with_reducible apply K.At.drewN) | (with_reducible apply K.At.drew) | (with_reducible apply K.At.far) | omega | (simp <;> omega))) ?_; rfl); obtain ⟨hc_kR4, hf_kR4, hl_kR4⟩ := K.At.facts kR4))
      ((try simp only [Exit.inBlock, Exit.then]); refine bodyPost_ret (v := .tuple #[.agg #[.int .i64 0, .int .i64 0, .int .i64 0, .int .i64 0, .int .i64 0, .bool false, .int .i64 0, .int .i64 0, .int .i64 0, .slice none 0 0], .int .i64 y]) (by simp only [results, Try.results14]; go_simp) rfl ?_)
      exact ⟨rfl, (by repeat (first | (with_reducible exact Below.refl _ _) | (with_reducible refine K.b_bel ?_ (by assumption)) | (with_reducible refine K.b_alloc ?_ _) | (with_reducible refine K.b_drewN ?_ _) | (with_reducible refine K.b_drew ?_) | (with_reducible refine K.b_set ?_ (by first | omega | (simp <;> omega)) _) | (with_reducible refine K.b_only ?_ (by assumption) (by first | omega | (simp <;> omega)))))⟩
  · have Hn := K.H.mk h
    rw [show eNew num op tick left = 4 by simp [eNew, h], show oNew num op tick left = Cal.zero by simp [oNew, h]]
    clear h
    go_enter Try.func14, Try.ntmps14
    go_wp2_with (fail)
    all_goals first
      | (((try simp only [Exit.inBlock, Exit.then]); refine bodyPost_ret (v := .tuple #[.agg #[.int .i64 0, .int .i64 0, .int .i64 0, .int .i64 0, .int .i64 0, .bool false, .int .i64 0, .int .i64 0, .int .i64 0, .slice none 0 0], .int .i64 4]) (by simp only [results, Try.results14]; go_simp) rfl ?_)
         exact ⟨rfl, (by repeat (first | (with_reducible exact Below.refl _ _) | (with_reducible refine K.b_bel ?_ (by assumption)) | (with_reducible refine K.b_alloc ?_ _) | (with_reducible refine K.b_drewN ?_ _) | (with_reducible refine K.b_drew ?_) | (with_reducible refine K.b_set ?_ (by first | omega | (simp <;> omega)) _) | (with_reducible refine K.b_only ?_ (by assumption) (by first | omega | (simp <;> omega)))))⟩)
      | (exfalso; apply Hn.out; unfold nOk; clear Hn; go_light; omega)
/-! ### Ended -/
def oEnd (x : Cal) : Int := if x.l = [] then 2 else 3
set_option maxRecDepth 100000 in
set_option maxHeartbeats 1000000 in
theorem Ended_c (x : Cal) (A : Option Addr) (n c : Nat) (w : World) (hr : Sl.Rds w 8 A n (x.l.flatMap Att.cs)) : Calls Try.prog 18 #[x.a A n c] w fun e w' => e = .returned (.int .i64 (oEnd x)) ∧ Below w.heap.size w w' := by
  obtain rfl := hr.length Att.cs_len (by omega)
  have hle := hr.le
  clear hr
  unfold oEnd
  cases hl : (x.l.length == 0)
  · have h2 : ((x.l.length : Int) == 0) = false := by simp at hl ⊢; omega
    rw [if_neg (by rintro e; simp [e] at hl)]
    go_enter Try.func18, Try.ntmps18
    go_wp2
    go_ret
    exact ⟨rfl, (by repeat (first | (with_reducible exact Below.refl _ _) | (with_reducible refine K.b_bel ?_ (by assumption)) | (with_reducible refine K.b_alloc ?_ _) | (with_reducible refine K.b_drewN ?_ _) | (with_reducible refine K.b_drew ?_) | (with_reducible refine K.b_set ?_ (by first | omega | (simp <;> omega)) _) | (with_reducible refine K.b_only ?_ (by assumption) (by first | omega | (simp <;> omega)))))⟩
  · have h2 : ((x.l.length : Int) == 0) = true := by simp at hl ⊢; omega
    rw [if_pos (by simpa using hl)]
    go_enter Try.func18, Try.ntmps18
    go_wp2
    go_ret
    exact ⟨rfl, (by repeat (first | (with_reducible exact Below.refl _ _) | (with_reducible refine K.b_bel ?_ (by assumption)) | (with_reducible refine K.b_alloc ?_ _) | (with_reducible refine K.b_drewN ?_ _) | (with_reducible refine K.b_drew ?_) | (with_reducible refine K.b_set ?_ (by first | omega | (simp <;> omega)) _) | (with_reducible refine K.b_only ?_ (by assumption) (by first | omega | (simp <;> omega)))))⟩
set_option maxRecDepth 100000 in
set_option maxHeartbeats 1000000 in
theorem rEnded_c (x : Cal) (A : Option Addr) (n c : Nat) (w : World) (hr : Sl.Rds w 8 A n (x.l.flatMap Att.cs)) : Calls Try.prog 19 #[x.a A n c] w fun e w' => e = .returned (.int .i64 (oEnd x)) ∧ Below w.heap.size w w' := by
  obtain rfl := hr.length Att.cs_len (by omega)
  have hle := hr.le
  clear hr
  unfold oEnd
  cases hl : (x.l.length == 0)
  · have h2 : ((x.l.length : Int) == 0) = false := by simp at hl ⊢; omega
    rw [if_neg (by rintro e; simp [e] at hl)]
    go_enter Try.func19, Try.ntmps19
    go_wp2
    go_ret
    exact ⟨rfl, (by repeat (first | (with_reducible exact Below.refl _ _) | (with_reducible refine K.b_bel ?_ (by assumption)) | (with_reducible refine K.b_alloc ?_ _) | (with_reducible refine K.b_drewN ?_ _) | (with_reducible refine K.b_drew ?_) | (with_reducible refine K.b_set ?_ (by first | omega | (simp <;> omega)) _) | (with_reducible refine K.b_only ?_ (by assumption) (by first | omega | (simp <;> omega)))))⟩
  · have h2 : ((x.l.length : Int) == 0) = true := by simp at hl ⊢; omega
    rw [if_pos (by simpa using hl)]
    go_enter Try.func19, Try.ntmps19
    go_wp2
    go_ret
    exact ⟨rfl, (by repeat (first | (with_reducible exact Below.refl _ _) | (with_reducible refine K.b_bel ?_ (by assumption)) | (with_reducible refine K.b_alloc ?_ _) | (with_reducible refine K.b_drewN ?_ _) | (with_reducible refine K.b_drew ?_) | (with_reducible refine K.b_set ?_ (by first | omega | (simp <;> omega)) _) | (with_reducible refine K.b_only ?_ (by assumption) (by first | omega | (simp <;> omega)))))⟩
/-! ### The same call -/
set_option maxRecDepth 100000 in
set_option maxHeartbeats 4000000 in
theorem same_c (x : Cal) (A B : Option Addr) (n m c d : Nat) (w : World) (hr : Sl.Rds w 8 A n (x.l.flatMap Att.cs)) (hs : Sl.Rds w 8 B m (x.l.flatMap Att.cs)) :
    Calls Try.prog 15 #[x.a A n c, x.a B m d] w fun e w' => e = .returned (.bool true) ∧ Below w.heap.size w w' := by
  obtain rfl := hr.length Att.cs_len (by omega)
  obtain rfl := hs.length Att.cs_len (by omega)
  have hle := hr.le
  have Hr := K.H.mk hr
  have Hs := K.H.mk hs
  have ho := fun W => Op.neq x.op x.op W
  have hg := fun o y z W => Op.guard o y z x.op x.op W
  rw [show Op.same x.op x.op = true from Op.same_iff.2 rfl] at ho
  clear hr hs
  have e1 : (x.num != x.num) = false := by simp
  have e3 : (x.at_ != x.at_) = false := by simp
  have e4 : (x.dl != x.dl) = false := by simp
  have e5 : (x.nx != x.nx) = false := by simp
  go_enter Try.func15, Try.ntmps15
  go_wp2
  refine K.wp_gen (fun W => K.At W w.heap.size 26 (x.c A x.l.length c) ∧ K.At W (w.heap.size + 1) 26 (x.c B x.l.length d) ∧ Below w.heap.size w W) ⟨(by refine K.At.cast (by repeat (first | (with_reducible refine K.At.new' _ _ _ _ (by first | rfl | (simp; done) | omega)) | (with_reducible apply K.At.set) | (with_reducible apply K.At.alloc) | (with_reducible apply K.At.drewN) | (with_reducible apply K.At.drew) | (with_reducible apply K.At.far) | omega | (simp <;> omega))) ?_; rfl), (by refine K.At.cast (by repeat (first | (with_reducible refine K.At.new' _ _ _ _ (by first | rfl | (simp; done) | omega)) | (with_reducible apply K.At.set) | (with_reducible apply K.At.alloc) | (with_reducible apply K.At.drewN) | (with_reducible apply K.At.drew) | (with_reducible apply K.At.far) | omega | (simp <;> omega))) ?_; rfl), (by repeat (first | (with_reducible exact Below.refl _ _) | (with_reducible refine K.b_bel ?_ (by assumption)) | (with_reducible refine K.b_alloc ?_ _) | (with_reducible refine K.b_drewN ?_ _) | (with_reducible refine K.b_drew ?_) | (with_reducible refine K.b_set ?_ (by first | omega | (simp <;> omega)) _) | (with_reducible refine K.b_only ?_ (by assumption) (by first | omega | (simp <;> omega)))))⟩ ?_
  rintro W1 ⟨hX, hM, hb1⟩
  have Hb1 := K.H.mk hb1
  clear hb1 ho hg e1 e3 e4 e5
  go_loopw [5] (fun i wr => ∃ k : Nat, k ≤ x.l.length ∧ i = .int .i64 k ∧ K.At wr w.heap.size 26 (x.c A x.l.length c) ∧ K.At wr (w.heap.size + 1) 26 (x.c B x.l.length d) ∧ K.H (Below w.heap.size w wr)) (fun i _ => x.l.length - (intOf i).toNat)
  case atStart => exact ⟨0, by omega, rfl, hX, hM, Hb1⟩
  case round =>
    clear hX hM Hb1
    obtain ⟨k, hk, rfl, hX, hM, Hb⟩ := hrel
    obtain ⟨hc5, hf5, hl5⟩ := K.At.facts hX
    obtain ⟨hc6, hf6, hl6⟩ := K.At.facts hM
    by_cases hlt : k < x.l.length
    · obtain ⟨y, hx⟩ : ∃ y, x.l[k]? = some y := ⟨_, List.getElem?_eq_getElem hlt⟩
      obtain ⟨b, off, rfl, hbl, hbc⟩ := Sl.Rds.elem Hr.out Att.cs_len (by omega) hx
      have q_0 : wr.cell? ⟨b, off + k * 8, none⟩ = some (.int .i64 y.b) := (Hb.out.cell (p := ⟨b, off + k * 8 + 0, none⟩) hbl).trans (hbc 0 (by omega))
      have q_1 : wr.cell? ⟨b, off + k * 8 + 1, none⟩ = some (.int .i64 y.i) := (Hb.out.cell (p := ⟨b, off + k * 8 + 1, none⟩) hbl).trans (hbc 1 (by omega))
      have q_2 : wr.cell? ⟨b, off + k * 8 + 2, none⟩ = some (.int .i64 y.s) := (Hb.out.cell (p := ⟨b, off + k * 8 + 2, none⟩) hbl).trans (hbc 2 (by omega))
      have q_3 : wr.cell? ⟨b, off + k * 8 + 3, none⟩ = some (.int .i64 y.q) := (Hb.out.cell (p := ⟨b, off + k * 8 + 3, none⟩) hbl).trans (hbc 3 (by omega))
      have q_4 : wr.cell? ⟨b, off + k * 8 + 4, none⟩ = some (.int .i64 y.t) := (Hb.out.cell (p := ⟨b, off + k * 8 + 4, none⟩) hbl).trans (hbc 4 (by omega))
      have q_5 : wr.cell? ⟨b, off + k * 8 + 5, none⟩ = some (.bool y.hedge) := (Hb.out.cell (p := ⟨b, off + k * 8 + 5, none⟩) hbl).trans (hbc 5 (by omega))
      have q_6 : wr.cell? ⟨b, off + k * 8 + 6, none⟩ = some (.bool y.probe) := (Hb.out.cell (p := ⟨b, off + k * 8 + 6, none⟩) hbl).trans (hbc 6 (by omega))
      have q_7 : wr.cell? ⟨b, off + k * 8 + 7, none⟩ = some (.bool y.over) := (Hb.out.cell (p := ⟨b, off + k * 8 + 7, none⟩) hbl).trans (hbc 7 (by omega))
      clear hbc
      obtain ⟨b2, off2, rfl, hbl2, hbc2⟩ := Sl.Rds.elem Hs.out Att.cs_len (by omega) hx
      have q2_0 : wr.cell? ⟨b2, off2 + k * 8, none⟩ = some (.int .i64 y.b) := (Hb.out.cell (p := ⟨b2, off2 + k * 8 + 0, none⟩) hbl2).trans (hbc2 0 (by omega))
      have q2_1 : wr.cell? ⟨b2, off2 + k * 8 + 1, none⟩ = some (.int .i64 y.i) := (Hb.out.cell (p := ⟨b2, off2 + k * 8 + 1, none⟩) hbl2).trans (hbc2 1 (by omega))
      have q2_2 : wr.cell? ⟨b2, off2 + k * 8 + 2, none⟩ = some (.int .i64 y.s) := (Hb.out.cell (p := ⟨b2, off2 + k * 8 + 2, none⟩) hbl2).trans (hbc2 2 (by omega))
      have q2_3 : wr.cell? ⟨b2, off2 + k * 8 + 3, none⟩ = some (.int .i64 y.q) := (Hb.out.cell (p := ⟨b2, off2 + k * 8 + 3, none⟩) hbl2).trans (hbc2 3 (by omega))
      have q2_4 : wr.cell? ⟨b2, off2 + k * 8 + 4, none⟩ = some (.int .i64 y.t) := (Hb.out.cell (p := ⟨b2, off2 + k * 8 + 4, none⟩) hbl2).trans (hbc2 4 (by omega))
      have q2_5 : wr.cell? ⟨b2, off2 + k * 8 + 5, none⟩ = some (.bool y.hedge) := (Hb.out.cell (p := ⟨b2, off2 + k * 8 + 5, none⟩) hbl2).trans (hbc2 5 (by omega))
      have q2_6 : wr.cell? ⟨b2, off2 + k * 8 + 6, none⟩ = some (.bool y.probe) := (Hb.out.cell (p := ⟨b2, off2 + k * 8 + 6, none⟩) hbl2).trans (hbc2 6 (by omega))
      have q2_7 : wr.cell? ⟨b2, off2 + k * 8 + 7, none⟩ = some (.bool y.over) := (Hb.out.cell (p := ⟨b2, off2 + k * 8 + 7, none⟩) hbl2).trans (hbc2 7 (by omega))
      clear hbc2
      have hbw : b < wr.heap.size := Nat.lt_of_lt_of_le hbl Hb.out.size
      have hbw2 : b2 < wr.heap.size := Nat.lt_of_lt_of_le hbl2 Hb.out.size
      have hq := fun W => Att.neq y y W
      have hg := fun o p q W => Att.guard o p q y y W
      rw [show Att.same y y = true from Att.same_iff.2 rfl] at hq
      have hki : (k : Int) < x.l.length := by omega
      clear hx
      go_wp2
      refine K.wp_region_ext_lit (by kernel_rfl) (by kernel_rfl) ?_
      repeat (any_goals (first | go_big_quiet_skip | quiet_step (fail) | (refine wpQuiet_step (fun K hK => ?_); go_simp; split <;> (refine hK _ ?_; clear hK K))))
      all_goals (refine wpQuiet_nil ?_; intro W9 hW9; obtain ⟨hB9, hC9, hF9, hZ9⟩ := K.ext_facts hW9; clear hW9; have hX_9 := K.At.bel hX hB9; have hM_9 := K.At.bel hM hB9)
      go_wp2
      go_roundw
      case rel => exact ⟨k + 1, by omega, by go_num, hX_9, hM_9, ⟨(by repeat (first | (with_reducible exact Below.refl _ _) | (with_reducible exact Hb.out) | (with_reducible refine K.b_bel ?_ (by assumption)) | (with_reducible refine K.b_alloc ?_ _) | (with_reducible refine K.b_drewN ?_ _) | (with_reducible refine K.b_drew ?_) | (with_reducible refine K.b_set ?_ (by first | omega | (simp <;> omega)) _) | (with_reducible refine K.b_only ?_ (by assumption) (by first | omega | (simp <;> omega)))))⟩⟩
      case measure => simp [intOf]; omega
    · obtain rfl : k = x.l.length := by omega
      go_wp2
      go_ret
      exact ⟨rfl, Hb.out⟩
theorem num_c (a : Int) (w : World) : Calls Try.prog 12 #[.int .i64 a] w fun e w' => e = .returned (.int .i64 a) ∧ w' = w := by
  go_enter Try.func12, Try.ntmps12
  go_wp2
  go_ret
  exact ⟨rfl, rfl⟩
end Go.Proofs.Ytfepjpjkamlneaa.Cl
