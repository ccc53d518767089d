/- Calls: the reference's Send, Slow. -/
import Derived.Test.YtfepjpjkamlneaaClY
set_option linter.unusedVariables false
namespace Go.Proofs.Ytfepjpjkamlneaa.Cl
open Go.RowKit Go.Proofs.Ytfepjpjkamlneaa
attribute [local go_sem] K.max2_int K.min2_int K.max_two K.min_two K.max_three K.min_three
set_option linter.unusedSimpArgs false
set_option maxRecDepth 100000 in
set_option maxHeartbeats 4000000 in
theorem rSend_bad (x : Cal) (s : Set) (v : Value) (A : Option Addr) (n c : Nat) (w : World) (hr : Sl.Rds w 8 A n (x.l.flatMap Att.cs)) (h : eCall x s ≠ 0) : Calls Try.prog 26 #[x.a A n c, s.a, v] w (CalPost w Cal.zero (eCall x s)) := by
  have GA := K.H.mk (fun (W : World) (hb : Below w.heap.size w W) => rCheck_c x s A n c W (hr.below hb))
  have hd : (eCall x s != 0) = true := by simpa using h
  generalize eCall x s = y at *
  clear hr h
  
  
  go_enter Try.func26, Try.ntmps26
  go_wp2_with (first | (go_at_call 31; (with_reducible refine (GA.out _ (by repeat (first | (with_reducible exact Below.refl _ _) | (with_reducible refine K.b_bel ?_ (by assumption)) | (with_reducible refine K.b_alloc ?_ _) | (with_reducible refine K.b_drewN ?_ _) | (with_reducible refine K.b_drew ?_) | (with_reducible refine K.b_set ?_ (by first | omega | (simp <;> omega)) _) | (with_reducible refine K.b_only ?_ (by assumption) (by first | omega | (simp <;> omega)))))).mono ?_); rintro e W1 ⟨rfl, hb1⟩; obtain ⟨hB1, hC1, hF1, hZ1⟩ := K.bel_facts hb1; clear hb1; have kR1 : K.At W1 (w.heap.size + 1 + 1) 26 #[.int .i64 0, .int .i64 0, .int .i64 0, .int .i64 0, .int .i64 0, .bool false, .int .i64 0, .int .i64 0, .int .i64 0, .slice none 0 0] := (by refine K.At.cast (by repeat (first | (with_reducible refine K.At.new' _ _ _ _ (by first | rfl | (simp; done) | omega)) | (with_reducible apply K.At.over hB1) | (with_reducible apply K.At.set) | (with_reducible apply K.At.alloc) | (with_reducible apply K.At.drewN) | (with_reducible apply K.At.drew) | (with_reducible apply K.At.far) | omega | (simp <;> omega))) ?_; rfl); obtain ⟨hc_kR1, hf_kR1, hl_kR1⟩ := K.At.facts kR1))
  ((try simp only [Exit.inBlock, Exit.then]); refine bodyPost_ret (v := .tuple #[.agg #[.int .i64 0, .int .i64 0, .int .i64 0, .int .i64 0, .int .i64 0, .bool false, .int .i64 0, .int .i64 0, .int .i64 0, .slice none 0 0], .int .i64 y]) (by simp only [results, Try.results26]; go_simp) rfl ?_)
  exact zero_post (by repeat (first | (with_reducible exact Below.refl _ _) | (with_reducible refine K.b_bel ?_ (by assumption)) | (with_reducible refine K.b_alloc ?_ _) | (with_reducible refine K.b_drewN ?_ _) | (with_reducible refine K.b_drew ?_) | (with_reducible refine K.b_set ?_ (by first | omega | (simp <;> omega)) _) | (with_reducible refine K.b_only ?_ (by assumption) (by first | omega | (simp <;> omega)))))
set_option maxRecDepth 100000 in
set_option maxHeartbeats 8000000 in
theorem rSend_ok (x : Cal) (s : Set) (ms : List Att) (A : Option Addr) (n c : Nat) (A2 : Option Addr) (n2 c2 : Nat) (w : World) (hr : Sl.Rds w 8 A n (x.l.flatMap Att.cs)) (hr2 : Sl.Rds w 8 A2 n2 (ms.flatMap Att.cs)) (h : eCall x s = 0) :
    Calls Try.prog 26 #[x.a A n c, s.a, .slice A2 n2 c2] w (CalPost w (sendF s x ms).1 (sendF s x ms).2) := by
  obtain rfl := hr.length Att.cs_len (by omega)
  obtain rfl := hr2.length Att.cs_len (by omega)
  have hle := hr2.le
  have h16 := ok_len h
  have Hok := K.H.mk (eCall_ok h).1
  have ha16 : s.att ≤ 16 := by have := (eCall_ok h).1; unfold Set.ok at this; omega
  have GA := K.H.mk (fun (W : World) (hb : Below w.heap.size w W) => rCheck_c x s A x.l.length c W (hr.below hb))
  rw [h] at GA
  have GO := K.H.mk (fun (W : World) (hb : Below w.heap.size w W) => rOwn_c x A x.l.length c W (hr.below hb) (by omega))
  have Hr := K.H.mk hr2
  obtain ⟨p, hp⟩ : ∃ p, p = sendF s x ms := ⟨_, rfl⟩
  rw [← hp]
  have Hp := K.H.mk hp
  clear hr hr2 h hp
  
  
  
  
  go_enter Try.func26, Try.ntmps26
  go_wp2_with (first
    | (go_at_call 31; (with_reducible refine (GA.out _ (by repeat (first | (with_reducible exact Below.refl _ _) | (with_reducible refine K.b_bel ?_ (by assumption)) | (with_reducible refine K.b_alloc ?_ _) | (with_reducible refine K.b_drewN ?_ _) | (with_reducible refine K.b_drew ?_) | (with_reducible refine K.b_set ?_ (by first | omega | (simp <;> omega)) _) | (with_reducible refine K.b_only ?_ (by assumption) (by first | omega | (simp <;> omega)))))).mono ?_); rintro e W1 ⟨rfl, hb1⟩; obtain ⟨hB1, hC1, hF1, hZ1⟩ := K.bel_facts hb1; clear hb1; have kX1 : K.At W1 w.heap.size 26 (x.c A x.l.length c) := (by refine K.At.cast (by repeat (first | (with_reducible refine K.At.new' _ _ _ _ (by first | rfl | (simp; done) | omega)) | (with_reducible apply K.At.over hB1) | (with_reducible apply K.At.set) | (with_reducible apply K.At.alloc) | (with_reducible apply K.At.drewN) | (with_reducible apply K.At.drew) | (with_reducible apply K.At.far) | omega | (simp <;> omega))) ?_; rfl); obtain ⟨hc_kX1, hf_kX1, hl_kX1⟩ := K.At.facts kX1; have kS1 : K.At W1 (w.heap.size + 1) 30 s.c := (by refine K.At.cast (by repeat (first | (with_reducible refine K.At.new' _ _ _ _ (by first | rfl | (simp; done) | omega)) | (with_reducible apply K.At.over hB1) | (with_reducible apply K.At.set) | (with_reducible apply K.At.alloc) | (with_reducible apply K.At.drewN) | (with_reducible apply K.At.drew) | (with_reducible apply K.At.far) | omega | (simp <;> omega))) ?_; rfl); obtain ⟨hc_kS1, hf_kS1, hl_kS1⟩ := K.At.facts kS1; have kR1 : K.At W1 (w.heap.size + 1 + 1) 26 #[.int .i64 0, .int .i64 0, .int .i64 0, .int .i64 0, .int .i64 0, .bool false, .int .i64 0, .int .i64 0, .int .i64 0, .slice none 0 0] := (by refine K.At.cast (by repeat (first | (with_reducible refine K.At.new' _ _ _ _ (by first | rfl | (simp; done) | omega)) | (with_reducible apply K.At.over hB1) | (with_reducible apply K.At.set) | (with_reducible apply K.At.alloc) | (with_reducible apply K.At.drewN) | (with_reducible apply K.At.drew) | (with_reducible apply K.At.far) | omega | (simp <;> omega))) ?_; rfl); obtain ⟨hc_kR1, hf_kR1, hl_kR1⟩ := K.At.facts kR1)
    | (go_at_call 25; (with_reducible refine (GO.out _ (by repeat (first | (with_reducible exact Below.refl _ _) | (with_reducible refine K.b_bel ?_ (by assumption)) | (with_reducible refine K.b_alloc ?_ _) | (with_reducible refine K.b_drewN ?_ _) | (with_reducible refine K.b_drew ?_) | (with_reducible refine K.b_set ?_ (by first | omega | (simp <;> omega)) _) | (with_reducible refine K.b_only ?_ (by assumption) (by first | omega | (simp <;> omega)))))).mono ?_); rintro e W2 ⟨B1, d1, rfl, hown1, hb2⟩; obtain ⟨hB2, hC2, hF2, hZ2⟩ := K.bel_facts hb2; clear hb2; have kX2 : K.At W2 w.heap.size 26 (x.c A x.l.length c) := (by refine K.At.cast (by repeat (first | (with_reducible exact kX1) | (with_reducible refine K.At.new' _ _ _ _ (by first | rfl | (simp; done) | omega)) | (with_reducible apply K.At.over hB2) | (with_reducible apply K.At.set) | (with_reducible apply K.At.alloc) | (with_reducible apply K.At.drewN) | (with_reducible apply K.At.drew) | (with_reducible apply K.At.far) | omega | (simp <;> omega))) ?_; rfl); obtain ⟨hc_kX2, hf_kX2, hl_kX2⟩ := K.At.facts kX2; clear hc_kX1 hf_kX1 hl_kX1; have kS2 : K.At W2 (w.heap.size + 1) 30 s.c := (by refine K.At.cast (by repeat (first | (with_reducible exact kS1) | (with_reducible refine K.At.new' _ _ _ _ (by first | rfl | (simp; done) | omega)) | (with_reducible apply K.At.over hB2) | (with_reducible apply K.At.set) | (with_reducible apply K.At.alloc) | (with_reducible apply K.At.drewN) | (with_reducible apply K.At.drew) | (with_reducible apply K.At.far) | omega | (simp <;> omega))) ?_; rfl); obtain ⟨hc_kS2, hf_kS2, hl_kS2⟩ := K.At.facts kS2; clear hc_kS1 hf_kS1 hl_kS1; have kR2 : K.At W2 (w.heap.size + 1 + 1) 26 #[.int .i64 0, .int .i64 0, .int .i64 0, .int .i64 0, .int .i64 0, .bool false, .int .i64 0, .int .i64 0, .int .i64 0, .slice none 0 0] := (by refine K.At.cast (by repeat (first | (with_reducible exact kR1) | (with_reducible refine K.At.new' _ _ _ _ (by first | rfl | (simp; done) | omega)) | (with_reducible apply K.At.over hB2) | (with_reducible apply K.At.set) | (with_reducible apply K.At.alloc) | (with_reducible apply K.At.drewN) | (with_reducible apply K.At.drew) | (with_reducible apply K.At.far) | omega | (simp <;> omega))) ?_; rfl); obtain ⟨hc_kR2, hf_kR2, hl_kR2⟩ := K.At.facts kR2; clear hc_kR1 hf_kR1 hl_kR1))
  obtain ⟨g, hg⟩ : ∃ g, g = W2.heap.size := ⟨_, rfl⟩
  have hz1 := kR1.lt
  have hz2 := kR2.lt
  refine K.wp_gen (fun W => K.At W (w.heap.size + 1) 30 s.c ∧ K.At W (w.heap.size + 1 + 1) 26 #[.int .i64 0, .int .i64 0, .int .i64 0, .int .i64 0, .int .i64 0, .bool false, .int .i64 0, .int .i64 0, .int .i64 0, .slice none 0 0] ∧ K.At W W2.heap.size 26 (x.c B1 x.l.length d1) ∧ W.ownsRow w.heap.size 37 8 (.slice B1 x.l.length d1) x.l.length (x.l.flatMap Att.cs) ∧ Below w.heap.size w W) ⟨(by refine K.At.cast (by repeat (first | (with_reducible exact kS2) | (with_reducible refine K.At.new' _ _ _ _ (by first | rfl | (simp; done) | omega)) | (with_reducible apply K.At.set) | (with_reducible apply K.At.alloc) | (with_reducible apply K.At.drewN) | (with_reducible apply K.At.drew) | (with_reducible apply K.At.far) | omega | (simp <;> omega))) ?_; rfl), (by refine K.At.cast (by repeat (first | (with_reducible exact kR2) | (with_reducible refine K.At.new' _ _ _ _ (by first | rfl | (simp; done) | omega)) | (with_reducible apply K.At.set) | (with_reducible apply K.At.alloc) | (with_reducible apply K.At.drewN) | (with_reducible apply K.At.drew) | (with_reducible apply K.At.far) | omega | (simp <;> omega))) ?_; rfl), (by refine K.At.cast (by repeat (first | (with_reducible refine K.At.new' _ _ _ _ (by first | rfl | (simp; done) | omega)) | (with_reducible apply K.At.set) | (with_reducible apply K.At.alloc) | (with_reducible apply K.At.drewN) | (with_reducible apply K.At.drew) | (with_reducible apply K.At.far) | omega | (simp <;> omega))) ?_; rfl), ?_, (by repeat (first | (with_reducible exact Below.refl _ _) | (with_reducible refine K.b_bel ?_ (by assumption)) | (with_reducible refine K.b_alloc ?_ _) | (with_reducible refine K.b_drewN ?_ _) | (with_reducible refine K.b_drew ?_) | (with_reducible refine K.b_set ?_ (by first | omega | (simp <;> omega)) _) | (with_reducible refine K.b_only ?_ (by assumption) (by first | omega | (simp <;> omega)))))⟩ ?_
  · have hq : (Value.slice B1 x.l.length d1).ownBlock ≠ some W2.heap.size := fun e => by have := (hown1.lt _ e).2; omega
    repeat (first | (with_reducible refine Sl.own_set ?_ hq _) | (with_reducible refine World.ownsRow.alloc ?_ _))
    exact Sl.own_low hown1 (by omega)
  rintro W3 ⟨kS3, kR3, kO3, hownl, hb3⟩
  rw [← hg]
  rw [← hg] at kO3 hz2
  have Hb1 := K.H.mk hb3
  have hg2 : w.heap.size + 2 < g := by omega
  clear hown1 hb3 GA GO
  clear hg
  ((try clear hC2); (try clear hF2); (try clear hZ2); (try clear hc2); (try clear hf2); (try clear hl2); (try clear hB2); (try clear hO2); (try clear hA2); (try clear hz2_0); (try clear hz2_1); (try clear hz2_2); (try clear hz2_3); (try clear hz2_1_0); (try clear hz2_1_1); (try clear hC1); (try clear hF1); (try clear hZ1); (try clear hc1); (try clear hf1); (try clear hl1); (try clear hB1); (try clear hO1); (try clear hA1); (try clear hz1_0); (try clear hz1_1); (try clear hz1_2); (try clear hz1_3); (try clear kX1); (try clear kS1); (try clear kR1); (try clear kX2); (try clear kS2); (try clear kR2); (try clear hc_kX2); (try clear hf_kX2); (try clear hl_kX2); (try clear hc_kS2); (try clear hf_kS2); (try clear hl_kS2); (try clear hc_kR2); (try clear hf_kR2); (try clear hl_kR2); (try clear hz1); (try clear hz2))
  go_loopw [10] (fun i wr => ∃ (k : Nat) (y : Cal) (B : Option Addr) (d : Nat), k ≤ ms.length ∧ i = .int .i64 k ∧ K.At wr (w.heap.size + 1) 30 s.c ∧ K.At wr (w.heap.size + 1 + 1) 26 #[.int .i64 0, .int .i64 0, .int .i64 0, .int .i64 0, .int .i64 0, .bool false, .int .i64 0, .int .i64 0, .int .i64 0, .slice none 0 0] ∧ K.At wr g 26 (y.c B y.l.length d) ∧ wr.ownsRow w.heap.size 37 8 (.slice B y.l.length d) y.l.length (y.l.flatMap Att.cs) ∧ K.H (Below w.heap.size w wr) ∧ K.H (y.l.length ≤ 16 ∧ p = sendF s y (ms.drop k))) (fun i _ => ms.length - (intOf i).toNat)
  case atStart => exact ⟨0, x, B1, d1, by omega, rfl, kS3, kR3, kO3, hownl, Hb1, ⟨h16, by simpa using Hp.out⟩⟩
  case round =>
    clear hownl kO3 kS3 kR3 Hb1 Hp
    obtain ⟨k, y, B, d, hk, rfl, hS, hR, hG, hown, Hb, Hy⟩ := hrel
    have hgl := hG.lt
    obtain ⟨hc2, hf2, hl2⟩ := K.At.facts hG
    obtain ⟨hc3, hf3, hl3⟩ := K.At.facts hS
    obtain ⟨hc4, hf4, hl4⟩ := K.At.facts hR
    by_cases hlt : k < ms.length
    · obtain ⟨a, hx⟩ : ∃ a, ms[k]? = some a := ⟨_, List.getElem?_eq_getElem hlt⟩
      have hdr : ms.drop k = a :: ms.drop (k + 1) := by rw [List.drop_eq_getElem_cons hlt]; congr 1; exact (List.getElem?_eq_some_iff.1 hx).2
      have hy16 := Hy.out.1
      have HS := K.H.mk (send_step (hdr ▸ Hy.out.2))
      obtain ⟨b, off, rfl, hbl, hbc⟩ := Sl.Rds.elem Hr.out Att.cs_len (by omega) hx
      have q_0 : wr.cell? ⟨b, off + k * 8, none⟩ = some (.int .i64 a.b) := (Hb.out.cell (p := ⟨b, off + k * 8 + 0, none⟩) hbl).trans (hbc 0 (by omega))
      have q_1 : wr.cell? ⟨b, off + k * 8 + 1, none⟩ = some (.int .i64 a.i) := (Hb.out.cell (p := ⟨b, off + k * 8 + 1, none⟩) hbl).trans (hbc 1 (by omega))
      have q_2 : wr.cell? ⟨b, off + k * 8 + 2, none⟩ = some (.int .i64 a.s) := (Hb.out.cell (p := ⟨b, off + k * 8 + 2, none⟩) hbl).trans (hbc 2 (by omega))
      have q_3 : wr.cell? ⟨b, off + k * 8 + 3, none⟩ = some (.int .i64 a.q) := (Hb.out.cell (p := ⟨b, off + k * 8 + 3, none⟩) hbl).trans (hbc 3 (by omega))
      have q_4 : wr.cell? ⟨b, off + k * 8 + 4, none⟩ = some (.int .i64 a.t) := (Hb.out.cell (p := ⟨b, off + k * 8 + 4, none⟩) hbl).trans (hbc 4 (by omega))
      have q_5 : wr.cell? ⟨b, off + k * 8 + 5, none⟩ = some (.bool a.hedge) := (Hb.out.cell (p := ⟨b, off + k * 8 + 5, none⟩) hbl).trans (hbc 5 (by omega))
      have q_6 : wr.cell? ⟨b, off + k * 8 + 6, none⟩ = some (.bool a.probe) := (Hb.out.cell (p := ⟨b, off + k * 8 + 6, none⟩) hbl).trans (hbc 6 (by omega))
      have q_7 : wr.cell? ⟨b, off + k * 8 + 7, none⟩ = some (.bool a.over) := (Hb.out.cell (p := ⟨b, off + k * 8 + 7, none⟩) hbl).trans (hbc 7 (by omega))
      clear hbc
      have hbw : b < wr.heap.size := Nat.lt_of_lt_of_le hbl Hb.out.size
      have hqg := Sl.own_ne hown hG (by decide)
      have hqs := Sl.own_ne hown hS (by decide)
      have hqr := Sl.own_ne hown hR (by decide)
      have hqb : (Value.slice B y.l.length d).ownBlock ≠ some b := fun e => by have := (hown.lt _ e).1; omega
      have hbg : b ≠ g := by omega
      clear hx hdr Hy
      cases hf : decide (s.att ≤ (y.l.length : Int))
      · have hdf := of_decide_eq_false hf
        have hb48 : (y.l.length + 1) * 48 ≤ 140737488355328 := by omega
        have hz7 : w.heap.size ≤ wr.heap.size := Hb.out.size
        obtain ⟨r0, hr0⟩ : ∃ r0, r0 = (Value.slice B y.l.length d).ownBlock := ⟨_, rfl⟩
        have hrg : r0 ≠ some g := hr0 ▸ hqg
        have hrs : r0 ≠ some (w.heap.size + 1) := hr0 ▸ hqs
        have hrr : r0 ≠ some (w.heap.size + 1 + 1) := hr0 ▸ hqr
        have hrb : r0 ≠ some b := hr0 ▸ hqb
        have Hr0 := K.H.mk hr0
        have hl9 : y.l.flatMap Att.cs ++ a.cs = (addA y a).l.flatMap Att.cs := by simp [addA, List.flatMap_append]
        have Hl9 := K.H.mk hl9
        have hln : (addA y a).l.length = y.l.length + 1 := by simp [addA]
        clear hr0 hl9 hqg hqs hqr hqb
        go_wp2
        refine K.wp_region_row_tail r0 9 (by kernel_rfl) (by kernel_rfl) (by kernel_rfl) ?_
        simp only [List.take_succ_cons, List.take_zero, List.drop_succ_cons, List.drop_zero]
        intro W9 hB9
        have hR9 := K.InR.of_bel r0 hB9
        have hZ9 := K.inr_size hR9
        repeat (any_goals (first | refine K.wpMix_skip2 (by rfl) (by rfl) ?_ | (refine K.wpMix_skip (by rfl) ?_; go_simp) | (refine K.wpMix_want (by rfl) (by rfl) (fun Kq hK => ?_); go_simp; refine hK _ _ ?_; clear hK Kq) | (refine K.wpMix_ser (by rfl) (by rfl) (fun Kq hK => ?_); first | ((refine K.ser_app1 (news := a.cs) _ _ 24 37 (.agg #[.int .i64 0, .int .i64 0, .int .i64 0, .int .i64 0, .int .i64 0, .bool false, .bool false, .bool false]) rfl Try.underlying24 (by kernel_rfl : (Try.prog.info? 37).map (fun i => (i.zero, i.size, i.bytes)) = some (some (.agg #[.int .i64 0, .int .i64 0, .int .i64 0, .int .i64 0, .int .i64 0, .bool false, .bool false, .bool false]), 8, 48)) rfl (by decide) (by decide) rfl ((Sl.own_over hown hB9).alloc _) rfl rfl (Sl.new_cells _ _ _ _ (by first | rfl | simp)) (by simp [Value.oneCell', Att.cs]) hb48 (by simp; omega) ?_; intro v8 W8 hown8 hgr8; have hgr8 : World.grownBy _ W8 r0 := (by rw [Hr0.out]; exact hgr8); have hI8 : K.InR wr r0 W8 := (by repeat (first | (with_reducible exact hR9) | (with_reducible refine K.inr_bel ?_ (by assumption)) | (with_reducible refine K.inr_alloc ?_ _) | (with_reducible refine K.inr_row ?_ (by assumption)) | (with_reducible refine K.inr_new ?_ (by first | omega | (simp <;> omega)) _))); rw [Hl9.out] at hown8; obtain ⟨B2, d2, rfl, hRd8⟩ := Sl.Rds.of_own hown8; have hG8 := K.at_inr hG hI8 hrg; have hS8 := K.at_inr hS hI8 hrs; have hR8 := K.at_inr hR hI8 hrr; have q8_7 : W8.cell? ⟨b, off + k * 8 + 7, none⟩ = some (.bool a.over) := (World.cell?_of_block (hI8.out.block b hbw (Ne.symm hrb))).trans q_7; have hbw8 : b < W8.heap.size := Nat.lt_of_lt_of_le hbw hI8.out.size); refine ⟨(by repeat (first | (with_reducible exact hR9) | (with_reducible refine K.inr_bel ?_ (by assumption)) | (with_reducible refine K.inr_alloc ?_ _) | (with_reducible refine K.inr_row ?_ (by assumption)) | (with_reducible refine K.inr_new ?_ (by first | omega | (simp <;> omega)) _))), hK _ _ ?_⟩; clear hK Kq) | (go_simp; first | (refine ⟨(by repeat (first | (with_reducible exact hR9) | (with_reducible refine K.inr_bel ?_ (by assumption)) | (with_reducible refine K.inr_alloc ?_ _) | (with_reducible refine K.inr_row ?_ (by assumption)) | (with_reducible refine K.inr_new ?_ (by first | omega | (simp <;> omega)) _))), hK _ _ ?_⟩; clear hK Kq) | (fail; refine ⟨_, rfl, (by repeat (first | (with_reducible exact hR9) | (with_reducible refine K.inr_bel ?_ (by assumption)) | (with_reducible refine K.inr_alloc ?_ _) | (with_reducible refine K.inr_row ?_ (by assumption)) | (with_reducible refine K.inr_new ?_ (by first | omega | (simp <;> omega)) _))), hK _ _ ?_⟩; clear hK Kq)))))
        all_goals refine K.wpMix_nil ?_
        have hz8 : wr.heap.size ≤ W8.heap.size := hI8.out.size
        have hb8 : Below w.heap.size w W8 := Sl.below_grown Hb.out hI8.out (fun k hk => (Sl.own_base hown k (Hr0.out ▸ hk)))
        have HB8 := K.H.mk hb8
        clear hb8 hI8 hgr8 hR9 hB9 hZ9 hown hG hS hR hc2 hf2 hl2 hc3 hf3 hl3 hc4 hf4 hl4 hRd8 q_0 q_1 q_2 q_3 q_4 q_5 q_6 q_7
        have hng8 := Sl.own_ne hown8 hG8 (by decide)
        obtain ⟨hc8, hf8, hl8⟩ := K.At.facts hG8
        obtain ⟨hc5, hf5, hl5⟩ := K.At.facts hS8
        obtain ⟨hc6, hf6, hl6⟩ := K.At.facts hR8
        have hgl8 := hG8.lt
        have hown9 := fun u => Sl.own_set (p := ⟨g, 9, none⟩) hown8 hng8 u
        have hy9 : K.At (W8.setCell ⟨g, 9, none⟩ (.slice B2 (y.l.length + 1) d2)) g 26 (y.c B2 (y.l.length + 1) d2) := (by refine K.At.cast (by repeat (first | (with_reducible exact hG8) | (with_reducible refine K.At.new' _ _ _ _ (by first | rfl | (simp; done) | omega)) | (with_reducible apply K.At.set) | (with_reducible apply K.At.alloc) | (with_reducible apply K.At.drewN) | (with_reducible apply K.At.drew) | (with_reducible apply K.At.far) | omega | (simp <;> omega))) ?_; rfl)
        have hRd9 : Sl.Rds (W8.setCell ⟨g, 9, none⟩ (.slice B2 (y.l.length + 1) d2)) 8 B2 (y.l.length + 1) ((addA y a).l.flatMap Att.cs) := by
          obtain ⟨_, _, he, hR⟩ := Sl.Rds.of_own (hown9 (.slice B2 (y.l.length + 1) d2)); cases he; exact hR
        have GF := K.H.mk (show Calls Try.prog 31 #[y.a B2 (y.l.length + 1) d2, s.a] _ fun e w' => e = .returned (.int .i64 (eCall (addA y a) s)) ∧ Below _ _ w' from rCheck_c (addA y a) s B2 (y.l.length + 1) d2 _ hRd9)
        have hb9 : Below w.heap.size w (W8.setCell ⟨g, 9, none⟩ (.slice B2 (y.l.length + 1) d2)) := (by repeat (first | (with_reducible exact Below.refl _ _) | (with_reducible exact HB8.out) | (with_reducible refine K.b_bel ?_ (by assumption)) | (with_reducible refine K.b_alloc ?_ _) | (with_reducible refine K.b_drewN ?_ _) | (with_reducible refine K.b_drew ?_) | (with_reducible refine K.b_set ?_ (by first | omega | (simp <;> omega)) _) | (with_reducible refine K.b_only ?_ (by assumption) (by first | omega | (simp <;> omega)))))
        have HB9 := K.H.mk hb9
        clear hb9 hRd9
        cases ho : a.over
        · rw [ho] at q8_7
          cases hfi : fineB (addA y a) s
          · rw [eCall_9 Hok.out hfi] at GF
            have HSn := K.H.mk (HS.out.2.2.1 hdf ho hfi)
            clear HS ho hfi
            go_wp2_with (first | (go_at_call 31; (with_reducible refine (GF.out).mono ?_); rintro e W11 ⟨rfl, hb11⟩; obtain ⟨hB11, hC11, hF11, hZ11⟩ := K.bel_facts hb11; clear hb11; have hR11 : K.At W11 (w.heap.size + 1 + 1) 26 #[.int .i64 0, .int .i64 0, .int .i64 0, .int .i64 0, .int .i64 0, .bool false, .int .i64 0, .int .i64 0, .int .i64 0, .slice none 0 0] := (by refine K.At.cast (by repeat (first | (with_reducible exact hR8) | (with_reducible refine K.At.new' _ _ _ _ (by first | rfl | (simp; done) | omega)) | (with_reducible apply K.At.over hB11) | (with_reducible apply K.At.set) | (with_reducible apply K.At.alloc) | (with_reducible apply K.At.drewN) | (with_reducible apply K.At.drew) | (with_reducible apply K.At.far) | omega | (simp <;> omega))) ?_; rfl); obtain ⟨hc_hR11, hf_hR11, hl_hR11⟩ := K.At.facts hR11))
            ((try simp only [Exit.inBlock, Exit.then]); refine bodyPost_ret (v := .tuple #[.agg #[.int .i64 0, .int .i64 0, .int .i64 0, .int .i64 0, .int .i64 0, .bool false, .int .i64 0, .int .i64 0, .int .i64 0, .slice none 0 0], .int .i64 9]) (by simp only [results, Try.results26]; go_simp) rfl ?_)
            rw [HSn.out]
            exact zero_post (by repeat (first | (with_reducible exact Below.refl _ _) | (with_reducible exact HB9.out) | (with_reducible refine K.b_bel ?_ (by assumption)) | (with_reducible refine K.b_alloc ?_ _) | (with_reducible refine K.b_drewN ?_ _) | (with_reducible refine K.b_drew ?_) | (with_reducible refine K.b_set ?_ (by first | omega | (simp <;> omega)) _) | (with_reducible refine K.b_only ?_ (by assumption) (by first | omega | (simp <;> omega)))))
          · rw [eCall_0 Hok.out hfi] at GF
            have HSn := K.H.mk (HS.out.2.2.2 hdf ho hfi)
            clear HS ho hfi
            go_wp2_with (first | (go_at_call 31; (with_reducible refine (GF.out).mono ?_); rintro e W11 ⟨rfl, hb11⟩; obtain ⟨hB11, hC11, hF11, hZ11⟩ := K.bel_facts hb11; clear hb11))
            go_roundw
            case rel => exact ⟨k + 1, addA y a, B2, d2, by omega, by go_num, (by refine K.At.cast (by repeat (first | (with_reducible exact hS8) | (with_reducible refine K.At.new' _ _ _ _ (by first | rfl | (simp; done) | omega)) | (with_reducible apply K.At.over hB11) | (with_reducible apply K.At.set) | (with_reducible apply K.At.alloc) | (with_reducible apply K.At.drewN) | (with_reducible apply K.At.drew) | (with_reducible apply K.At.far) | omega | (simp <;> omega))) ?_; rfl), (by refine K.At.cast (by repeat (first | (with_reducible exact hR8) | (with_reducible refine K.At.new' _ _ _ _ (by first | rfl | (simp; done) | omega)) | (with_reducible apply K.At.over hB11) | (with_reducible apply K.At.set) | (with_reducible apply K.At.alloc) | (with_reducible apply K.At.drewN) | (with_reducible apply K.At.drew) | (with_reducible apply K.At.far) | omega | (simp <;> omega))) ?_; rfl), by rw [hln]; exact K.At.over hB11 hy9, by rw [hln]; exact Sl.own_over (hown9 _) hB11, ⟨(by repeat (first | (with_reducible exact Below.refl _ _) | (with_reducible exact HB9.out) | (with_reducible refine K.b_bel ?_ (by assumption)) | (with_reducible refine K.b_alloc ?_ _) | (with_reducible refine K.b_drewN ?_ _) | (with_reducible refine K.b_drew ?_) | (with_reducible refine K.b_set ?_ (by first | omega | (simp <;> omega)) _) | (with_reducible refine K.b_only ?_ (by assumption) (by first | omega | (simp <;> omega)))))⟩, ⟨by omega, HSn.out⟩⟩
            case measure => simp [intOf]; omega
        · rw [ho] at q8_7
          have HSn := K.H.mk (HS.out.2.1 hdf ho)
          clear HS ho
          go_wp2
          ((try simp only [Exit.inBlock, Exit.then]); refine bodyPost_ret (v := .tuple #[.agg #[.int .i64 0, .int .i64 0, .int .i64 0, .int .i64 0, .int .i64 0, .bool false, .int .i64 0, .int .i64 0, .int .i64 0, .slice none 0 0], .int .i64 9]) (by simp only [results, Try.results26]; go_simp) rfl ?_)
          rw [HSn.out]
          exact zero_post (by repeat (first | (with_reducible exact Below.refl _ _) | (with_reducible exact HB9.out) | (with_reducible refine K.b_bel ?_ (by assumption)) | (with_reducible refine K.b_alloc ?_ _) | (with_reducible refine K.b_drewN ?_ _) | (with_reducible refine K.b_drew ?_) | (with_reducible refine K.b_set ?_ (by first | omega | (simp <;> omega)) _) | (with_reducible refine K.b_only ?_ (by assumption) (by first | omega | (simp <;> omega)))))
      · go_wp2
        ((try simp only [Exit.inBlock, Exit.then]); refine bodyPost_ret (v := .tuple #[.agg #[.int .i64 0, .int .i64 0, .int .i64 0, .int .i64 0, .int .i64 0, .bool false, .int .i64 0, .int .i64 0, .int .i64 0, .slice none 0 0], .int .i64 72]) (by simp only [results, Try.results26]; go_simp) rfl ?_)
        rw [HS.out.1 (of_decide_eq_true hf)]
        exact zero_post (by repeat (first | (with_reducible exact Below.refl _ _) | (with_reducible exact Hb.out) | (with_reducible refine K.b_bel ?_ (by assumption)) | (with_reducible refine K.b_alloc ?_ _) | (with_reducible refine K.b_drewN ?_ _) | (with_reducible refine K.b_drew ?_) | (with_reducible refine K.b_set ?_ (by first | omega | (simp <;> omega)) _) | (with_reducible refine K.b_only ?_ (by assumption) (by first | omega | (simp <;> omega)))))
    · obtain rfl : k = ms.length := by omega
      have HP := K.H.mk (show p = (y, 0) by have h := Hy.out.2; rw [List.drop_length] at h; exact h)
      have hz2 := hR.lt
      have hn := Sl.own_ne hown hR (by decide)
      have hw2 := Hb.out
      clear Hy hk hlt
      go_wp2
      ((try simp only [Exit.inBlock, Exit.then]); refine bodyPost_ret (v := .tuple #[y.a B y.l.length d, .int .i64 0]) (by simp only [results, Try.results26]; go_simp) rfl ?_)
      rw [HP.out]
      refine ⟨_, _, _, rfl, ?_, (by repeat (first | (with_reducible exact Below.refl _ _) | (with_reducible exact hw2) | (with_reducible refine K.b_bel ?_ (by assumption)) | (with_reducible refine K.b_alloc ?_ _) | (with_reducible refine K.b_drewN ?_ _) | (with_reducible refine K.b_drew ?_) | (with_reducible refine K.b_set ?_ (by first | omega | (simp <;> omega)) _) | (with_reducible refine K.b_only ?_ (by assumption) (by first | omega | (simp <;> omega)))))⟩
      repeat (with_reducible refine Sl.own_set ?_ hn _)
      exact hown
theorem rSend_c (x : Cal) (s : Set) (ms : List Att) (A : Option Addr) (n c : Nat) (A2 : Option Addr) (n2 c2 : Nat) (w : World) (hr : Sl.Rds w 8 A n (x.l.flatMap Att.cs)) (hr2 : Sl.Rds w 8 A2 n2 (ms.flatMap Att.cs)) :
    Calls Try.prog 26 #[x.a A n c, s.a, .slice A2 n2 c2] w (CalPost w (oSend x s ms).1 (oSend x s ms).2) := by
  unfold oSend
  split
  · exact rSend_ok x s ms A n c A2 n2 c2 w hr hr2 (by assumption)
  · exact rSend_bad x s _ A n c w hr (by assumption)
end Go.Proofs.Ytfepjpjkamlneaa.Cl
