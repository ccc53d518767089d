/- CallOver: the walk. -/
import Derived.Test.YtfepjpjkamlneaaClS
set_option linter.unusedVariables false
namespace Go.Proofs.Ytfepjpjkamlneaa.Cl
open Go.RowKit Go.Proofs.Ytfepjpjkamlneaa
attribute [local go_sem] K.max2_int K.min2_int K.max_two K.min_two K.max_three K.min_three
set_option linter.unusedSimpArgs false
set_option maxRecDepth 100000 in
set_option maxHeartbeats 8000000 in
theorem overLaw_bad (x : Cal) (s : Set) (tick draw : Int) (ps : List Int) (A : Option Addr) (n c : Nat) (A2 : Option Addr) (n2 c2 : Nat) (w : World) (hr : Sl.Rds w 8 A n (x.l.flatMap Att.cs)) (hr2 : Sl.Rds w 1 A2 n2 (ps.flatMap fun n => [.int .i64 n])) (dr0 : 0 ≤ draw) (dr1 : draw < 18446744073709551616) (h : (oOver x s tick draw ps).2 ≠ 0) :
    Calls Try.prog 6 #[x.a A n c, s.a, .int .i64 tick, .int .u64 draw, .slice A2 n2 c2] w fun e w' => e = .returned (.bool true) ∧ Below w.heap.size w w' := by
  have GS := K.H.mk (fun (W : World) (hb : Below w.heap.size w W) => Over_c x s tick draw ps A n c A2 n2 c2 W (hr.below hb) (hr2.below hb) dr0 dr1)
  rw [oOver_bad h] at GS
  have hd : ((oOver x s tick draw ps).2 != 0) = true := by simpa using h
  generalize (oOver x s tick draw ps).2 = er at *
  clear hr hr2 h
  
  
  
  go_enter Try.func6, Try.ntmps6
  go_wp2_with (first
    | (go_at_call 10; (with_reducible refine (alive_c _).mono ?_); rintro e W1 ⟨rfl, hb1⟩; obtain ⟨hB1, hC1, hF1, hZ1⟩ := K.bel_facts hb1; clear hb1; have kS1 : K.At W1 (w.heap.size + 1) 30 s.c := (by refine K.At.cast (by repeat (first | (with_reducible refine K.At.new' _ _ _ _ (by first | rfl | (simp; done) | omega)) | (with_reducible apply K.At.over hB1) | (with_reducible apply K.At.set) | (with_reducible apply K.At.alloc) | (with_reducible apply K.At.drewN) | (with_reducible apply K.At.drew) | (with_reducible apply K.At.far) | omega | (simp <;> omega))) ?_; rfl); obtain ⟨hc_kS1, hf_kS1, hl_kS1⟩ := K.At.facts kS1; have kX1 : K.At W1 w.heap.size 26 (x.c A n c) := (by refine K.At.cast (by repeat (first | (with_reducible refine K.At.new' _ _ _ _ (by first | rfl | (simp; done) | omega)) | (with_reducible apply K.At.over hB1) | (with_reducible apply K.At.set) | (with_reducible apply K.At.alloc) | (with_reducible apply K.At.drewN) | (with_reducible apply K.At.drew) | (with_reducible apply K.At.far) | omega | (simp <;> omega))) ?_; rfl); obtain ⟨hc_kX1, hf_kX1, hl_kX1⟩ := K.At.facts kX1)
    | (go_at_call 22; (with_reducible refine (GS.out _ (by repeat (first | (with_reducible exact Below.refl _ _) | (with_reducible refine K.b_bel ?_ (by assumption)) | (with_reducible refine K.b_alloc ?_ _) | (with_reducible refine K.b_drewN ?_ _) | (with_reducible refine K.b_drew ?_) | (with_reducible refine K.b_set ?_ (by first | omega | (simp <;> omega)) _) | (with_reducible refine K.b_only ?_ (by assumption) (by first | omega | (simp <;> omega)))))).mono ?_); rintro e W2 ⟨B, m, d, rfl, hown2, hb2⟩; obtain ⟨hB2, hC2, hF2, hZ2⟩ := K.bel_facts hb2; clear hb2; obtain rfl : m = 0 := (by obtain ⟨_, _, he, hR⟩ := Sl.Rds.of_own hown2; have := hR.len; simp [Cal.zero] at this; omega))
    | (go_at_call 12; (with_reducible refine (num_c _ _).mono ?_); rintro e w' ⟨rfl, hw'⟩; have hw'2 := Eq.symm hw'; clear hw'; subst hw'2))
  go_ret
  exact ⟨rfl, (by repeat (first | (with_reducible exact Below.refl _ _) | (with_reducible refine K.b_bel ?_ (by assumption)) | (with_reducible refine K.b_alloc ?_ _) | (with_reducible refine K.b_drewN ?_ _) | (with_reducible refine K.b_drew ?_) | (with_reducible refine K.b_set ?_ (by first | omega | (simp <;> omega)) _) | (with_reducible refine K.b_only ?_ (by assumption) (by first | omega | (simp <;> omega)))))⟩
theorem out_n0 (xs : List Att) (k : Nat) : 0 ≤ nOut (outT xs k) ∧ nOut (outT xs k) ≤ k := by have := outT_len xs k; unfold nOut; omega
set_option maxRecDepth 100000 in
set_option maxHeartbeats 8000000 in
theorem overLaw_ok (x : Cal) (s : Set) (tick draw : Int) (ps : List Int) (A : Option Addr) (n c : Nat) (A2 : Option Addr) (n2 c2 : Nat) (w : World) (hr : Sl.Rds w 8 A n (x.l.flatMap Att.cs)) (hr2 : Sl.Rds w 1 A2 n2 (ps.flatMap fun n => [.int .i64 n])) (dr0 : 0 ≤ draw) (dr1 : draw < 18446744073709551616) (h : (oOver x s tick draw ps).2 = 0) :
    Calls Try.prog 6 #[x.a A n c, s.a, .int .i64 tick, .int .u64 draw, .slice A2 n2 c2] w fun e w' => e = .returned (.bool true) ∧ Below w.heap.size w w' := by
  obtain rfl := hr.length Att.cs_len (by omega)
  obtain rfl := hr2.length (fun _ => rfl) (by omega)
  have hle := hr2.le
  have GS := K.H.mk (fun (W : World) (hb : Below w.heap.size w W) => Over_c x s tick draw ps A x.l.length c A2 ps.length c2 W (hr.below hb) (hr2.below hb) dr0 dr1)
  obtain ⟨nx2, h1, hc, htk, hin, hcase⟩ := oOver_ok h dr0 dr1
  rw [h1, h] at GS
  have h16 := ok_len hc
  have Hm := K.H.mk (fun i a => marks_at ps x.l (fun p hp => by obtain ⟨k, hk⟩ := List.getElem?_of_mem hp; exact (one_ints hin hk).1) i a)
  have Hr := K.H.mk hr
  have Hr2 := K.H.mk hr2
  have hml := marks_len ps x.l
  have GM := K.H.mk (fun W => Bof.rMost_c s.bo x.l.length W)
  have Hcase := K.H.mk (show (¬ (nOut (outT (marks x.l ps) x.l.length) = 0 ∧ 0 < x.l.length) ∧ nx2 = x.nx) ∨ (nOut (outT (marks x.l ps) x.l.length) = 0 ∧ 0 < x.l.length ∧ ∃ dl, nx2 = tick + dl ∧ 1 ≤ dl ∧ dl ≤ Bof.oMost s.bo x.l.length ∧ dl ≤ 1048576) by
    have hh := hcase
    unfold nO at hh
    rwa [show (markC x ps).l = marks x.l ps from rfl, hml] at hh)
  clear hr hr2 h h1 hc hin hcase
  generalize Bof.oMost s.bo x.l.length = most at *
  generalize Bof.eMost s.bo x.l.length = em at *
  have Hml := K.H.mk hml
  generalize hyl : marks x.l ps = yl at *
  rw [show ({ markC x ps with nx := nx2 } : Cal) = ⟨x.num, x.op, x.once, x.at_, x.dl, nx2, yl⟩ by rw [← hyl]; rfl] at GS
  clear hyl hml
  
  
  
  go_enter Try.func6, Try.ntmps6
  go_wp2_with (first
    | (go_at_call 10; (with_reducible refine (alive_c _).mono ?_); rintro e W1 ⟨rfl, hb1⟩; obtain ⟨hB1, hC1, hF1, hZ1⟩ := K.bel_facts hb1; clear hb1; have kS1 : K.At W1 (w.heap.size + 1) 30 s.c := (by refine K.At.cast (by repeat (first | (with_reducible refine K.At.new' _ _ _ _ (by first | rfl | (simp; done) | omega)) | (with_reducible apply K.At.over hB1) | (with_reducible apply K.At.set) | (with_reducible apply K.At.alloc) | (with_reducible apply K.At.drewN) | (with_reducible apply K.At.drew) | (with_reducible apply K.At.far) | omega | (simp <;> omega))) ?_; rfl); obtain ⟨hc_kS1, hf_kS1, hl_kS1⟩ := K.At.facts kS1; have kX1 : K.At W1 w.heap.size 26 (x.c A x.l.length c) := (by refine K.At.cast (by repeat (first | (with_reducible refine K.At.new' _ _ _ _ (by first | rfl | (simp; done) | omega)) | (with_reducible apply K.At.over hB1) | (with_reducible apply K.At.set) | (with_reducible apply K.At.alloc) | (with_reducible apply K.At.drewN) | (with_reducible apply K.At.drew) | (with_reducible apply K.At.far) | omega | (simp <;> omega))) ?_; rfl); obtain ⟨hc_kX1, hf_kX1, hl_kX1⟩ := K.At.facts kX1)
    | (go_at_call 22; (with_reducible refine (GS.out _ (by repeat (first | (with_reducible exact Below.refl _ _) | (with_reducible refine K.b_bel ?_ (by assumption)) | (with_reducible refine K.b_alloc ?_ _) | (with_reducible refine K.b_drewN ?_ _) | (with_reducible refine K.b_drew ?_) | (with_reducible refine K.b_set ?_ (by first | omega | (simp <;> omega)) _) | (with_reducible refine K.b_only ?_ (by assumption) (by first | omega | (simp <;> omega)))))).mono ?_); rintro e W2 ⟨B, m, d, rfl, hown2, hb2⟩; obtain ⟨hB2, hC2, hF2, hZ2⟩ := K.bel_facts hb2; clear hb2; obtain ⟨_, _, he, hR2⟩ := Sl.Rds.of_own hown2; cases he; obtain rfl : m = x.l.length := (by rw [← hR2.length Att.cs_len (by omega), Hml.out]); clear hown2; have kS2 : K.At W2 (w.heap.size + 1) 30 s.c := (by refine K.At.cast (by repeat (first | (with_reducible exact kS1) | (with_reducible refine K.At.new' _ _ _ _ (by first | rfl | (simp; done) | omega)) | (with_reducible apply K.At.over hB2) | (with_reducible apply K.At.set) | (with_reducible apply K.At.alloc) | (with_reducible apply K.At.drewN) | (with_reducible apply K.At.drew) | (with_reducible apply K.At.far) | omega | (simp <;> omega))) ?_; rfl); obtain ⟨hc_kS2, hf_kS2, hl_kS2⟩ := K.At.facts kS2; clear hc_kS1 hf_kS1 hl_kS1; have kX2 : K.At W2 w.heap.size 26 (x.c A x.l.length c) := (by refine K.At.cast (by repeat (first | (with_reducible exact kX1) | (with_reducible refine K.At.new' _ _ _ _ (by first | rfl | (simp; done) | omega)) | (with_reducible apply K.At.over hB2) | (with_reducible apply K.At.set) | (with_reducible apply K.At.alloc) | (with_reducible apply K.At.drewN) | (with_reducible apply K.At.drew) | (with_reducible apply K.At.far) | omega | (simp <;> omega))) ?_; rfl); obtain ⟨hc_kX2, hf_kX2, hl_kX2⟩ := K.At.facts kX2; clear hc_kX1 hf_kX1 hl_kX1)
    | (go_at_call 12; (with_reducible refine (num_c _ _).mono ?_); rintro e w' ⟨rfl, hw'⟩; have hw'2 := Eq.symm hw'; clear hw'; subst hw'2))
  refine K.wp_gen (fun W => K.At W (w.heap.size + 1) 30 s.c ∧ K.At W w.heap.size 26 (x.c A x.l.length c) ∧ K.At W W2.heap.size 26 #[.int .i64 x.num, .int .i64 x.op.what, .int .i64 x.op.key, .int .i64 x.op.other, .int .i64 x.op.amt, .bool x.once, .int .i64 x.at_, .int .i64 x.dl, .int .i64 nx2, .slice B x.l.length d] ∧ Below W2.heap.size W2 W ∧ Below w.heap.size w W) ⟨(by refine K.At.cast (by repeat (first | (with_reducible exact kS2) | (with_reducible refine K.At.new' _ _ _ _ (by first | rfl | (simp; done) | omega)) | (with_reducible apply K.At.set) | (with_reducible apply K.At.alloc) | (with_reducible apply K.At.drewN) | (with_reducible apply K.At.drew) | (with_reducible apply K.At.far) | omega | (simp <;> omega))) ?_; rfl), (by refine K.At.cast (by repeat (first | (with_reducible exact kX2) | (with_reducible refine K.At.new' _ _ _ _ (by first | rfl | (simp; done) | omega)) | (with_reducible apply K.At.set) | (with_reducible apply K.At.alloc) | (with_reducible apply K.At.drewN) | (with_reducible apply K.At.drew) | (with_reducible apply K.At.far) | omega | (simp <;> omega))) ?_; rfl), (by refine K.At.cast (by repeat (first | (with_reducible refine K.At.new' _ _ _ _ (by first | rfl | (simp; done) | omega)) | (with_reducible apply K.At.set) | (with_reducible apply K.At.alloc) | (with_reducible apply K.At.drewN) | (with_reducible apply K.At.drew) | (with_reducible apply K.At.far) | omega | (simp <;> omega))) ?_; rfl), (by repeat (first | (with_reducible exact Below.refl _ _) | (with_reducible refine K.b_bel ?_ (by assumption)) | (with_reducible refine K.b_alloc ?_ _) | (with_reducible refine K.b_drewN ?_ _) | (with_reducible refine K.b_drew ?_) | (with_reducible refine K.b_set ?_ (by first | omega | (simp <;> omega)) _) | (with_reducible refine K.b_only ?_ (by assumption) (by first | omega | (simp <;> omega))))), (by repeat (first | (with_reducible exact Below.refl _ _) | (with_reducible refine K.b_bel ?_ (by assumption)) | (with_reducible refine K.b_alloc ?_ _) | (with_reducible refine K.b_drewN ?_ _) | (with_reducible refine K.b_drew ?_) | (with_reducible refine K.b_set ?_ (by first | omega | (simp <;> omega)) _) | (with_reducible refine K.b_only ?_ (by assumption) (by first | omega | (simp <;> omega)))))⟩ ?_
  rintro W3 ⟨hS, hX, hY, hb23, hb3⟩
  have HrY := K.H.mk (hR2.below hb23)
  have Hb3 := K.H.mk hb3
  ((try clear hC2); (try clear hF2); (try clear hZ2); (try clear hc2); (try clear hf2); (try clear hl2); (try clear hB2); (try clear hO2); (try clear hA2); (try clear hz2_0); (try clear hz2_1); (try clear hz2_2); (try clear hz2_3); (try clear hz2_1_0); (try clear hz2_1_1); (try clear hC1); (try clear hF1); (try clear hZ1); (try clear hc1); (try clear hf1); (try clear hl1); (try clear hB1); (try clear hO1); (try clear hA1); (try clear hz1_0); (try clear hz1_1); (try clear hz1_2); (try clear hz1_3); (try clear kS1); (try clear kX1); (try clear kS2); (try clear kX2); (try clear hc_kS2); (try clear hf_kS2); (try clear hl_kS2); (try clear hc_kX2); (try clear hf_kX2); (try clear hl_kX2))
  clear hb23 hb3 hR2 GS
  obtain ⟨hc4, hf4, hl4⟩ := K.At.facts hS
  obtain ⟨hc5, hf5, hl5⟩ := K.At.facts hX
  obtain ⟨hc6, hf6, hl6⟩ := K.At.facts hY
  go_loop [13, 14] (fun o i => ∃ k : Nat, k ≤ x.l.length ∧ i = .int .i64 k ∧ o = .int .i64 (nOut (outT yl k))) (fun _ i => x.l.length - (intOf i).toNat)
  case atStart => exact ⟨0, by omega, rfl, rfl⟩
  case round =>
    obtain ⟨k, hk, rfl, rfl⟩ := hrel
    by_cases hlt : k < x.l.length
    · obtain ⟨a, ha⟩ : ∃ a, x.l[k]? = some a := ⟨_, List.getElem?_eq_getElem hlt⟩
      obtain ⟨y, hy, hyo⟩ := Hm.out k a ha
      have hn := (outT_n hy).1
      have hn0 := out_n0 yl k
      obtain ⟨b, off, rfl, hbl, hbc⟩ := Sl.Rds.elem Hr.out Att.cs_len (by omega) ha
      have q_0 : W3.cell? ⟨b, off + k * 8, none⟩ = some (.int .i64 a.b) := (Hb3.out.cell (p := ⟨b, off + k * 8 + 0, none⟩) hbl).trans (hbc 0 (by omega))
      have q_1 : W3.cell? ⟨b, off + k * 8 + 1, none⟩ = some (.int .i64 a.i) := (Hb3.out.cell (p := ⟨b, off + k * 8 + 1, none⟩) hbl).trans (hbc 1 (by omega))
      have q_2 : W3.cell? ⟨b, off + k * 8 + 2, none⟩ = some (.int .i64 a.s) := (Hb3.out.cell (p := ⟨b, off + k * 8 + 2, none⟩) hbl).trans (hbc 2 (by omega))
      have q_3 : W3.cell? ⟨b, off + k * 8 + 3, none⟩ = some (.int .i64 a.q) := (Hb3.out.cell (p := ⟨b, off + k * 8 + 3, none⟩) hbl).trans (hbc 3 (by omega))
      have q_4 : W3.cell? ⟨b, off + k * 8 + 4, none⟩ = some (.int .i64 a.t) := (Hb3.out.cell (p := ⟨b, off + k * 8 + 4, none⟩) hbl).trans (hbc 4 (by omega))
      have q_5 : W3.cell? ⟨b, off + k * 8 + 5, none⟩ = some (.bool a.hedge) := (Hb3.out.cell (p := ⟨b, off + k * 8 + 5, none⟩) hbl).trans (hbc 5 (by omega))
      have q_6 : W3.cell? ⟨b, off + k * 8 + 6, none⟩ = some (.bool a.probe) := (Hb3.out.cell (p := ⟨b, off + k * 8 + 6, none⟩) hbl).trans (hbc 6 (by omega))
      have q_7 : W3.cell? ⟨b, off + k * 8 + 7, none⟩ = some (.bool a.over) := (Hb3.out.cell (p := ⟨b, off + k * 8 + 7, none⟩) hbl).trans (hbc 7 (by omega))
      clear hbc
      have hbw : b < W3.heap.size := Nat.lt_of_lt_of_le hbl Hb3.out.size
      obtain ⟨b2, off2, rfl, hbl2, hbc2⟩ := Sl.Rds.elem HrY.out Att.cs_len (by omega) hy
      have q2_0 : W3.cell? ⟨b2, off2 + k * 8, none⟩ = some (.int .i64 y.b) := ((Below.refl _ _ : Below W3.heap.size W3 W3).cell (p := ⟨b2, off2 + k * 8 + 0, none⟩) hbl2).trans (hbc2 0 (by omega))
      have q2_1 : W3.cell? ⟨b2, off2 + k * 8 + 1, none⟩ = some (.int .i64 y.i) := ((Below.refl _ _ : Below W3.heap.size W3 W3).cell (p := ⟨b2, off2 + k * 8 + 1, none⟩) hbl2).trans (hbc2 1 (by omega))
      have q2_2 : W3.cell? ⟨b2, off2 + k * 8 + 2, none⟩ = some (.int .i64 y.s) := ((Below.refl _ _ : Below W3.heap.size W3 W3).cell (p := ⟨b2, off2 + k * 8 + 2, none⟩) hbl2).trans (hbc2 2 (by omega))
      have q2_3 : W3.cell? ⟨b2, off2 + k * 8 + 3, none⟩ = some (.int .i64 y.q) := ((Below.refl _ _ : Below W3.heap.size W3 W3).cell (p := ⟨b2, off2 + k * 8 + 3, none⟩) hbl2).trans (hbc2 3 (by omega))
      have q2_4 : W3.cell? ⟨b2, off2 + k * 8 + 4, none⟩ = some (.int .i64 y.t) := ((Below.refl _ _ : Below W3.heap.size W3 W3).cell (p := ⟨b2, off2 + k * 8 + 4, none⟩) hbl2).trans (hbc2 4 (by omega))
      have q2_5 : W3.cell? ⟨b2, off2 + k * 8 + 5, none⟩ = some (.bool y.hedge) := ((Below.refl _ _ : Below W3.heap.size W3 W3).cell (p := ⟨b2, off2 + k * 8 + 5, none⟩) hbl2).trans (hbc2 5 (by omega))
      have q2_6 : W3.cell? ⟨b2, off2 + k * 8 + 6, none⟩ = some (.bool y.probe) := ((Below.refl _ _ : Below W3.heap.size W3 W3).cell (p := ⟨b2, off2 + k * 8 + 6, none⟩) hbl2).trans (hbc2 6 (by omega))
      have q2_7 : W3.cell? ⟨b2, off2 + k * 8 + 7, none⟩ = some (.bool y.over) := ((Below.refl _ _ : Below W3.heap.size W3 W3).cell (p := ⟨b2, off2 + k * 8 + 7, none⟩) hbl2).trans (hbc2 7 (by omega))
      clear hbc2
      have hbw2 := hbl2
      have Hn := K.H.mk hn
      have Hyo := K.H.mk hyo
      clear ha hy hn hyo
      go_wp2
      go_loop [15, 16] (fun is j => ∃ jj : Nat, jj ≤ ps.length ∧ j = .int .i64 jj ∧ is = .bool (a.over || anyP (ps.take jj) k)) (fun _ j => ps.length - (intOf j).toNat)
      case atStart => exact ⟨0, by omega, rfl, by simp [anyP]⟩
      case round =>
        obtain ⟨j, hj, rfl, rfl⟩ := hrel
        by_cases hjl : j < ps.length
        · obtain ⟨p, hx⟩ : ∃ p, ps[j]? = some p := ⟨_, List.getElem?_eq_getElem hjl⟩
          have hap := anyP_take hx k
          obtain ⟨b3, off3, rfl, hbl3, hbc3⟩ := Sl.Rds.elem Hr2.out (enc := fun n => [.int .i64 n]) (fun _ => rfl) (by omega) hx
          have q3_0 : W3.cell? ⟨b3, off3 + j, none⟩ = some (.int .i64 p) := by
            have := (Hb3.out.cell (p := ⟨b3, off3 + j * 1 + 0, none⟩) hbl3).trans (hbc3 0 (by omega))
            simpa using this
          have hbw3 : b3 < W3.heap.size := Nat.lt_of_lt_of_le hbl3 Hb3.out.size
          have Hap := K.H.mk hap
          clear hx hap
          generalize hu : (a.over || anyP (ps.take j) k) = u
          have Hu := K.H.mk hu
          clear hu
          cases u
          · go_wp2
            go_round
            case rel => exact ⟨j + 1, by omega, by go_num, by rw [Hap.out, ← Bool.or_assoc, Hu.out, Bool.false_or]⟩
            case measure => simp [intOf]; omega
          · go_wp2
            go_round
            case rel => exact ⟨j + 1, by omega, by go_num, by rw [Hap.out, ← Bool.or_assoc, Hu.out, Bool.true_or]⟩
            case measure => simp [intOf]; omega
        · obtain rfl : j = ps.length := by omega
          rw [List.take_length, ← Hyo.out]
          cases ho : y.over
          · rw [ho] at q2_7
            have Hn2 := K.H.mk (show nOut (outT yl (k + 1)) = nOut (outT yl k) + 1 by rw [Hn.out, ho]; rfl)
            clear ho
            go_wp2
            go_round
            case rel => exact ⟨k + 1, by omega, by go_num, by rw [Hn2.out]⟩
            case measure => simp [intOf]; omega
          · rw [ho] at q2_7
            have Hn2 := K.H.mk (show nOut (outT yl (k + 1)) = nOut (outT yl k) by rw [Hn.out, ho]; simp)
            clear ho
            go_wp2
            go_round
            case rel => exact ⟨k + 1, by omega, by go_num, by rw [Hn2.out]⟩
            case measure => simp [intOf]; omega
    · obtain rfl : k = x.l.length := by omega
      have hh := Hcase.out
      have hn0 := out_n0 yl x.l.length
      clear Hcase Hm
      generalize nOut (outT yl x.l.length) = N at *
      rcases hh with ⟨e1, rfl⟩ | ⟨rfl, e2, dl, rfl, e3, e4, e5⟩
      · by_cases hN : 0 < N
        · have d1 : decide (0 < N) = true := by simpa using hN
          clear hN e1
          go_wp2
          go_ret
          exact ⟨rfl, Hb3.out⟩
        · have hz : N = 0 := by omega
          subst hz
          have hl0 : x.l.length = 0 := by omega
          have d2 : ((x.l.length : Int) == 0) = true := by simp [hl0]
          have d3 : (x.l.length == 0) = true := by simp [hl0]
          clear hN e1 hl0
          go_wp2
          go_ret
          exact ⟨rfl, Hb3.out⟩
      · have d2 : ((x.l.length : Int) == 0) = false := beq_eq_false_iff_ne.2 (by omega)
        have d3 : (x.l.length == 0) = false := beq_eq_false_iff_ne.2 (by omega)
        have d4 : decide (tick < tick + dl) = true := by simp; omega
        have d5 : tick + dl - tick = dl := by omega
        have d6 : decide (dl ≤ most) = true := by simpa using e4
        go_wp2_with (first | (go_at_call 23; (with_reducible refine (GM.out _).mono ?_); rintro e W8 ⟨rfl, hb8⟩; obtain ⟨hB8, hC8, hF8, hZ8⟩ := K.bel_facts hb8; clear hb8))
        go_ret
        exact ⟨rfl, (by repeat (first | (with_reducible exact Below.refl _ _) | (with_reducible exact Hb3.out) | (with_reducible refine K.b_bel ?_ (by assumption)) | (with_reducible refine K.b_alloc ?_ _) | (with_reducible refine K.b_drewN ?_ _) | (with_reducible refine K.b_drew ?_) | (with_reducible refine K.b_set ?_ (by first | omega | (simp <;> omega)) _) | (with_reducible refine K.b_only ?_ (by assumption) (by first | omega | (simp <;> omega)))))⟩
theorem OverLaw_c (x : Cal) (s : Set) (tick draw : Int) (ps : List Int) (A : Option Addr) (n c : Nat) (A2 : Option Addr) (n2 c2 : Nat) (w : World) (hr : Sl.Rds w 8 A n (x.l.flatMap Att.cs)) (hr2 : Sl.Rds w 1 A2 n2 (ps.flatMap fun n => [.int .i64 n])) (dr0 : 0 ≤ draw) (dr1 : draw < 18446744073709551616) :
    Calls Try.prog 6 #[x.a A n c, s.a, .int .i64 tick, .int .u64 draw, .slice A2 n2 c2] w fun e w' => e = .returned (.bool true) ∧ Below w.heap.size w w' := by
  by_cases h : (oOver x s tick draw ps).2 = 0
  · exact overLaw_ok x s tick draw ps A n c A2 n2 c2 w hr hr2 dr0 dr1 h
  · exact overLaw_bad x s tick draw ps A n c A2 n2 c2 w hr hr2 dr0 dr1 h
end Go.Proofs.Ytfepjpjkamlneaa.Cl
