/- Calls: attempts that are over, where nothing is refused. -/
import Derived.Test.YtfepjpjkamlneaaClQ
set_option linter.unusedVariables false
namespace Go.Proofs.Ytfepjpjkamlneaa.Cl
open Go.RowKit Go.Proofs.Ytfepjpjkamlneaa
attribute [local go_sem] K.max2_int K.min2_int K.max_two K.min_two K.max_three K.min_three
set_option linter.unusedSimpArgs false
theorem delay_in (s : Bof.S) (n d : Int) (d0 : 0 ≤ d) (d1 : d < 18446744073709551616) : 0 ≤ Bof.oDelay s n d ∧ Bof.oDelay s n d ≤ 1048576 := by
  by_cases h : Bof.eMost s n = 0
  · obtain ⟨h1, h2⟩ := Bof.eMost_ok h
    rw [Bof.delay_0 h1 h2]
    have hm := Bof.mstI_in h1 n
    have := Bof.less_in h1 hm.1 hm.2 d0 d1
    omega
  · rw [Bof.delay_no h]; omega
theorem own_form {w : World} {base : Nat} {e : TypeId} {size : Nat} {v : Value} {n : Nat} {xs : List Value} (h : w.ownsRow base e size v n xs) (hn : 0 < n) : ∃ g cap, v = .slice (some ⟨g, 0, none⟩) n cap ∧ base ≤ g ∧ g < w.heap.size := by
  rcases h.2 with ⟨_, h0⟩ | ⟨g, cap, cur, hv, hb, hg, _⟩
  · omega
  · exact ⟨g, cap, hv, hb, (Array.getElem?_eq_some_iff.1 hg).1⟩
theorem at_set_far {w : World} {g b off : Nat} {T : TypeId} {cs : Array Value} {u : Value} (h : K.At w g T cs) (hn : b ≠ g) : K.At (w.setCell ⟨b, off, none⟩ u) g T cs :=
  ⟨by rw [Below.heap_setCell _ _ _ _ (by simpa using fun e => hn e.symm)]; exact h.out⟩
set_option maxRecDepth 100000 in
set_option maxHeartbeats 8000000 in
theorem over_ok (x : Cal) (s : Set) (tick draw : Int) (ps : List Int) (A : Option Addr) (n c : Nat) (A2 : Option Addr) (n2 c2 : Nat) (w : World) (hr : Sl.Rds w 8 A n (x.l.flatMap Att.cs)) (hr2 : Sl.Rds w 1 A2 n2 (ps.flatMap fun n => [.int .i64 n])) (h : eCall x s = 0) (ht : inB 0 268435456 tick = true) (hp : inAll 0 ((x.l.length : Int) - 1) ps = true) (dr0 : 0 ≤ draw) (dr1 : draw < 18446744073709551616) :
    Calls Try.prog 22 #[x.a A n c, s.a, .int .i64 tick, .int .u64 draw, .slice A2 n2 c2] w (CalPost w (overF x s tick draw ps).1 (overF x s tick draw ps).2) := by
  obtain rfl := hr.length Att.cs_len (by omega)
  obtain rfl := hr2.length (fun _ => rfl) (by omega)
  have hle := hr2.le
  have h16 := ok_len h
  have htk := inB_t.1 ht
  have GA := K.H.mk (fun (W : World) (hb : Below w.heap.size w W) => ask_ok x s A x.l.length c W (hr.below hb) h)
  have GI := K.H.mk (fun (W : World) (hb : Below w.heap.size w W) => in_c 0 ((x.l.length : Int) - 1) ps A2 ps.length c2 W (hr2.below hb))
  rw [hp] at GI
  have Hr2 := K.H.mk hr2
  have Hp := K.H.mk (fun k p => one_ints hp (k := k) (p := p))
  have HF := K.H.mk (show overF x s tick draw ps = if nO (markC x ps) = 0 ∧ 0 < x.l.length then ({ markC x ps with nx := tick + Bof.oDelay s.bo x.l.length draw }, 0) else (markC x ps, 0) by unfold overF; rw [if_neg (by rw [ht]; decide), if_neg (by rw [hp]; decide)])
  clear hr hr2 h hp
  
  
  
  go_enter Try.func22, Try.ntmps22
  go_wp2_with (first
    | (go_at_call 34; (with_reducible refine (GA.out _ (by repeat (first | (with_reducible exact Below.refl _ _) | (with_reducible refine K.b_bel ?_ (by assumption)) | (with_reducible refine K.b_alloc ?_ _) | (with_reducible refine K.b_drewN ?_ _) | (with_reducible refine K.b_drew ?_) | (with_reducible refine K.b_set ?_ (by first | omega | (simp <;> omega)) _) | (with_reducible refine K.b_only ?_ (by assumption) (by first | omega | (simp <;> omega)))))).mono ?_); rintro e W1 ⟨g, B1, d1, rfl, hg1, hA1, hown1, hb1⟩; obtain ⟨_, _, he1, hRd1⟩ := Sl.Rds.of_own hown1; cases he1; obtain ⟨hB1, hC1, hF1, hZ1⟩ := K.bel_facts hb1; clear hb1; have kS1 : K.At W1 (w.heap.size + 1) 30 s.c := (by refine K.At.cast (by repeat (first | (with_reducible refine K.At.new' _ _ _ _ (by first | rfl | (simp; done) | omega)) | (with_reducible apply K.At.over hB1) | (with_reducible apply K.At.set) | (with_reducible apply K.At.alloc) | (with_reducible apply K.At.drewN) | (with_reducible apply K.At.drew) | (with_reducible apply K.At.far) | omega | (simp <;> omega))) ?_; rfl); obtain ⟨hc_kS1, hf_kS1, hl_kS1⟩ := K.At.facts kS1; have kR1 : K.At W1 (w.heap.size + 1 + 1) 26 #[.int .i64 0, .int .i64 0, .int .i64 0, .int .i64 0, .int .i64 0, .bool false, .int .i64 0, .int .i64 0, .int .i64 0, .slice none 0 0] := (by refine K.At.cast (by repeat (first | (with_reducible refine K.At.new' _ _ _ _ (by first | rfl | (simp; done) | omega)) | (with_reducible apply K.At.over hB1) | (with_reducible apply K.At.set) | (with_reducible apply K.At.alloc) | (with_reducible apply K.At.drewN) | (with_reducible apply K.At.drew) | (with_reducible apply K.At.far) | omega | (simp <;> omega))) ?_; rfl); obtain ⟨hc_kR1, hf_kR1, hl_kR1⟩ := K.At.facts kR1; obtain ⟨hc21, hf21, hl21⟩ := K.At.facts hA1)
    
    
    | (go_at_call 36; first | (go_at_call 36; (with_reducible refine (in_one 0 268435456 _ _ _ (K.At.new' _ _ _ _ (by simp))).mono ?_); rintro e W2 ⟨rfl, hb2⟩; obtain ⟨hB2, hC2, hF2, hZ2⟩ := K.bel_facts hb2; clear hb2; have kS2 : K.At W2 (w.heap.size + 1) 30 s.c := (by refine K.At.cast (by repeat (first | (with_reducible exact kS1) | (with_reducible refine K.At.new' _ _ _ _ (by first | rfl | (simp; done) | omega)) | (with_reducible apply K.At.over hB2) | (with_reducible apply K.At.set) | (with_reducible apply K.At.alloc) | (with_reducible apply K.At.drewN) | (with_reducible apply K.At.drew) | (with_reducible apply K.At.far) | omega | (simp <;> omega))) ?_; rfl); obtain ⟨hc_kS2, hf_kS2, hl_kS2⟩ := K.At.facts kS2; clear hc_kS1 hf_kS1 hl_kS1; have kR2 : K.At W2 (w.heap.size + 1 + 1) 26 #[.int .i64 0, .int .i64 0, .int .i64 0, .int .i64 0, .int .i64 0, .bool false, .int .i64 0, .int .i64 0, .int .i64 0, .slice none 0 0] := (by refine K.At.cast (by repeat (first | (with_reducible exact kR1) | (with_reducible refine K.At.new' _ _ _ _ (by first | rfl | (simp; done) | omega)) | (with_reducible apply K.At.over hB2) | (with_reducible apply K.At.set) | (with_reducible apply K.At.alloc) | (with_reducible apply K.At.drewN) | (with_reducible apply K.At.drew) | (with_reducible apply K.At.far) | omega | (simp <;> omega))) ?_; rfl); obtain ⟨hc_kR2, hf_kR2, hl_kR2⟩ := K.At.facts kR2; clear hc_kR1 hf_kR1 hl_kR1; have kG2 : K.At W2 g 91 (akc x s B1 x.l.length d1) := (by refine K.At.cast (by repeat (first | (with_reducible exact hA1) | (with_reducible refine K.At.new' _ _ _ _ (by first | rfl | (simp; done) | omega)) | (with_reducible apply K.At.over hB2) | (with_reducible apply K.At.set) | (with_reducible apply K.At.alloc) | (with_reducible apply K.At.drewN) | (with_reducible apply K.At.drew) | (with_reducible apply K.At.far) | omega | (simp <;> omega))) ?_; rfl); obtain ⟨hc_kG2, hf_kG2, hl_kG2⟩ := K.At.facts kG2) | (go_at_call 36; (with_reducible refine (GI.out _ (by repeat (first | (with_reducible exact Below.refl _ _) | (with_reducible refine K.b_bel ?_ (by assumption)) | (with_reducible refine K.b_alloc ?_ _) | (with_reducible refine K.b_drewN ?_ _) | (with_reducible refine K.b_drew ?_) | (with_reducible refine K.b_set ?_ (by first | omega | (simp <;> omega)) _) | (with_reducible refine K.b_only ?_ (by assumption) (by first | omega | (simp <;> omega)))))).mono ?_); rintro e W3 ⟨rfl, hb3⟩; obtain ⟨hB3, hC3, hF3, hZ3⟩ := K.bel_facts hb3; clear hb3; have kS3 : K.At W3 (w.heap.size + 1) 30 s.c := (by refine K.At.cast (by repeat (first | (with_reducible exact kS2) | (with_reducible refine K.At.new' _ _ _ _ (by first | rfl | (simp; done) | omega)) | (with_reducible apply K.At.over hB3) | (with_reducible apply K.At.set) | (with_reducible apply K.At.alloc) | (with_reducible apply K.At.drewN) | (with_reducible apply K.At.drew) | (with_reducible apply K.At.far) | omega | (simp <;> omega))) ?_; rfl); obtain ⟨hc_kS3, hf_kS3, hl_kS3⟩ := K.At.facts kS3; clear hc_kS2 hf_kS2 hl_kS2; have kR3 : K.At W3 (w.heap.size + 1 + 1) 26 #[.int .i64 0, .int .i64 0, .int .i64 0, .int .i64 0, .int .i64 0, .bool false, .int .i64 0, .int .i64 0, .int .i64 0, .slice none 0 0] := (by refine K.At.cast (by repeat (first | (with_reducible exact kR2) | (with_reducible refine K.At.new' _ _ _ _ (by first | rfl | (simp; done) | omega)) | (with_reducible apply K.At.over hB3) | (with_reducible apply K.At.set) | (with_reducible apply K.At.alloc) | (with_reducible apply K.At.drewN) | (with_reducible apply K.At.drew) | (with_reducible apply K.At.far) | omega | (simp <;> omega))) ?_; rfl); obtain ⟨hc_kR3, hf_kR3, hl_kR3⟩ := K.At.facts kR3; clear hc_kR2 hf_kR2 hl_kR2; have kG3 : K.At W3 g 91 (akc x s B1 x.l.length d1) := (by refine K.At.cast (by repeat (first | (with_reducible exact kG2) | (with_reducible refine K.At.new' _ _ _ _ (by first | rfl | (simp; done) | omega)) | (with_reducible apply K.At.over hB3) | (with_reducible apply K.At.set) | (with_reducible apply K.At.alloc) | (with_reducible apply K.At.drewN) | (with_reducible apply K.At.drew) | (with_reducible apply K.At.far) | omega | (simp <;> omega))) ?_; rfl); obtain ⟨hc_kG3, hf_kG3, hl_kG3⟩ := K.At.facts kG3; clear hc_kG2 hf_kG2 hl_kG2)))
  have hbw1 : Below w.heap.size w W3 := (by repeat (first | (with_reducible exact Below.refl _ _) | (with_reducible refine K.b_bel ?_ (by assumption)) | (with_reducible refine K.b_alloc ?_ _) | (with_reducible refine K.b_drewN ?_ _) | (with_reducible refine K.b_drew ?_) | (with_reducible refine K.b_set ?_ (by first | omega | (simp <;> omega)) _) | (with_reducible refine K.b_only ?_ (by assumption) (by first | omega | (simp <;> omega)))))
  have hg2 : w.heap.size + 2 < g := by simp at hg1; omega
  have hownl : W3.ownsRow w.heap.size 37 8 (.slice B1 x.l.length d1) x.l.length (x.l.flatMap Att.cs) := Sl.own_over (Sl.own_over ((Sl.own_low hown1 (by simp; omega)).alloc _) hB2) hB3
  have Hb1 := K.H.mk hbw1
  clear hown1 hbw1 hg1 GA GI hRd1
  go_loopw [51] (fun i wr => ∃ k : Nat, k ≤ ps.length ∧ i = .int .i64 k ∧ K.At wr (w.heap.size + 1) 30 s.c ∧ K.At wr (w.heap.size + 1 + 1) 26 #[.int .i64 0, .int .i64 0, .int .i64 0, .int .i64 0, .int .i64 0, .bool false, .int .i64 0, .int .i64 0, .int .i64 0, .slice none 0 0] ∧ K.At wr g 91 (akc x s B1 x.l.length d1) ∧ wr.ownsRow w.heap.size 37 8 (.slice B1 x.l.length d1) x.l.length ((marks x.l (ps.take k)).flatMap Att.cs) ∧ K.H (Below w.heap.size w wr)) (fun i _ => ps.length - (intOf i).toNat)
  case atStart => exact ⟨0, by omega, rfl, kS3, kR3, kG3, hownl, Hb1⟩
  case round =>
    clear hownl kS3 kR3 kG3 Hb1
    ((try clear hC3); (try clear hF3); (try clear hZ3); (try clear hc3); (try clear hf3); (try clear hl3); (try clear hB3); (try clear hO3); (try clear hA3); (try clear hz3_0); (try clear hz3_1); (try clear hz3_2); (try clear hz3_3); (try clear hz3_1_0); (try clear hz3_1_1); (try clear hz3_2_0); (try clear hz3_2_1); (try clear hC2); (try clear hF2); (try clear hZ2); (try clear hc2); (try clear hf2); (try clear hl2); (try clear hB2); (try clear hO2); (try clear hA2); (try clear hz2_0); (try clear hz2_1); (try clear hz2_2); (try clear hz2_3); (try clear hz2_1_0); (try clear hz2_1_1); (try clear hC1); (try clear hF1); (try clear hZ1); (try clear hc1); (try clear hf1); (try clear hl1); (try clear hB1); (try clear hO1); (try clear hA1); (try clear hz1_0); (try clear hz1_1); (try clear hz1_2); (try clear hz1_3); (try clear 21); (try clear hA1); (try clear hc_kS3); (try clear hf_kS3); (try clear hl_kS3); (try clear hc_kR3); (try clear hf_kR3); (try clear hl_kR3); (try clear hc_kG3); (try clear hf_kG3); (try clear hl_kG3); (try clear kS1); (try clear kS2); (try clear kR1); (try clear kR2); (try clear kG1); (try clear kG2))
    obtain ⟨k, hk, rfl, hS, hR, hG, hown, Hb⟩ := hrel
    have hgl := hG.lt
    have hqg := Sl.own_ne hown hG (by decide)
    have hqs := Sl.own_ne hown hS (by decide)
    have hqr := Sl.own_ne hown hR (by decide)
    by_cases hlt : k < ps.length
    · obtain ⟨p, hx⟩ : ∃ p, ps[k]? = some p := ⟨_, List.getElem?_eq_getElem hlt⟩
      have hpin := Hp.out k p hx
      have hmt := marks_take (l := x.l) hx
      obtain ⟨m, rfl⟩ : ∃ m : Nat, p = (m : Int) := ⟨p.toNat, by omega⟩
      have hml : m < x.l.length := by omega
      obtain ⟨a, ha⟩ : ∃ a, (marks x.l (ps.take k))[m]? = some a := ⟨_, List.getElem?_eq_getElem (by rw [marks_len]; exact hml)⟩
      have hmk : marks x.l (ps.take (k + 1)) = (marks x.l (ps.take k)).set m a.done := by rw [hmt]; simp [mark, ha]
      have hfs := flat_set (enc := Att.cs) Att.cs_len (j := 7) (by omega) (.bool true) _ _ a a.done ha rfl
      obtain ⟨b1, cap1, he1, hbg, hbl1⟩ := own_form hown (by omega)
      cases he1
      have hcell : wr.cell? ⟨b1, m * 8 + 7, none⟩ = some (.bool a.over) := by
        rw [hown.cellAt _ (by omega), Sl.flat_get Att.cs_len _ _ 7 _ ha (by omega)]; rfl
      have hfz := hown.frozenAt (m * 8 + 7)
      have hst := hown.stored (m * 8 + 7) (.bool true)
      rw [hfs, ← hmk] at hst
      have hbg1 : b1 ≠ g := fun e => hqg (by rw [e]; rfl)
      have hbs1 : b1 ≠ w.heap.size + 1 := fun e => hqs (by rw [e]; rfl)
      have hbr1 : b1 ≠ w.heap.size + 1 + 1 := fun e => hqr (by rw [e]; rfl)
      obtain ⟨b, off, rfl, hbl, hbc⟩ := Sl.Rds.elem Hr2.out (enc := fun n => [.int .i64 n]) (fun _ => rfl) (by omega) hx
      have q_0 : wr.cell? ⟨b, off + k, none⟩ = some (.int .i64 m) := by
        have := (Hb.out.cell (p := ⟨b, off + k * 1 + 0, none⟩) hbl).trans (hbc 0 (by omega))
        simpa using this
      have hbw : b < wr.heap.size := Nat.lt_of_lt_of_le hbl Hb.out.size
      have Hst := K.H.mk hst
      have hm0 : (m : Int) < x.l.length := by omega
      clear hx hmt ha hmk hfs hst hpin hqg hqs hqr hown
      obtain ⟨hc5, hf5, hl5⟩ := K.At.facts hG
      go_wp2
      go_roundw
      case rel => exact ⟨k + 1, by omega, by go_num, at_set_far hS hbs1, at_set_far hR hbr1, at_set_far hG hbg1, Hst.out.1, ⟨Hb.out.setCell hbg _⟩⟩
      case measure => simp [intOf]; omega
    · obtain rfl : k = ps.length := by omega
      rw [List.take_length] at hown
      have hrdm : Sl.Rds wr 8 B1 x.l.length ((markC x ps).l.flatMap Att.cs) := by obtain ⟨_, _, he, hR⟩ := Sl.Rds.of_own hown; cases he; exact hR
      have GN := K.H.mk (show Calls Try.prog 45 #[.pointer (some ⟨g, 0, none⟩)] wr fun e w' => e = .returned (.tuple #[.int .i64 (nO (markC x ps)), .int .i64 (hO (markC x ps))]) ∧ Below wr.heap.size wr w' from counts_c (markC x ps) s g B1 x.l.length d1 wr hG hrdm (by rw [show (markC x ps).l = marks x.l ps from rfl, marks_len]; omega))
      have HO := K.H.mk (show wr.ownsRow w.heap.size 37 8 (.slice B1 x.l.length d1) x.l.length ((markC x ps).l.flatMap Att.cs) from hown)
      have HFo := HF.out
      generalize nO (markC x ps) = N at *
      generalize hO (markC x ps) = M at *
      clear hown hrdm HF Hp Hr2 hk hlt
      
      
      
      
      
      
      
      have hwb := Hb.out
      obtain ⟨hc4, hf4, hl4⟩ := K.At.facts hG
      obtain ⟨hc5, hf5, hl5⟩ := K.At.facts hR
      obtain ⟨hc6, hf6, hl6⟩ := K.At.facts hS
      by_cases hN : N = 0
      · subst hN
        by_cases hl : 0 < x.l.length
        · rw [if_pos ⟨rfl, hl⟩] at HFo
          have HFp := K.H.mk HFo
          have GD := K.H.mk (fun W => Bof.Delay_c s.bo x.l.length draw W dr0 dr1)
          have hdl := delay_in s.bo x.l.length draw dr0 dr1
          generalize Bof.oDelay s.bo x.l.length draw = dl at *
          generalize Bof.eMost s.bo x.l.length = em at *
          clear HFo
          have hl2 : decide (0 < x.l.length) = true := by simpa using hl
          go_wp2_with (first | (go_at_call 45; (with_reducible refine (GN.out).mono ?_); rintro e W7 ⟨rfl, hb7⟩; obtain ⟨hB7, hC7, hF7, hZ7⟩ := K.bel_facts hb7; clear hb7; have kS7 : K.At W7 (w.heap.size + 1) 30 s.c := (by refine K.At.cast (by repeat (first | (with_reducible exact hS) | (with_reducible refine K.At.new' _ _ _ _ (by first | rfl | (simp; done) | omega)) | (with_reducible apply K.At.over hB7) | (with_reducible apply K.At.set) | (with_reducible apply K.At.alloc) | (with_reducible apply K.At.drewN) | (with_reducible apply K.At.drew) | (with_reducible apply K.At.far) | omega | (simp <;> omega))) ?_; rfl); obtain ⟨hc_kS7, hf_kS7, hl_kS7⟩ := K.At.facts kS7; have kR7 : K.At W7 (w.heap.size + 1 + 1) 26 #[.int .i64 0, .int .i64 0, .int .i64 0, .int .i64 0, .int .i64 0, .bool false, .int .i64 0, .int .i64 0, .int .i64 0, .slice none 0 0] := (by refine K.At.cast (by repeat (first | (with_reducible exact hR) | (with_reducible refine K.At.new' _ _ _ _ (by first | rfl | (simp; done) | omega)) | (with_reducible apply K.At.over hB7) | (with_reducible apply K.At.set) | (with_reducible apply K.At.alloc) | (with_reducible apply K.At.drewN) | (with_reducible apply K.At.drew) | (with_reducible apply K.At.far) | omega | (simp <;> omega))) ?_; rfl); obtain ⟨hc_kR7, hf_kR7, hl_kR7⟩ := K.At.facts kR7; have kG7 : K.At W7 g 91 (akc x s B1 x.l.length d1) := (by refine K.At.cast (by repeat (first | (with_reducible exact hG) | (with_reducible refine K.At.new' _ _ _ _ (by first | rfl | (simp; done) | omega)) | (with_reducible apply K.At.over hB7) | (with_reducible apply K.At.set) | (with_reducible apply K.At.alloc) | (with_reducible apply K.At.drewN) | (with_reducible apply K.At.drew) | (with_reducible apply K.At.far) | omega | (simp <;> omega))) ?_; rfl); obtain ⟨hc_kG7, hf_kG7, hl_kG7⟩ := K.At.facts kG7))
          refine K.wp_region_ext_lit (by kernel_rfl) (by kernel_rfl) ?_
          repeat (any_goals (first | go_big_quiet_skip | quiet_step ((first | (go_at_call 46; first | (with_reducible exact K.q_below (GD.out _))))) | (refine wpQuiet_step (fun K hK => ?_); go_simp; split <;> (refine hK _ ?_; clear hK K))))
          all_goals (refine wpQuiet_nil ?_; intro W15 hW15; obtain ⟨hB15, hC15, hF15, hZ15⟩ := K.ext_facts hW15; clear hW15; have kS7_15 := K.At.bel kS7 hB15; have kR7_15 := K.At.bel kR7 hB15; have kG7_15 := K.At.bel kG7 hB15)
          obtain ⟨hc8, hf8, hl8⟩ := K.At.facts kG7_15
          obtain ⟨hc9, hf9, hl9⟩ := K.At.facts kR7_15
          have hO15 := Sl.own_over (Sl.own_over HO.out hB7) hB15
          have hng := Sl.own_ne hO15 kG7_15 (by decide)
          have hnr := Sl.own_ne hO15 kR7_15 (by decide)
          have hgr : g ≠ w.heap.size + 1 + 1 := by omega
          have hrg : w.heap.size + 1 + 1 ≠ g := by omega
          ((try clear 7); (try clear hG); (try clear hR); (try clear hS); (try clear kS7); (try clear kR7); (try clear kG7); (try clear hc_kS7); (try clear hf_kS7); (try clear hl_kS7); (try clear hc_kR7); (try clear hf_kR7); (try clear hl_kR7); (try clear hc_kG7); (try clear hf_kG7); (try clear hl_kG7))
          go_wp2
          ((try simp only [Exit.inBlock, Exit.then]); refine bodyPost_ret (v := .tuple #[.agg #[.int .i64 x.num, .int .i64 x.op.what, .int .i64 x.op.key, .int .i64 x.op.other, .int .i64 x.op.amt, .bool x.once, .int .i64 x.at_, .int .i64 x.dl, .int .i64 (tick + dl), .slice B1 x.l.length d1], .int .i64 0]) (by simp only [results, Try.results22]; go_simp) rfl ?_)
          rw [HFp.out]
          refine ⟨B1, x.l.length, d1, rfl, ?_, (by repeat (first | (with_reducible exact Below.refl _ _) | (with_reducible exact hwb) | (with_reducible refine K.b_bel ?_ (by assumption)) | (with_reducible refine K.b_alloc ?_ _) | (with_reducible refine K.b_drewN ?_ _) | (with_reducible refine K.b_drew ?_) | (with_reducible refine K.b_set ?_ (by first | omega | (simp <;> omega)) _) | (with_reducible refine K.b_only ?_ (by assumption) (by first | omega | (simp <;> omega)))))⟩
          repeat (first | (with_reducible refine Sl.own_set ?_ hnr _) | (with_reducible refine Sl.own_set ?_ hng _))
          exact hO15
        · rw [if_neg (by omega)] at HFo
          have HFp := K.H.mk HFo
          have hl2 : decide (0 < x.l.length) = false := by simpa using hl
          clear HFo
          go_wp2_with (first | (go_at_call 45; (with_reducible refine (GN.out).mono ?_); rintro e W7 ⟨rfl, hb7⟩; obtain ⟨hB7, hC7, hF7, hZ7⟩ := K.bel_facts hb7; clear hb7; have kS7 : K.At W7 (w.heap.size + 1) 30 s.c := (by refine K.At.cast (by repeat (first | (with_reducible exact kS7) | (with_reducible refine K.At.new' _ _ _ _ (by first | rfl | (simp; done) | omega)) | (with_reducible apply K.At.over hB7) | (with_reducible apply K.At.set) | (with_reducible apply K.At.alloc) | (with_reducible apply K.At.drewN) | (with_reducible apply K.At.drew) | (with_reducible apply K.At.far) | omega | (simp <;> omega))) ?_; rfl); obtain ⟨hc_kS7, hf_kS7, hl_kS7⟩ := K.At.facts kS7; clear hc_kS7 hf_kS7 hl_kS7; have kR7 : K.At W7 (w.heap.size + 1 + 1) 26 #[.int .i64 0, .int .i64 0, .int .i64 0, .int .i64 0, .int .i64 0, .bool false, .int .i64 0, .int .i64 0, .int .i64 0, .slice none 0 0] := (by refine K.At.cast (by repeat (first | (with_reducible exact kR7) | (with_reducible refine K.At.new' _ _ _ _ (by first | rfl | (simp; done) | omega)) | (with_reducible apply K.At.over hB7) | (with_reducible apply K.At.set) | (with_reducible apply K.At.alloc) | (with_reducible apply K.At.drewN) | (with_reducible apply K.At.drew) | (with_reducible apply K.At.far) | omega | (simp <;> omega))) ?_; rfl); obtain ⟨hc_kR7, hf_kR7, hl_kR7⟩ := K.At.facts kR7; clear hc_kR7 hf_kR7 hl_kR7; have kG7 : K.At W7 g 91 (akc x s B1 x.l.length d1) := (by refine K.At.cast (by repeat (first | (with_reducible exact kG7) | (with_reducible refine K.At.new' _ _ _ _ (by first | rfl | (simp; done) | omega)) | (with_reducible apply K.At.over hB7) | (with_reducible apply K.At.set) | (with_reducible apply K.At.alloc) | (with_reducible apply K.At.drewN) | (with_reducible apply K.At.drew) | (with_reducible apply K.At.far) | omega | (simp <;> omega))) ?_; rfl); obtain ⟨hc_kG7, hf_kG7, hl_kG7⟩ := K.At.facts kG7; clear hc_kG7 hf_kG7 hl_kG7))
          have hO7 := Sl.own_over HO.out hB7
          have hnr := Sl.own_ne hO7 kR7 (by decide)
          ((try simp only [Exit.inBlock, Exit.then]); refine bodyPost_ret (v := .tuple #[x.a B1 x.l.length d1, .int .i64 0]) (by simp only [results, Try.results22]; go_simp) rfl ?_)
          rw [HFp.out]
          refine ⟨B1, x.l.length, d1, rfl, ?_, (by repeat (first | (with_reducible exact Below.refl _ _) | (with_reducible exact hwb) | (with_reducible refine K.b_bel ?_ (by assumption)) | (with_reducible refine K.b_alloc ?_ _) | (with_reducible refine K.b_drewN ?_ _) | (with_reducible refine K.b_drew ?_) | (with_reducible refine K.b_set ?_ (by first | omega | (simp <;> omega)) _) | (with_reducible refine K.b_only ?_ (by assumption) (by first | omega | (simp <;> omega)))))⟩
          repeat (with_reducible refine Sl.own_set ?_ hnr _)
          exact hO7
      · rw [if_neg (fun e => hN e.1)] at HFo
        have HFp := K.H.mk HFo
        have hN2 : (N == 0) = false := by simpa using hN
        clear HFo hN
        go_wp2_with (first | (go_at_call 45; (with_reducible refine (GN.out).mono ?_); rintro e W7 ⟨rfl, hb7⟩; obtain ⟨hB7, hC7, hF7, hZ7⟩ := K.bel_facts hb7; clear hb7; have kS7 : K.At W7 (w.heap.size + 1) 30 s.c := (by refine K.At.cast (by repeat (first | (with_reducible exact kS7) | (with_reducible refine K.At.new' _ _ _ _ (by first | rfl | (simp; done) | omega)) | (with_reducible apply K.At.over hB7) | (with_reducible apply K.At.set) | (with_reducible apply K.At.alloc) | (with_reducible apply K.At.drewN) | (with_reducible apply K.At.drew) | (with_reducible apply K.At.far) | omega | (simp <;> omega))) ?_; rfl); obtain ⟨hc_kS7, hf_kS7, hl_kS7⟩ := K.At.facts kS7; clear hc_kS7 hf_kS7 hl_kS7; have kR7 : K.At W7 (w.heap.size + 1 + 1) 26 #[.int .i64 0, .int .i64 0, .int .i64 0, .int .i64 0, .int .i64 0, .bool false, .int .i64 0, .int .i64 0, .int .i64 0, .slice none 0 0] := (by refine K.At.cast (by repeat (first | (with_reducible exact kR7) | (with_reducible refine K.At.new' _ _ _ _ (by first | rfl | (simp; done) | omega)) | (with_reducible apply K.At.over hB7) | (with_reducible apply K.At.set) | (with_reducible apply K.At.alloc) | (with_reducible apply K.At.drewN) | (with_reducible apply K.At.drew) | (with_reducible apply K.At.far) | omega | (simp <;> omega))) ?_; rfl); obtain ⟨hc_kR7, hf_kR7, hl_kR7⟩ := K.At.facts kR7; clear hc_kR7 hf_kR7 hl_kR7; have kG7 : K.At W7 g 91 (akc x s B1 x.l.length d1) := (by refine K.At.cast (by repeat (first | (with_reducible exact kG7) | (with_reducible refine K.At.new' _ _ _ _ (by first | rfl | (simp; done) | omega)) | (with_reducible apply K.At.over hB7) | (with_reducible apply K.At.set) | (with_reducible apply K.At.alloc) | (with_reducible apply K.At.drewN) | (with_reducible apply K.At.drew) | (with_reducible apply K.At.far) | omega | (simp <;> omega))) ?_; rfl); obtain ⟨hc_kG7, hf_kG7, hl_kG7⟩ := K.At.facts kG7; clear hc_kG7 hf_kG7 hl_kG7))
        have hO7 := Sl.own_over HO.out hB7
        have hnr := Sl.own_ne hO7 kR7 (by decide)
        ((try simp only [Exit.inBlock, Exit.then]); refine bodyPost_ret (v := .tuple #[x.a B1 x.l.length d1, .int .i64 0]) (by simp only [results, Try.results22]; go_simp) rfl ?_)
        rw [HFp.out]
        refine ⟨B1, x.l.length, d1, rfl, ?_, (by repeat (first | (with_reducible exact Below.refl _ _) | (with_reducible exact hwb) | (with_reducible refine K.b_bel ?_ (by assumption)) | (with_reducible refine K.b_alloc ?_ _) | (with_reducible refine K.b_drewN ?_ _) | (with_reducible refine K.b_drew ?_) | (with_reducible refine K.b_set ?_ (by first | omega | (simp <;> omega)) _) | (with_reducible refine K.b_only ?_ (by assumption) (by first | omega | (simp <;> omega)))))⟩
        repeat (with_reducible refine Sl.own_set ?_ hnr _)
        exact hO7
theorem Over_c (x : Cal) (s : Set) (tick draw : Int) (ps : List Int) (A : Option Addr) (n c : Nat) (A2 : Option Addr) (n2 c2 : Nat) (w : World) (hr : Sl.Rds w 8 A n (x.l.flatMap Att.cs)) (hr2 : Sl.Rds w 1 A2 n2 (ps.flatMap fun n => [.int .i64 n])) (dr0 : 0 ≤ draw) (dr1 : draw < 18446744073709551616) :
    Calls Try.prog 22 #[x.a A n c, s.a, .int .i64 tick, .int .u64 draw, .slice A2 n2 c2] w (CalPost w (oOver x s tick draw ps).1 (oOver x s tick draw ps).2) := by
  unfold oOver
  by_cases h : eCall x s = 0
  · rw [if_pos h]
    cases ht : inB 0 268435456 tick
    · unfold overF; rw [if_pos ht]
      exact over_tick x s tick draw _ A n c w hr h ht
    · cases hp : inAll 0 ((x.l.length : Int) - 1) ps
      · unfold overF; rw [if_neg (by rw [ht]; decide), if_pos hp]
        exact over_none x s tick draw ps A n c A2 n2 c2 w hr hr2 h ht hp
      · exact over_ok x s tick draw ps A n c A2 n2 c2 w hr hr2 h ht hp dr0 dr1
  · rw [if_neg h]
    exact over_bad x s tick draw _ A n c w hr h
end Go.Proofs.Ytfepjpjkamlneaa.Cl
