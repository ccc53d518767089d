/- CallSlow: the walk. -/
import Derived.Test.YtfepjpjkamlneaaClV
set_option linter.unusedVariables false
namespace Go.Proofs.Ytfepjpjkamlneaa.Cl
open Go.RowKit Go.Proofs.Ytfepjpjkamlneaa
attribute [local go_sem] K.max2_int K.min2_int K.max_two K.min_two K.max_three K.min_three
set_option linter.unusedSimpArgs false
theorem flat_ints (L : List Int) : (L.flatMap fun n => [Value.int .i64 n]) = L.map (Value.int .i64) := by
  induction L with
  | nil => rfl
  | cons a r ih => rw [List.flatMap_cons, ih]; rfl
set_option maxRecDepth 100000 in
set_option maxHeartbeats 8000000 in
theorem slowLaw_bad (x : Cal) (s : Set) (tick draw : Int) (A : Option Addr) (n c : Nat) (w : World) (hr : Sl.Rds w 8 A n (x.l.flatMap Att.cs)) (h : eCall x s ≠ 0) :
    Calls Try.prog 7 #[x.a A n c, s.a, .int .i64 tick, .int .u64 draw] w fun e w' => e = .returned (.bool true) ∧ Below w.heap.size w w' := by
  have GS := K.H.mk (fun (W : World) (hb : Below w.heap.size w W) => slow_bad x s tick A n c W (hr.below hb) h)
  have hd : (eCall x s != 0) = true := by simpa using h
  have hd2 : (eCall x s == 0) = false := by simpa using h
  generalize eCall x s = er at *
  clear hr h
  
  
  
  go_enter Try.func7, Try.ntmps7
  go_wp2_with (first
    | (go_at_call 10; (with_reducible refine (alive_c _).mono ?_); rintro e W1 ⟨rfl, hb1⟩; obtain ⟨hB1, hC1, hF1, hZ1⟩ := K.bel_facts hb1; clear hb1; have kS1 : K.At W1 (w.heap.size + 1) 30 s.c := (by refine K.At.cast (by repeat (first | (with_reducible refine K.At.new' _ _ _ _ (by first | rfl | (simp; done) | omega)) | (with_reducible apply K.At.over hB1) | (with_reducible apply K.At.set) | (with_reducible apply K.At.alloc) | (with_reducible apply K.At.drewN) | (with_reducible apply K.At.drew) | (with_reducible apply K.At.far) | omega | (simp <;> omega))) ?_; rfl); obtain ⟨hc_kS1, hf_kS1, hl_kS1⟩ := K.At.facts kS1; have kX1 : K.At W1 w.heap.size 26 (x.c A n c) := (by refine K.At.cast (by repeat (first | (with_reducible refine K.At.new' _ _ _ _ (by first | rfl | (simp; done) | omega)) | (with_reducible apply K.At.over hB1) | (with_reducible apply K.At.set) | (with_reducible apply K.At.alloc) | (with_reducible apply K.At.drewN) | (with_reducible apply K.At.drew) | (with_reducible apply K.At.far) | omega | (simp <;> omega))) ?_; rfl); obtain ⟨hc_kX1, hf_kX1, hl_kX1⟩ := K.At.facts kX1)
    | (go_at_call 24; (with_reducible refine (GS.out _ (by repeat (first | (with_reducible exact Below.refl _ _) | (with_reducible refine K.b_bel ?_ (by assumption)) | (with_reducible refine K.b_alloc ?_ _) | (with_reducible refine K.b_drewN ?_ _) | (with_reducible refine K.b_drew ?_) | (with_reducible refine K.b_set ?_ (by first | omega | (simp <;> omega)) _) | (with_reducible refine K.b_only ?_ (by assumption) (by first | omega | (simp <;> omega)))))).mono ?_); rintro e W2 ⟨v, rfl, hown2, hb2⟩; obtain ⟨hB2, hC2, hF2, hZ2⟩ := K.bel_facts hb2; clear hb2; obtain ⟨B, d, rfl, hR2⟩ := Sl.Rds.of_own hown2; clear hown2)
    | (go_at_call 12; (with_reducible refine (num_c _ _).mono ?_); rintro e w' ⟨rfl, hw'⟩; have hw'2 := Eq.symm hw'; clear hw'; subst hw'2))
  go_ret
  exact ⟨rfl, (by repeat (first | (with_reducible exact Below.refl _ _) | (with_reducible refine K.b_bel ?_ (by assumption)) | (with_reducible refine K.b_alloc ?_ _) | (with_reducible refine K.b_drewN ?_ _) | (with_reducible refine K.b_drew ?_) | (with_reducible refine K.b_set ?_ (by first | omega | (simp <;> omega)) _) | (with_reducible refine K.b_only ?_ (by assumption) (by first | omega | (simp <;> omega)))))⟩
set_option maxRecDepth 100000 in
set_option maxHeartbeats 8000000 in
theorem slowLaw_tick (x : Cal) (s : Set) (tick draw : Int) (A : Option Addr) (n c : Nat) (w : World) (hr : Sl.Rds w 8 A n (x.l.flatMap Att.cs)) (h : eCall x s = 0) (ht : tick < 0 ∨ 268435456 < tick) :
    Calls Try.prog 7 #[x.a A n c, s.a, .int .i64 tick, .int .u64 draw] w fun e w' => e = .returned (.bool true) ∧ Below w.heap.size w w' := by
  have GS := K.H.mk (fun (W : World) (hb : Below w.heap.size w W) => slow_ok x s tick A n c W (hr.below hb) h)
  generalize slowL s tick (outT x.l x.l.length) = L at *
  clear hr h
  
  
  
  have hd : decide (tick < 0) = true ∨ (decide (tick < 0) = false ∧ decide (268435456 < tick) = true) := by
    by_cases h0 : tick < 0
    · exact .inl (by simpa using h0)
    · exact .inr ⟨by simpa using h0, by simp; omega⟩
  clear ht
  rcases hd with d1 | ⟨d1, d2⟩
  all_goals
    go_enter Try.func7, Try.ntmps7
    go_wp2_with (first
      | (go_at_call 10; (with_reducible refine (alive_c _).mono ?_); rintro e W1 ⟨rfl, hb1⟩; obtain ⟨hB1, hC1, hF1, hZ1⟩ := K.bel_facts hb1; clear hb1; have kS1 : K.At W1 (w.heap.size + 1) 30 s.c := (by refine K.At.cast (by repeat (first | (with_reducible refine K.At.new' _ _ _ _ (by first | rfl | (simp; done) | omega)) | (with_reducible apply K.At.over hB1) | (with_reducible apply K.At.set) | (with_reducible apply K.At.alloc) | (with_reducible apply K.At.drewN) | (with_reducible apply K.At.drew) | (with_reducible apply K.At.far) | omega | (simp <;> omega))) ?_; rfl); obtain ⟨hc_kS1, hf_kS1, hl_kS1⟩ := K.At.facts kS1; have kX1 : K.At W1 w.heap.size 26 (x.c A n c) := (by refine K.At.cast (by repeat (first | (with_reducible refine K.At.new' _ _ _ _ (by first | rfl | (simp; done) | omega)) | (with_reducible apply K.At.over hB1) | (with_reducible apply K.At.set) | (with_reducible apply K.At.alloc) | (with_reducible apply K.At.drewN) | (with_reducible apply K.At.drew) | (with_reducible apply K.At.far) | omega | (simp <;> omega))) ?_; rfl); obtain ⟨hc_kX1, hf_kX1, hl_kX1⟩ := K.At.facts kX1)
      | (go_at_call 24; (with_reducible refine (GS.out _ (by repeat (first | (with_reducible exact Below.refl _ _) | (with_reducible refine K.b_bel ?_ (by assumption)) | (with_reducible refine K.b_alloc ?_ _) | (with_reducible refine K.b_drewN ?_ _) | (with_reducible refine K.b_drew ?_) | (with_reducible refine K.b_set ?_ (by first | omega | (simp <;> omega)) _) | (with_reducible refine K.b_only ?_ (by assumption) (by first | omega | (simp <;> omega)))))).mono ?_); rintro e W2 ⟨v, rfl, hown2, hb2⟩; obtain ⟨hB2, hC2, hF2, hZ2⟩ := K.bel_facts hb2; clear hb2; obtain ⟨B, d, rfl, hR2⟩ := Sl.Rds.of_own hown2; clear hown2)
      | (go_at_call 12; (with_reducible refine (num_c _ _).mono ?_); rintro e w' ⟨rfl, hw'⟩; have hw'2 := Eq.symm hw'; clear hw'; subst hw'2))
    go_ret
    exact ⟨rfl, (by repeat (first | (with_reducible exact Below.refl _ _) | (with_reducible refine K.b_bel ?_ (by assumption)) | (with_reducible refine K.b_alloc ?_ _) | (with_reducible refine K.b_drewN ?_ _) | (with_reducible refine K.b_drew ?_) | (with_reducible refine K.b_set ?_ (by first | omega | (simp <;> omega)) _) | (with_reducible refine K.b_only ?_ (by assumption) (by first | omega | (simp <;> omega)))))⟩
set_option maxRecDepth 100000 in
set_option maxHeartbeats 8000000 in
theorem slowLaw_ok (x : Cal) (s : Set) (tick draw : Int) (A : Option Addr) (n c : Nat) (w : World) (hr : Sl.Rds w 8 A n (x.l.flatMap Att.cs)) (h : eCall x s = 0) (ht : 0 ≤ tick ∧ tick ≤ 268435456) (dr0 : 0 ≤ draw) (dr1 : draw < 18446744073709551616) :
    Calls Try.prog 7 #[x.a A n c, s.a, .int .i64 tick, .int .u64 draw] w fun e w' => e = .returned (.bool true) ∧ Below w.heap.size w w' := by
  obtain rfl := hr.length Att.cs_len (by omega)
  have h16 := ok_len h
  have GS := K.H.mk (fun (W : World) (hb : Below w.heap.size w W) => slow_ok x s tick A x.l.length c W (hr.below hb) h)
  have Hin := K.H.mk (fun i (hi : i ∈ slowL s tick (outT x.l x.l.length)) => slow_in h hi)
  have hall := slow_all (tick := tick) h
  have hnone := fun k hk => slow_none s tick x.l k hk
  have hLl : (slowL s tick (outT x.l x.l.length)).length ≤ 16 := by have := slowL_len s tick (outT x.l x.l.length); have := outT_len x.l x.l.length; omega
  generalize slowL s tick (outT x.l x.l.length) = L at *
  have hov : (oOver x s tick draw L).2 = 0 := by
    unfold oOver overF
    rw [if_pos h, if_neg (by rw [inB_t.2 ht]; decide), if_neg (by rw [hall]; decide)]
    split <;> rfl
  obtain ⟨nx, h1, _, _, _, hcase⟩ := oOver_ok hov dr0 dr1
  have hnx : 0 ≤ nx ∧ nx ≤ 536870912 := by
    have hh := (ok_head h).2.2.2.2.1
    rcases hcase with ⟨_, rfl⟩ | ⟨_, _, dl, rfl, h3, h4, h5⟩
    · exact hh
    · omega
  have he := eCall_marks h L nx hnx
  have hnil : oSlow { markC x L with nx := nx } s tick = [] := by
    unfold oSlow
    rw [if_pos he]
    exact hnone _ (by show x.l.length ≤ (marks x.l L).length; rw [marks_len]; exact Nat.le_refl _)
  have GO := K.H.mk (fun (W : World) (hb : Below w.heap.size w W) (B : Option Addr) (m d : Nat) (hR : Sl.Rds W 1 B m (L.flatMap fun n => [.int .i64 n])) => by
    have h9 := Over_c x s tick draw L A x.l.length c B m d W (hr.below hb) hR dr0 dr1
    rw [h1, hov] at h9; exact h9)
  have GT := K.H.mk (fun (W : World) (B : Option Addr) (m d : Nat) (hR : Sl.Rds W 8 B m (({ markC x L with nx := nx } : Cal).l.flatMap Att.cs)) => by
    have h9 := Slow_c { markC x L with nx := nx } s tick B m d W hR
    rw [hnil, he] at h9; exact h9)
  have Hr := K.H.mk hr
  have d1 : decide (tick < 0) = false := by simp; omega
  have d2 : decide (268435456 < tick) = false := by simp; omega
  have htm : 1 ≤ s.tmo ∧ s.tmo ≤ 1048576 := by have := (eCall_ok h).1; unfold Set.ok at this; omega
  generalize ({ markC x L with nx := nx } : Cal) = y at *
  clear hr h hcase hnx he hnil hov h1 hnone hall
  
  
  
  go_enter Try.func7, Try.ntmps7
  go_wp2_with (first
    | (go_at_call 10; (with_reducible refine (alive_c _).mono ?_); rintro e W1 ⟨rfl, hb1⟩; obtain ⟨hB1, hC1, hF1, hZ1⟩ := K.bel_facts hb1; clear hb1; have kS1 : K.At W1 (w.heap.size + 1) 30 s.c := (by refine K.At.cast (by repeat (first | (with_reducible refine K.At.new' _ _ _ _ (by first | rfl | (simp; done) | omega)) | (with_reducible apply K.At.over hB1) | (with_reducible apply K.At.set) | (with_reducible apply K.At.alloc) | (with_reducible apply K.At.drewN) | (with_reducible apply K.At.drew) | (with_reducible apply K.At.far) | omega | (simp <;> omega))) ?_; rfl); obtain ⟨hc_kS1, hf_kS1, hl_kS1⟩ := K.At.facts kS1; have kX1 : K.At W1 w.heap.size 26 (x.c A x.l.length c) := (by refine K.At.cast (by repeat (first | (with_reducible refine K.At.new' _ _ _ _ (by first | rfl | (simp; done) | omega)) | (with_reducible apply K.At.over hB1) | (with_reducible apply K.At.set) | (with_reducible apply K.At.alloc) | (with_reducible apply K.At.drewN) | (with_reducible apply K.At.drew) | (with_reducible apply K.At.far) | omega | (simp <;> omega))) ?_; rfl); obtain ⟨hc_kX1, hf_kX1, hl_kX1⟩ := K.At.facts kX1)
    | (go_at_call 24; (with_reducible refine (GS.out _ (by repeat (first | (with_reducible exact Below.refl _ _) | (with_reducible refine K.b_bel ?_ (by assumption)) | (with_reducible refine K.b_alloc ?_ _) | (with_reducible refine K.b_drewN ?_ _) | (with_reducible refine K.b_drew ?_) | (with_reducible refine K.b_set ?_ (by first | omega | (simp <;> omega)) _) | (with_reducible refine K.b_only ?_ (by assumption) (by first | omega | (simp <;> omega)))))).mono ?_); rintro e W2 ⟨v, rfl, hown2, hb2⟩; obtain ⟨hB2, hC2, hF2, hZ2⟩ := K.bel_facts hb2; clear hb2; obtain ⟨B, d, rfl, hR2⟩ := Sl.Rds.of_own hown2; clear hown2; have kS2 : K.At W2 (w.heap.size + 1) 30 s.c := (by refine K.At.cast (by repeat (first | (with_reducible exact kS1) | (with_reducible refine K.At.new' _ _ _ _ (by first | rfl | (simp; done) | omega)) | (with_reducible apply K.At.over hB2) | (with_reducible apply K.At.set) | (with_reducible apply K.At.alloc) | (with_reducible apply K.At.drewN) | (with_reducible apply K.At.drew) | (with_reducible apply K.At.far) | omega | (simp <;> omega))) ?_; rfl); obtain ⟨hc_kS2, hf_kS2, hl_kS2⟩ := K.At.facts kS2; clear hc_kS1 hf_kS1 hl_kS1; have kX2 : K.At W2 w.heap.size 26 (x.c A x.l.length c) := (by refine K.At.cast (by repeat (first | (with_reducible exact kX1) | (with_reducible refine K.At.new' _ _ _ _ (by first | rfl | (simp; done) | omega)) | (with_reducible apply K.At.over hB2) | (with_reducible apply K.At.set) | (with_reducible apply K.At.alloc) | (with_reducible apply K.At.drewN) | (with_reducible apply K.At.drew) | (with_reducible apply K.At.far) | omega | (simp <;> omega))) ?_; rfl); obtain ⟨hc_kX2, hf_kX2, hl_kX2⟩ := K.At.facts kX2; clear hc_kX1 hf_kX1 hl_kX1)
    | (go_at_call 12; (with_reducible refine (num_c _ _).mono ?_); rintro e w' ⟨rfl, hw'⟩; have hw'2 := Eq.symm hw'; clear hw'; subst hw'2))
  rw [← flat_ints] at hR2
  have HR2 := K.H.mk hR2
  have hbw : Below w.heap.size w W2 := (by repeat (first | (with_reducible exact Below.refl _ _) | (with_reducible refine K.b_bel ?_ (by assumption)) | (with_reducible refine K.b_alloc ?_ _) | (with_reducible refine K.b_drewN ?_ _) | (with_reducible refine K.b_drew ?_) | (with_reducible refine K.b_set ?_ (by first | omega | (simp <;> omega)) _) | (with_reducible refine K.b_only ?_ (by assumption) (by first | omega | (simp <;> omega)))))
  have HB := K.H.mk hbw
  clear hbw hR2
  go_loopw [11] (fun i wr => ∃ k : Nat, k ≤ L.length ∧ i = .int .i64 k ∧ K.At wr (w.heap.size + 1) 30 s.c ∧ K.At wr w.heap.size 26 (x.c A x.l.length c) ∧ K.H (Below W2.heap.size W2 wr) ∧ K.H (Below w.heap.size w wr)) (fun i _ => L.length - (intOf i).toNat)
  case atStart => exact ⟨0, by omega, rfl, kS2, kX2, ⟨Below.refl _ _⟩, HB⟩
  case round =>
    obtain ⟨k, hk, rfl, hS, hX, Hb2, Hb⟩ := hrel
    obtain ⟨hc4, hf4, hl4⟩ := K.At.facts hS
    obtain ⟨hc5, hf5, hl5⟩ := K.At.facts hX
    by_cases hlt : k < L.length
    · obtain ⟨p, hx⟩ : ∃ p, L[k]? = some p := ⟨_, List.getElem?_eq_getElem hlt⟩
      obtain ⟨kk, a, rfl, ha, ho, hs1, hs2, hs3⟩ := Hin.out p (List.mem_of_getElem? hx)
      have hkl := (List.getElem?_eq_some_iff.1 ha).1
      have hkl2 : (kk : Int) < x.l.length := by omega
      obtain ⟨b3, off3, rfl, hbl3, hbc3⟩ := Sl.Rds.elem HR2.out (enc := fun n => [.int .i64 n]) (fun _ => rfl) (by omega) hx
      have q3_0 : wr.cell? ⟨b3, off3 + k, none⟩ = some (.int .i64 kk) := by
        have := (Hb2.out.cell (p := ⟨b3, off3 + k * 1 + 0, none⟩) hbl3).trans (hbc3 0 (by omega))
        simpa using this
      have hbw3 : b3 < wr.heap.size := Nat.lt_of_lt_of_le hbl3 Hb2.out.size
      obtain ⟨b, off, rfl, hbl, hbc⟩ := Sl.Rds.elem Hr.out Att.cs_len (by omega) ha
      have q_0 : wr.cell? ⟨b, off + kk * 8, none⟩ = some (.int .i64 a.b) := (Hb.out.cell (p := ⟨b, off + kk * 8 + 0, none⟩) hbl).trans (hbc 0 (by omega))
      have q_1 : wr.cell? ⟨b, off + kk * 8 + 1, none⟩ = some (.int .i64 a.i) := (Hb.out.cell (p := ⟨b, off + kk * 8 + 1, none⟩) hbl).trans (hbc 1 (by omega))
      have q_2 : wr.cell? ⟨b, off + kk * 8 + 2, none⟩ = some (.int .i64 a.s) := (Hb.out.cell (p := ⟨b, off + kk * 8 + 2, none⟩) hbl).trans (hbc 2 (by omega))
      have q_3 : wr.cell? ⟨b, off + kk * 8 + 3, none⟩ = some (.int .i64 a.q) := (Hb.out.cell (p := ⟨b, off + kk * 8 + 3, none⟩) hbl).trans (hbc 3 (by omega))
      have q_4 : wr.cell? ⟨b, off + kk * 8 + 4, none⟩ = some (.int .i64 a.t) := (Hb.out.cell (p := ⟨b, off + kk * 8 + 4, none⟩) hbl).trans (hbc 4 (by omega))
      have q_5 : wr.cell? ⟨b, off + kk * 8 + 5, none⟩ = some (.bool a.hedge) := (Hb.out.cell (p := ⟨b, off + kk * 8 + 5, none⟩) hbl).trans (hbc 5 (by omega))
      have q_6 : wr.cell? ⟨b, off + kk * 8 + 6, none⟩ = some (.bool a.probe) := (Hb.out.cell (p := ⟨b, off + kk * 8 + 6, none⟩) hbl).trans (hbc 6 (by omega))
      have q_7 : wr.cell? ⟨b, off + kk * 8 + 7, none⟩ = some (.bool a.over) := (Hb.out.cell (p := ⟨b, off + kk * 8 + 7, none⟩) hbl).trans (hbc 7 (by omega))
      clear hbc
      have hbw : b < wr.heap.size := Nat.lt_of_lt_of_le hbl Hb.out.size
      rw [ho] at q_7
      have d3 : decide (tick - a.t < s.tmo) = false := by simp; omega
      have d4 : IntKind.i64.wrap (tick - a.t) = tick - a.t := by rw [IntWalk.i64_left, IntWalk.wrap64_in _ (by omega)]
      have d5 : wrap64 (tick - a.t) = tick - a.t := IntWalk.wrap64_in _ (by omega)
      clear hx ha ho
      go_wp2
      refine K.wp_region_ext_lit (by kernel_rfl) (by kernel_rfl) ?_
      repeat (any_goals (first | go_big_quiet_skip | quiet_step (fail) | (refine wpQuiet_step (fun K hK => ?_); go_simp; split <;> (refine hK _ ?_; clear hK K))))
      all_goals (refine wpQuiet_nil ?_; intro W9 hW9; obtain ⟨hB9, hC9, hF9, hZ9⟩ := K.ext_facts hW9; clear hW9; have hS_9 := K.At.bel hS hB9; have hX_9 := K.At.bel hX hB9)
      go_wp2
      refine ⟨⟨k + 1, by omega, by go_num, hS_9, hX_9, ⟨(by repeat (first | (with_reducible exact Below.refl _ _) | (with_reducible exact Hb2.out) | (with_reducible refine K.b_bel ?_ (by assumption)) | (with_reducible refine K.b_alloc ?_ _) | (with_reducible refine K.b_drewN ?_ _) | (with_reducible refine K.b_drew ?_) | (with_reducible refine K.b_set ?_ (by first | omega | (simp <;> omega)) _) | (with_reducible refine K.b_only ?_ (by assumption) (by first | omega | (simp <;> omega)))))⟩, ⟨(by repeat (first | (with_reducible exact Below.refl _ _) | (with_reducible exact Hb.out) | (with_reducible refine K.b_bel ?_ (by assumption)) | (with_reducible refine K.b_alloc ?_ _) | (with_reducible refine K.b_drewN ?_ _) | (with_reducible refine K.b_drew ?_) | (with_reducible refine K.b_set ?_ (by first | omega | (simp <;> omega)) _) | (with_reducible refine K.b_only ?_ (by assumption) (by first | omega | (simp <;> omega)))))⟩⟩, ?_⟩
      simp [intOf]; omega
    · obtain rfl : k = L.length := by omega
      have hwb := Hb.out
      go_wp2_with (first
        | (go_at_call 22; (with_reducible refine (GO.out _ (by repeat (first | (with_reducible exact Below.refl _ _) | (with_reducible exact hwb) | (with_reducible refine K.b_bel ?_ (by assumption)) | (with_reducible refine K.b_alloc ?_ _) | (with_reducible refine K.b_drewN ?_ _) | (with_reducible refine K.b_drew ?_) | (with_reducible refine K.b_set ?_ (by first | omega | (simp <;> omega)) _) | (with_reducible refine K.b_only ?_ (by assumption) (by first | omega | (simp <;> omega))))) _ _ _ (HR2.out.below Hb2.out)).mono ?_); rintro e W5 ⟨B5, m5, d5, rfl, hown5, hb5⟩; obtain ⟨_, _, he5, hR5⟩ := Sl.Rds.of_own hown5; cases he5; obtain ⟨hB5, hC5, hF5, hZ5⟩ := K.bel_facts hb5; clear hb5 hown5; have hS5 : K.At W5 (w.heap.size + 1) 30 s.c := (by refine K.At.cast (by repeat (first | (with_reducible exact hS) | (with_reducible refine K.At.new' _ _ _ _ (by first | rfl | (simp; done) | omega)) | (with_reducible apply K.At.over hB5) | (with_reducible apply K.At.set) | (with_reducible apply K.At.alloc) | (with_reducible apply K.At.drewN) | (with_reducible apply K.At.drew) | (with_reducible apply K.At.far) | omega | (simp <;> omega))) ?_; rfl); obtain ⟨hc_hS5, hf_hS5, hl_hS5⟩ := K.At.facts hS5)
        | (go_at_call 24; (with_reducible refine (GT.out _ _ _ _ (hR5.below (by repeat (first | (with_reducible exact Below.refl _ _) | (with_reducible refine K.b_bel ?_ (by assumption)) | (with_reducible refine K.b_alloc ?_ _) | (with_reducible refine K.b_drewN ?_ _) | (with_reducible refine K.b_drew ?_) | (with_reducible refine K.b_set ?_ (by first | omega | (simp <;> omega)) _) | (with_reducible refine K.b_only ?_ (by assumption) (by first | omega | (simp <;> omega))))))).mono ?_); rintro e W6 ⟨v6, rfl, hown6, hb6⟩; obtain ⟨hB6, hC6, hF6, hZ6⟩ := K.bel_facts hb6; clear hb6; obtain ⟨B6, d6, rfl, hR6⟩ := Sl.Rds.of_own hown6; clear hown6)
        | (go_at_call 12; (with_reducible refine (num_c _ _).mono ?_); rintro e w' ⟨rfl, hw'⟩; have hw'2 := Eq.symm hw'; clear hw'; subst hw'2))
      go_ret
      exact ⟨rfl, (by repeat (first | (with_reducible exact Below.refl _ _) | (with_reducible exact hwb) | (with_reducible refine K.b_bel ?_ (by assumption)) | (with_reducible refine K.b_alloc ?_ _) | (with_reducible refine K.b_drewN ?_ _) | (with_reducible refine K.b_drew ?_) | (with_reducible refine K.b_set ?_ (by first | omega | (simp <;> omega)) _) | (with_reducible refine K.b_only ?_ (by assumption) (by first | omega | (simp <;> omega)))))⟩
theorem SlowLaw_c (x : Cal) (s : Set) (tick draw : Int) (A : Option Addr) (n c : Nat) (w : World) (hr : Sl.Rds w 8 A n (x.l.flatMap Att.cs)) (dr0 : 0 ≤ draw) (dr1 : draw < 18446744073709551616) :
    Calls Try.prog 7 #[x.a A n c, s.a, .int .i64 tick, .int .u64 draw] w fun e w' => e = .returned (.bool true) ∧ Below w.heap.size w w' := by
  by_cases h : eCall x s = 0
  · by_cases ht : 0 ≤ tick ∧ tick ≤ 268435456
    · exact slowLaw_ok x s tick draw A n c w hr h ht dr0 dr1
    · exact slowLaw_tick x s tick draw A n c w hr h (by omega)
  · exact slowLaw_bad x s tick draw A n c w hr h
end Go.Proofs.Ytfepjpjkamlneaa.Cl
