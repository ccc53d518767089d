/- Timer: the walk of TimerOwn. -/
import Derived.Test.YtmoaekjkihbicaaTm29
set_option linter.unusedVariables false
namespace Go.Proofs.Ytmoaekjkihbicaa.Tm
open Go.RowKit Go.Proofs.Ytmoaekjkihbicaa
set_option linter.unusedSimpArgs false
/-- A row that reads, of blocks from N on. -/
structure Far (w : World) (N : Nat) (A : Option Addr) (n : Nat) (cs : List Value) : Prop where
  rd : Sl.Rds w 2 A n cs
  far : 0 < n → ∀ a, A = some a → N ≤ a.block
theorem Far.of_own {w : World} {base n c : Nat} {A : Option Addr} {e : TypeId} {cs : List Value} (h : w.ownsRow base e 2 (.slice A n c) n cs) : Far w base A n cs := by
  obtain ⟨_, _, he, hR⟩ := Sl.Rds.of_own h
  cases he
  refine ⟨hR, fun h0 a ha => ?_⟩
  subst ha
  rcases h.2 with ⟨h3, h4⟩ | ⟨g, cap, cur, h3, hb, hg, _⟩
  · omega
  · cases h3; exact hb
theorem Far.low {w : World} {N M n : Nat} {A : Option Addr} {cs : List Value} (h : Far w N A n cs) (hM : M ≤ N) : Far w M A n cs := ⟨h.rd, fun h0 a ha => Nat.le_trans hM (h.far h0 a ha)⟩
theorem Far.bel {w W : World} {N n : Nat} {A : Option Addr} {cs : List Value} (h : Far w N A n cs) (hb : K.Bel w W) : Far W N A n cs := ⟨h.rd.bel hb, h.far⟩
theorem Far.grown {w W : World} {N n : Nat} {A : Option Addr} {cs : List Value} {row : Option Nat} (h : Far w N A n cs) (hg : w.grownBy W row) (hr : ∀ g, row = some g → g < N) : Sl.Rds W 2 A n cs := by
  refine ⟨h.rd.len, h.rd.small, fun h0 => ?_⟩
  obtain ⟨b, off, rfl, hb, hc⟩ := h.rd.at_ h0
  have hf := h.far h0 _ rfl
  refine ⟨b, off, rfl, Nat.lt_of_lt_of_le hb hg.size, fun j hj => ?_⟩
  rw [← hc j hj]
  exact World.cell?_of_block (w := w) (hg.block b hb (fun e => by have := hr b e.symm; simp at hf; omega))
theorem grown_trans {w W W2 : World} {row : Option Nat} (h : w.grownBy W row) (k : W.grownBy W2 row) : w.grownBy W2 row :=
  ⟨k.os.trans h.os, k.tape.trans h.tape, k.output.trans h.output, Nat.le_trans h.size k.size, fun i hi hn => (k.block i (Nat.lt_of_lt_of_le hi h.size) hn).trans (h.block i hi hn)⟩
set_option maxRecDepth 100000 in
set_option maxHeartbeats 16000000 in
theorem OwnLaw_c (l more : List Tm) (tick : Int) (A Am : Option Addr) (n c nm cm : Nat) (w : World) (hr : Sl.Rds w 2 A n (l.flatMap Tm.cs)) (hrm : Sl.Rds w 2 Am nm (more.flatMap Tm.cs)) (hn : n * 16 ≤ 140737488355328) :
    Calls Try.prog 7 #[.slice A n c, .slice Am nm cm, .int .i64 tick] w fun e w' => e = .returned (.bool true) ∧ Below w.heap.size w w' := by
  obtain rfl := hr.length Tm.cs_len (by omega)
  have GO := K.H.mk (fun (W : World) (hb : Below w.heap.size w W) => own_c (l.flatMap Tm.cs) A l.length c W (hr.below hb) (one_tm l) hn)
  have G2 := K.H.mk (fun (W : World) (A1 : Option Addr) (c1 : Nat) (h1 : Sl.Rds W 2 A1 l.length (l.flatMap Tm.cs)) (hb : Below w.heap.size w W) => Add_c l more A1 Am l.length c1 nm cm W h1 (hrm.below hb))
  have G3 := K.H.mk (fun (W : World) (hb : Below w.heap.size w W) => rAdd_c l more A Am l.length c nm cm W (hr.below hb) (hrm.below hb))
  have G6 := K.H.mk (fun (W : World) (A1 : Option Addr) (c1 : Nat) (h1 : Sl.Rds W 2 A1 l.length (l.flatMap Tm.cs)) => Due_c l tick A1 l.length c1 W h1)
  have G7 := K.H.mk (fun (W : World) (hb : Below w.heap.size w W) => rDue_c l tick A l.length c W (hr.below hb))
  have GX := K.H.mk (fun (W : World) (A1 : Option Addr) (c1 : Nat) (h1 : Sl.Rds W 2 A1 l.length (l.flatMap Tm.cs)) => Order_c l A1 l.length c1 W h1)
  have GY := K.H.mk (fun (W : World) (hb : Below w.heap.size w W) => rOrder_c l A l.length c W (hr.below hb))
  generalize rAdd l more = ra at *
  generalize rDue l tick = rd at *
  generalize rOrd l = ro at *
  obtain ⟨ea, La⟩ := ra
  obtain ⟨ed, Ld, Id⟩ := rd
  obtain ⟨eo, Lo⟩ := ro
  have ha1 : (ea == ea) = true := by simp
  have ha2 : (ed == ed) = true := by simp
  have ha4 : (eo == eo) = true := by simp
  have hle := hr.le
  clear hr hrm hn
  
  go_enter Try.func7, Try.ntmps7
  go_wp2_with (first
    | (go_at_call 9; (with_reducible refine (alive_c _).mono ?_); rintro e W12 ⟨rfl, hb12⟩; obtain ⟨hB12, hC12, hF12, hZ12⟩ := K.bel_facts hb12; clear hb12)
    | (go_at_call 19; (with_reducible refine (GO.out _ ?r1).mono ?_); (case r1 => exact (by repeat (first | (with_reducible exact Below.refl _ _) | (with_reducible refine K.b_bel ?_ (by assumption)) | (with_reducible refine K.b_alloc ?_ _) | (with_reducible refine K.b_drewN ?_ _) | (with_reducible refine K.b_drew ?_) | (with_reducible refine K.b_set ?_ (by first | omega | (simp <;> omega)) _) | (with_reducible refine K.b_only ?_ (by assumption) (by first | omega | (simp <;> omega)))))); rintro e W1 ⟨⟨v1, rfl, hown1⟩, hb1⟩; obtain ⟨A1, c1, rfl, hR1⟩ := Sl.Rds.of_own hown1; obtain ⟨hB1, hC1, hF1, hZ1⟩ := K.bel_facts hb1; clear hb1)
    | (go_at_call 13; (with_reducible refine (G2.out _ _ _ hR1 ?r1).mono ?_); (case r1 => exact (by repeat (first | (with_reducible exact Below.refl _ _) | (with_reducible refine K.b_bel ?_ (by assumption)) | (with_reducible refine K.b_alloc ?_ _) | (with_reducible refine K.b_drewN ?_ _) | (with_reducible refine K.b_drew ?_) | (with_reducible refine K.b_set ?_ (by first | omega | (simp <;> omega)) _) | (with_reducible refine K.b_only ?_ (by assumption) (by first | omega | (simp <;> omega)))))); rintro e W2 ⟨v2, rfl, hown2, hb2⟩; obtain ⟨A2, c2, rfl, hR2⟩ := Sl.Rds.of_own hown2; obtain ⟨hB2, hC2, hF2, hZ2⟩ := K.bel_facts hb2; clear hb2)
    | (go_at_call 14; (with_reducible refine (G6.out _ _ _ ?r1).mono ?_); (case r1 => exact (by repeat (first | (with_reducible exact hR1) | (with_reducible refine Sl.Rds.bel ?_ (by assumption)) | (with_reducible refine rds_al ?_ _)))); rintro e W3 ⟨v3, vi3, rfl, hown3, hids3, hb3⟩; obtain ⟨A3, c3, rfl, hR3⟩ := Sl.Rds.of_own hown3; obtain ⟨A3i, c3i, rfl, hRi3⟩ := Sl.Rds.of_own hids3; clear hids3 hRi3; obtain ⟨hB3, hC3, hF3, hZ3⟩ := K.bel_facts hb3; clear hb3)
    | (go_at_call 17; (with_reducible refine (GX.out _ _ _ ?r1).mono ?_); (case r1 => exact (by repeat (first | (with_reducible exact hR1) | (with_reducible refine Sl.Rds.bel ?_ (by assumption)) | (with_reducible refine rds_al ?_ _)))); rintro e W4 ⟨v4, rfl, hown4, hb4⟩; obtain ⟨A4, c4, rfl, hR4⟩ := Sl.Rds.of_own hown4; obtain ⟨hB4, hC4, hF4, hZ4⟩ := K.bel_facts hb4; clear hb4))
  have hz1 := hB12.out.size
  have hz2 := hB2.out.size
  have hz3 := hB3.out.size
  have F2 := K.H.mk (((Far.of_own hown2).bel hB3).bel hB4)
  have F3 := K.H.mk (((Far.of_own hown3).low hz2).bel hB4)
  have F4 := K.H.mk ((Far.of_own hown4).low (Nat.le_trans hz2 hz3))
  have hbase1 : ∀ g, (Value.slice A1 l.length c1).ownBlock = some g → w.heap.size ≤ g ∧ g < W1.heap.size := fun g hg => by have := hown1.lt g hg; omega
  have HBA := K.H.mk hbase1
  have hownL := Sl.own_low (base2 := w.heap.size) (Sl.own_over (Sl.own_over (Sl.own_over hown1 hB2) hB3) hB4) hz1
  have HbL := K.H.mk (show Below w.heap.size w W4 from (by repeat (first | (with_reducible exact Below.refl _ _) | (with_reducible refine K.b_bel ?_ (by assumption)) | (with_reducible refine K.b_alloc ?_ _) | (with_reducible refine K.b_drewN ?_ _) | (with_reducible refine K.b_drew ?_) | (with_reducible refine K.b_set ?_ (by first | omega | (simp <;> omega)) _) | (with_reducible refine K.b_only ?_ (by assumption) (by first | omega | (simp <;> omega))))))
  clear hown1 hown2 hown3 hown4 hR1 hR2 hR3 hR4 hbase1 G2 G6 GX GO
  ((try clear hC4); (try clear hF4); (try clear hZ4); (try clear hc4); (try clear hf4); (try clear hl4); (try clear hB4); (try clear hO4); (try clear hA4); (try clear hz4_0); (try clear hz4_1); (try clear hz4_2); (try clear hz4_3); (try clear hz4_1_0); (try clear hz4_1_1); (try clear hz4_2_0); (try clear hz4_2_1); (try clear hz4_3_0); (try clear hz4_3_1); (try clear hC3); (try clear hF3); (try clear hZ3); (try clear hc3); (try clear hf3); (try clear hl3); (try clear hB3); (try clear hO3); (try clear hA3); (try clear hz3_0); (try clear hz3_1); (try clear hz3_2); (try clear hz3_3); (try clear hz3_1_0); (try clear hz3_1_1); (try clear hz3_2_0); (try clear hz3_2_1); (try clear hC2); (try clear hF2); (try clear hZ2); (try clear hc2); (try clear hf2); (try clear hl2); (try clear hB2); (try clear hO2); (try clear hA2); (try clear hz2_0); (try clear hz2_1); (try clear hz2_2); (try clear hz2_3); (try clear hz2_1_0); (try clear hz2_1_1); (try clear hC1); (try clear hF1); (try clear hZ1); (try clear hc1); (try clear hf1); (try clear hl1); (try clear hB1); (try clear hO1); (try clear hA1); (try clear hz1_0); (try clear hz1_1); (try clear hz1_2); (try clear hz1_3); (try clear hC12); (try clear hF12); (try clear hZ12); (try clear hc12); (try clear hf12); (try clear hl12); (try clear hB12); (try clear hO12); (try clear hA12); (try clear hz12_0); (try clear hz12_1); (try clear hz12_2); (try clear hz12_3); (try clear hz12_1_0); (try clear hz12_1_1); (try clear hz12_2_0); (try clear hz12_2_1); (try clear hz12_3_0); (try clear hz12_3_1); (try clear hz12_4_0); (try clear hz12_4_1); (try clear hz12_5_0); (try clear hz12_5_1); (try clear hz12_6_0); (try clear hz12_6_1); (try clear hz12_7_0); (try clear hz12_7_1); (try clear hz12_8_0); (try clear hz12_8_1); (try clear hz12_9_0); (try clear hz12_9_1); (try clear hz12_10_0); (try clear hz12_10_1); (try clear hz12_11_0); (try clear hz12_11_1))
  go_loopw [15] (fun v15 wr => ∃ (k : Nat) (C : List Tm), k ≤ l.length ∧ v15 = .int .i64 k ∧ C.length = l.length ∧ wr.ownsRow w.heap.size 25 2 (.slice A1 l.length c1) l.length (C.flatMap Tm.cs) ∧ K.H (W4.grownBy wr (Value.slice A1 l.length c1).ownBlock)) (fun v15 _ => l.length - (intOf v15).toNat)
  case atStart => exact ⟨0, l, by omega, rfl, rfl, hownL, ⟨World.grownBy.refl _ _⟩⟩
  case round =>
    clear hownL
    obtain ⟨k, C, hk, rfl, hCl, hown, Hg⟩ := hrel
    by_cases hlt : k < l.length
    · obtain ⟨g, cap, he, hgb, hgl⟩ := form_t hown (by omega)
      cases he
      obtain ⟨y, hy⟩ : ∃ y, C[k]? = some y := ⟨_, List.getElem?_eq_getElem (by omega)⟩
      have hkl : (k : Int) < (l.length : Int) := by omega
      have hk0 : (0 : Int) ≤ (k : Int) := by omega
      have hu0 : wr.cell? ⟨g, k * 2, none⟩ = some (.int .i64 y.t) := by
        rw [hown.cellAt _ (by omega)]; have := Sl.flat_get Tm.cs_len C k 0 y hy (by omega); simpa [Tm.cs] using this
      have hu1 : wr.cell? ⟨g, k * 2 + 1, none⟩ = some (.int .i64 y.id) := by
        rw [hown.cellAt _ (by omega)]; have := Sl.flat_get Tm.cs_len C k 1 y hy (by omega); simpa [Tm.cs] using this
      have hf0 := hown.frozenAt (k * 2)
      have hf1 := hown.frozenAt (k * 2 + 1)
      have HO := K.H.mk (own_put (k := k) ⟨0, 0⟩ hown)
      clear hy hown
      go_wp2
      go_roundw
      case rel => exact ⟨k + 1, C.set k ⟨0, 0⟩, by omega, by go_num, by rw [List.length_set]; exact hCl, HO.out, ⟨grown_trans Hg.out (K.o_set (K.o_set (K.o_refl wr g) _ _) _ _)⟩⟩
      case measure => simp [intOf]; omega
    · obtain rfl : k = l.length := by omega
      have hRa := F2.out.grown Hg.out (fun g hg => (HBA.out g hg).2)
      have hRb := F3.out.grown Hg.out (fun g hg => (HBA.out g hg).2)
      have hRc := F4.out.grown Hg.out (fun g hg => (HBA.out g hg).2)
      have HbW := K.H.mk (HbL.out.grown Hg.out HbL.out.size (fun g hg => (HBA.out g hg).1))
      clear hown Hg F2 F3 F4
      go_wp2_with (first
        | (go_at_call 20; (with_reducible refine (G3.out _ (by repeat (first | (with_reducible exact Below.refl _ _) | (with_reducible exact HbW.out) | (with_reducible refine K.b_bel ?_ (by assumption)) | (with_reducible refine K.b_alloc ?_ _) | (with_reducible refine K.b_drewN ?_ _) | (with_reducible refine K.b_drew ?_) | (with_reducible refine K.b_set ?_ (by first | omega | (simp <;> omega)) _) | (with_reducible refine K.b_only ?_ (by assumption) (by first | omega | (simp <;> omega)))))).mono ?_); rintro e W5 ⟨v5, rfl, hown5, hb5⟩; obtain ⟨A5, c5, rfl, hca5, hcm5, hR5⟩ := Sl.Rds.of_own2 hown5; simp only [maxLen] at hcm5; clear hown5; obtain ⟨hB5, hC5, hF5, hZ5⟩ := K.bel_facts hb5; clear hb5)
        | (go_at_call 21; (with_reducible refine (G7.out _ ?r1).mono ?_); (case r1 => exact (by repeat (first | (with_reducible exact Below.refl _ _) | (with_reducible exact HbW.out) | (with_reducible refine K.b_bel ?_ (by assumption)) | (with_reducible refine K.b_alloc ?_ _) | (with_reducible refine K.b_drewN ?_ _) | (with_reducible refine K.b_drew ?_) | (with_reducible refine K.b_set ?_ (by first | omega | (simp <;> omega)) _) | (with_reducible refine K.b_only ?_ (by assumption) (by first | omega | (simp <;> omega)))))); rintro e W6 ⟨v6, vi6, rfl, hown6, hids6, hb6⟩; obtain ⟨A6, c6, rfl, hR6⟩ := Sl.Rds.of_own hown6; obtain ⟨A6i, c6i, rfl, hRi6⟩ := Sl.Rds.of_own hids6; clear hown6 hids6 hRi6; obtain ⟨hB6, hC6, hF6, hZ6⟩ := K.bel_facts hb6; clear hb6)
        | (go_at_call 22; (with_reducible refine (GY.out _ (by repeat (first | (with_reducible exact Below.refl _ _) | (with_reducible exact HbW.out) | (with_reducible refine K.b_bel ?_ (by assumption)) | (with_reducible refine K.b_alloc ?_ _) | (with_reducible refine K.b_drewN ?_ _) | (with_reducible refine K.b_drew ?_) | (with_reducible refine K.b_set ?_ (by first | omega | (simp <;> omega)) _) | (with_reducible refine K.b_only ?_ (by assumption) (by first | omega | (simp <;> omega)))))).mono ?_); rintro e W7 ⟨v7, rfl, hown7, hb7⟩; obtain ⟨A7, c7, rfl, hca7, hcm7, hR7⟩ := Sl.Rds.of_own2 hown7; simp only [maxLen] at hcm7; clear hown7; obtain ⟨hB7, hC7, hF7, hZ7⟩ := K.bel_facts hb7; clear hb7)
        | (go_at_call 11; (with_reducible refine (num_c _ _).mono ?_); rintro e w' ⟨rfl, hw'⟩; have hw'2 := Eq.symm hw'; clear hw'; subst hw'2)
        | (go_at_call 18; first
          | (go_at_call 18; (with_reducible refine (sameTm_t La _ _ _ _ _ ?r1 ?r2).mono ?_); (case r1 => exact (by repeat (first | (with_reducible exact hRa) | (with_reducible refine Sl.Rds.bel ?_ (by assumption)) | (with_reducible refine rds_al ?_ _)))); (case r2 => exact (by repeat (first | (with_reducible exact hR5) | (with_reducible refine Sl.Rds.bel ?_ (by assumption)) | (with_reducible refine rds_al ?_ _)))); rintro e W8 ⟨rfl, hb8⟩; obtain ⟨hB8, hC8, hF8, hZ8⟩ := K.bel_facts hb8; clear hb8)
          | (go_at_call 18; (with_reducible refine (sameTm_t Ld _ _ _ _ _ ?r1 ?r2).mono ?_); (case r1 => exact (by repeat (first | (with_reducible exact hRb) | (with_reducible refine Sl.Rds.bel ?_ (by assumption)) | (with_reducible refine rds_al ?_ _)))); (case r2 => exact (by repeat (first | (with_reducible exact hR6) | (with_reducible refine Sl.Rds.bel ?_ (by assumption)) | (with_reducible refine rds_al ?_ _)))); rintro e W9 ⟨rfl, hb9⟩; obtain ⟨hB9, hC9, hF9, hZ9⟩ := K.bel_facts hb9; clear hb9)
          | (go_at_call 18; (with_reducible refine (sameTm_t Lo _ _ _ _ _ ?r1 ?r2).mono ?_); (case r1 => exact (by repeat (first | (with_reducible exact hRc) | (with_reducible refine Sl.Rds.bel ?_ (by assumption)) | (with_reducible refine rds_al ?_ _)))); (case r2 => exact (by repeat (first | (with_reducible exact hR7) | (with_reducible refine Sl.Rds.bel ?_ (by assumption)) | (with_reducible refine rds_al ?_ _)))); rintro e W10 ⟨rfl, hb10⟩; obtain ⟨hB10, hC10, hF10, hZ10⟩ := K.bel_facts hb10; clear hb10)))
      go_ret
      exact ⟨rfl, (by repeat (first | (with_reducible exact Below.refl _ _) | (with_reducible exact HbW.out) | (with_reducible refine K.b_bel ?_ (by assumption)) | (with_reducible refine K.b_alloc ?_ _) | (with_reducible refine K.b_drewN ?_ _) | (with_reducible refine K.b_drew ?_) | (with_reducible refine K.b_set ?_ (by first | omega | (simp <;> omega)) _) | (with_reducible refine K.b_only ?_ (by assumption) (by first | omega | (simp <;> omega)))))⟩
end Go.Proofs.Ytmoaekjkihbicaa.Tm
