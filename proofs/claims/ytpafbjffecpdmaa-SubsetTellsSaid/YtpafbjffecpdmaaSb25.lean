/- SubsetTells: the walk. -/
import Derived.Test.YtpafbjffecpdmaaSb24
import Derived.Test.YtpafbjffecpdmaaSame
set_option linter.unusedVariables false
namespace Go.Proofs.Ytpafbjffecpdmaa.Sb
open Go.RowKit Go.Proofs.Ytpafbjffecpdmaa
attribute [local go_sem] K.max2_int K.min2_int K.max_two K.min_two K.max_three K.min_three
set_option linter.unusedSimpArgs false
set_option maxRecDepth 100000 in
set_option maxHeartbeats 8000000 in
theorem Tells_c (ids other : List Int) (client size : Int) (seed : Nat) (y : Int) (A A2 : Option Addr) (n c n2 c2 : Nat) (w : World) (hr : Sl.Rds w 1 A n (ids.flatMap fun n => [.int .i64 n])) (hr2 : Sl.Rds w 1 A2 n2 (other.flatMap fun n => [.int .i64 n])) (hs : seed < 18446744073709551616) (hn : n * 8 ≤ 140737488355328) (hn2 : n2 * 8 ≤ 140737488355328) :
    Calls Try.prog 8 #[.slice A n c, .slice A2 n2 c2, .int .i64 client, .int .i64 size, .int .u64 seed, .int .i64 y] w fun e w' => e = .returned (.bool true) ∧ Below w.heap.size w w' := by
  obtain rfl := hr.length (fun _ => rfl) (by omega)
  obtain rfl := hr2.length (fun _ => rfl) (by omega)
  have GK := K.H.mk (fun (W : World) (hb : Below w.heap.size w W) => Sl.copy_c ids A ids.length c W (hr.below hb) hn)
  have GO := K.H.mk (fun (W : World) (B : Option Addr) (d : Nat) (hR : Sl.Rds W 1 B ids.length (ids.flatMap fun n => [.int .i64 n])) => Of_c ids client size seed B ids.length d W hR hs)
  have GR := K.H.mk (fun (W : World) (hb : Below w.heap.size w W) => rOf_c ids client size seed A ids.length c W (hr.below hb) hs)
  have G1 := K.H.mk (fun (W : World) => Round_c y client size W)
  have G2 := K.H.mk (fun (W : World) => rRound_c y client size W)
  have GC := K.H.mk (fun (W : World) (B : Option Addr) (d : Nat) (hR : Sl.Rds W 1 B ids.length (ids.flatMap fun n => [.int .i64 n])) => Counts_c ids y size seed B ids.length d W hR hs)
  have GD := K.H.mk (fun (W : World) (hb : Below w.heap.size w W) => rCounts_c ids y size seed A ids.length c W (hr.below hb) hs)
  have GX := K.H.mk (fun (W : World) (B : Option Addr) (d : Nat) (hR : Sl.Rds W 1 B ids.length (ids.flatMap fun n => [.int .i64 n])) (hb : Below w.heap.size w W) => Change_c ids other B A2 ids.length d other.length c2 W hR (hr2.below hb) hn hn2)
  have GY := K.H.mk (fun (W : World) (hb : Below w.heap.size w W) => rChange_c ids other A A2 ids.length c other.length c2 W (hr.below hb) (hr2.below hb) hn hn2)
  generalize oOf ids client size seed = L at *
  generalize ofE ids client size = er at *
  generalize (rnd y client size).1 = r1 at *
  generalize (rnd y client size).2.1 = r2 at *
  generalize (rnd y client size).2.2 = r3 at *
  generalize cntL ids y size seed = CC at *
  generalize cntE ids y size = ec at *
  generalize woL other ids = X at *
  generalize woL ids other = Y at *
  have SL := K.H.mk (fun (W : World) (B C : Option Addr) (d e : Nat) (h1 : Sl.Rds W 1 B L.length (L.flatMap fun n => [.int .i64 n])) (h2 : Sl.Rds W 1 C L.length (L.flatMap fun n => [.int .i64 n])) => Sl.same_c L L B C L.length L.length d e W h1 h2)
  rw [decide_eq_true (rfl : L = L)] at SL
  have SC := K.H.mk (fun (W : World) (B C : Option Addr) (d e : Nat) (h1 : Sl.Rds W 1 B CC.length (CC.flatMap fun n => [.int .i64 n])) (h2 : Sl.Rds W 1 C CC.length (CC.flatMap fun n => [.int .i64 n])) => Sl.same_c CC CC B C CC.length CC.length d e W h1 h2)
  rw [decide_eq_true (rfl : CC = CC)] at SC
  have SX := K.H.mk (fun (W : World) (B C : Option Addr) (d e : Nat) (h1 : Sl.Rds W 1 B X.length (X.flatMap fun n => [.int .i64 n])) (h2 : Sl.Rds W 1 C X.length (X.flatMap fun n => [.int .i64 n])) => Sl.same_c X X B C X.length X.length d e W h1 h2)
  rw [decide_eq_true (rfl : X = X)] at SX
  have SY := K.H.mk (fun (W : World) (B C : Option Addr) (d e : Nat) (h1 : Sl.Rds W 1 B Y.length (Y.flatMap fun n => [.int .i64 n])) (h2 : Sl.Rds W 1 C Y.length (Y.flatMap fun n => [.int .i64 n])) => Sl.same_c Y Y B C Y.length Y.length d e W h1 h2)
  rw [decide_eq_true (rfl : Y = Y)] at SY
  have SI := K.H.mk (fun (W : World) (B C : Option Addr) (d e : Nat) (h1 : Sl.Rds W 1 B ids.length (ids.flatMap fun n => [.int .i64 n])) (h2 : Sl.Rds W 1 C ids.length (ids.flatMap fun n => [.int .i64 n])) => Sl.same_c ids ids B C ids.length ids.length d e W h1 h2)
  rw [decide_eq_true (rfl : ids = ids)] at SI
  have e1 : (er != er) = false := by simp
  have e2 : (r1 != r1) = false := by simp
  have e3 : (r2 != r2) = false := by simp
  have e4 : (r3 != r3) = false := by simp
  have e5 : (ec != ec) = false := by simp
  have Hr := K.H.mk hr
  clear hr hr2 hn hn2
  go_enter Try.func8, Try.ntmps8
  go_wp2_with (first
    | (go_at_call 14; (with_reducible refine (GK.out _ (by repeat (first | (with_reducible exact Below.refl _ _) | (with_reducible refine K.b_bel ?_ (by assumption)) | (with_reducible refine K.b_alloc ?_ _) | (with_reducible refine K.b_drewN ?_ _) | (with_reducible refine K.b_drew ?_) | (with_reducible refine K.b_set ?_ (by first | omega | (simp <;> omega)) _) | (with_reducible refine K.b_only ?_ (by assumption) (by first | omega | (simp <;> omega)))))).mono ?_); rintro e W1 ⟨⟨v1, rfl, hown1⟩, hb1⟩; obtain ⟨hB1, hC1, hF1, hZ1⟩ := K.bel_facts hb1; clear hb1; obtain ⟨B1, d1, rfl, hR1⟩ := Sl.Rds.of_own hown1; clear hown1)
    | (go_at_call 10; (with_reducible refine (GO.out _ _ _ hR1).mono ?_); rintro e W2 ⟨v2, rfl, hown2, hb2⟩; obtain ⟨hB2, hC2, hF2, hZ2⟩ := K.bel_facts hb2; clear hb2; obtain ⟨B2, d2, rfl, hR2⟩ := Sl.Rds.of_own hown2; rw [← flat_iv] at hR2; clear hown2)
    | (go_at_call 15; (with_reducible refine (GR.out _ (by repeat (first | (with_reducible exact Below.refl _ _) | (with_reducible refine K.b_bel ?_ (by assumption)) | (with_reducible refine K.b_alloc ?_ _) | (with_reducible refine K.b_drewN ?_ _) | (with_reducible refine K.b_drew ?_) | (with_reducible refine K.b_set ?_ (by first | omega | (simp <;> omega)) _) | (with_reducible refine K.b_only ?_ (by assumption) (by first | omega | (simp <;> omega)))))).mono ?_); rintro e W3 ⟨v3, rfl, hown3, hb3⟩; obtain ⟨hB3, hC3, hF3, hZ3⟩ := K.bel_facts hb3; clear hb3; obtain ⟨B3, d3, rfl, hR3⟩ := Sl.Rds.of_own hown3; rw [← flat_iv] at hR3; clear hown3)
    | (go_at_call 13; (with_reducible refine (G1.out _).mono ?_); rintro e W4 ⟨rfl, hb4⟩; obtain ⟨hB4, hC4, hF4, hZ4⟩ := K.bel_facts hb4; clear hb4)
    | (go_at_call 19; (with_reducible refine (G2.out _).mono ?_); rintro e W5 ⟨rfl, hb5⟩; obtain ⟨hB5, hC5, hF5, hZ5⟩ := K.bel_facts hb5; clear hb5)
    | (go_at_call 17; (with_reducible refine (GC.out _ _ _ (by repeat (first | (with_reducible exact hR1) | (with_reducible refine Sl.Rds.bel ?_ hB2) | (with_reducible refine Sl.Rds.bel ?_ hB3) | (with_reducible refine Sl.Rds.bel ?_ hB4) | (with_reducible refine Sl.Rds.bel ?_ hB5) | (with_reducible refine rds_alloc ?_ _)))).mono ?_); rintro e W6 ⟨v6, rfl, hown6, hb6⟩; obtain ⟨hB6, hC6, hF6, hZ6⟩ := K.bel_facts hb6; clear hb6; obtain ⟨B6, d6, rfl, hR6⟩ := Sl.Rds.of_own hown6; rw [← flat_iv] at hR6; clear hown6)
    | (go_at_call 20; (with_reducible refine (GD.out _ (by repeat (first | (with_reducible exact Below.refl _ _) | (with_reducible refine K.b_bel ?_ (by assumption)) | (with_reducible refine K.b_alloc ?_ _) | (with_reducible refine K.b_drewN ?_ _) | (with_reducible refine K.b_drew ?_) | (with_reducible refine K.b_set ?_ (by first | omega | (simp <;> omega)) _) | (with_reducible refine K.b_only ?_ (by assumption) (by first | omega | (simp <;> omega)))))).mono ?_); rintro e W7 ⟨v7, rfl, hown7, hb7⟩; obtain ⟨hB7, hC7, hF7, hZ7⟩ := K.bel_facts hb7; clear hb7; obtain ⟨B7, d7, rfl, hR7⟩ := Sl.Rds.of_own hown7; rw [← flat_iv] at hR7; clear hown7)
    | (go_at_call 18; (with_reducible refine (GX.out _ _ _ (by repeat (first | (with_reducible exact hR1) | (with_reducible refine Sl.Rds.bel ?_ hB2) | (with_reducible refine Sl.Rds.bel ?_ hB3) | (with_reducible refine Sl.Rds.bel ?_ hB4) | (with_reducible refine Sl.Rds.bel ?_ hB5) | (with_reducible refine Sl.Rds.bel ?_ hB6) | (with_reducible refine Sl.Rds.bel ?_ hB7) | (with_reducible refine rds_alloc ?_ _))) (by repeat (first | (with_reducible exact Below.refl _ _) | (with_reducible refine K.b_bel ?_ (by assumption)) | (with_reducible refine K.b_alloc ?_ _) | (with_reducible refine K.b_drewN ?_ _) | (with_reducible refine K.b_drew ?_) | (with_reducible refine K.b_set ?_ (by first | omega | (simp <;> omega)) _) | (with_reducible refine K.b_only ?_ (by assumption) (by first | omega | (simp <;> omega)))))).mono ?_); rintro e W8 ⟨v8, u8, rfl, hown8, hownu8, hb8⟩; obtain ⟨hB8, hC8, hF8, hZ8⟩ := K.bel_facts hb8; clear hb8; obtain ⟨B8, d8, rfl, hR8⟩ := Sl.Rds.of_own hown8; obtain ⟨D8, f8, rfl, hU8⟩ := Sl.Rds.of_own hownu8; rw [← flat_iv] at hR8 hU8; clear hown8 hownu8)
    | (go_at_call 21; (with_reducible refine (GY.out _ (by repeat (first | (with_reducible exact Below.refl _ _) | (with_reducible refine K.b_bel ?_ (by assumption)) | (with_reducible refine K.b_alloc ?_ _) | (with_reducible refine K.b_drewN ?_ _) | (with_reducible refine K.b_drew ?_) | (with_reducible refine K.b_set ?_ (by first | omega | (simp <;> omega)) _) | (with_reducible refine K.b_only ?_ (by assumption) (by first | omega | (simp <;> omega)))))).mono ?_); rintro e W9 ⟨v9, u9, rfl, hown9, hownu9, hb9⟩; obtain ⟨hB9, hC9, hF9, hZ9⟩ := K.bel_facts hb9; clear hb9; obtain ⟨B9, d9, rfl, hR9⟩ := Sl.Rds.of_own hown9; obtain ⟨D9, f9, rfl, hU9⟩ := Sl.Rds.of_own hownu9; rw [← flat_iv] at hR9 hU9; clear hown9 hownu9)
    | (go_at_call 16; first
      | ((with_reducible refine (SL.out _ _ _ _ _ ?r1 ?r2).mono ?_); (case r1 => exact (by repeat (first | (with_reducible exact hR2) | (with_reducible refine Sl.Rds.bel ?_ hB3) | (with_reducible refine Sl.Rds.bel ?_ hB4) | (with_reducible refine Sl.Rds.bel ?_ hB5) | (with_reducible refine Sl.Rds.bel ?_ hB6) | (with_reducible refine Sl.Rds.bel ?_ hB7) | (with_reducible refine Sl.Rds.bel ?_ hB8) | (with_reducible refine Sl.Rds.bel ?_ hB9) | (with_reducible refine rds_alloc ?_ _)))); (case r2 => exact (by repeat (first | (with_reducible exact hR3) | (with_reducible refine Sl.Rds.bel ?_ hB4) | (with_reducible refine Sl.Rds.bel ?_ hB5) | (with_reducible refine Sl.Rds.bel ?_ hB6) | (with_reducible refine Sl.Rds.bel ?_ hB7) | (with_reducible refine Sl.Rds.bel ?_ hB8) | (with_reducible refine Sl.Rds.bel ?_ hB9) | (with_reducible refine rds_alloc ?_ _)))); rintro e W10 ⟨rfl, hb10⟩; obtain ⟨hB10, hC10, hF10, hZ10⟩ := K.bel_facts hb10; clear hb10)
      | ((with_reducible refine (SC.out _ _ _ _ _ ?r1 ?r2).mono ?_); (case r1 => exact (by repeat (first | (with_reducible exact hR6) | (with_reducible refine Sl.Rds.bel ?_ hB7) | (with_reducible refine Sl.Rds.bel ?_ hB8) | (with_reducible refine Sl.Rds.bel ?_ hB9) | (with_reducible refine Sl.Rds.bel ?_ hB10) | (with_reducible refine rds_alloc ?_ _)))); (case r2 => exact (by repeat (first | (with_reducible exact hR7) | (with_reducible refine Sl.Rds.bel ?_ hB8) | (with_reducible refine Sl.Rds.bel ?_ hB9) | (with_reducible refine Sl.Rds.bel ?_ hB10) | (with_reducible refine rds_alloc ?_ _)))); rintro e W11 ⟨rfl, hb11⟩; obtain ⟨hB11, hC11, hF11, hZ11⟩ := K.bel_facts hb11; clear hb11)
      | ((with_reducible refine (SX.out _ _ _ _ _ ?r1 ?r2).mono ?_); (case r1 => exact (by repeat (first | (with_reducible exact hR8) | (with_reducible refine Sl.Rds.bel ?_ hB9) | (with_reducible refine Sl.Rds.bel ?_ hB10) | (with_reducible refine Sl.Rds.bel ?_ hB11) | (with_reducible refine rds_alloc ?_ _)))); (case r2 => exact (by repeat (first | (with_reducible exact hR9) | (with_reducible refine Sl.Rds.bel ?_ hB10) | (with_reducible refine Sl.Rds.bel ?_ hB11) | (with_reducible refine rds_alloc ?_ _)))); rintro e W12 ⟨rfl, hb12⟩; obtain ⟨hB12, hC12, hF12, hZ12⟩ := K.bel_facts hb12; clear hb12)
      | ((with_reducible refine (SY.out _ _ _ _ _ ?r1 ?r2).mono ?_); (case r1 => exact (by repeat (first | (with_reducible exact hU8) | (with_reducible refine Sl.Rds.bel ?_ hB9) | (with_reducible refine Sl.Rds.bel ?_ hB10) | (with_reducible refine Sl.Rds.bel ?_ hB11) | (with_reducible refine Sl.Rds.bel ?_ hB12) | (with_reducible refine rds_alloc ?_ _)))); (case r2 => exact (by repeat (first | (with_reducible exact hU9) | (with_reducible refine Sl.Rds.bel ?_ hB10) | (with_reducible refine Sl.Rds.bel ?_ hB11) | (with_reducible refine Sl.Rds.bel ?_ hB12) | (with_reducible refine rds_alloc ?_ _)))); rintro e W13 ⟨rfl, hb13⟩; obtain ⟨hB13, hC13, hF13, hZ13⟩ := K.bel_facts hb13; clear hb13)
      | ((with_reducible refine (SI.out _ _ _ _ _ ?r1 ?r2).mono ?_); (case r1 => exact (by repeat (first | (with_reducible exact hR1) | (with_reducible refine Sl.Rds.bel ?_ hB2) | (with_reducible refine Sl.Rds.bel ?_ hB3) | (with_reducible refine Sl.Rds.bel ?_ hB4) | (with_reducible refine Sl.Rds.bel ?_ hB5) | (with_reducible refine Sl.Rds.bel ?_ hB6) | (with_reducible refine Sl.Rds.bel ?_ hB7) | (with_reducible refine Sl.Rds.bel ?_ hB8) | (with_reducible refine Sl.Rds.bel ?_ hB9) | (with_reducible refine Sl.Rds.bel ?_ hB10) | (with_reducible refine Sl.Rds.bel ?_ hB11) | (with_reducible refine Sl.Rds.bel ?_ hB12) | (with_reducible refine Sl.Rds.bel ?_ hB13) | (with_reducible refine rds_alloc ?_ _)))); (case r2 => exact Hr.out.below (by repeat (first | (with_reducible exact Below.refl _ _) | (with_reducible refine K.b_bel ?_ (by assumption)) | (with_reducible refine K.b_alloc ?_ _) | (with_reducible refine K.b_drewN ?_ _) | (with_reducible refine K.b_drew ?_) | (with_reducible refine K.b_set ?_ (by first | omega | (simp <;> omega)) _) | (with_reducible refine K.b_only ?_ (by assumption) (by first | omega | (simp <;> omega)))))); rintro e W14 ⟨rfl, hb14⟩; obtain ⟨hB14, hC14, hF14, hZ14⟩ := K.bel_facts hb14; clear hb14))
    | (go_at_call 11; (with_reducible refine (num_c _ _).mono ?_); rintro e w' ⟨rfl, hw'⟩; have hw'2 := Eq.symm hw'; clear hw'; subst hw'2)
    | (go_at_call 9; (with_reducible refine (alive_c _).mono ?_); rintro e W15 ⟨rfl, hb15⟩; obtain ⟨hB15, hC15, hF15, hZ15⟩ := K.bel_facts hb15; clear hb15))
  go_ret
  exact ⟨rfl, (by repeat (first | (with_reducible exact Below.refl _ _) | (with_reducible refine K.b_bel ?_ (by assumption)) | (with_reducible refine K.b_alloc ?_ _) | (with_reducible refine K.b_drewN ?_ _) | (with_reducible refine K.b_drew ?_) | (with_reducible refine K.b_set ?_ (by first | omega | (simp <;> omega)) _) | (with_reducible refine K.b_only ?_ (by assumption) (by first | omega | (simp <;> omega)))))⟩
theorem TellsI (ids other : List Int) (client size seed y : Int) (A A2 : Option Addr) (n c n2 c2 : Nat) (w : World) (hr : Sl.Rds w 1 A n (ids.flatMap fun n => [.int .i64 n])) (hr2 : Sl.Rds w 1 A2 n2 (other.flatMap fun n => [.int .i64 n])) (hs : (Lit.int .u64 seed).wf = true) (hn : n * 8 ≤ 140737488355328) (hn2 : n2 * 8 ≤ 140737488355328) :
    Calls Try.prog 8 #[.slice A n c, .slice A2 n2 c2, .int .i64 client, .int .i64 size, .int .u64 seed, .int .i64 y] w fun e w' => e = .returned (.bool true) ∧ Below w.heap.size w w' := by
  obtain ⟨h0, h1⟩ := u64_wf hs
  obtain ⟨s, rfl⟩ := Int.eq_ofNat_of_zero_le h0
  exact Tells_c ids other client size s y A A2 n c n2 c2 w hr hr2 (by omega) hn hn2
end Go.Proofs.Ytpafbjffecpdmaa.Sb
