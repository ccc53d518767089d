/- Calls: what is to be done. -/
import Derived.Test.YtfepjpjkamlneaaClJ
set_option linter.unusedVariables false
namespace Go.Proofs.Ytfepjpjkamlneaa.Cl
open Go.RowKit Go.Proofs.Ytfepjpjkamlneaa
attribute [local go_sem] K.max2_int K.min2_int K.max_two K.min_two K.max_three K.min_three
set_option linter.unusedSimpArgs false
def nO (x : Cal) : Int := nOut (outT x.l x.l.length)
def hO (x : Cal) : Int := hOut (outT x.l x.l.length)
def lastT (x : Cal) : Int := (x.l.getD (x.l.length - 1) default).t
def hedP (x : Cal) (s : Set) (tick wait : Int) : Prop := 0 < nO x ∧ x.once = false ∧ hO x < s.hed ∧ lastT x < tick ∧ wait ≤ tick - lastT x
instance (x : Cal) (s : Set) (a b : Int) : Decidable (hedP x s a b) := by unfold hedP; infer_instance
def hedB (x : Cal) (s : Set) (a b : Int) : Bool := decide (hedP x s a b)
theorem nO_in (x : Cal) : 0 ≤ nO x ∧ nO x ≤ x.l.length := by have := outT_len x.l x.l.length; unfold nO nOut; omega
theorem hO_in (x : Cal) : 0 ≤ hO x ∧ hO x ≤ x.l.length := by
  have := outT_len x.l x.l.length
  have h2 := List.length_filter_le (fun p : NA => p.2.hedge) (outT x.l x.l.length)
  unfold hO hOut; omega
set_option maxRecDepth 100000 in
set_option maxHeartbeats 4000000 in
theorem hedges_c (x : Cal) (s : Set) (tick wait : Int) (g : Nat) (A : Option Addr) (n c : Nat) (w : World) (hG : K.At w g 91 (akc x s A n c)) (hr : Sl.Rds w 8 A n (x.l.flatMap Att.cs)) (h64 : x.l.length ≤ 64) (hp : 0 < x.l.length) (hl : 0 ≤ lastT x) (ht : tick ≤ 9223372036854775807) :
    Calls Try.prog 55 #[.pointer (some ⟨g, 0, none⟩), .int .i64 tick, .int .i64 wait] w fun e w' => e = .returned (.bool (hedB x s tick wait)) ∧ Below w.heap.size w w' := by
  obtain rfl := hr.length Att.cs_len (by omega)
  have hle := hr.le
  have GN := K.H.mk (counts_c x s g A x.l.length c w hG hr h64)
  obtain ⟨a, hx⟩ : ∃ a, x.l[x.l.length - 1]? = some a := ⟨_, List.getElem?_eq_getElem (by omega)⟩
  have hla : lastT x = a.t := by unfold lastT; rw [getD_some hx]
  rw [hla] at hl
  have HD := K.H.mk (show hedB x s tick wait = true ↔ 0 < nO x ∧ x.once = false ∧ hO x < s.hed ∧ a.t < tick ∧ wait ≤ tick - a.t by unfold hedB; rw [decide_eq_true_iff]; unfold hedP; rw [hla])
  have hN := nO_in x
  have hH := hO_in x
  rw [show nOut (outT x.l x.l.length) = nO x from rfl, show hOut (outT x.l x.l.length) = hO x from rfl] at GN
  generalize nO x = N at *
  generalize hO x = M at *
  generalize hedB x s tick wait = hb at *
  obtain ⟨num, op, once, at0, dl, nx, xs⟩ := x
  simp only at *
  obtain ⟨b, off, rfl, hbl, hbc⟩ := Sl.Rds.elem hr Att.cs_len (by omega) hx
  have q_0 : w.cell? ⟨b, off + (xs.length - 1) * 8, none⟩ = some (.int .i64 a.b) := ((Below.refl _ _ : Below w.heap.size w w).cell (p := ⟨b, off + (xs.length - 1) * 8 + 0, none⟩) hbl).trans (hbc 0 (by omega))
  have q_1 : w.cell? ⟨b, off + (xs.length - 1) * 8 + 1, none⟩ = some (.int .i64 a.i) := ((Below.refl _ _ : Below w.heap.size w w).cell (p := ⟨b, off + (xs.length - 1) * 8 + 1, none⟩) hbl).trans (hbc 1 (by omega))
  have q_2 : w.cell? ⟨b, off + (xs.length - 1) * 8 + 2, none⟩ = some (.int .i64 a.s) := ((Below.refl _ _ : Below w.heap.size w w).cell (p := ⟨b, off + (xs.length - 1) * 8 + 2, none⟩) hbl).trans (hbc 2 (by omega))
  have q_3 : w.cell? ⟨b, off + (xs.length - 1) * 8 + 3, none⟩ = some (.int .i64 a.q) := ((Below.refl _ _ : Below w.heap.size w w).cell (p := ⟨b, off + (xs.length - 1) * 8 + 3, none⟩) hbl).trans (hbc 3 (by omega))
  have q_4 : w.cell? ⟨b, off + (xs.length - 1) * 8 + 4, none⟩ = some (.int .i64 a.t) := ((Below.refl _ _ : Below w.heap.size w w).cell (p := ⟨b, off + (xs.length - 1) * 8 + 4, none⟩) hbl).trans (hbc 4 (by omega))
  have q_5 : w.cell? ⟨b, off + (xs.length - 1) * 8 + 5, none⟩ = some (.bool a.hedge) := ((Below.refl _ _ : Below w.heap.size w w).cell (p := ⟨b, off + (xs.length - 1) * 8 + 5, none⟩) hbl).trans (hbc 5 (by omega))
  have q_6 : w.cell? ⟨b, off + (xs.length - 1) * 8 + 6, none⟩ = some (.bool a.probe) := ((Below.refl _ _ : Below w.heap.size w w).cell (p := ⟨b, off + (xs.length - 1) * 8 + 6, none⟩) hbl).trans (hbc 6 (by omega))
  have q_7 : w.cell? ⟨b, off + (xs.length - 1) * 8 + 7, none⟩ = some (.bool a.over) := ((Below.refl _ _ : Below w.heap.size w w).cell (p := ⟨b, off + (xs.length - 1) * 8 + 7, none⟩) hbl).trans (hbc 7 (by omega))
  clear hbc
  have hw1 : IntKind.i64.wrap ((xs.length : Int) - 1) = ((xs.length - 1 : Nat) : Int) := by rw [K.i64_in (by omega) (by omega)]; omega
  have hi1 : ((xs.length - 1 : Nat) : Int) < xs.length := by omega
  have hi0 : (0 : Int) ≤ ((xs.length - 1 : Nat) : Int) := by omega
  clear hx hla
  cases once
  · go_enter Try.func55, Try.ntmps55
    go_wp2_with (first | (go_at_call 45; (with_reducible refine (GN.out).mono ?_); rintro e W1 ⟨rfl, hb1⟩; obtain ⟨hB1, hC1, hF1, hZ1⟩ := K.bel_facts hb1; clear hb1; have hG1 : K.At W1 g 91 (akc ⟨num, op, false, at0, dl, nx, xs⟩ s (some ⟨b, off, none⟩) xs.length c) := (by refine K.At.cast (by repeat (first | (with_reducible exact hG) | (with_reducible refine K.At.new' _ _ _ _ (by first | rfl | (simp; done) | omega)) | (with_reducible apply K.At.over hB1) | (with_reducible apply K.At.set) | (with_reducible apply K.At.alloc) | (with_reducible apply K.At.drewN) | (with_reducible apply K.At.drew) | (with_reducible apply K.At.far) | omega | (simp <;> omega))) ?_; rfl); obtain ⟨hc_hG1, hf_hG1, hl_hG1⟩ := K.At.facts hG1; have hbl1 : b < W1.heap.size := Nat.lt_of_lt_of_le hbl hB1.out.size))
    refine K.wp_region_ext_lit (by kernel_rfl) (by kernel_rfl) ?_
    repeat (any_goals (first | go_big_quiet_skip | quiet_step (fail) | (refine wpQuiet_step (fun K hK => ?_); go_simp; split <;> (refine hK _ ?_; clear hK K))))
    all_goals (refine wpQuiet_nil ?_; intro W9 hW9; obtain ⟨hB9, hC9, hF9, hZ9⟩ := K.ext_facts hW9; clear hW9; have hG1_9 := K.At.bel hG1 hB9)
    obtain ⟨hc9, hf9, hl9⟩ := K.At.facts hG1_9
    go_wp2
    all_goals (go_ret; refine ⟨K.ret_bool ?_, (by repeat (first | (with_reducible exact Below.refl _ _) | (with_reducible refine K.b_bel ?_ (by assumption)) | (with_reducible refine K.b_alloc ?_ _) | (with_reducible refine K.b_drewN ?_ _) | (with_reducible refine K.b_drew ?_) | (with_reducible refine K.b_set ?_ (by first | omega | (simp <;> omega)) _) | (with_reducible refine K.b_only ?_ (by assumption) (by first | omega | (simp <;> omega)))))⟩; rw [Bool.eq_iff_iff]; have hd := HD.out; clear HD GN; go_light; rw [hd]; (try simp only [decide_eq_true_eq, Bool.false_eq_true, Bool.true_eq_false, Bool.not_eq_true', decide_eq_false_iff_not, true_and, and_true, false_and, and_false, iff_false, iff_true, false_iff, true_iff, not_and, Int.not_lt, Int.not_le] at *); try omega)
  · go_enter Try.func55, Try.ntmps55
    go_wp2_with (first | (go_at_call 45; (with_reducible refine (GN.out).mono ?_); rintro e W1 ⟨rfl, hb1⟩; obtain ⟨hB1, hC1, hF1, hZ1⟩ := K.bel_facts hb1; clear hb1; have hG1 : K.At W1 g 91 (akc ⟨num, op, true, at0, dl, nx, xs⟩ s (some ⟨b, off, none⟩) xs.length c) := (by refine K.At.cast (by repeat (first | (with_reducible exact hG) | (with_reducible refine K.At.new' _ _ _ _ (by first | rfl | (simp; done) | omega)) | (with_reducible apply K.At.over hB1) | (with_reducible apply K.At.set) | (with_reducible apply K.At.alloc) | (with_reducible apply K.At.drewN) | (with_reducible apply K.At.drew) | (with_reducible apply K.At.far) | omega | (simp <;> omega))) ?_; rfl); obtain ⟨hc_hG1, hf_hG1, hl_hG1⟩ := K.At.facts hG1; have hbl1 : b < W1.heap.size := Nat.lt_of_lt_of_le hbl hB1.out.size))
    refine K.wp_region_ext_lit (by kernel_rfl) (by kernel_rfl) ?_
    repeat (any_goals (first | go_big_quiet_skip | quiet_step (fail) | (refine wpQuiet_step (fun K hK => ?_); go_simp; split <;> (refine hK _ ?_; clear hK K))))
    all_goals (refine wpQuiet_nil ?_; intro W9 hW9; obtain ⟨hB9, hC9, hF9, hZ9⟩ := K.ext_facts hW9; clear hW9; have hG1_9 := K.At.bel hG1 hB9)
    obtain ⟨hc9, hf9, hl9⟩ := K.At.facts hG1_9
    go_wp2
    all_goals (go_ret; refine ⟨K.ret_bool ?_, (by repeat (first | (with_reducible exact Below.refl _ _) | (with_reducible refine K.b_bel ?_ (by assumption)) | (with_reducible refine K.b_alloc ?_ _) | (with_reducible refine K.b_drewN ?_ _) | (with_reducible refine K.b_drew ?_) | (with_reducible refine K.b_set ?_ (by first | omega | (simp <;> omega)) _) | (with_reducible refine K.b_only ?_ (by assumption) (by first | omega | (simp <;> omega)))))⟩; rw [Bool.eq_iff_iff]; have hd := HD.out; clear HD GN; go_light; rw [hd]; (try simp only [decide_eq_true_eq, Bool.false_eq_true, Bool.true_eq_false, Bool.not_eq_true', decide_eq_false_iff_not, true_and, and_true, false_and, and_false, iff_false, iff_true, false_iff, true_iff, not_and, Int.not_lt, Int.not_le] at *); try omega)
def planF (x : Cal) (s : Set) (tick wait : Int) : Int := if x.dl ≤ tick then 4 else if x.l.length = 0 then 1 else if s.att ≤ (x.l.length : Int) then 0 else if nO x = 0 ∧ x.nx ≤ tick then 2 else if hedB x s tick wait = true then 3 else 0
set_option maxRecDepth 100000 in
set_option maxHeartbeats 8000000 in
theorem plan_c (x : Cal) (s : Set) (tick wait : Int) (g : Nat) (A : Option Addr) (n c : Nat) (w : World) (hG : K.At w g 91 (akc x s A n c)) (hr : Sl.Rds w 8 A n (x.l.flatMap Att.cs)) (h64 : x.l.length ≤ 64) (hl : 0 < x.l.length → 0 ≤ lastT x) (ht : tick ≤ 9223372036854775807) :
    Calls Try.prog 35 #[.pointer (some ⟨g, 0, none⟩), .int .i64 tick, .int .i64 wait] w fun e w' => e = .returned (.int .i64 (planF x s tick wait)) ∧ Below w.heap.size w w' := by
  obtain rfl := hr.length Att.cs_len (by omega)
  have hle := hr.le
  have GN := K.H.mk (counts_c x s g A x.l.length c w hG hr h64)
  rw [show nOut (outT x.l x.l.length) = nO x from rfl, show hOut (outT x.l x.l.length) = hO x from rfl] at GN
  cases d1 : decide (x.dl ≤ tick)
  · have e1 := of_decide_eq_false d1
    cases d2 : ((x.l.length : Int) == 0)
    · have e2 : x.l.length ≠ 0 := by simp at d2; intro h; exact d2 (List.eq_nil_of_length_eq_zero h)
      have GH := K.H.mk (fun (W : World) (hb : Below w.heap.size w W) => hedges_c x s tick wait g A x.l.length c W (hG.bel ⟨hb⟩) (hr.below hb) h64 (by omega) (hl (by omega)) ht)
      cases d3 : decide (s.att ≤ (x.l.length : Int))
      · have e3 := of_decide_eq_false d3
        cases d4 : (nO x == 0)
        · have e4 : nO x ≠ 0 := by simpa using d4
          cases d6 : hedB x s tick wait
          · rw [d6] at GH
            have E := K.H.mk (show planF x s tick wait = 0 by unfold planF; rw [if_neg e1, if_neg e2, if_neg e3, if_neg (fun h => e4 h.1), d6]; rfl)
            rw [E.out]
            clear hr hl e1 e2 e3 e4 d6
            generalize nO x = N at *
            generalize hO x = M at *
            go_enter Try.func35, Try.ntmps35
            go_wp2_with (first | (go_at_call 45; (with_reducible refine (GN.out).mono ?_); rintro e W1 ⟨rfl, hb1⟩; obtain ⟨hB1, hC1, hF1, hZ1⟩ := K.bel_facts hb1; clear hb1; have hG1 : K.At W1 g 91 (akc x s A x.l.length c) := (by refine K.At.cast (by repeat (first | (with_reducible exact hG) | (with_reducible refine K.At.new' _ _ _ _ (by first | rfl | (simp; done) | omega)) | (with_reducible apply K.At.over hB1) | (with_reducible apply K.At.set) | (with_reducible apply K.At.alloc) | (with_reducible apply K.At.drewN) | (with_reducible apply K.At.drew) | (with_reducible apply K.At.far) | omega | (simp <;> omega))) ?_; rfl); obtain ⟨hc_hG1, hf_hG1, hl_hG1⟩ := K.At.facts hG1))
            refine K.wp_region_ext_lit (by kernel_rfl) (by kernel_rfl) ?_
            repeat (any_goals (first | go_big_quiet_skip | quiet_step (fail) | (refine wpQuiet_step (fun K hK => ?_); go_simp; split <;> (refine hK _ ?_; clear hK K))))
            all_goals (refine wpQuiet_nil ?_; intro W9 hW9; obtain ⟨hB9, hC9, hF9, hZ9⟩ := K.ext_facts hW9; clear hW9; have hG1_9 := K.At.bel hG1 hB9)
            obtain ⟨hc9, hf9, hl9⟩ := K.At.facts hG1_9
            go_wp2_with (first | (go_at_call 55; (with_reducible refine (GH.out _ (by repeat (first | (with_reducible exact Below.refl _ _) | (with_reducible refine K.b_bel ?_ (by assumption)) | (with_reducible refine K.b_alloc ?_ _) | (with_reducible refine K.b_drewN ?_ _) | (with_reducible refine K.b_drew ?_) | (with_reducible refine K.b_set ?_ (by first | omega | (simp <;> omega)) _) | (with_reducible refine K.b_only ?_ (by assumption) (by first | omega | (simp <;> omega)))))).mono ?_); rintro e W3 ⟨rfl, hb3⟩; obtain ⟨hB3, hC3, hF3, hZ3⟩ := K.bel_facts hb3; clear hb3))
            go_ret
            exact ⟨rfl, (by repeat (first | (with_reducible exact Below.refl _ _) | (with_reducible refine K.b_bel ?_ (by assumption)) | (with_reducible refine K.b_alloc ?_ _) | (with_reducible refine K.b_drewN ?_ _) | (with_reducible refine K.b_drew ?_) | (with_reducible refine K.b_set ?_ (by first | omega | (simp <;> omega)) _) | (with_reducible refine K.b_only ?_ (by assumption) (by first | omega | (simp <;> omega)))))⟩
          · rw [d6] at GH
            have E := K.H.mk (show planF x s tick wait = 3 by unfold planF; rw [if_neg e1, if_neg e2, if_neg e3, if_neg (fun h => e4 h.1), d6]; rfl)
            rw [E.out]
            clear hr hl e1 e2 e3 e4 d6
            generalize nO x = N at *
            generalize hO x = M at *
            go_enter Try.func35, Try.ntmps35
            go_wp2_with (first | (go_at_call 45; (with_reducible refine (GN.out).mono ?_); rintro e W1 ⟨rfl, hb1⟩; obtain ⟨hB1, hC1, hF1, hZ1⟩ := K.bel_facts hb1; clear hb1; have hG1 : K.At W1 g 91 (akc x s A x.l.length c) := (by refine K.At.cast (by repeat (first | (with_reducible exact hG) | (with_reducible refine K.At.new' _ _ _ _ (by first | rfl | (simp; done) | omega)) | (with_reducible apply K.At.over hB1) | (with_reducible apply K.At.set) | (with_reducible apply K.At.alloc) | (with_reducible apply K.At.drewN) | (with_reducible apply K.At.drew) | (with_reducible apply K.At.far) | omega | (simp <;> omega))) ?_; rfl); obtain ⟨hc_hG1, hf_hG1, hl_hG1⟩ := K.At.facts hG1))
            refine K.wp_region_ext_lit (by kernel_rfl) (by kernel_rfl) ?_
            repeat (any_goals (first | go_big_quiet_skip | quiet_step (fail) | (refine wpQuiet_step (fun K hK => ?_); go_simp; split <;> (refine hK _ ?_; clear hK K))))
            all_goals (refine wpQuiet_nil ?_; intro W9 hW9; obtain ⟨hB9, hC9, hF9, hZ9⟩ := K.ext_facts hW9; clear hW9; have hG1_9 := K.At.bel hG1 hB9)
            obtain ⟨hc9, hf9, hl9⟩ := K.At.facts hG1_9
            go_wp2_with (first | (go_at_call 55; (with_reducible refine (GH.out _ (by repeat (first | (with_reducible exact Below.refl _ _) | (with_reducible refine K.b_bel ?_ (by assumption)) | (with_reducible refine K.b_alloc ?_ _) | (with_reducible refine K.b_drewN ?_ _) | (with_reducible refine K.b_drew ?_) | (with_reducible refine K.b_set ?_ (by first | omega | (simp <;> omega)) _) | (with_reducible refine K.b_only ?_ (by assumption) (by first | omega | (simp <;> omega)))))).mono ?_); rintro e W3 ⟨rfl, hb3⟩; obtain ⟨hB3, hC3, hF3, hZ3⟩ := K.bel_facts hb3; clear hb3))
            go_ret
            exact ⟨rfl, (by repeat (first | (with_reducible exact Below.refl _ _) | (with_reducible refine K.b_bel ?_ (by assumption)) | (with_reducible refine K.b_alloc ?_ _) | (with_reducible refine K.b_drewN ?_ _) | (with_reducible refine K.b_drew ?_) | (with_reducible refine K.b_set ?_ (by first | omega | (simp <;> omega)) _) | (with_reducible refine K.b_only ?_ (by assumption) (by first | omega | (simp <;> omega)))))⟩
        · have e4 : nO x = 0 := by simpa using d4
          cases d5 : decide (x.nx ≤ tick)
          · have e5 := of_decide_eq_false d5
            have d6 : hedB x s tick wait = false := by unfold hedB; rw [decide_eq_false_iff_not]; unfold hedP; omega
            rw [d6] at GH
            have E := K.H.mk (show planF x s tick wait = 0 by unfold planF; rw [if_neg e1, if_neg e2, if_neg e3, if_neg (fun h => e5 h.2), d6]; rfl)
            rw [E.out]
            clear hr hl e1 e2 e3 e4 e5 d6
            generalize nO x = N at *
            generalize hO x = M at *
            go_enter Try.func35, Try.ntmps35
            go_wp2_with (first | (go_at_call 45; (with_reducible refine (GN.out).mono ?_); rintro e W1 ⟨rfl, hb1⟩; obtain ⟨hB1, hC1, hF1, hZ1⟩ := K.bel_facts hb1; clear hb1; have hG1 : K.At W1 g 91 (akc x s A x.l.length c) := (by refine K.At.cast (by repeat (first | (with_reducible exact hG) | (with_reducible refine K.At.new' _ _ _ _ (by first | rfl | (simp; done) | omega)) | (with_reducible apply K.At.over hB1) | (with_reducible apply K.At.set) | (with_reducible apply K.At.alloc) | (with_reducible apply K.At.drewN) | (with_reducible apply K.At.drew) | (with_reducible apply K.At.far) | omega | (simp <;> omega))) ?_; rfl); obtain ⟨hc_hG1, hf_hG1, hl_hG1⟩ := K.At.facts hG1))
            refine K.wp_region_ext_lit (by kernel_rfl) (by kernel_rfl) ?_
            repeat (any_goals (first | go_big_quiet_skip | quiet_step (fail) | (refine wpQuiet_step (fun K hK => ?_); go_simp; split <;> (refine hK _ ?_; clear hK K))))
            all_goals (refine wpQuiet_nil ?_; intro W9 hW9; obtain ⟨hB9, hC9, hF9, hZ9⟩ := K.ext_facts hW9; clear hW9; have hG1_9 := K.At.bel hG1 hB9)
            obtain ⟨hc9, hf9, hl9⟩ := K.At.facts hG1_9
            go_wp2_with (first | (go_at_call 55; (with_reducible refine (GH.out _ (by repeat (first | (with_reducible exact Below.refl _ _) | (with_reducible refine K.b_bel ?_ (by assumption)) | (with_reducible refine K.b_alloc ?_ _) | (with_reducible refine K.b_drewN ?_ _) | (with_reducible refine K.b_drew ?_) | (with_reducible refine K.b_set ?_ (by first | omega | (simp <;> omega)) _) | (with_reducible refine K.b_only ?_ (by assumption) (by first | omega | (simp <;> omega)))))).mono ?_); rintro e W3 ⟨rfl, hb3⟩; obtain ⟨hB3, hC3, hF3, hZ3⟩ := K.bel_facts hb3; clear hb3))
            go_ret
            exact ⟨rfl, (by repeat (first | (with_reducible exact Below.refl _ _) | (with_reducible refine K.b_bel ?_ (by assumption)) | (with_reducible refine K.b_alloc ?_ _) | (with_reducible refine K.b_drewN ?_ _) | (with_reducible refine K.b_drew ?_) | (with_reducible refine K.b_set ?_ (by first | omega | (simp <;> omega)) _) | (with_reducible refine K.b_only ?_ (by assumption) (by first | omega | (simp <;> omega)))))⟩
          · have e5 := of_decide_eq_true d5
            have E := K.H.mk (show planF x s tick wait = 2 by unfold planF; rw [if_neg e1, if_neg e2, if_neg e3, if_pos ⟨e4, e5⟩])
            rw [E.out]
            clear hr hl e1 e2 e3 e4 e5
            generalize nO x = N at *
            generalize hO x = M at *
            go_enter Try.func35, Try.ntmps35
            go_wp2_with (first | (go_at_call 45; (with_reducible refine (GN.out).mono ?_); rintro e W1 ⟨rfl, hb1⟩; obtain ⟨hB1, hC1, hF1, hZ1⟩ := K.bel_facts hb1; clear hb1; have hG1 : K.At W1 g 91 (akc x s A x.l.length c) := (by refine K.At.cast (by repeat (first | (with_reducible exact hG) | (with_reducible refine K.At.new' _ _ _ _ (by first | rfl | (simp; done) | omega)) | (with_reducible apply K.At.over hB1) | (with_reducible apply K.At.set) | (with_reducible apply K.At.alloc) | (with_reducible apply K.At.drewN) | (with_reducible apply K.At.drew) | (with_reducible apply K.At.far) | omega | (simp <;> omega))) ?_; rfl); obtain ⟨hc_hG1, hf_hG1, hl_hG1⟩ := K.At.facts hG1))
            refine K.wp_region_ext_lit (by kernel_rfl) (by kernel_rfl) ?_
            repeat (any_goals (first | go_big_quiet_skip | quiet_step (fail) | (refine wpQuiet_step (fun K hK => ?_); go_simp; split <;> (refine hK _ ?_; clear hK K))))
            all_goals (refine wpQuiet_nil ?_; intro W9 hW9; obtain ⟨hB9, hC9, hF9, hZ9⟩ := K.ext_facts hW9; clear hW9; have hG1_9 := K.At.bel hG1 hB9)
            obtain ⟨hc9, hf9, hl9⟩ := K.At.facts hG1_9
            go_wp2_with (first | (go_at_call 55; (with_reducible refine (GH.out _ (by repeat (first | (with_reducible exact Below.refl _ _) | (with_reducible refine K.b_bel ?_ (by assumption)) | (with_reducible refine K.b_alloc ?_ _) | (with_reducible refine K.b_drewN ?_ _) | (with_reducible refine K.b_drew ?_) | (with_reducible refine K.b_set ?_ (by first | omega | (simp <;> omega)) _) | (with_reducible refine K.b_only ?_ (by assumption) (by first | omega | (simp <;> omega)))))).mono ?_); rintro e W3 ⟨rfl, hb3⟩; obtain ⟨hB3, hC3, hF3, hZ3⟩ := K.bel_facts hb3; clear hb3))
            go_ret
            exact ⟨rfl, (by repeat (first | (with_reducible exact Below.refl _ _) | (with_reducible refine K.b_bel ?_ (by assumption)) | (with_reducible refine K.b_alloc ?_ _) | (with_reducible refine K.b_drewN ?_ _) | (with_reducible refine K.b_drew ?_) | (with_reducible refine K.b_set ?_ (by first | omega | (simp <;> omega)) _) | (with_reducible refine K.b_only ?_ (by assumption) (by first | omega | (simp <;> omega)))))⟩
      · have e3 := of_decide_eq_true d3
        have E := K.H.mk (show planF x s tick wait = 0 by unfold planF; rw [if_neg e1, if_neg e2, if_pos e3])
        rw [E.out]
        clear hr hl e1 e2 e3
        generalize nO x = N at *
        generalize hO x = M at *
        go_enter Try.func35, Try.ntmps35
        go_wp2_with (first | (go_at_call 45; (with_reducible refine (GN.out).mono ?_); rintro e W1 ⟨rfl, hb1⟩; obtain ⟨hB1, hC1, hF1, hZ1⟩ := K.bel_facts hb1; clear hb1; have hG1 : K.At W1 g 91 (akc x s A x.l.length c) := (by refine K.At.cast (by repeat (first | (with_reducible exact hG) | (with_reducible refine K.At.new' _ _ _ _ (by first | rfl | (simp; done) | omega)) | (with_reducible apply K.At.over hB1) | (with_reducible apply K.At.set) | (with_reducible apply K.At.alloc) | (with_reducible apply K.At.drewN) | (with_reducible apply K.At.drew) | (with_reducible apply K.At.far) | omega | (simp <;> omega))) ?_; rfl); obtain ⟨hc_hG1, hf_hG1, hl_hG1⟩ := K.At.facts hG1))
        refine K.wp_region_ext_lit (by kernel_rfl) (by kernel_rfl) ?_
        repeat (any_goals (first | go_big_quiet_skip | quiet_step (fail) | (refine wpQuiet_step (fun K hK => ?_); go_simp; split <;> (refine hK _ ?_; clear hK K))))
        all_goals (refine wpQuiet_nil ?_; intro W9 hW9; obtain ⟨hB9, hC9, hF9, hZ9⟩ := K.ext_facts hW9; clear hW9; have hG1_9 := K.At.bel hG1 hB9)
        obtain ⟨hc9, hf9, hl9⟩ := K.At.facts hG1_9
        go_wp2_with (first | (go_at_call 55; (with_reducible refine (GH.out _ (by repeat (first | (with_reducible exact Below.refl _ _) | (with_reducible refine K.b_bel ?_ (by assumption)) | (with_reducible refine K.b_alloc ?_ _) | (with_reducible refine K.b_drewN ?_ _) | (with_reducible refine K.b_drew ?_) | (with_reducible refine K.b_set ?_ (by first | omega | (simp <;> omega)) _) | (with_reducible refine K.b_only ?_ (by assumption) (by first | omega | (simp <;> omega)))))).mono ?_); rintro e W3 ⟨rfl, hb3⟩; obtain ⟨hB3, hC3, hF3, hZ3⟩ := K.bel_facts hb3; clear hb3))
        go_ret
        exact ⟨rfl, (by repeat (first | (with_reducible exact Below.refl _ _) | (with_reducible refine K.b_bel ?_ (by assumption)) | (with_reducible refine K.b_alloc ?_ _) | (with_reducible refine K.b_drewN ?_ _) | (with_reducible refine K.b_drew ?_) | (with_reducible refine K.b_set ?_ (by first | omega | (simp <;> omega)) _) | (with_reducible refine K.b_only ?_ (by assumption) (by first | omega | (simp <;> omega)))))⟩
    · have e2 : x.l.length = 0 := by simp at d2; rw [d2]; rfl
      have E := K.H.mk (show planF x s tick wait = 1 by unfold planF; rw [if_neg e1, if_pos e2])
      rw [E.out]
      clear hr hl e1 e2
      generalize nO x = N at *
      generalize hO x = M at *
      go_enter Try.func35, Try.ntmps35
      go_wp2_with (first | (go_at_call 45; (with_reducible refine (GN.out).mono ?_); rintro e W1 ⟨rfl, hb1⟩; obtain ⟨hB1, hC1, hF1, hZ1⟩ := K.bel_facts hb1; clear hb1; have hG1 : K.At W1 g 91 (akc x s A x.l.length c) := (by refine K.At.cast (by repeat (first | (with_reducible exact hG) | (with_reducible refine K.At.new' _ _ _ _ (by first | rfl | (simp; done) | omega)) | (with_reducible apply K.At.over hB1) | (with_reducible apply K.At.set) | (with_reducible apply K.At.alloc) | (with_reducible apply K.At.drewN) | (with_reducible apply K.At.drew) | (with_reducible apply K.At.far) | omega | (simp <;> omega))) ?_; rfl); obtain ⟨hc_hG1, hf_hG1, hl_hG1⟩ := K.At.facts hG1))
      go_ret
      exact ⟨rfl, (by repeat (first | (with_reducible exact Below.refl _ _) | (with_reducible refine K.b_bel ?_ (by assumption)) | (with_reducible refine K.b_alloc ?_ _) | (with_reducible refine K.b_drewN ?_ _) | (with_reducible refine K.b_drew ?_) | (with_reducible refine K.b_set ?_ (by first | omega | (simp <;> omega)) _) | (with_reducible refine K.b_only ?_ (by assumption) (by first | omega | (simp <;> omega)))))⟩
  · have e1 := of_decide_eq_true d1
    have E := K.H.mk (show planF x s tick wait = 4 by unfold planF; rw [if_pos e1])
    rw [E.out]
    clear hr hl e1
    generalize nO x = N at *
    generalize hO x = M at *
    go_enter Try.func35, Try.ntmps35
    go_wp2_with (first | (go_at_call 45; (with_reducible refine (GN.out).mono ?_); rintro e W1 ⟨rfl, hb1⟩; obtain ⟨hB1, hC1, hF1, hZ1⟩ := K.bel_facts hb1; clear hb1; have hG1 : K.At W1 g 91 (akc x s A x.l.length c) := (by refine K.At.cast (by repeat (first | (with_reducible exact hG) | (with_reducible refine K.At.new' _ _ _ _ (by first | rfl | (simp; done) | omega)) | (with_reducible apply K.At.over hB1) | (with_reducible apply K.At.set) | (with_reducible apply K.At.alloc) | (with_reducible apply K.At.drewN) | (with_reducible apply K.At.drew) | (with_reducible apply K.At.far) | omega | (simp <;> omega))) ?_; rfl); obtain ⟨hc_hG1, hf_hG1, hl_hG1⟩ := K.At.facts hG1))
    go_ret
    exact ⟨rfl, (by repeat (first | (with_reducible exact Below.refl _ _) | (with_reducible refine K.b_bel ?_ (by assumption)) | (with_reducible refine K.b_alloc ?_ _) | (with_reducible refine K.b_drewN ?_ _) | (with_reducible refine K.b_drew ?_) | (with_reducible refine K.b_set ?_ (by first | omega | (simp <;> omega)) _) | (with_reducible refine K.b_only ?_ (by assumption) (by first | omega | (simp <;> omega)))))⟩
end Go.Proofs.Ytfepjpjkamlneaa.Cl
