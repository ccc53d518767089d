/- Timer: the reference's Due. -/
import Derived.Test.YtmoaekjkihbicaaTm12
import Derived.Test.YtmoaekjkihbicaaTm22
import Derived.Test.YtmoaekjkihbicaaTm24
set_option linter.unusedVariables false
namespace Go.Proofs.Ytmoaekjkihbicaa.Tm
open Go.RowKit Go.Proofs.Ytmoaekjkihbicaa
set_option linter.unusedSimpArgs false
set_option maxRecDepth 100000 in
set_option maxHeartbeats 8000000 in
theorem rDue_c (l : List Tm) (tick : Int) (A : Option Addr) (n c : Nat) (w : World) (hr : Sl.Rds w 2 A n (l.flatMap Tm.cs)) :
    Calls Try.prog 21 #[.slice A n c, .int .i64 tick] w (DPost w (rDue l tick)) := by
  obtain rfl := hr.length Tm.cs_len (by omega)
  have GC := K.H.mk (fun (W : World) (hb : Below w.heap.size w W) => rCheck_c l A l.length c W (hr.below hb))
  by_cases h : eChk l = 0
  · have hl := (eChk_of h).1
    rw [h] at GC
    obtain ⟨R, hR⟩ : ∃ R, R = dueL (l.length + 1) l tick := ⟨_, rfl⟩
    rw [show rDue l tick = (0, R) by unfold rDue; rw [if_pos h, hR]]
    have HR0 := K.H.mk hR
    have GK := K.H.mk (fun (W : World) (hb : Below w.heap.size w W) => own_c (l.flatMap Tm.cs) A l.length c W (hr.below hb) (one_tm l) (by omega))
    clear hr h hR
    go_enter Try.func21, Try.ntmps21
    go_wp2_with (first
      | (go_at_call 26; (with_reducible refine (GC.out _ (by repeat (first | (with_reducible exact Below.refl _ _) | (with_reducible refine K.b_bel ?_ (by assumption)) | (with_reducible refine K.b_alloc ?_ _) | (with_reducible refine K.b_drewN ?_ _) | (with_reducible refine K.b_drew ?_) | (with_reducible refine K.b_set ?_ (by first | omega | (simp <;> omega)) _) | (with_reducible refine K.b_only ?_ (by assumption) (by first | omega | (simp <;> omega)))))).mono ?_); rintro e W1 ⟨rfl, hb1⟩; obtain ⟨hB1, hC1, hF1, hZ1⟩ := K.bel_facts hb1; clear hb1)
      | (go_at_call 19; (with_reducible refine (GK.out _ ?r1).mono ?_); (case r1 => exact (by repeat (first | (with_reducible exact Below.refl _ _) | (with_reducible refine K.b_bel ?_ (by assumption)) | (with_reducible refine K.b_alloc ?_ _) | (with_reducible refine K.b_drewN ?_ _) | (with_reducible refine K.b_drew ?_) | (with_reducible refine K.b_set ?_ (by first | omega | (simp <;> omega)) _) | (with_reducible refine K.b_only ?_ (by assumption) (by first | omega | (simp <;> omega)))))); rintro e W2 ⟨⟨v2, rfl, hown2⟩, hb2⟩; obtain ⟨B2, d2, rfl, hR2⟩ := Sl.Rds.of_own hown2; have Hown2 := K.H.mk hown2; clear hown2 hR2; obtain ⟨hB2, hC2, hF2, hZ2⟩ := K.bel_facts hb2; clear hb2))
    have hz1 := hB1.out.size
    have hownB := Sl.own_low (base2 := w.heap.size) Hown2.out hz1
    have HR := K.H.mk (show R = ((dueL (l.length + 1) l tick).1, [] ++ (dueL (l.length + 1) l tick).2) from HR0.out)
    have Hb2 : K.H (Below w.heap.size w W2) := ⟨(by repeat (first | (with_reducible exact Below.refl _ _) | (with_reducible refine K.b_bel ?_ (by assumption)) | (with_reducible refine K.b_alloc ?_ _) | (with_reducible refine K.b_drewN ?_ _) | (with_reducible refine K.b_drew ?_) | (with_reducible refine K.b_set ?_ (by first | omega | (simp <;> omega)) _) | (with_reducible refine K.b_only ?_ (by assumption) (by first | omega | (simp <;> omega)))))⟩
    clear GC GK HR0 Hown2
    ((try clear hC2); (try clear hF2); (try clear hZ2); (try clear hc2); (try clear hf2); (try clear hl2); (try clear hB2); (try clear hO2); (try clear hA2); (try clear hz2_0); (try clear hz2_1); (try clear hz2_2); (try clear hz2_3); (try clear hz2_1_0); (try clear hz2_1_1); (try clear hC1); (try clear hF1); (try clear hZ1); (try clear hc1); (try clear hf1); (try clear hl1); (try clear hB1); (try clear hO1); (try clear hA1); (try clear hz1_0); (try clear hz1_1); (try clear hz1_2); (try clear hz1_3))
    go_loopw [8, 9] (fun v8 v9 wr => ∃ (f : Nat) (h dn : List Tm) (B : Option Addr) (d : Nat), v8 = .slice B h.length d ∧ slLen v9 = dn.length ∧ dn.length + h.length = l.length ∧ h.length < f ∧ K.H (R = ((dueL f h tick).1, dn ++ (dueL f h tick).2)) ∧ wr.ownsRow w.heap.size 25 2 (.slice B h.length d) h.length (h.flatMap Tm.cs) ∧ wr.ownsRow w.heap.size 3 1 v9 dn.length ((dn.map Tm.id).flatMap enI) ∧ K.H (Below w.heap.size w wr)) (fun _ v9 _ => l.length - slLen v9)
    case atStart => exact ⟨l.length + 1, l, [], B2, d2, rfl, rfl, by simp, by omega, HR, hownB, World.ownsRow_nil _ _ _ _, Hb2⟩
    case round =>
      clear HR hownB Hb2
      obtain ⟨f, h, dn, B, d, rfl, hsl, hlen, hf, HR, hown, hids, Hb⟩ := hrel
      have hsz := Hb.out.size
      obtain ⟨f, rfl⟩ : ∃ f', f = f' + 1 := ⟨f - 1, by omega⟩
      cases h with
      | nil =>
        have HRe := K.H.mk (show R = ([], dn) by rw [HR.out]; simp [dueL])
        clear HR
        simp only [List.length_nil] at *
        obtain ⟨Ai, ci, rfl, hRi⟩ := Sl.Rds.of_own hids
        have Hown := K.H.mk hown
        have Hids := K.H.mk hids
        clear hown hids hRi hsl hlen hf
        go_wp2
        ((try simp only [Exit.inBlock, Exit.then]); refine bodyPost_ret (v := .tuple #[.slice B 0 d, .slice Ai dn.length ci, .int .i64 0]) (by simp only [results, Try.results21]; go_simp) rfl ?_)
        rw [HRe.out]
        exact ⟨_, _, rfl, Hown.out, Hids.out, Hb.out⟩
      | cons x r =>
        obtain ⟨g, d', hBe, hgbb, hgl2⟩ := form_t hown (by simp)
        cases hBe
        have hc0 : wr.cell? ⟨g, 0, none⟩ = some (.int .i64 x.t) := by
          rw [hown.cellAt _ (by simp)]; rfl
        have hc1 : wr.cell? ⟨g, 1, none⟩ = some (.int .i64 x.id) := by
          rw [hown.cellAt _ (by simp; omega)]; rfl
        obtain ⟨m, hm⟩ : ∃ m, m + 1 = (x :: r).length := ⟨r.length, by simp⟩
        rw [← hm] at hown hlen hf ⊢
        have d0 : decide ((0 : Int) < ((m + 1 : Nat) : Int)) = true := decide_eq_true (by omega)
        have d0n : decide (0 < m + 1) = true := decide_eq_true (by omega)
        have hm0i : (0 : Int) < ((m + 1 : Nat) : Int) := by omega
        obtain ⟨Ai, ci, rfl, hRi⟩ := Sl.Rds.of_own hids
        have Hown := K.H.mk hown
        have Hids := K.H.mk hids
        have HBN := K.H.mk (show dn.length + (m + 1) = l.length ∧ m + 1 < f + 1 ∧ m + 1 = (x :: r).length from ⟨hlen, hf, hm⟩)
        clear hRi
        by_cases ht : x.t ≤ tick
        · have HR2 := K.H.mk (show R = ((dueL f (popL (x :: r)) tick).1, (dn ++ [x]) ++ (dueL f (popL (x :: r)) tick).2) by rw [HR.out, due_step, if_pos ht]; simp)
          have d1 : decide (x.t ≤ tick) = true := decide_eq_true ht
          have hqg := own_ne2 Hids.out Hown.out (by decide)
          have GP := K.H.mk (fun (W : World) (h6 : W.ownsRow w.heap.size 25 2 (.slice (some ⟨g, 0, none⟩) (m + 1) d) (m + 1) ((x :: r).flatMap Tm.cs)) => rtake_c x r g m d w.heap.size W h6 (by omega))
          clear HR ht hown hids hlen hf hm
          go_wp2_with (first
            | (at_builtin; refine Sl.app1 (news := [.int .i64 x.id]) rfl _ _ 32 3 (.int .i64 0) rfl Try.underlying32 (by kernel_rfl : (Try.prog.info? 3).map (fun i => (i.zero, i.size, i.bytes)) = some (some (.int .i64 0), 1, 8)) rfl (by decide) (by decide) rfl ((Hids.out).alloc _) rfl rfl (Sl.new_cells _ _ _ _ (by first | rfl | simp)) (by simp [Value.oneCell']) (by have := HBN.out; omega) (by simp; omega) ?_; intro v6 W6 hown6 hgr6; have hownH := (Hown.out.alloc (.cells #[.int .i64 x.id] 3)).kept hgr6 (.inr (fun e => hqg (e.symm.trans rfl))))
            | (go_at_call 41; (with_reducible refine (GP.out _ hownH).mono ?_); rintro e W7 ⟨rfl, hown7, hgr7⟩))
          obtain ⟨A6, c6, rfl, hR6⟩ := Sl.Rds.of_own hown6
          have hpl : m = (popL (x :: r)).length := by rw [popL_len, ← HBN.out.2.2]; rfl
          have hdl : dn.length + 1 = (dn ++ [x]).length := by simp
          have hnews : (dn.map Tm.id).flatMap enI ++ [.int .i64 x.id] = ((dn ++ [x]).map Tm.id).flatMap enI := by simp
          have hq6 := own_ne2 hown6 hownH (by decide)
          have hown8 := Sl.own_past hown6 (K.Only.mk hgr7) hq6
          rw [hpl] at hown7
          rw [hnews] at hown8
          have hb6 : Below w.heap.size w W6 := Sl.below_grown (K.b_alloc Hb.out _) hgr6 (Sl.own_base Hids.out)
          clear hR6 hnews
          go_roundw
          case rel =>
            have h9 := HBN.out
            exact ⟨f, popL (x :: r), dn ++ [x], some ⟨g, 0, none⟩, d, by rw [← hpl], hdl, by rw [← hdl, ← hpl]; omega, by rw [← hpl]; omega, HR2, hown7, by rw [← hdl]; exact hown8, ⟨hb6.grown hgr7 hb6.size (fun j e => by cases e; exact hgbb)⟩⟩
          case measure =>
            have h9 := HBN.out
            simp only [slLen]; omega
        · have HRe := K.H.mk (show R = (x :: r, dn) by rw [HR.out, due_step, if_neg ht]; simp)
          have d1 : decide (x.t ≤ tick) = false := decide_eq_false ht
          clear HR ht hown hids hlen hf hm
          go_wp2
          ((try simp only [Exit.inBlock, Exit.then]); refine bodyPost_ret (v := .tuple #[.slice (some ⟨g, 0, none⟩) (m + 1) d, .slice Ai dn.length ci, .int .i64 0]) (by simp only [results, Try.results21]; go_simp) rfl ?_)
          rw [HRe.out]
          have hm2 := HBN.out.2.2
          exact ⟨_, _, rfl, by simpa [← hm2] using Hown.out, Hids.out, Hb.out⟩
  · have hd : (eChk l != 0) = true := by simpa using h
    rw [show rDue l tick = (eChk l, [], []) by unfold rDue; rw [if_neg h]]
    generalize eChk l = er at *
    clear hr h
    go_enter Try.func21, Try.ntmps21
    go_wp2_with (first | (go_at_call 26; (with_reducible refine (GC.out _ (by repeat (first | (with_reducible exact Below.refl _ _) | (with_reducible refine K.b_bel ?_ (by assumption)) | (with_reducible refine K.b_alloc ?_ _) | (with_reducible refine K.b_drewN ?_ _) | (with_reducible refine K.b_drew ?_) | (with_reducible refine K.b_set ?_ (by first | omega | (simp <;> omega)) _) | (with_reducible refine K.b_only ?_ (by assumption) (by first | omega | (simp <;> omega)))))).mono ?_); rintro e W1 ⟨rfl, hb1⟩; obtain ⟨hB1, hC1, hF1, hZ1⟩ := K.bel_facts hb1; clear hb1))
    ((try simp only [Exit.inBlock, Exit.then]); refine bodyPost_ret (v := .tuple #[.slice none 0 0, .slice none 0 0, .int .i64 er]) (by simp only [results, Try.results21]; go_simp) rfl ?_)
    exact ⟨_, _, rfl, World.ownsRow_nil _ _ _ _, World.ownsRow_nil _ _ _ _, (by repeat (first | (with_reducible exact Below.refl _ _) | (with_reducible refine K.b_bel ?_ (by assumption)) | (with_reducible refine K.b_alloc ?_ _) | (with_reducible refine K.b_drewN ?_ _) | (with_reducible refine K.b_drew ?_) | (with_reducible refine K.b_set ?_ (by first | omega | (simp <;> omega)) _) | (with_reducible refine K.b_only ?_ (by assumption) (by first | omega | (simp <;> omega)))))⟩
end Go.Proofs.Ytmoaekjkihbicaa.Tm
