/- Timer: Due. -/
import Derived.Test.YtmoaekjkihbicaaTm11
import Derived.Test.YtmoaekjkihbicaaTm8
set_option linter.unusedVariables false
namespace Go.Proofs.Ytmoaekjkihbicaa.Tm
open Go.RowKit Go.Proofs.Ytmoaekjkihbicaa
set_option linter.unusedSimpArgs false
abbrev enI (i : Int) : List Value := [.int .i64 i]
def slLen : Value → Nat
  | .slice _ n _ => n
  | _ => 0
theorem own_ne2 {W : World} {b1 b2 s1 s2 n1 n2 g cap : Nat} {e1 e2 : TypeId} {v1 : Value} {c1 c2 : List Value} (h1 : W.ownsRow b1 e1 s1 v1 n1 c1) (h2 : W.ownsRow b2 e2 s2 (.slice (some ⟨g, 0, none⟩) n2 cap) n2 c2) (hn : e1 ≠ e2) : v1.ownBlock ≠ some g := by
  rcases h1.2 with ⟨rfl, _⟩ | ⟨g1, cap1, cur1, rfl, hb1, hg1, _⟩
  · simp [Value.ownBlock]
  · simp only [Value.ownBlock, ne_eq, Option.some.injEq]
    rintro rfl
    rcases h2.2 with ⟨h3, _⟩ | ⟨g2, cap2, cur2, h3, hb2, hg2, _⟩
    · cases h3
    · cases h3
      rw [hg1] at hg2
      injection hg2 with h4
      injection h4 with _ h5
      exact hn h5
def rDue (l : List Tm) (tick : Int) : Int × List Tm × List Tm := if eChk l = 0 then (0, dueL (l.length + 1) l tick) else (eChk l, [], [])
def DPost (w : World) (r : Int × List Tm × List Tm) (e : Ending) (w' : World) : Prop :=
  ∃ v vi, e = .returned (.tuple #[v, vi, .int .i64 r.1]) ∧ w'.ownsRow w.heap.size 25 2 v r.2.1.length (r.2.1.flatMap Tm.cs) ∧ w'.ownsRow w.heap.size 3 1 vi r.2.2.length ((r.2.2.map Tm.id).flatMap enI) ∧ Below w.heap.size w w'
theorem due_step (f : Nat) (x : Tm) (r : List Tm) (tick : Int) : dueL (f + 1) (x :: r) tick = if x.t ≤ tick then ((dueL f (popL (x :: r)) tick).1, x :: (dueL f (popL (x :: r)) tick).2) else (x :: r, []) := by conv => lhs; unfold dueL
theorem run_fld (a b : Value) (w : World) : (Instr.field 25 (.agg #[a, b]) 1).run Try.prog w = .ok b w := by
  unfold Instr.field
  simp [go_sem, asAgg]
attribute [local go_sem] run_fld
set_option maxRecDepth 100000 in
set_option maxHeartbeats 8000000 in
theorem Due_c (l : List Tm) (tick : Int) (A : Option Addr) (n c : Nat) (w : World) (hr : Sl.Rds w 2 A n (l.flatMap Tm.cs)) :
    Calls Try.prog 14 #[.slice A n c, .int .i64 tick] w (DPost w (rDue l tick)) := by
  obtain rfl := hr.length Tm.cs_len (by omega)
  have GC := K.H.mk (fun (W : World) (hb : Below w.heap.size w W) => Check_c l A l.length c W (hr.below hb))
  by_cases h : eChk l = 0
  · have hl := (eChk_of h).1
    rw [h] at GC
    obtain ⟨R, hR⟩ : ∃ R, R = dueL (l.length + 1) l tick := ⟨_, rfl⟩
    rw [show rDue l tick = (0, R) by unfold rDue; rw [if_pos h, hR]]
    have HR0 := K.H.mk hR
    have GK := K.H.mk (fun (W : World) (hb : Below w.heap.size w W) => clone_c (l.flatMap Tm.cs) A l.length c W (hr.below hb) (one_tm l) (by omega))
    clear hr h hR
    go_enter Try.func14, Try.ntmps14
    go_wp2_with (first
      | (go_at_call 16; (with_reducible refine (GC.out _ (by repeat (first | (with_reducible exact Below.refl _ _) | (with_reducible refine K.b_bel ?_ (by assumption)) | (with_reducible refine K.b_alloc ?_ _) | (with_reducible refine K.b_drewN ?_ _) | (with_reducible refine K.b_drew ?_) | (with_reducible refine K.b_set ?_ (by first | omega | (simp <;> omega)) _) | (with_reducible refine K.b_only ?_ (by assumption) (by first | omega | (simp <;> omega)))))).mono ?_); rintro e W1 ⟨rfl, hb1⟩; obtain ⟨hB1, hC1, hF1, hZ1⟩ := K.bel_facts hb1; clear hb1)
      | (go_at_call 27; (with_reducible refine (GK.out _ ?r1).mono ?_); (case r1 => exact (by repeat (first | (with_reducible exact Below.refl _ _) | (with_reducible refine K.b_bel ?_ (by assumption)) | (with_reducible refine K.b_alloc ?_ _) | (with_reducible refine K.b_drewN ?_ _) | (with_reducible refine K.b_drew ?_) | (with_reducible refine K.b_set ?_ (by first | omega | (simp <;> omega)) _) | (with_reducible refine K.b_only ?_ (by assumption) (by first | omega | (simp <;> omega)))))); rintro e W2 ⟨⟨v2, rfl, hown2⟩, hb2⟩; obtain ⟨B2, d2, rfl, hR2⟩ := Sl.Rds.of_own hown2; have Hown2 := K.H.mk hown2; clear hown2 hR2; obtain ⟨hB2, hC2, hF2, hZ2⟩ := K.bel_facts hb2; clear hb2))
    have hz1 := hB1.out.size
    have hgb : w.heap.size ≤ W2.heap.size := by omega
    have hownB := Sl.own_low (base2 := w.heap.size) (Hown2.out.alloc (.cells #[.slice B2 l.length d2] 57)) hz1
    have HR := K.H.mk (show R = ((dueL (l.length + 1) l tick).1, [] ++ (dueL (l.length + 1) l tick).2) from HR0.out)
    clear GC GK HR0 Hown2
    generalize hgH : W2.heap.size = gH at *
    have Hb2 : K.H (Below w.heap.size w (W2.alloc (.cells #[.slice B2 l.length d2] 57))) := ⟨(by repeat (first | (with_reducible exact Below.refl _ _) | (with_reducible refine K.b_bel ?_ (by assumption)) | (with_reducible refine K.b_alloc ?_ _) | (with_reducible refine K.b_drewN ?_ _) | (with_reducible refine K.b_drew ?_) | (with_reducible refine K.b_set ?_ (by first | omega | (simp <;> omega)) _) | (with_reducible refine K.b_only ?_ (by assumption) (by first | omega | (simp <;> omega)))))⟩
    have hH2 : K.At (W2.alloc (.cells #[.slice B2 l.length d2] 57)) gH 57 #[.slice B2 l.length d2] := K.At.new' W2 _ _ _ hgH.symm
    ((try clear hC2); (try clear hF2); (try clear hZ2); (try clear hc2); (try clear hf2); (try clear hl2); (try clear hB2); (try clear hO2); (try clear hA2); (try clear hz2_0); (try clear hz2_1); (try clear hz2_2); (try clear hz2_3); (try clear hz2_1_0); (try clear hz2_1_1); (try clear hC1); (try clear hF1); (try clear hZ1); (try clear hc1); (try clear hf1); (try clear hl1); (try clear hB1); (try clear hO1); (try clear hA1); (try clear hz1_0); (try clear hz1_1); (try clear hz1_2); (try clear hz1_3))
    clear hgH
    go_loopw [9] (fun v9 wr => ∃ (f : Nat) (h dn : List Tm) (B : Option Addr) (d : Nat), slLen v9 = dn.length ∧ dn.length + h.length = l.length ∧ h.length < f ∧ K.H (R = ((dueL f h tick).1, dn ++ (dueL f h tick).2)) ∧ K.At wr gH 57 #[.slice B h.length d] ∧ wr.ownsRow w.heap.size 25 2 (.slice B h.length d) h.length (h.flatMap Tm.cs) ∧ wr.ownsRow w.heap.size 3 1 v9 dn.length ((dn.map Tm.id).flatMap enI) ∧ K.H (Below w.heap.size w wr)) (fun v9 _ => l.length - slLen v9)
    case atStart => exact ⟨l.length + 1, l, [], B2, d2, rfl, by simp, by omega, HR, hH2, hownB, World.ownsRow_nil _ _ _ _, Hb2⟩
    case round =>
      clear HR hH2 hownB Hb2
      obtain ⟨f, h, dn, B, d, hsl, hlen, hf, HR, hH, hown, hids, Hb⟩ := hrel
      have hsz := Hb.out.size
      have hgl := hH.lt
      obtain ⟨hc3, hf3, hl3⟩ := K.At.facts hH
      obtain ⟨f, rfl⟩ : ∃ f', f = f' + 1 := ⟨f - 1, by omega⟩
      cases h with
      | nil =>
        have HRe := K.H.mk (show R = ([], dn) by rw [HR.out]; simp [dueL])
        clear HR
        simp only [List.length_nil] at *
        obtain ⟨Ai, ci, rfl, hRi⟩ := Sl.Rds.of_own hids
        have Hown := K.H.mk hown
        have Hids := K.H.mk hids
        clear hown hids hRi hsl hlen hf
        go_wp2
        ((try simp only [Exit.inBlock, Exit.then]); refine bodyPost_ret (v := .tuple #[.slice B 0 d, .slice Ai dn.length ci, .int .i64 0]) (by simp only [results, Try.results14]; go_simp) rfl ?_)
        rw [HRe.out]
        exact ⟨_, _, rfl, Hown.out, Hids.out, Hb.out⟩
      | cons x r =>
        obtain ⟨g, d', hBe, hgbb, hgl2⟩ := form_t hown (by simp)
        cases hBe
        obtain ⟨m, hm⟩ : ∃ m, m = (x :: r).length := ⟨_, rfl⟩
        have hc0 : wr.cell? ⟨g, 0, none⟩ = some (.int .i64 x.t) := by
          rw [hown.cellAt _ (by simp)]; rfl
        rw [← hm] at hH hown hc3 hlen hf
        have hm0 : 0 < m := by rw [hm]; simp
        have hgg : g ≠ gH := by
          have := Sl.own_ne hown hH (by decide)
          simpa [Value.ownBlock] using this
        have hgg2 : gH ≠ g := Ne.symm hgg
        have d0 : decide ((0 : Int) < (m : Int)) = true := decide_eq_true (by omega)
        have d0n : decide (0 < m) = true := decide_eq_true hm0
        have hm0i : (0 : Int) < (m : Int) := by omega
        obtain ⟨Ai, ci, rfl, hRi⟩ := Sl.Rds.of_own hids
        have Hown := K.H.mk hown
        have Hids := K.H.mk hids
        have HBN := K.H.mk (show dn.length + m = l.length ∧ m < f + 1 ∧ m = (x :: r).length from ⟨hlen, hf, hm⟩)
        have hH0 := hH
        clear hRi
        by_cases ht : x.t ≤ tick
        · have HR2 := K.H.mk (show R = ((dueL f (popL (x :: r)) tick).1, (dn ++ [x]) ++ (dueL f (popL (x :: r)) tick).2) by rw [HR.out, due_step, if_pos ht]; simp)
          have d1 : decide (x.t ≤ tick) = true := decide_eq_true ht
          have GP := K.H.mk (pop_c x r gH g m d w.heap.size wr hH hown hsz (by omega) hgbb hgb hgg2)
          have hqg := own_ne2 Hids.out Hown.out (by decide)
          have hqh := Sl.own_ne Hids.out hH0 (by decide)
          clear HR ht hown hids hlen hf hm
          go_wp2_with (first
            | (go_at_call 32; (with_reducible refine GP.out.mono ?_); rintro e W5 ⟨rfl, hH5, hown5, hT5⟩; have hids5 := hT5.own Hids.out hqg hqh; have hz5 := hT5.size)
            | (at_builtin; refine Sl.app1 (news := [.int .i64 x.id]) rfl _ _ 32 3 (.int .i64 0) rfl Try.underlying32 (by kernel_rfl : (Try.prog.info? 3).map (fun i => (i.zero, i.size, i.bytes)) = some (some (.int .i64 0), 1, 8)) rfl (by decide) (by decide) rfl ((hids5).alloc _) rfl rfl (Sl.new_cells _ _ _ _ (by first | rfl | simp)) (by simp [Value.oneCell']) (by have := HBN.out; omega) (by simp; omega) ?_; intro v6 W6 hown6 hgr6))
          obtain ⟨A6, c6, rfl, hR6⟩ := Sl.Rds.of_own hown6
          have hpl : m - 1 = (popL (x :: r)).length := by rw [popL_len, HBN.out.2.2]
          have hdl : dn.length + 1 = (dn ++ [x]).length := by simp
          have hnews : (dn.map Tm.id).flatMap enI ++ [.int .i64 x.id] = ((dn ++ [x]).map Tm.id).flatMap enI := by simp
          rw [hpl] at hH5 hown5
          rw [hnews] at hown6
          clear hR6 hnews
          go_roundw
          case rel =>
            have h9 := HBN.out
            have hb5 : Below w.heap.size w W5 := Hb.out.trans (hT5.below hgbb hgb hsz)
            exact ⟨f, popL (x :: r), dn ++ [x], some ⟨g, 0, none⟩, d, hdl, by rw [← hdl, ← hpl]; omega, by rw [← hpl]; omega, HR2, Sl.at_grown (hH5.alloc _) hgr6 hqh, (hown5.alloc _).kept hgr6 (.inr (fun e => hqg (e.symm.trans rfl))), by rw [← hdl]; exact hown6, ⟨Sl.below_grown (K.b_alloc hb5 _) hgr6 (Sl.own_base hids5)⟩⟩
          case measure =>
            have h9 := HBN.out
            simp only [slLen]; omega
        · have HRe := K.H.mk (show R = (x :: r, dn) by rw [HR.out, due_step, if_neg ht]; simp)
          have d1 : decide (x.t ≤ tick) = false := decide_eq_false ht
          clear HR ht hown hids hlen hf hm
          go_wp2
          ((try simp only [Exit.inBlock, Exit.then]); refine bodyPost_ret (v := .tuple #[.slice (some ⟨g, 0, none⟩) m d, .slice Ai dn.length ci, .int .i64 0]) (by simp only [results, Try.results14]; go_simp) rfl ?_)
          rw [HRe.out]
          have hm2 := HBN.out.2.2
          exact ⟨_, _, rfl, by simpa [← hm2] using Hown.out, Hids.out, Hb.out⟩
  · have hd : (eChk l != 0) = true := by simpa using h
    rw [show rDue l tick = (eChk l, [], []) by unfold rDue; rw [if_neg h]]
    generalize eChk l = er at *
    clear hr h
    go_enter Try.func14, Try.ntmps14
    go_wp2_with (first | (go_at_call 16; (with_reducible refine (GC.out _ (by repeat (first | (with_reducible exact Below.refl _ _) | (with_reducible refine K.b_bel ?_ (by assumption)) | (with_reducible refine K.b_alloc ?_ _) | (with_reducible refine K.b_drewN ?_ _) | (with_reducible refine K.b_drew ?_) | (with_reducible refine K.b_set ?_ (by first | omega | (simp <;> omega)) _) | (with_reducible refine K.b_only ?_ (by assumption) (by first | omega | (simp <;> omega)))))).mono ?_); rintro e W1 ⟨rfl, hb1⟩; obtain ⟨hB1, hC1, hF1, hZ1⟩ := K.bel_facts hb1; clear hb1))
    ((try simp only [Exit.inBlock, Exit.then]); refine bodyPost_ret (v := .tuple #[.slice none 0 0, .slice none 0 0, .int .i64 er]) (by simp only [results, Try.results14]; go_simp) rfl ?_)
    exact ⟨_, _, rfl, World.ownsRow_nil _ _ _ _, World.ownsRow_nil _ _ _ _, (by repeat (first | (with_reducible exact Below.refl _ _) | (with_reducible refine K.b_bel ?_ (by assumption)) | (with_reducible refine K.b_alloc ?_ _) | (with_reducible refine K.b_drewN ?_ _) | (with_reducible refine K.b_drew ?_) | (with_reducible refine K.b_set ?_ (by first | omega | (simp <;> omega)) _) | (with_reducible refine K.b_only ?_ (by assumption) (by first | omega | (simp <;> omega)))))⟩
end Go.Proofs.Ytmoaekjkihbicaa.Tm
