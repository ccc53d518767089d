/- Timer: what comes of a queue is one; the walk of TimerMay. -/
import Derived.Test.YtmoaekjkihbicaaTm9
import Derived.Test.YtmoaekjkihbicaaTm12
import Derived.Test.YtmoaekjkihbicaaTm13
set_option linter.unusedVariables false
namespace Go.Proofs.Ytmoaekjkihbicaa.Tm
open Go.RowKit Go.Proofs.Ytmoaekjkihbicaa
set_option linter.unusedSimpArgs false
theorem push_may {h : List Tm} {t : Tm} (he : eChk h = 0) (h1 : h.length ≠ 1024) (h2 : t.odd = false) (h3 : Sl.anyOf (Tm.isId t.id) h = false) : eChk (pushL h t) = 0 := by
  obtain ⟨a1, a2, a3, a4⟩ := eChk_of he
  have hp := pushL_perm h t
  apply eChk_mk
  · rw [pushL_len]; omega
  · intro x hx
    rcases List.mem_append.1 (hp.mem_iff.1 hx) with h | h
    · exact Sl.anyOf_false a2 x h
    · simp at h; rw [h]; exact h2
  · rw [(hp.map Tm.id).nodup_iff, List.map_append, List.nodup_append]
    refine ⟨a3, by simp, ?_⟩
    intro i hi j hj
    simp at hj; subst hj
    obtain ⟨x, hx, rfl⟩ := List.mem_map.1 hi
    have h5 := Sl.anyOf_false h3 x hx
    unfold Tm.isId at h5
    simpa using h5
  · exact pushL_heap t a4
theorem addL_may : ∀ (more h : List Tm), eChk h = 0 → (addL h more).1 = 0 → eChk (addL h more).2 = 0
  | [], h, he, _ => he
  | t :: r, h, he, hr => by
    unfold addL at hr ⊢
    by_cases h1 : h.length = 1024
    · rw [if_pos h1] at hr; simp at hr
    · rw [if_neg h1] at hr ⊢
      cases h2 : t.odd
      · rw [h2, if_neg (by simp)] at hr
        rw [if_neg (by simp)]
        cases h3 : Sl.anyOf (Tm.isId t.id) h
        · rw [h3, if_neg (by simp)] at hr
          rw [if_neg (by simp)]
          exact addL_may r _ (push_may he h1 h2 h3) hr
        · rw [h3, if_pos rfl] at hr; simp at hr
      · rw [h2, if_pos rfl] at hr; simp at hr
theorem add_may {l more : List Tm} (h : (rAdd l more).1 = 0) : eChk (rAdd l more).2 = 0 := by
  unfold rAdd at *
  by_cases he : eChk l = 0
  · rw [if_pos he] at *
    exact addL_may more l he h
  · rw [if_neg he] at h; exact absurd h he
theorem due_may {l : List Tm} {tick : Int} (h : (rDue l tick).1 = 0) : eChk (rDue l tick).2.1 = 0 := by
  unfold rDue at *
  by_cases he : eChk l = 0
  · rw [if_pos he] at *
    obtain ⟨a1, a2, a3, a4⟩ := eChk_of he
    have hp := due_perm (l.length + 1) l tick (by omega) a4
    have hh := (due_all (l.length + 1) l tick (by omega) a4).1
    generalize dueL (l.length + 1) l tick = D at *
    have hs : D.1.Sublist (D.2 ++ D.1) := List.sublist_append_right _ _
    apply eChk_mk
    · have := hs.length_le; rw [hp.length_eq] at this; simp only; omega
    · intro x hx
      exact Sl.anyOf_false a2 x (hp.mem_iff.1 (hs.subset hx))
    · have h5 : ((D.2 ++ D.1).map Tm.id).Nodup := (hp.map Tm.id).nodup_iff.2 a3
      exact h5.sublist (hs.map Tm.id)
    · exact hh
  · rw [if_neg he] at h; exact absurd h he
theorem can_all : ∀ (r h : List Tm) (ids : List Int), isHeap h → isHeap (canF h r ids) ∧ (canF h r ids).Perm (h ++ r.filter fun t => !hasI ids t.id)
  | [], h, ids, hh => ⟨hh, by simp [canF]⟩
  | t :: r, h, ids, hh => by
    unfold canF
    cases h1 : hasI ids t.id
    · have h2 := can_all r (pushL h t) ids (pushL_heap t hh)
      rw [if_neg (by simp)]
      refine ⟨h2.1, h2.2.trans ?_⟩
      rw [List.filter_cons, h1]
      simp only [Bool.not_false, if_true]
      exact ((pushL_perm h t).append_right _).trans (by simp)
    · have h2 := can_all r h ids hh
      rw [if_pos rfl]
      refine ⟨h2.1, h2.2.trans ?_⟩
      rw [List.filter_cons, h1]
      simp
theorem heap_nil : isHeap [] := fun i hi => by simp at hi
theorem can_may {l : List Tm} {ids : List Int} (h : (rCan l ids).1 = 0) : eChk (rCan l ids).2.1 = 0 := by
  unfold rCan at *
  by_cases he : eChk l = 0
  · rw [if_pos he] at *
    have h2 := can_all l [] ids heap_nil
    rw [List.nil_append] at h2
    exact eChk_sub he h2.2 h2.1
  · rw [if_neg he] at h; exact absurd h he
set_option maxRecDepth 100000 in
set_option maxHeartbeats 8000000 in
theorem MayLaw_c (l more : List Tm) (tick : Int) (ids : List Int) (A A2 A3 : Option Addr) (n c n2 c2 n3 c3 : Nat) (w : World) (hr : Sl.Rds w 2 A n (l.flatMap Tm.cs)) (hr2 : Sl.Rds w 2 A2 n2 (more.flatMap Tm.cs)) (hr3 : Sl.Rds w 1 A3 n3 (ids.flatMap enJ)) :
    Calls Try.prog 4 #[.slice A n c, .slice A2 n2 c2, .int .i64 tick, .slice A3 n3 c3] w fun e w' => e = .returned (.bool true) ∧ Below w.heap.size w w' := by
  have GA := K.H.mk (fun (W : World) (hb : Below w.heap.size w W) => Add_c l more A A2 n c n2 c2 W (hr.below hb) (hr2.below hb))
  have GD := K.H.mk (fun (W : World) (hb : Below w.heap.size w W) => Due_c l tick A n c W (hr.below hb))
  have GN := K.H.mk (fun (W : World) (hb : Below w.heap.size w W) => Cancel_c l ids A A3 n c n3 c3 W (hr.below hb) (hr3.below hb))
  have HA := K.H.mk (fun (h : (rAdd l more).1 = 0) => add_may h)
  have HD := K.H.mk (fun (h : (rDue l tick).1 = 0) => due_may h)
  have HN := K.H.mk (fun (h : (rCan l ids).1 = 0) => can_may h)
  generalize rAdd l more = ra at *
  generalize rDue l tick = rd at *
  generalize rCan l ids = rn at *
  obtain ⟨ea, La⟩ := ra
  obtain ⟨ed, Ld, Id⟩ := rd
  obtain ⟨en, Ln, kn⟩ := rn
  simp only at HA HD HN
  have CA := K.H.mk (fun (W : World) (A9 : Option Addr) (c9 : Nat) (h : Sl.Rds W 2 A9 La.length (La.flatMap Tm.cs)) => Check_c La A9 La.length c9 W h)
  have CD := K.H.mk (fun (W : World) (A9 : Option Addr) (c9 : Nat) (h : Sl.Rds W 2 A9 Ld.length (Ld.flatMap Tm.cs)) => Check_c Ld A9 Ld.length c9 W h)
  have CN := K.H.mk (fun (W : World) (A9 : Option Addr) (c9 : Nat) (h : Sl.Rds W 2 A9 Ln.length (Ln.flatMap Tm.cs)) => Check_c Ln A9 Ln.length c9 W h)
  clear hr hr2 hr3
  go_enter Try.func4, Try.ntmps4
  go_upto_region 6 with (first
    | (go_at_call 9; (with_reducible refine (alive_c _).mono ?_); rintro e W1 ⟨rfl, hb1⟩; obtain ⟨hB1, hC1, hF1, hZ1⟩ := K.bel_facts hb1; clear hb1)
    | (go_at_call 13; (with_reducible refine (GA.out _ (by repeat (first | (with_reducible exact Below.refl _ _) | (with_reducible refine K.b_bel ?_ (by assumption)) | (with_reducible refine K.b_alloc ?_ _) | (with_reducible refine K.b_drewN ?_ _) | (with_reducible refine K.b_drew ?_) | (with_reducible refine K.b_set ?_ (by first | omega | (simp <;> omega)) _) | (with_reducible refine K.b_only ?_ (by assumption) (by first | omega | (simp <;> omega)))))).mono ?_); rintro e W2 ⟨v2, rfl, hown2, hb2⟩; obtain ⟨A2, c2, rfl, hca2, hcm2, hR2⟩ := Sl.Rds.of_own2 hown2; simp only [maxLen] at hcm2; clear hown2; obtain ⟨hB2, hC2, hF2, hZ2⟩ := K.bel_facts hb2; clear hb2)
    | (go_at_call 14; (with_reducible refine (GD.out _ (by repeat (first | (with_reducible exact Below.refl _ _) | (with_reducible refine K.b_bel ?_ (by assumption)) | (with_reducible refine K.b_alloc ?_ _) | (with_reducible refine K.b_drewN ?_ _) | (with_reducible refine K.b_drew ?_) | (with_reducible refine K.b_set ?_ (by first | omega | (simp <;> omega)) _) | (with_reducible refine K.b_only ?_ (by assumption) (by first | omega | (simp <;> omega)))))).mono ?_); rintro e W3 ⟨v3, vi3, rfl, hown3, hids3, hb3⟩; obtain ⟨A3', c3', rfl, hca3, hcm3, hR3⟩ := Sl.Rds.of_own2 hown3; obtain ⟨A3i, c3i, rfl, hRi3⟩ := Sl.Rds.of_own hids3; simp only [maxLen] at hcm3; clear hown3 hids3 hRi3; obtain ⟨hB3, hC3, hF3, hZ3⟩ := K.bel_facts hb3; clear hb3)
    | (go_at_call 15; (with_reducible refine (GN.out _ (by repeat (first | (with_reducible exact Below.refl _ _) | (with_reducible refine K.b_bel ?_ (by assumption)) | (with_reducible refine K.b_alloc ?_ _) | (with_reducible refine K.b_drewN ?_ _) | (with_reducible refine K.b_drew ?_) | (with_reducible refine K.b_set ?_ (by first | omega | (simp <;> omega)) _) | (with_reducible refine K.b_only ?_ (by assumption) (by first | omega | (simp <;> omega)))))).mono ?_); rintro e W4 ⟨v4, rfl, hown4, hb4⟩; obtain ⟨A4, c4, rfl, hca4, hcm4, hR4⟩ := Sl.Rds.of_own2 hown4; simp only [maxLen] at hcm4; clear hown4; obtain ⟨hB4, hC4, hF4, hZ4⟩ := K.bel_facts hb4; clear hb4))
  clear GA GD GN
  cases hd1 : (ea != 0) <;> cases hd2 : (ed != 0) <;> cases hd3 : (en != 0)
  all_goals
    (try rw [HA.out (by simpa using hd1)] at CA)
    (try rw [HD.out (by simpa using hd2)] at CD)
    (try rw [HN.out (by simpa using hd3)] at CN)
    go_wp2_with (first
      | (go_at_call 11; (with_reducible refine (num_c _ _).mono ?_); rintro e w' ⟨rfl, hw'⟩; have hw'2 := Eq.symm hw'; clear hw'; subst hw'2)
      | (go_at_call 16; first
        | (go_at_call 16; (with_reducible refine (CA.out _ _ _ (hR2.bel hB3 |>.bel hB4)).mono ?_); rintro e W5 ⟨rfl, hb5⟩; obtain ⟨hB5, hC5, hF5, hZ5⟩ := K.bel_facts hb5; clear hb5)
        | (go_at_call 16; (with_reducible refine (CD.out _ _ _ (hR3.bel hB4)).mono ?_); rintro e W6 ⟨rfl, hb6⟩; obtain ⟨hB6, hC6, hF6, hZ6⟩ := K.bel_facts hb6; clear hb6)
        | (go_at_call 16; (with_reducible refine (CD.out _ _ _ (hR3.bel hB4 |>.bel hB5)).mono ?_); rintro e W6 ⟨rfl, hb6⟩; obtain ⟨hB6, hC6, hF6, hZ6⟩ := K.bel_facts hb6; clear hb6)
        | (go_at_call 16; (with_reducible refine (CN.out _ _ _ hR4).mono ?_); rintro e W7 ⟨rfl, hb7⟩; obtain ⟨hB7, hC7, hF7, hZ7⟩ := K.bel_facts hb7; clear hb7)
        | (go_at_call 16; (with_reducible refine (CN.out _ _ _ (hR4.bel hB5)).mono ?_); rintro e W7 ⟨rfl, hb7⟩; obtain ⟨hB7, hC7, hF7, hZ7⟩ := K.bel_facts hb7; clear hb7)
        | (go_at_call 16; (with_reducible refine (CN.out _ _ _ (hR4.bel hB6)).mono ?_); rintro e W7 ⟨rfl, hb7⟩; obtain ⟨hB7, hC7, hF7, hZ7⟩ := K.bel_facts hb7; clear hb7)
        | (go_at_call 16; (with_reducible refine (CN.out _ _ _ (hR4.bel hB5 |>.bel hB6)).mono ?_); rintro e W7 ⟨rfl, hb7⟩; obtain ⟨hB7, hC7, hF7, hZ7⟩ := K.bel_facts hb7; clear hb7)))
    go_ret
    exact ⟨rfl, (by repeat (first | (with_reducible exact Below.refl _ _) | (with_reducible refine K.b_bel ?_ (by assumption)) | (with_reducible refine K.b_alloc ?_ _) | (with_reducible refine K.b_drewN ?_ _) | (with_reducible refine K.b_drew ?_) | (with_reducible refine K.b_set ?_ (by first | omega | (simp <;> omega)) _) | (with_reducible refine K.b_only ?_ (by assumption) (by first | omega | (simp <;> omega)))))⟩
end Go.Proofs.Ytmoaekjkihbicaa.Tm
