/- Timer: Cancel. -/
import Derived.Test.YtmoaekjkihbicaaTm8
set_option linter.unusedVariables false
namespace Go.Proofs.Ytmoaekjkihbicaa.Tm
open Go.RowKit Go.Proofs.Ytmoaekjkihbicaa
set_option linter.unusedSimpArgs false
abbrev enJ (i : Int) : List Value := [.int .i64 i]
set_option maxHeartbeats 1000000 in
theorem ixI_c (xs : List Int) (y : Int) (A : Option Addr) (n c : Nat) (w : World) (hr : Sl.Rds w 1 A n (xs.flatMap enJ)) :
    Calls Try.prog 45 #[.slice A n c, .int .i64 y] w fun e w' => e = .returned (.int .i64 (Sl.idx (fun x => y == x) xs)) ∧ w' = w := by
  obtain rfl := hr.length (fun _ => rfl) (by omega)
  have hle := hr.le
  have Hr := K.H.mk hr
  clear hr
  go_enter Try.func45, Try.ntmps45
  go_wp2
  go_loop [8] (fun i => ∃ k : Nat, k ≤ xs.length ∧ i = .int .i64 k ∧ K.H (∀ j z, j < k → xs[j]? = some z → (y == z) = false)) (fun i => xs.length - (intOf i).toNat)
  case atStart => exact ⟨0, by omega, rfl, ⟨fun j y h => by omega⟩⟩
  case round =>
    obtain ⟨k, hk, rfl, Hf⟩ := hrel
    by_cases hlt : k < xs.length
    · obtain ⟨x, hx⟩ : ∃ x, xs[k]? = some x := ⟨_, List.getElem?_eq_getElem hlt⟩
      obtain ⟨b, off, rfl, hbl, hbc⟩ := Sl.Rds.elem Hr.out (enc := fun n => [.int .i64 n]) (fun _ => rfl) (by omega) hx
      have q_0 : w.cell? ⟨b, off + k, none⟩ = some (.int .i64 x) := by
        have := ((Below.refl _ _ : Below w.heap.size w w).cell (p := ⟨b, off + k * 1 + 0, none⟩) hbl).trans (hbc 0 (by omega))
        simpa using this
      have Hx := K.H.mk hx
      clear hx hbc
      cases hp : (y == x)
      · have Hp := K.H.mk hp
        go_wp2
        go_round
        case rel =>
          refine ⟨k + 1, by omega, by go_num, ⟨fun j z hj hz => ?_⟩⟩
          by_cases hjk : j = k
          · subst hjk
            rw [Hx.out] at hz
            cases hz
            exact Hp.out
          · exact Hf.out j z (by omega) hz
        case measure => simp [intOf]; omega
      · have Hp := K.H.mk hp
        go_wp2
        go_ret
        exact ⟨K.ret_int (Sl.idx_found Hx.out Hp.out Hf.out).symm, rfl⟩
    · obtain rfl : k = xs.length := by omega
      go_wp2
      go_ret
      exact ⟨K.ret_int (Sl.idx_none Hf.out).symm, rfl⟩
def hasI (xs : List Int) (y : Int) : Bool := Sl.anyOf (fun x => y == x) xs
theorem hasI_iff (xs : List Int) (y : Int) : hasI xs y = true ↔ y ∈ xs := by
  unfold hasI Sl.anyOf
  rw [List.any_eq_true]
  constructor
  · rintro ⟨x, hx, h⟩
    rw [beq_iff_eq] at h
    exact h ▸ hx
  · intro h; exact ⟨y, h, by simp⟩
theorem contI_c (xs : List Int) (y : Int) (A : Option Addr) (n c : Nat) (w : World) (hr : Sl.Rds w 1 A n (xs.flatMap enJ)) :
    Calls Try.prog 33 #[.slice A n c, .int .i64 y] w fun e w' => e = .returned (.bool (hasI xs y)) ∧ w' = w := by
  have Hr := K.H.mk hr
  clear hr
  go_enter Try.func33, Try.ntmps33
  go_wp2_with (go_at_call 45; (with_reducible refine (ixI_c xs _ _ _ _ _ Hr.out).mono ?_); rintro e w' ⟨rfl, hw'⟩; have hw'2 := Eq.symm hw'; clear hw'; subst hw'2)
  go_ret
  exact ⟨K.ret_bool (Sl.idx_any _ _), rfl⟩
def canF : List Tm → List Tm → List Int → List Tm
  | h, [], _ => h
  | h, t :: r, ids => canF (if hasI ids t.id = true then h else pushL h t) r ids
def rCan (l : List Tm) (ids : List Int) : Int × List Tm × Int := if eChk l = 0 then (0, canF [] l ids, (l.length : Int) - ((canF [] l ids).length : Int)) else (eChk l, [], 0)
def CPost (w : World) (r : Int × List Tm × Int) (e : Ending) (w' : World) : Prop :=
  ∃ v, e = .returned (.tuple #[v, .int .i64 r.2.2, .int .i64 r.1]) ∧ w'.ownsRow w.heap.size 25 2 v r.2.1.length (r.2.1.flatMap Tm.cs) ∧ Below w.heap.size w w'
set_option maxRecDepth 100000 in
set_option maxHeartbeats 8000000 in
theorem Cancel_c (l : List Tm) (ids : List Int) (A A2 : Option Addr) (n c n2 c2 : Nat) (w : World) (hr : Sl.Rds w 2 A n (l.flatMap Tm.cs)) (hr2 : Sl.Rds w 1 A2 n2 (ids.flatMap enJ)) :
    Calls Try.prog 15 #[.slice A n c, .slice A2 n2 c2] w (CPost w (rCan l ids)) := by
  obtain rfl := hr.length Tm.cs_len (by omega)
  have GC := K.H.mk (fun (W : World) (hb : Below w.heap.size w W) => Check_c l A l.length c W (hr.below hb))
  by_cases h : eChk l = 0
  · have hl := (eChk_of h).1
    rw [h] at GC
    obtain ⟨R, hR⟩ : ∃ R, R = canF [] l ids := ⟨_, rfl⟩
    rw [show rCan l ids = (0, R, (l.length : Int) - (R.length : Int)) by unfold rCan; rw [if_pos h, hR]]
    have HR := K.H.mk (show R = canF [] (l.drop 0) ids from hR)
    have Hr := K.H.mk hr
    have Hr2 := K.H.mk hr2
    clear hr hr2 h hR
    go_enter Try.func15, Try.ntmps15
    go_wp2_with (first
      | (go_at_call 16; (with_reducible refine (GC.out _ (by repeat (first | (with_reducible exact Below.refl _ _) | (with_reducible refine K.b_bel ?_ (by assumption)) | (with_reducible refine K.b_alloc ?_ _) | (with_reducible refine K.b_drewN ?_ _) | (with_reducible refine K.b_drew ?_) | (with_reducible refine K.b_set ?_ (by first | omega | (simp <;> omega)) _) | (with_reducible refine K.b_only ?_ (by assumption) (by first | omega | (simp <;> omega)))))).mono ?_); rintro e W1 ⟨rfl, hb1⟩; obtain ⟨hB1, hC1, hF1, hZ1⟩ := K.bel_facts hb1; clear hb1))
    have hgb := hB1.out.size
    generalize hgH : W1.heap.size = gH at *
    have Hb2 : K.H (Below w.heap.size w (W1.alloc (.cells #[.slice none 0 0] 57))) := ⟨(by repeat (first | (with_reducible exact Below.refl _ _) | (with_reducible refine K.b_bel ?_ (by assumption)) | (with_reducible refine K.b_alloc ?_ _) | (with_reducible refine K.b_drewN ?_ _) | (with_reducible refine K.b_drew ?_) | (with_reducible refine K.b_set ?_ (by first | omega | (simp <;> omega)) _) | (with_reducible refine K.b_only ?_ (by assumption) (by first | omega | (simp <;> omega)))))⟩
    have hH2 : K.At (W1.alloc (.cells #[.slice none 0 0] 57)) gH 57 #[.slice none 0 0] := K.At.new' W1 _ _ _ hgH.symm
    ((try clear hC1); (try clear hF1); (try clear hZ1); (try clear hc1); (try clear hf1); (try clear hl1); (try clear hB1); (try clear hO1); (try clear hA1); (try clear hz1_0); (try clear hz1_1); (try clear hz1_2); (try clear hz1_3))
    clear hgH GC
    go_loopw [18] (fun i wr => ∃ (k : Nat) (h : List Tm) (B : Option Addr) (d : Nat), k ≤ l.length ∧ i = .int .i64 k ∧ h.length ≤ k ∧ K.H (R = canF h (l.drop k) ids) ∧ K.At wr gH 57 #[.slice B h.length d] ∧ wr.ownsRow w.heap.size 25 2 (.slice B h.length d) h.length (h.flatMap Tm.cs) ∧ K.H (Below w.heap.size w wr)) (fun i _ => l.length - (intOf i).toNat)
    case atStart => exact ⟨0, [], none, 0, by omega, rfl, by simp, HR, hH2, World.ownsRow_nil _ _ _ _, Hb2⟩
    case round =>
      clear HR hH2 Hb2
      obtain ⟨k, h, B, d, hk, rfl, hhl, HR, hH, hown, Hb⟩ := hrel
      have hsz := Hb.out.size
      have hgl := hH.lt
      obtain ⟨hc3, hf3, hl3⟩ := K.At.facts hH
      have Hown := K.H.mk hown
      have hH0 := hH
      by_cases hlt : k < l.length
      · obtain ⟨x, hx⟩ : ∃ x, l[k]? = some x := ⟨_, List.getElem?_eq_getElem hlt⟩
        have HX := K.H.mk (drop_at hx)
        obtain ⟨b, off, rfl, hbl, hbc⟩ := Sl.Rds.elem Hr.out Tm.cs_len (by omega) hx
        have q_0 : wr.cell? ⟨b, off + k * 2, none⟩ = some (.int .i64 x.t) := (Hb.out.cell (p := ⟨b, off + k * 2 + 0, none⟩) hbl).trans (hbc 0 (by omega))
        have q_1 : wr.cell? ⟨b, off + k * 2 + 1, none⟩ = some (.int .i64 x.id) := (Hb.out.cell (p := ⟨b, off + k * 2 + 1, none⟩) hbl).trans (hbc 1 (by omega))
        clear hbc
        have hbw : b < wr.heap.size := Nat.lt_of_lt_of_le hbl hsz
        have hkl : (k : Int) < (l.length : Int) := by omega
        have hne : wr.heap.size ≠ gH := by omega
        have hne2 : gH ≠ wr.heap.size := by omega
        have GI := K.H.mk (fun (W : World) (hb : Below w.heap.size w W) => contI_c ids x.id A2 n2 c2 W (Hr2.out.below hb))
        have HS := K.H.mk (show R = canF (if hasI ids x.id = true then h else pushL h x) (l.drop (k + 1)) ids by rw [HR.out, HX.out]; rfl)
        clear hx HR HX hown
        cases h4 : hasI ids x.id
        · have HR2 := K.H.mk (show R = canF (pushL h x) (l.drop (k + 1)) ids by rw [HS.out, if_neg (by rw [h4]; simp)])
          rw [h4] at GI
          clear HS h4
          go_wp2_with (first
            | (go_at_call 33; (with_reducible refine (GI.out _ (by repeat (first | (with_reducible exact Below.refl _ _) | (with_reducible exact Hb.out) | (with_reducible refine K.b_bel ?_ (by assumption)) | (with_reducible refine K.b_alloc ?_ _) | (with_reducible refine K.b_drewN ?_ _) | (with_reducible refine K.b_drew ?_) | (with_reducible refine K.b_set ?_ (by first | omega | (simp <;> omega)) _) | (with_reducible refine K.b_only ?_ (by assumption) (by first | omega | (simp <;> omega)))))).mono ?_); rintro e w' ⟨rfl, hw'⟩; have hw'2 := Eq.symm hw'; clear hw'; subst hw'2)
            | (go_at_call 31; (with_reducible refine (push_c h x gH w.heap.size (.slice B h.length d) _ ?r1 ?r2 ?r3 (by omega) hgb).mono ?_); (case r1 => exact hH0.alloc _); (case r2 => exact Hown.out.alloc _); (case r3 => simp; omega); rintro e W7 ⟨rfl, v7, hH7, hown7, hb7⟩))
          have hl7 := pushL_len h x
          obtain ⟨B7, d7, rfl, hR7⟩ := Sl.Rds.of_own hown7
          rw [← hl7] at hH7 hown7
          have hb5 : Below w.heap.size w (wr.alloc (.cells #[.int .i64 x.t, .int .i64 x.id] 25)) := (by repeat (first | (with_reducible exact Below.refl _ _) | (with_reducible exact Hb.out) | (with_reducible refine K.b_bel ?_ (by assumption)) | (with_reducible refine K.b_alloc ?_ _) | (with_reducible refine K.b_drewN ?_ _) | (with_reducible refine K.b_drew ?_) | (with_reducible refine K.b_set ?_ (by first | omega | (simp <;> omega)) _) | (with_reducible refine K.b_only ?_ (by assumption) (by first | omega | (simp <;> omega)))))
          go_roundw
          case rel => exact ⟨k + 1, pushL h x, B7, d7, by omega, by go_num, by omega, HR2, hH7, hown7, ⟨hb5.trans hb7⟩⟩
          case measure => simp [intOf]; omega
        · have HR2 := K.H.mk (show R = canF h (l.drop (k + 1)) ids by rw [HS.out, if_pos h4])
          rw [h4] at GI
          clear HS h4
          go_wp2_with (first | (go_at_call 33; (with_reducible refine (GI.out _ (by repeat (first | (with_reducible exact Below.refl _ _) | (with_reducible exact Hb.out) | (with_reducible refine K.b_bel ?_ (by assumption)) | (with_reducible refine K.b_alloc ?_ _) | (with_reducible refine K.b_drewN ?_ _) | (with_reducible refine K.b_drew ?_) | (with_reducible refine K.b_set ?_ (by first | omega | (simp <;> omega)) _) | (with_reducible refine K.b_only ?_ (by assumption) (by first | omega | (simp <;> omega)))))).mono ?_); rintro e w' ⟨rfl, hw'⟩; have hw'2 := Eq.symm hw'; clear hw'; subst hw'2))
          go_roundw
          case rel => exact ⟨k + 1, h, B, d, by omega, by go_num, by omega, HR2, hH0.alloc _, Hown.out.alloc _, ⟨(by repeat (first | (with_reducible exact Below.refl _ _) | (with_reducible exact Hb.out) | (with_reducible refine K.b_bel ?_ (by assumption)) | (with_reducible refine K.b_alloc ?_ _) | (with_reducible refine K.b_drewN ?_ _) | (with_reducible refine K.b_drew ?_) | (with_reducible refine K.b_set ?_ (by first | omega | (simp <;> omega)) _) | (with_reducible refine K.b_only ?_ (by assumption) (by first | omega | (simp <;> omega)))))⟩⟩
          case measure => simp [intOf]; omega
      · obtain rfl : k = l.length := by omega
        rw [List.drop_length] at HR
        have hRe : R = h := HR.out
        subst hRe
        have hw0 : IntKind.i64.wrap ((l.length : Int) - (R.length : Int)) = (l.length : Int) - (R.length : Int) := K.i64_in (by omega) (by omega)
        clear HR hown
        go_wp2
        refine K.wp_region_ext_lit (by kernel_rfl) (by kernel_rfl) ?_
        repeat (any_goals (first | go_big_quiet_skip | quiet_step (fail) | (refine wpQuiet_step (fun K hK => ?_); go_simp; split <;> (refine hK _ ?_; clear hK K))))
        all_goals (refine wpQuiet_nil ?_; intro W9 hW9; obtain ⟨hB9, hC9, hF9, hZ9⟩ := K.ext_facts hW9; clear hW9)
        all_goals go_wp2
        ((try simp only [Exit.inBlock, Exit.then]); refine bodyPost_ret (v := .tuple #[.slice B R.length d, .int .i64 ((l.length : Int) - (R.length : Int)), .int .i64 0]) (by simp only [results, Try.results15]; go_simp) rfl ?_)
        exact ⟨_, rfl, Sl.own_over Hown.out hB9, (by repeat (first | (with_reducible exact Below.refl _ _) | (with_reducible exact Hb.out) | (with_reducible refine K.b_bel ?_ (by assumption)) | (with_reducible refine K.b_alloc ?_ _) | (with_reducible refine K.b_drewN ?_ _) | (with_reducible refine K.b_drew ?_) | (with_reducible refine K.b_set ?_ (by first | omega | (simp <;> omega)) _) | (with_reducible refine K.b_only ?_ (by assumption) (by first | omega | (simp <;> omega)))))⟩
  · have hd : (eChk l != 0) = true := by simpa using h
    rw [show rCan l ids = (eChk l, [], 0) by unfold rCan; rw [if_neg h]]
    generalize eChk l = er at *
    clear hr h hr2
    go_enter Try.func15, Try.ntmps15
    go_wp2_with (first | (go_at_call 16; (with_reducible refine (GC.out _ (by repeat (first | (with_reducible exact Below.refl _ _) | (with_reducible refine K.b_bel ?_ (by assumption)) | (with_reducible refine K.b_alloc ?_ _) | (with_reducible refine K.b_drewN ?_ _) | (with_reducible refine K.b_drew ?_) | (with_reducible refine K.b_set ?_ (by first | omega | (simp <;> omega)) _) | (with_reducible refine K.b_only ?_ (by assumption) (by first | omega | (simp <;> omega)))))).mono ?_); rintro e W1 ⟨rfl, hb1⟩; obtain ⟨hB1, hC1, hF1, hZ1⟩ := K.bel_facts hb1; clear hb1))
    ((try simp only [Exit.inBlock, Exit.then]); refine bodyPost_ret (v := .tuple #[.slice none 0 0, .int .i64 0, .int .i64 er]) (by simp only [results, Try.results15]; go_simp) rfl ?_)
    exact ⟨_, rfl, World.ownsRow_nil _ _ _ _, (by repeat (first | (with_reducible exact Below.refl _ _) | (with_reducible refine K.b_bel ?_ (by assumption)) | (with_reducible refine K.b_alloc ?_ _) | (with_reducible refine K.b_drewN ?_ _) | (with_reducible refine K.b_drew ?_) | (with_reducible refine K.b_set ?_ (by first | omega | (simp <;> omega)) _) | (with_reducible refine K.b_only ?_ (by assumption) (by first | omega | (simp <;> omega)))))⟩
end Go.Proofs.Ytmoaekjkihbicaa.Tm
