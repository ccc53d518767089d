/- The reference's Run. -/
import Derived.Test.YtkckehpcdjlcpaaBrkQ2
import Derived.Test.YtkckehpcdjlcpaaBrkR3
namespace Go.Proofs.Ytkckehpcdjlcpaa.Brk
open Go.RowKit Go.Proofs.Ytkckehpcdjlcpaa
attribute [local go_sem] K.max2_int K.min2_int K.max_two K.min_two K.max_three K.min_three
set_option linter.unusedVariables false
set_option linter.unusedSimpArgs false
/-- Do ticks rise from t on, up to the greatest? -/
def scan : Int → List Act → Bool
  | _, [] => true
  | t, x :: xs => if x.tick < t ∨ 536870912 < x.tick then false else scan x.tick xs
theorem scan_srt : ∀ (xs : List Act) (t : Int), 0 ≤ t → scan t xs = (!Sl.anyOf badTick xs && srt xs && (match xs with | [] => true | x :: _ => decide (t ≤ x.tick)))
  | [], t, h => by simp [scan, Sl.anyOf, srt]
  | [x], t, h => by
    simp only [scan, Sl.anyOf, srt, List.any_cons, List.any_nil, badTick, inB, Bool.or_false, Bool.not_not, Bool.and_true]
    split
    · symm
      rw [← Bool.not_eq_true]
      intro h2; simp at h2; omega
    · symm; simp; omega
  | x :: y :: xs, t, h => by
    unfold scan
    split
    · symm
      rw [← Bool.not_eq_true]
      intro h2
      simp [Sl.anyOf, badTick, inB] at h2; omega
    · rename_i hn
      rw [scan_srt (y :: xs) x.tick (by omega)]
      have hb : badTick x = false := by simp [badTick, inB]; omega
      have ht : decide (t ≤ x.tick) = true := by simp; omega
      simp only [Sl.anyOf, List.any_cons, hb, Bool.false_or, srt, ht, Bool.and_true]
      cases badTick y <;> cases (xs.any badTick) <;> cases srt (y :: xs) <;> simp
theorem drop_cons {α : Type} {xs : List α} {k : Nat} {x : α} (h : xs[k]? = some x) : xs.drop k = x :: xs.drop (k + 1) := by
  obtain ⟨hk, hx⟩ := List.getElem?_eq_some_iff.1 h
  rw [List.drop_eq_getElem_cons hk, hx]
theorem any_step {xs : List Act} {k : Nat} {x : Act} (h : xs[k]? = some x) (ho : Sl.anyOf badKind xs = Sl.anyOf badKind (xs.drop k)) (hb : badKind x = false) : Sl.anyOf badKind xs = Sl.anyOf badKind (xs.drop (k + 1)) := by
  rw [ho, drop_cons h]; simp [Sl.anyOf, hb]
theorem any_hit {xs : List Act} {k : Nat} {x : Act} (h : xs[k]? = some x) (ho : Sl.anyOf badKind xs = Sl.anyOf badKind (xs.drop k)) (hb : badKind x = true) : Sl.anyOf badKind xs = true := by
  rw [ho, drop_cons h]; simp [Sl.anyOf, hb]
theorem scan_zero (xs : List Act) : scan 0 xs = (!Sl.anyOf badTick xs && srt xs) := by
  rw [scan_srt xs 0 (by omega)]
  cases xs with
  | nil => simp
  | cons x xs =>
    simp only [Sl.anyOf, List.any_cons]
    cases hb : badTick x
    · have : decide (0 ≤ x.tick) = true := by simp [badTick, inB] at hb; simp; omega
      rw [this]; simp
    · simp
theorem eRun_scan {s : S} {xs : List Act} (h : Sl.anyOf badKind xs = false) (h2 : (xs.length : Int) ≤ 512) (h3 : scan 0 xs = false) : eRun s xs = 4 := by
  rw [scan_zero] at h3
  cases h4 : Sl.anyOf badTick xs
  · rw [h4] at h3
    exact eRun_4 h h2 (.inr (.inr (by simpa using h3)))
  · exact eRun_4 h h2 (.inr (.inl h4))
theorem eRun_fine {s : S} {xs : List Act} (h : Sl.anyOf badKind xs = false) (h2 : (xs.length : Int) ≤ 512) (h3 : scan 0 xs = true) (h4 : sets s = true) : eRun s xs = 0 := by
  rw [scan_zero] at h3
  simp at h3
  exact eRun_z h h2 h4 h3.1 h3.2
theorem oRun_no {s : S} {xs : List Act} {e : Int} (h : eRun s xs = e) (he : e ≠ 0) : oRun s xs = (zero, []) := by unfold oRun; rw [if_neg (by omega)]
theorem oRun_yes {s : S} {xs : List Act} (h : eRun s xs = 0) : oRun s xs = runs s xs := by unfold oRun; rw [if_pos h]
set_option maxRecDepth 100000 in
set_option maxHeartbeats 4000000 in
theorem rRun_bad (s : S) (xs : List Act) (A : Option Addr) (n c : Nat) (w : World) (hr : Sl.Rds w 4 A n (xs.flatMap Act.cs)) (hne : eRun s xs ≠ 0) :
    Calls Try.prog 17 #[s.a, .slice A n c] w (RunPost w zero [] (eRun s xs)) := by
  obtain rfl := hr.length (fun _ => rfl) (by omega)
  have hle := hr.le
  have Hr := K.H.mk hr
  have Hne := K.H.mk hne
  clear hr hne
  go_enter Try.func17, Try.ntmps17
  go_wp2
  refine K.wp_gen (fun W => K.At W w.heap.size 25 #[.int .i64 s.fails, .int .i64 s.opn, .int .i64 s.probes] ∧ K.At W (w.heap.size + 1) 23 #[.int .i64 0, .int .i64 0, .int .i64 0, .int .i64 0, .int .i64 0] ∧ Below w.heap.size w W) ⟨(by refine K.At.cast (by repeat (first | (with_reducible refine K.At.new' _ _ _ _ (by first | rfl | (simp; done) | omega)) | (with_reducible apply K.At.set) | (with_reducible apply K.At.alloc) | (with_reducible apply K.At.drewN) | (with_reducible apply K.At.drew) | (with_reducible apply K.At.far) | omega | (simp <;> omega))) ?_; rfl), (by refine K.At.cast (by repeat (first | (with_reducible refine K.At.new' _ _ _ _ (by first | rfl | (simp; done) | omega)) | (with_reducible apply K.At.set) | (with_reducible apply K.At.alloc) | (with_reducible apply K.At.drewN) | (with_reducible apply K.At.drew) | (with_reducible apply K.At.far) | omega | (simp <;> omega))) ?_; rfl), (by repeat (first | (with_reducible exact Below.refl _ _) | (with_reducible refine K.b_bel ?_ (by assumption)) | (with_reducible refine K.b_alloc ?_ _) | (with_reducible refine K.b_drewN ?_ _) | (with_reducible refine K.b_drew ?_) | (with_reducible refine K.b_set ?_ (by first | omega | (simp <;> omega)) _) | (with_reducible refine K.b_only ?_ (by assumption) (by first | omega | (simp <;> omega)))))⟩ ?_
  rintro W1 ⟨hS, hP, hb1⟩
  have Hb1 := K.H.mk hb1
  clear hb1
  go_loop [7] (fun i => ∃ k : Nat, k ≤ xs.length ∧ i = .int .i64 k ∧ K.H (Sl.anyOf badKind xs = Sl.anyOf badKind (xs.drop k))) (fun i => xs.length - (intOf i).toNat)
  case atStart => exact ⟨0, by omega, rfl, ⟨by simp⟩⟩
  case round =>
    obtain ⟨k, hk, rfl, Ho⟩ := hrel
    by_cases hlt : k < xs.length
    · obtain ⟨x, hx⟩ : ∃ x, xs[k]? = some x := ⟨_, List.getElem?_eq_getElem hlt⟩
      obtain ⟨b, off, rfl, hbl, hbc⟩ := Sl.Rds.elem Hr.out Act.cs_len (by omega) hx
      have q_0 : W1.cell? ⟨b, off + k * 4, none⟩ = some (.int .i64 x.what) := (Hb1.out.cell (p := ⟨b, off + k * 4 + 0, none⟩) hbl).trans (hbc 0 (by omega))
      have q_1 : W1.cell? ⟨b, off + k * 4 + 1, none⟩ = some (.int .i64 x.tick) := (Hb1.out.cell (p := ⟨b, off + k * 4 + 1, none⟩) hbl).trans (hbc 1 (by omega))
      have q_2 : W1.cell? ⟨b, off + k * 4 + 2, none⟩ = some (.bool x.probe) := (Hb1.out.cell (p := ⟨b, off + k * 4 + 2, none⟩) hbl).trans (hbc 2 (by omega))
      have q_3 : W1.cell? ⟨b, off + k * 4 + 3, none⟩ = some (.bool x.good) := (Hb1.out.cell (p := ⟨b, off + k * 4 + 3, none⟩) hbl).trans (hbc 3 (by omega))
      clear hbc
      have hbw : b < W1.heap.size := Nat.lt_of_lt_of_le hbl Hb1.out.size
      have Hx := K.H.mk hx
      obtain ⟨hc6, hf6, hl6⟩ := K.At.facts hP
      clear hx
      by_cases h1 : x.what < 1
      · have ht1 : decide (x.what < 1) = true := by simpa using h1
        have Hk := K.H.mk (any_hit Hx.out Ho.out (show badKind x = true by simp [badKind, inB]; omega))
        clear h1
        go_wp2
        have e : eRun s xs = 23 := eRun_23 Hk.out
        rw [e]
        ((try simp only [Exit.inBlock, Exit.then]); refine bodyPost_ret (v := .tuple #[.agg #[.int .i64 0, .int .i64 0, .int .i64 0, .int .i64 0, .int .i64 0], .slice none 0 0, .int .i64 23]) (by simp only [results, Try.results17]; go_simp) rfl ?_)
        exact ⟨_, rfl, World.ownsRow_nil _ _ _ _, (by repeat (first | (with_reducible exact Below.refl _ _) | (with_reducible exact Hb1.out) | (with_reducible refine K.b_bel ?_ (by assumption)) | (with_reducible refine K.b_alloc ?_ _) | (with_reducible refine K.b_drewN ?_ _) | (with_reducible refine K.b_drew ?_) | (with_reducible refine K.b_set ?_ (by first | omega | (simp <;> omega)) _) | (with_reducible refine K.b_only ?_ (by assumption) (by first | omega | (simp <;> omega)))))⟩
      · have ht1 : decide (x.what < 1) = false := by simpa using h1
        by_cases h3 : 3 < x.what
        · have ht3 : decide (3 < x.what) = true := by simpa using h3
          have Hk := K.H.mk (any_hit Hx.out Ho.out (show badKind x = true by simp [badKind, inB]; omega))
          clear h1 h3
          go_wp2
          have e : eRun s xs = 23 := eRun_23 Hk.out
          rw [e]
          ((try simp only [Exit.inBlock, Exit.then]); refine bodyPost_ret (v := .tuple #[.agg #[.int .i64 0, .int .i64 0, .int .i64 0, .int .i64 0, .int .i64 0], .slice none 0 0, .int .i64 23]) (by simp only [results, Try.results17]; go_simp) rfl ?_)
          exact ⟨_, rfl, World.ownsRow_nil _ _ _ _, (by repeat (first | (with_reducible exact Below.refl _ _) | (with_reducible exact Hb1.out) | (with_reducible refine K.b_bel ?_ (by assumption)) | (with_reducible refine K.b_alloc ?_ _) | (with_reducible refine K.b_drewN ?_ _) | (with_reducible refine K.b_drew ?_) | (with_reducible refine K.b_set ?_ (by first | omega | (simp <;> omega)) _) | (with_reducible refine K.b_only ?_ (by assumption) (by first | omega | (simp <;> omega)))))⟩
        · have ht3 : decide (3 < x.what) = false := by simpa using h3
          have Hk := K.H.mk (any_step Hx.out Ho.out (show badKind x = false by simp [badKind, inB]; omega))
          clear h1 h3
          go_wp2
          go_round
          case rel => exact ⟨k + 1, by omega, by go_num, Hk⟩
          case measure => simp [intOf]; omega
    · obtain rfl : k = xs.length := by omega
      have hK : Sl.anyOf badKind xs = false := by have := Ho.out; rw [List.drop_length] at this; rw [this]; rfl
      have HK := K.H.mk hK
      clear hK Ho
      obtain ⟨hc6, hf6, hl6⟩ := K.At.facts hP
      by_cases hc : (512 : Int) < xs.length
      · have hcd : decide ((512 : Int) < (xs.length : Int)) = true := by simpa using hc
        have E := K.H.mk (eRun_3 (s := s) HK.out hc)
        clear hc
        go_wp2
        rw [E.out]
        ((try simp only [Exit.inBlock, Exit.then]); refine bodyPost_ret (v := .tuple #[.agg #[.int .i64 0, .int .i64 0, .int .i64 0, .int .i64 0, .int .i64 0], .slice none 0 0, .int .i64 3]) (by simp only [results, Try.results17]; go_simp) rfl ?_)
        exact ⟨_, rfl, World.ownsRow_nil _ _ _ _, (by repeat (first | (with_reducible exact Below.refl _ _) | (with_reducible exact Hb1.out) | (with_reducible refine K.b_bel ?_ (by assumption)) | (with_reducible refine K.b_alloc ?_ _) | (with_reducible refine K.b_drewN ?_ _) | (with_reducible refine K.b_drew ?_) | (with_reducible refine K.b_set ?_ (by first | omega | (simp <;> omega)) _) | (with_reducible refine K.b_only ?_ (by assumption) (by first | omega | (simp <;> omega)))))⟩
      · have hcd : decide ((512 : Int) < (xs.length : Int)) = false := by simpa using hc
        have hc5 : (xs.length : Int) ≤ 512 := by omega
        clear hc
        go_wp2
        go_loop [8, 9] (fun last i => ∃ (k : Nat) (t : Int), k ≤ xs.length ∧ i = .int .i64 k ∧ last = .int .i64 t ∧ (0 ≤ t ∧ t ≤ 536870912) ∧ K.H (scan 0 xs = scan t (xs.drop k))) (fun _ i => xs.length - (intOf i).toNat)
        case atStart => exact ⟨0, 0, by omega, rfl, rfl, by omega, ⟨by simp⟩⟩
        case round =>
          obtain ⟨k, t, hk, rfl, rfl, ⟨ht0, ht1⟩, Ho⟩ := hrel
          by_cases hlt : k < xs.length
          · obtain ⟨x, hx⟩ : ∃ x, xs[k]? = some x := ⟨_, List.getElem?_eq_getElem hlt⟩
            obtain ⟨b, off, rfl, hbl, hbc⟩ := Sl.Rds.elem Hr.out Act.cs_len (by omega) hx
            have q_0 : W1.cell? ⟨b, off + k * 4, none⟩ = some (.int .i64 x.what) := (Hb1.out.cell (p := ⟨b, off + k * 4 + 0, none⟩) hbl).trans (hbc 0 (by omega))
            have q_1 : W1.cell? ⟨b, off + k * 4 + 1, none⟩ = some (.int .i64 x.tick) := (Hb1.out.cell (p := ⟨b, off + k * 4 + 1, none⟩) hbl).trans (hbc 1 (by omega))
            have q_2 : W1.cell? ⟨b, off + k * 4 + 2, none⟩ = some (.bool x.probe) := (Hb1.out.cell (p := ⟨b, off + k * 4 + 2, none⟩) hbl).trans (hbc 2 (by omega))
            have q_3 : W1.cell? ⟨b, off + k * 4 + 3, none⟩ = some (.bool x.good) := (Hb1.out.cell (p := ⟨b, off + k * 4 + 3, none⟩) hbl).trans (hbc 3 (by omega))
            clear hbc
            have hbw : b < W1.heap.size := Nat.lt_of_lt_of_le hbl Hb1.out.size
            have Ho2 := K.H.mk (show scan 0 xs = if x.tick < t ∨ 536870912 < x.tick then false else scan x.tick (xs.drop (k + 1)) by rw [Ho.out, drop_cons hx]; rfl)
            clear hx Ho
            by_cases h1 : x.tick < t
            · have hd1 : decide (x.tick < t) = true := by simpa using h1
              have E := K.H.mk (eRun_scan (s := s) HK.out hc5 (by rw [Ho2.out, if_pos (.inl h1)]))
              clear h1
              go_wp2
              rw [E.out]
              ((try simp only [Exit.inBlock, Exit.then]); refine bodyPost_ret (v := .tuple #[.agg #[.int .i64 0, .int .i64 0, .int .i64 0, .int .i64 0, .int .i64 0], .slice none 0 0, .int .i64 4]) (by simp only [results, Try.results17]; go_simp) rfl ?_)
              exact ⟨_, rfl, World.ownsRow_nil _ _ _ _, (by repeat (first | (with_reducible exact Below.refl _ _) | (with_reducible exact Hb1.out) | (with_reducible refine K.b_bel ?_ (by assumption)) | (with_reducible refine K.b_alloc ?_ _) | (with_reducible refine K.b_drewN ?_ _) | (with_reducible refine K.b_drew ?_) | (with_reducible refine K.b_set ?_ (by first | omega | (simp <;> omega)) _) | (with_reducible refine K.b_only ?_ (by assumption) (by first | omega | (simp <;> omega)))))⟩
            · have hd1 : decide (x.tick < t) = false := by simpa using h1
              by_cases h3 : 536870912 < x.tick
              · have hd3 : decide (536870912 < x.tick) = true := by simpa using h3
                have E := K.H.mk (eRun_scan (s := s) HK.out hc5 (by rw [Ho2.out, if_pos (.inr h3)]))
                clear h1 h3
                go_wp2
                rw [E.out]
                ((try simp only [Exit.inBlock, Exit.then]); refine bodyPost_ret (v := .tuple #[.agg #[.int .i64 0, .int .i64 0, .int .i64 0, .int .i64 0, .int .i64 0], .slice none 0 0, .int .i64 4]) (by simp only [results, Try.results17]; go_simp) rfl ?_)
                exact ⟨_, rfl, World.ownsRow_nil _ _ _ _, (by repeat (first | (with_reducible exact Below.refl _ _) | (with_reducible exact Hb1.out) | (with_reducible refine K.b_bel ?_ (by assumption)) | (with_reducible refine K.b_alloc ?_ _) | (with_reducible refine K.b_drewN ?_ _) | (with_reducible refine K.b_drew ?_) | (with_reducible refine K.b_set ?_ (by first | omega | (simp <;> omega)) _) | (with_reducible refine K.b_only ?_ (by assumption) (by first | omega | (simp <;> omega)))))⟩
              · have hd3 : decide (536870912 < x.tick) = false := by simpa using h3
                have Ho3 := K.H.mk (show scan 0 xs = scan x.tick (xs.drop (k + 1)) by rw [Ho2.out, if_neg (by omega)])
                have htx : 0 ≤ x.tick ∧ x.tick ≤ 536870912 := by omega
                clear h1 h3 Ho2
                go_wp2
                go_round
                case rel => exact ⟨k + 1, x.tick, by omega, by go_num, rfl, htx, Ho3⟩
                case measure => simp [intOf]; omega
          · obtain rfl : k = xs.length := by omega
            have HS := K.H.mk (show scan 0 xs = true by have := Ho.out; rw [List.drop_length] at this; rw [this]; rfl)
            clear Ho
            cases hs : sets s
            · have HC : ∀ W, Calls Try.prog 25 #[s.a] W fun e w' => e = .returned (.bool false) ∧ Below W.heap.size W w' := fun W => by
                have h2 := rsets_c s W
                rw [hs] at h2; exact h2
              have GC := K.H.mk HC
              have E := K.H.mk (eRun_4 HK.out hc5 (.inl hs))
              clear HC hs
              obtain ⟨hc7, hf7, hl7⟩ := K.At.facts hS
              go_wp2_with (first | (go_at_call 25; (with_reducible refine (GC.out _).mono ?_); rintro e W2 ⟨rfl, hb2⟩; obtain ⟨hB2, hC2, hF2, hZ2⟩ := K.bel_facts hb2; clear hb2; have hP2 : K.At W2 (w.heap.size + 1) 23 #[.int .i64 0, .int .i64 0, .int .i64 0, .int .i64 0, .int .i64 0] := K.At.over hB2 hP; obtain ⟨hcP, hfP, hlP⟩ := K.At.facts hP2))
              rw [E.out]
              ((try simp only [Exit.inBlock, Exit.then]); refine bodyPost_ret (v := .tuple #[.agg #[.int .i64 0, .int .i64 0, .int .i64 0, .int .i64 0, .int .i64 0], .slice none 0 0, .int .i64 4]) (by simp only [results, Try.results17]; go_simp) rfl ?_)
              exact ⟨_, rfl, World.ownsRow_nil _ _ _ _, (by repeat (first | (with_reducible exact Below.refl _ _) | (with_reducible exact Hb1.out) | (with_reducible refine K.b_bel ?_ (by assumption)) | (with_reducible refine K.b_alloc ?_ _) | (with_reducible refine K.b_drewN ?_ _) | (with_reducible refine K.b_drew ?_) | (with_reducible refine K.b_set ?_ (by first | omega | (simp <;> omega)) _) | (with_reducible refine K.b_only ?_ (by assumption) (by first | omega | (simp <;> omega)))))⟩
            · exact absurd (eRun_fine HK.out hc5 HS.out hs) Hne.out
end Go.Proofs.Ytkckehpcdjlcpaa.Brk
