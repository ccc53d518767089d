/- Subset: the reference's Of. -/
import Derived.Test.YtpafbjffecpdmaaSb20
import Derived.Test.YtpafbjffecpdmaaCp
set_option linter.unusedVariables false
namespace Go.Proofs.Ytpafbjffecpdmaa.Sb
open Go.RowKit Go.Proofs.Ytpafbjffecpdmaa
attribute [local go_sem] K.max2_int K.min2_int K.max_two K.min_two K.max_three K.min_three
set_option linter.unusedSimpArgs false
set_option maxRecDepth 100000 in
set_option maxHeartbeats 8000000 in
theorem rOfG (sh : Nat → Nat → Nat × List Int) (it : Nat → List Int → Nat) (hsh : ∀ s n, (sh s n).2.Perm (rangeI n)) (hit : ∀ s l, s < 18446744073709551616 → it s l < 18446744073709551616)
    (hI : ∀ (s : Nat) (xs : List Int) (A : Option Addr) (n c : Nat) (w : World), Sl.Rds w 1 A n (xs.flatMap fun n => [.int .i64 n]) → s < 18446744073709551616 → Calls Try.prog 25 #[.int .u64 s, .slice A n c] w fun e w' => e = .returned (.int .u64 (it s xs : Nat)) ∧ w' = w)
    (hS : ∀ (s n : Nat) (w : World), s < 18446744073709551616 → n ≤ 1024 → Calls Try.prog 24 #[.int .u64 s, .int .i64 n] w fun e w' => ∃ v, e = .returned (.tuple #[.int .u64 ((sh s n).1 : Nat), v, .int .i64 0]) ∧ w'.ownsRow w.heap.size 3 1 v n ((sh s n).2.map iv) ∧ Below w.heap.size w w')
    (ids : List Int) (z seed a : Nat) (r client : Int) (A : Option Addr) (n c : Nat) (w : World) (hr : Sl.Rds w 1 A n (ids.flatMap fun n => [.int .i64 n])) (hn : n ≤ 32) (hs : seed < 18446744073709551616) (hz : 1 ≤ z) (hzn : z < n) (ha : a * z + z ≤ n)
    (he : rises (-1) ids = true) (hR : ∀ W : World, Calls Try.prog 19 #[.int .i64 n, .int .i64 client, .int .i64 z] W fun e w' => e = .returned (.tuple #[.int .i64 r, .int .i64 a, .int .i64 0]) ∧ Below W.heap.size W w') :
    Calls Try.prog 15 #[.slice A n c, .int .i64 client, .int .i64 z, .int .u64 seed] w fun e w' => ∃ v, e = .returned (.tuple #[v, .int .i64 0]) ∧ w'.ownsRow w.heap.size 3 1 v z ((sortI (pk ids (sh (it seed [r]) n).2 (a * z) z)).map iv) ∧ Below w.heap.size w w' := by
  obtain rfl := hr.length (fun _ => rfl) (by omega)
  have ha32 : a ≤ 32 := by have : a * 1 ≤ a * z := Nat.mul_le_mul_left a hz; omega
  obtain ⟨lo, hlo⟩ : ∃ lo, lo = a * z := ⟨_, rfl⟩
  have m1 : (a : Int) * (z : Int) = (lo : Int) := by rw [hlo, Int.natCast_mul]
  rw [← hlo] at ha ⊢
  clear hlo
  have m1w : IntKind.i64.wrap ((a : Int) * (z : Int)) = (lo : Int) := by rw [m1, K.i64_in (by omega) (by omega)]
  have hperm := hsh (it seed [r]) ids.length
  have GV := K.H.mk (fun (W : World) (hb : Below w.heap.size w W) => rising_c ids A ids.length c W (hr.below hb))
  rw [he] at GV
  have GR := K.H.mk hR
  have GI := K.H.mk (fun (W : World) (g : Nat) (hA : K.At W g 3 #[.int .i64 r]) => hI seed [r] (some ⟨g, 0, none⟩) 1 1 W (rds_one W g r hA) hs)
  have GS := K.H.mk (fun (W : World) => hS (it seed [r]) ids.length W (hit _ _ hs) (by omega))
  generalize it seed [r] = s1 at *
  generalize hO : (sh s1 ids.length).2 = O at *
  generalize (sh s1 ids.length).1 = s2 at *
  have d1 : decide ((ids.length : Int) ≤ (z : Int)) = false := decide_eq_false (by omega)
  have d2 : decide (ids.length ≤ z) = false := decide_eq_false (by omega)
  have d3 : decide ((32 : Int) < (ids.length : Int)) = false := decide_eq_false (by omega)
  have d4 : decide (32 < ids.length) = false := decide_eq_false (by omega)
  have Hr := K.H.mk hr
  have HP := K.H.mk hperm
  clear hr hO m1 hperm hR he
  go_enter Try.func15, Try.ntmps15
  go_wp2_with (first
    | (go_at_call 23; (with_reducible refine (GV.out _ (by repeat (first | (with_reducible exact Below.refl _ _) | (with_reducible refine K.b_bel ?_ (by assumption)) | (with_reducible refine K.b_alloc ?_ _) | (with_reducible refine K.b_drewN ?_ _) | (with_reducible refine K.b_drew ?_) | (with_reducible refine K.b_set ?_ (by first | omega | (simp <;> omega)) _) | (with_reducible refine K.b_only ?_ (by assumption) (by first | omega | (simp <;> omega)))))).mono ?_); rintro e W1 ⟨rfl, hb1⟩; obtain ⟨hB1, hC1, hF1, hZ1⟩ := K.bel_facts hb1; clear hb1)
    | (go_at_call 19; (with_reducible refine (GR.out _).mono ?_); rintro e W2 ⟨rfl, hb2⟩; obtain ⟨hB2, hC2, hF2, hZ2⟩ := K.bel_facts hb2; clear hb2)
    | (go_at_call 25; (with_reducible refine (GI.out _ _ (K.At.new' _ _ _ _ (by simp))).mono ?_); rintro e w' ⟨rfl, hw'⟩; have hw'2 := Eq.symm hw'; clear hw'; subst hw'2)
    | (go_at_call 24; (with_reducible refine (GS.out _).mono ?_); rintro e W5 ⟨v5, rfl, hown5, hb5⟩; obtain ⟨hB5, hC5, hF5, hZ5⟩ := K.bel_facts hb5; clear hb5))
  obtain ⟨b5, c5, rfl, hbg5, hbl5⟩ := own_form hown5 (by omega)
  have hR5 := Sl.Rds.of_own2 hown5
  obtain ⟨_, _, he5, hnc5, hcm5, hR5⟩ := hR5
  cases he5
  have hb5 : Below w.heap.size w W5 := (by repeat (first | (with_reducible exact Below.refl _ _) | (with_reducible refine K.b_bel ?_ (by assumption)) | (with_reducible refine K.b_alloc ?_ _) | (with_reducible refine K.b_drewN ?_ _) | (with_reducible refine K.b_drew ?_) | (with_reducible refine K.b_set ?_ (by first | omega | (simp <;> omega)) _) | (with_reducible refine K.b_only ?_ (by assumption) (by first | omega | (simp <;> omega)))))
  have Hb5 := K.H.mk hb5
  have HR5 := K.H.mk (show Sl.Rds W5 1 (some ⟨b5, 0, none⟩) ids.length (O.flatMap fun n => [iv n]) by rw [flat_iv]; exact hR5)
  have hc9 : (c5 : Int) ≤ 9223372036854775807 := by unfold maxLen at hcm5; omega
  have hlz : (lo : Int) + (z : Int) ≤ (ids.length : Int) := by omega
  clear hR5 hown5 hcm5 hb5 GI GS GV GR d1 d2 d3 d4
  have HD := K.H.mk (K.Bel.mk (Below.refl W5.heap.size W5))
  go_loopw [17, 18] (fun v i wr => ∃ k : Nat, k ≤ z ∧ i = .int .i64 k ∧ wr.ownsRow W5.heap.size 3 1 v k ((pk ids O lo k).map iv) ∧ K.Bel W5 wr) (fun _ i _ => z - (intOf i).toNat)
  case atStart => exact ⟨0, by omega, rfl, World.ownsRow_nil _ _ _ _, HD.out⟩
  case round =>
    clear HD
    obtain ⟨k, hk, rfl, hown, hB⟩ := hrel
    have hz5 := hB.out.size
    have Hwb := K.H.mk (Hb5.out.trans (hB.out.mono Hb5.out.size))
    by_cases hlt : k < z
    · obtain ⟨o, ho, hog, holt⟩ := order_at (k := lo + k) HP.out (by omega)
      have hpk : pk ids O lo (k + 1) = pk ids O lo k ++ [ids.getD o 0] := by rw [pk_succ, hog, Int.toNat_natCast]
      obtain ⟨x, hx⟩ : ∃ x, ids[o]? = some x := ⟨_, List.getElem?_eq_getElem holt⟩
      have hxx : ids.getD o 0 = x := by rw [List.getD_eq_getElem?_getD, hx]; rfl
      rw [hxx] at hpk
      obtain ⟨b2, off2, he2, hbl2, hbc2⟩ := HR5.out.elem (enc := fun n => [iv n]) (fun _ => rfl) (by omega) (k := lo + k) (x := (o : Int)) ho
      cases he2
      obtain ⟨m, hm⟩ : ∃ m, m = lo + k := ⟨_, rfl⟩
      rw [← hm] at hbc2
      have q2 := (hB.out.cell (p := ⟨b5, 0 + m * 1 + 0, none⟩) hbl2).trans (hbc2 0 (by omega))
      simp at q2
      have hwm : IntKind.i64.wrap ((lo : Int) + (k : Int)) = (m : Int) := by rw [K.i64_in (by omega) (by omega)]; omega
      have hwm2 : (lo : Int) + (k : Int) = (m : Int) := by omega
      have hm2 : (m : Int) < (ids.length : Int) := by omega
      obtain ⟨b, off, rfl, hbl, hbc⟩ := Sl.Rds.elem Hr.out (enc := fun n => [.int .i64 n]) (fun _ => rfl) (by omega) hx
      have q_0 : wr.cell? ⟨b, off + o, none⟩ = some (.int .i64 x) := by
        have := (Hwb.out.cell (p := ⟨b, off + o * 1 + 0, none⟩) hbl).trans (hbc 0 (by omega))
        simpa using this
      have hbw : b < wr.heap.size := Nat.lt_of_lt_of_le hbl Hwb.out.size
      have hbw5 : b5 < wr.heap.size := by omega
      have hk2 : (k : Int) < (z : Int) := by omega
      have ho2 : (o : Int) < (ids.length : Int) := by omega
      have Hpk := K.H.mk hpk
      have HB2 := K.H.mk hB
      obtain ⟨A1, c1, rfl, hnc, hcm, hR1⟩ := Sl.Rds.of_own2 hown
      clear hnc hcm hR1 hx hbc hbc2 hpk hxx ho hog hB hm
      go_wp2_with (first | (at_builtin; refine Sl.app1 (news := [.int .i64 x]) rfl _ _ 22 3 (.int .i64 0) rfl Try.underlying22 (by kernel_rfl : (Try.prog.info? 3).map (fun i => (i.zero, i.size, i.bytes)) = some (some (.int .i64 0), 1, 8)) rfl (by decide) (by decide) rfl ((hown).alloc _) rfl rfl (Sl.new_cells _ _ _ _ (by first | rfl | simp)) (by simp [Value.oneCell']) (by omega) (by simp <;> omega) ?_; intro v8 W8 hown8 hgr8))
      go_roundw
      case rel =>
        refine ⟨k + 1, by omega, by go_num, by rw [Hpk.out]; simpa using hown8, ⟨?_⟩⟩
        exact Sl.below_grown (K.b_alloc HB2.out.out _) hgr8 (fun k hk => Sl.own_base hown k hk)
      case measure => simp [intOf]; omega
    · obtain rfl : k = z := by omega
      obtain ⟨A1, c1, rfl, hnc, hcm, hR1⟩ := Sl.Rds.of_own2 hown
      have GT := K.H.mk (sorted_c (pk ids O lo k) A1 k c1 wr (by rw [flat_iv]; exact hR1) (by omega))
      clear hown hnc hcm hR1
      go_wp2_with (first | (go_at_call 26; (with_reducible refine (GT.out).mono ?_); rintro e W9 ⟨v9, rfl, hown9, hb9⟩))
      go_ret2
      exact ⟨_, rfl, Sl.own_low hown9 (by have := Hwb.out.size; omega), Hwb.out.trans (hb9.mono Hwb.out.size)⟩
set_option maxRecDepth 100000 in
set_option maxHeartbeats 4000000 in
theorem rOf_c (ids : List Int) (client size : Int) (seed : Nat) (A : Option Addr) (n c : Nat) (w : World) (hr : Sl.Rds w 1 A n (ids.flatMap fun n => [.int .i64 n])) (hs : seed < 18446744073709551616) :
    Calls Try.prog 15 #[.slice A n c, .int .i64 client, .int .i64 size, .int .u64 seed] w (OfPost w (oOf ids client size seed) (ofE ids client size)) := by
  obtain rfl := hr.length (fun _ => rfl) (by omega)
  have GV := K.H.mk (fun (W : World) (hb : Below w.heap.size w W) => rising_c ids A ids.length c W (hr.below hb))
  by_cases h1 : eChk ids = 0
  · have hl := eChk_len h1
    have hv : rises (-1) ids = true := by
      unfold eChk at h1; rw [if_neg (by omega)] at h1
      split at h1
      · assumption
      · omega
    have GR := K.H.mk (fun (W : World) => rRound_c ids.length client size W)
    have he : ofE ids client size = (rnd ids.length client size).2.2 := by unfold ofE; rw [if_pos h1]
    have d3 : decide ((32 : Int) < (ids.length : Int)) = false := decide_eq_false (by omega)
    have d4 : decide (32 < ids.length) = false := decide_eq_false (by omega)
    by_cases h2 : (rnd ids.length client size).2.2 = 0
    · rw [show oOf ids client size seed = ofL ids client size seed by unfold oOf; rw [if_pos (he.trans h2)], he, h2]
      by_cases h3 : (ids.length : Int) ≤ size
      · rw [show ofL ids client size seed = ids by unfold ofL; rw [if_pos h3]]
        rw [hv] at GV
        rw [h2] at GR
        have d5 : decide ((ids.length : Int) ≤ size) = true := decide_eq_true h3
        generalize (rnd ids.length client size).1 = r1 at *
        generalize (rnd ids.length client size).2.1 = r2 at *
        have H1 := K.H.mk (one_ints ids)
        have Hn := K.H.mk (show ids.length * 8 ≤ 140737488355328 by omega)
        have Hr := K.H.mk hr
        clear hr he h1 h2 hv hl h3
        generalize hcs : ids.flatMap (fun n => [Value.int .i64 n]) = cs at *
        have HCS := K.H.mk hcs
        clear hcs
        go_enter Try.func15, Try.ntmps15
        go_wp2_with (first
          | (go_at_call 23; (with_reducible refine (GV.out _ (by repeat (first | (with_reducible exact Below.refl _ _) | (with_reducible refine K.b_bel ?_ (by assumption)) | (with_reducible refine K.b_alloc ?_ _) | (with_reducible refine K.b_drewN ?_ _) | (with_reducible refine K.b_drew ?_) | (with_reducible refine K.b_set ?_ (by first | omega | (simp <;> omega)) _) | (with_reducible refine K.b_only ?_ (by assumption) (by first | omega | (simp <;> omega)))))).mono ?_); rintro e W1 ⟨rfl, hb1⟩; obtain ⟨hB1, hC1, hF1, hZ1⟩ := K.bel_facts hb1; clear hb1)
          | (go_at_call 19; (with_reducible refine (GR.out _).mono ?_); rintro e W2 ⟨rfl, hb2⟩; obtain ⟨hB2, hC2, hF2, hZ2⟩ := K.bel_facts hb2; clear hb2)
          | (at_builtin; refine Sl.app_all rfl _ _ 22 3 (.int .i64 0) 1 8 rfl Try.underlying22 (by kernel_rfl) rfl (by decide) A ids.length c cs rfl rfl (Hr.out.below (by repeat (first | (with_reducible exact Below.refl _ _) | (with_reducible refine K.b_bel ?_ (by assumption)) | (with_reducible refine K.b_alloc ?_ _) | (with_reducible refine K.b_drewN ?_ _) | (with_reducible refine K.b_drew ?_) | (with_reducible refine K.b_set ?_ (by first | omega | (simp <;> omega)) _) | (with_reducible refine K.b_only ?_ (by assumption) (by first | omega | (simp <;> omega)))))) H1.out Hn.out ?_; intro v W4 hown hb; have Hown := K.H.mk hown; obtain ⟨hB4, hC4, hF4, hZ4⟩ := K.bel_facts hb; clear hown hb))
        go_ret2
        have hown := Hown.out
        rw [← HCS.out, flat_iv] at hown
        have hb2 : Below w.heap.size w W2 := (by repeat (first | (with_reducible exact Below.refl _ _) | (with_reducible refine K.b_bel ?_ (by assumption)) | (with_reducible refine K.b_alloc ?_ _) | (with_reducible refine K.b_drewN ?_ _) | (with_reducible refine K.b_drew ?_) | (with_reducible refine K.b_set ?_ (by first | omega | (simp <;> omega)) _) | (with_reducible refine K.b_only ?_ (by assumption) (by first | omega | (simp <;> omega)))))
        exact ⟨v, rfl, Sl.own_low hown hb2.size, (by repeat (first | (with_reducible exact Below.refl _ _) | (with_reducible refine K.b_bel ?_ (by assumption)) | (with_reducible refine K.b_alloc ?_ _) | (with_reducible refine K.b_drewN ?_ _) | (with_reducible refine K.b_drew ?_) | (with_reducible refine K.b_set ?_ (by first | omega | (simp <;> omega)) _) | (with_reducible refine K.b_only ?_ (by assumption) (by first | omega | (simp <;> omega)))))⟩
      · obtain ⟨b1, b2, b3, b4, b5, b6, b7⟩ := rnd_big h2 h3
        have hz : ((size.toNat : Nat) : Int) = size := by omega
        have ha : (((rnd ids.length client size).2.1.toNat : Nat) : Int) = (rnd ids.length client size).2.1 := by omega
        have h9 := rOfG shuf intsN shuf_perm (fun s l h => intsN_lt h l) rInts_c rShuffle_c ids size.toNat seed (rnd ids.length client size).2.1.toNat (rnd ids.length client size).1 client A ids.length c w hr hl hs (by omega) (by omega) (by
            have : (((rnd ids.length client size).2.1.toNat * size.toNat + size.toNat : Nat) : Int) = (rnd ids.length client size).2.1 * size + size := by rw [Int.natCast_add, Int.natCast_mul, hz, ha]
            omega) hv (fun W => by have h8 := rRound_c ids.length client size W; rw [h2] at h8; rw [hz, ha]; exact h8)
        rw [hz] at h9
        rw [show ofL ids client size seed = _ by unfold ofL; rw [if_neg h3]]
        unfold OfPost
        rw [sortI_len, pk_len]
        exact h9
    · have hd : ((rnd ids.length client size).2.2 != 0) = true := by simpa using h2
      rw [show oOf ids client size seed = [] by unfold oOf; rw [if_neg (by rw [he]; exact h2)], he]
      rw [hv] at GV
      generalize (rnd ids.length client size).1 = r1 at *
      generalize (rnd ids.length client size).2.1 = r2 at *
      generalize (rnd ids.length client size).2.2 = r3 at *
      clear hr he h1 h2 hv hl
      go_enter Try.func15, Try.ntmps15
      go_wp2_with (first
          | (go_at_call 23; (with_reducible refine (GV.out _ (by repeat (first | (with_reducible exact Below.refl _ _) | (with_reducible refine K.b_bel ?_ (by assumption)) | (with_reducible refine K.b_alloc ?_ _) | (with_reducible refine K.b_drewN ?_ _) | (with_reducible refine K.b_drew ?_) | (with_reducible refine K.b_set ?_ (by first | omega | (simp <;> omega)) _) | (with_reducible refine K.b_only ?_ (by assumption) (by first | omega | (simp <;> omega)))))).mono ?_); rintro e W1 ⟨rfl, hb1⟩; obtain ⟨hB1, hC1, hF1, hZ1⟩ := K.bel_facts hb1; clear hb1)
          | (go_at_call 19; (with_reducible refine (GR.out _).mono ?_); rintro e W2 ⟨rfl, hb2⟩; obtain ⟨hB2, hC2, hF2, hZ2⟩ := K.bel_facts hb2; clear hb2))
      go_ret2
      exact ⟨_, rfl, World.ownsRow_nil _ _ _ _, (by repeat (first | (with_reducible exact Below.refl _ _) | (with_reducible refine K.b_bel ?_ (by assumption)) | (with_reducible refine K.b_alloc ?_ _) | (with_reducible refine K.b_drewN ?_ _) | (with_reducible refine K.b_drew ?_) | (with_reducible refine K.b_set ?_ (by first | omega | (simp <;> omega)) _) | (with_reducible refine K.b_only ?_ (by assumption) (by first | omega | (simp <;> omega)))))⟩
  · have he : ofE ids client size = eChk ids := by unfold ofE; rw [if_neg h1]
    rw [show oOf ids client size seed = [] by unfold oOf; rw [if_neg (by rw [he]; exact h1)], he]
    by_cases hl : 32 < ids.length
    · rw [eChk_3 hl]
      have d3 : decide ((32 : Int) < (ids.length : Int)) = true := decide_eq_true (by omega)
      have d4 : decide (32 < ids.length) = true := decide_eq_true hl
      clear hr he h1 hl
      go_enter Try.func15, Try.ntmps15
      go_wp2
      go_ret2
      exact ⟨_, rfl, World.ownsRow_nil _ _ _ _, (by repeat (first | (with_reducible exact Below.refl _ _) | (with_reducible refine K.b_bel ?_ (by assumption)) | (with_reducible refine K.b_alloc ?_ _) | (with_reducible refine K.b_drewN ?_ _) | (with_reducible refine K.b_drew ?_) | (with_reducible refine K.b_set ?_ (by first | omega | (simp <;> omega)) _) | (with_reducible refine K.b_only ?_ (by assumption) (by first | omega | (simp <;> omega)))))⟩
    · have hv : rises (-1) ids = false := by
        cases h : rises (-1) ids
        · rfl
        · exact absurd (eChk_0 hl h) h1
      rw [eChk_9 hl hv]
      rw [hv] at GV
      have d3 : decide ((32 : Int) < (ids.length : Int)) = false := decide_eq_false (by omega)
      have d4 : decide (32 < ids.length) = false := decide_eq_false hl
      clear hr he h1 hl hv
      go_enter Try.func15, Try.ntmps15
      go_wp2_with (first | (go_at_call 23; (with_reducible refine (GV.out _ (by repeat (first | (with_reducible exact Below.refl _ _) | (with_reducible refine K.b_bel ?_ (by assumption)) | (with_reducible refine K.b_alloc ?_ _) | (with_reducible refine K.b_drewN ?_ _) | (with_reducible refine K.b_drew ?_) | (with_reducible refine K.b_set ?_ (by first | omega | (simp <;> omega)) _) | (with_reducible refine K.b_only ?_ (by assumption) (by first | omega | (simp <;> omega)))))).mono ?_); rintro e W1 ⟨rfl, hb1⟩; obtain ⟨hB1, hC1, hF1, hZ1⟩ := K.bel_facts hb1; clear hb1))
      go_ret2
      exact ⟨_, rfl, World.ownsRow_nil _ _ _ _, (by repeat (first | (with_reducible exact Below.refl _ _) | (with_reducible refine K.b_bel ?_ (by assumption)) | (with_reducible refine K.b_alloc ?_ _) | (with_reducible refine K.b_drewN ?_ _) | (with_reducible refine K.b_drew ?_) | (with_reducible refine K.b_set ?_ (by first | omega | (simp <;> omega)) _) | (with_reducible refine K.b_only ?_ (by assumption) (by first | omega | (simp <;> omega)))))⟩
end Go.Proofs.Ytpafbjffecpdmaa.Sb
