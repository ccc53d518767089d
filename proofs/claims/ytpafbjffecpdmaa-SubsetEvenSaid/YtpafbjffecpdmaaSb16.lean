/- SubsetEven: the walk. -/
import Derived.Test.YtpafbjffecpdmaaSb15
set_option linter.unusedVariables false
namespace Go.Proofs.Ytpafbjffecpdmaa.Sb
open Go.RowKit Go.Proofs.Ytpafbjffecpdmaa
attribute [local go_sem] K.max2_int K.min2_int K.max_two K.min_two K.max_three K.min_three
set_option linter.unusedSimpArgs false
theorem even_law {ids : List Int} {z R : Nat} {seed : Nat} (hz : 1 ≤ z) (hzn : z < ids.length) (hR : R ≤ 5) (h : ofE ids 0 z = 0) :
    (∀ x ∈ cntG (fun c => oOf ids c z seed) ids (R * (ids.length / z)), 0 ≤ x ∧ x ≤ R) ∧ (cntG (fun c => oOf ids c z seed) ids (R * (ids.length / z))).sum = ((R * (ids.length / z) : Nat) : Int) * z := by
  have hn := eChk_len (ofE_ok h).1
  have hrise := eChk_rise (ofE_ok h).1
  obtain ⟨E, hE⟩ : ∃ E, E = ids.length / z := ⟨_, rfl⟩
  have hEi : (ids.length : Int) / (z : Int) = (E : Int) := by rw [hE, Int.natCast_ediv]
  have hE1 : 1 ≤ E := by rw [hE]; exact (Nat.le_div_iff_mul_le (by omega)).2 (by omega)
  have hE2 : E ≤ 32 := by rw [hE]; have := Nat.div_le_self ids.length z; omega
  have h3 : ¬ (ids.length : Int) ≤ (z : Int) := by omega
  have hok : ∀ c : Nat, c ≤ 1048576 → ofE ids c z = 0 := fun c hc => by
    unfold ofE
    rw [if_pos (ofE_ok h).1]
    have h0 := rnd_ok (ofE_ok h).2
    have h1 : ¬ rndBad ids.length c z := by unfold rndBad at *; omega
    rw [rnd_1 h1 h3]
  have hof : ∀ c : Nat, c ≤ 1048576 → oOf ids c z seed = ofL ids c z seed := fun c hc => by unfold oOf; rw [if_pos (hok c hc)]
  have hnd : ∀ c : Nat, (oOf ids c z seed).Nodup := fun c => by
    unfold oOf
    split
    · rename_i h1; exact (ofL_some h1).2.1.imp (fun h => by omega)
    · exact List.nodup_nil
  have hap : ∀ r a b, r < R → a < E → b < E → a ≠ b → ∀ x ∈ oOf ids ((r * E + a : Nat) : Int) z seed, x ∉ oOf ids ((r * E + b : Nat) : Int) z seed := by
    intro r a b hr ha hb hab
    have hre : r * E ≤ 5 * 32 := Nat.mul_le_mul (by omega) hE2
    rw [hof _ (by omega), hof _ (by omega)]
    have q1 := hok (r * E + a) (by omega)
    have q2 := hok (r * E + b) (by omega)
    refine ofL_apart q1 q2 h3 (by omega) ?_
    rw [rnd_1 (rnd_ok (ofE_ok q1).2) h3, rnd_1 (rnd_ok (ofE_ok q2).2) h3]
    show ((r * E + a : Nat) : Int) / ((ids.length : Int) / (z : Int)) = ((r * E + b : Nat) : Int) / ((ids.length : Int) / (z : Int))
    rw [hEi, ← Int.natCast_ediv, ← Int.natCast_ediv, Nat.mul_comm r E, Nat.mul_add_div (by omega), Nat.mul_add_div (by omega), Nat.div_eq_of_lt ha, Nat.div_eq_of_lt hb]
  have hRE : R * E ≤ 5 * 32 := Nat.mul_le_mul hR hE2
  rw [← hE]
  constructor
  · intro x hx
    have hin := inR_cntG (of := fun c => oOf ids c z seed) (ids := ids) (fun c => oOf_in.2) (R * E) x hx
    obtain ⟨i, hi, rfl⟩ := mem_getD hx
    rw [cntG_len] at hi
    exact ⟨hin.1, cntG_round hrise.1 hi (fun c => oOf_in.1) hnd R hap R (Nat.le_refl _)⟩
  · refine sum_cntG (fun c => oOf_in.1) (R * E) (fun c hc => ?_)
    show (oOf ids (c : Int) z seed).length = z
    rw [hof c (by omega)]
    have h9 := (ofL_some (seed := seed) (hok c (by omega))).2.2
    unfold K.mn at h9
    rw [if_neg (by omega)] at h9
    omega
theorem take_sum {L : List Int} {k : Nat} {x : Int} (h : L[k]? = some x) : (L.take (k + 1)).sum = (L.take k).sum + x := by
  rw [List.take_add_one, h, Option.toList_some, List.sum_append]; simp
theorem sum_in {B : Int} : ∀ {L : List Int}, (∀ x ∈ L, 0 ≤ x ∧ x ≤ B) → 0 ≤ L.sum ∧ L.sum ≤ B * L.length
  | [], _ => by simp
  | x :: r, h => by
    have h1 := h x (by simp)
    have h2 := sum_in (L := r) (fun y hy => h y (by simp [hy]))
    rw [List.sum_cons, List.length_cons, Int.natCast_add, Int.mul_add]
    simp only [Int.natCast_one, Int.mul_one]
    omega
set_option maxRecDepth 100000 in
set_option maxHeartbeats 8000000 in
theorem Even_c (ids : List Int) (rounds size : Int) (seed : Nat) (A : Option Addr) (n c : Nat) (w : World) (hr : Sl.Rds w 1 A n (ids.flatMap fun n => [.int .i64 n])) (hs : seed < 18446744073709551616) :
    Calls Try.prog 6 #[.slice A n c, .int .i64 rounds, .int .i64 size, .int .u64 seed] w fun e w' => e = .returned (.bool true) ∧ Below w.heap.size w w' := by
  obtain rfl := hr.length (fun _ => rfl) (by omega)
  have ht1 : -6 < rounds.tmod 6 := Int.lt_tmod_of_pos rounds (by omega)
  have ht2 : rounds.tmod 6 < 6 := Int.tmod_lt_of_pos rounds (by omega)
  have ht3 : (rounds.tmod 6 + 6).tmod 6 = (rounds.tmod 6 + 6) % 6 := Int.tmod_eq_emod_of_nonneg (by omega)
  obtain ⟨R, hRR, hR5⟩ : ∃ R : Nat, (rounds.tmod 6 + 6).tmod 6 = (R : Int) ∧ R ≤ 5 := ⟨((rounds.tmod 6 + 6).tmod 6).toNat, by omega, by omega⟩
  clear ht3
  have hle := hr.le
  by_cases hg : 32 < ids.length ∨ size < 1 ∨ (ids.length : Int) ≤ size
  · have hd : decide ((32 : Int) < (ids.length : Int)) = true ∨ (decide ((32 : Int) < (ids.length : Int)) = false ∧ decide (size < 1) = true) ∨ (decide ((32 : Int) < (ids.length : Int)) = false ∧ decide (size < 1) = false ∧ decide ((ids.length : Int) ≤ size) = true) := by
      by_cases h1 : 32 < ids.length
      · exact .inl (decide_eq_true (by omega))
      · by_cases h2 : size < 1
        · exact .inr (.inl ⟨decide_eq_false (by omega), decide_eq_true h2⟩)
        · exact .inr (.inr ⟨decide_eq_false (by omega), decide_eq_false h2, decide_eq_true (by omega)⟩)
    have d9 : decide (32 < ids.length) = decide ((32 : Int) < (ids.length : Int)) := by rw [decide_eq_decide]; omega
    clear hr hg
    rcases hd with d1 | ⟨d1, d2⟩ | ⟨d1, d2, d3⟩
    all_goals
      rw [d1] at d9
      go_enter Try.func6, Try.ntmps6
      go_wp2_with (first | (go_at_call 9; (with_reducible refine (alive_c _).mono ?_); rintro e W1 ⟨rfl, hb1⟩; obtain ⟨hB1, hC1, hF1, hZ1⟩ := K.bel_facts hb1; clear hb1))
      go_ret
      exact ⟨rfl, (by repeat (first | (with_reducible exact Below.refl _ _) | (with_reducible refine K.b_bel ?_ (by assumption)) | (with_reducible refine K.b_alloc ?_ _) | (with_reducible refine K.b_drewN ?_ _) | (with_reducible refine K.b_drew ?_) | (with_reducible refine K.b_set ?_ (by first | omega | (simp <;> omega)) _) | (with_reducible refine K.b_only ?_ (by assumption) (by first | omega | (simp <;> omega)))))⟩
  · obtain ⟨z, rfl⟩ := Int.eq_ofNat_of_zero_le (show 0 ≤ size by omega)
    have hz1 : 1 ≤ z := by omega
    have hzn : z < ids.length := by omega
    have hn : ids.length ≤ 32 := by omega
    obtain ⟨E, hE⟩ : ∃ E, E = ids.length / z := ⟨_, rfl⟩
    have hE2 : E ≤ 32 := by rw [hE]; have := Nat.div_le_self ids.length z; omega
    have hRE : R * E ≤ 5 * 32 := Nat.mul_le_mul hR5 hE2
    have GC := K.H.mk (fun (W : World) (hb : Below w.heap.size w W) => Counts_c ids ((R * E : Nat) : Int) z seed A ids.length c W (hr.below hb) hs)
    have e1 : (ids.length : Int).tdiv (z : Int) = (E : Int) := by rw [Int.tdiv_eq_ediv_of_nonneg (by omega), hE, Int.natCast_ediv]
    obtain ⟨C, hC⟩ : ∃ C, C = R * E := ⟨_, rfl⟩
    rw [← hC] at GC hRE
    have e2 : IntKind.i64.wrap ((R : Int) * (E : Int)) = (C : Int) := by rw [← Int.natCast_mul, ← hC, K.i64_in (by omega) (by omega)]
    have e2b : wrap64 ((R : Int) * (E : Int)) = (C : Int) := by rw [← e2, IntWalk.i64_left]
    have d1 : decide ((32 : Int) < (ids.length : Int)) = false := decide_eq_false (by omega)
    have d1n : decide (32 < ids.length) = false := decide_eq_false (by omega)
    have d2 : decide ((z : Int) < 1) = false := decide_eq_false (by omega)
    have d3 : decide ((ids.length : Int) ≤ (z : Int)) = false := decide_eq_false (by omega)
    have d3n : decide (ids.length ≤ z) = false := decide_eq_false (by omega)
    have hz0 : (z : Int) ≠ 0 := by omega
    have hzm : (z : Int) ≠ -1 := by omega
    by_cases he : cntE ids (C : Int) z = 0
    · have ho : ofE ids 0 z = 0 := by
        unfold cntE at he
        by_cases h : ofE ids 0 z = 0
        · exact h
        · rw [if_neg h] at he; exact he
      obtain ⟨p1, p2⟩ := even_law (seed := seed) (R := R) hz1 hzn hR5 ho
      have hlen := cntG_len (fun c => oOf ids c z seed) ids (R * (ids.length / z))
      rw [show cntL ids (C : Int) z seed = cntG (fun c => oOf ids c z seed) ids (R * (ids.length / z)) by unfold cntL; rw [if_pos he, hC, hE, Int.toNat_natCast], he] at GC
      rw [← hE, ← hC] at p1 p2 hlen GC
      generalize cntG (fun c => oOf ids c z seed) ids C = L at *
      have hCz : C * z ≤ 160 * 32 := Nat.mul_le_mul hRE (by omega)
      have e3 : IntKind.i64.wrap ((C : Int) * (z : Int)) = L.sum := by rw [p2, ← Int.natCast_mul, K.i64_in (by omega) (by omega)]
      have e3b : wrap64 ((C : Int) * (z : Int)) = L.sum := by rw [← e3, IntWalk.i64_left]
      have H1 := K.H.mk p1
      have HS := K.H.mk (fun k => sum_in (B := (R : Int)) (L := L.take k) (fun x hx => p1 x (List.mem_of_mem_take hx)))
      have hl32 : L.length ≤ 32 := by omega
      clear hr hg he ho p1 p2 hlen hE hC
      go_enter Try.func6, Try.ntmps6
      go_wp2_with (first
        | (go_at_call 9; (with_reducible refine (alive_c _).mono ?_); rintro e W1 ⟨rfl, hb1⟩; obtain ⟨hB1, hC1, hF1, hZ1⟩ := K.bel_facts hb1; clear hb1)
        | (go_at_call 17; (with_reducible refine (GC.out _ (by repeat (first | (with_reducible exact Below.refl _ _) | (with_reducible refine K.b_bel ?_ (by assumption)) | (with_reducible refine K.b_alloc ?_ _) | (with_reducible refine K.b_drewN ?_ _) | (with_reducible refine K.b_drew ?_) | (with_reducible refine K.b_set ?_ (by first | omega | (simp <;> omega)) _) | (with_reducible refine K.b_only ?_ (by assumption) (by first | omega | (simp <;> omega)))))).mono ?_); rintro e W3 ⟨v3, rfl, hown3, hb3⟩; obtain ⟨hB3, hC3, hF3, hZ3⟩ := K.bel_facts hb3; clear hb3; obtain ⟨A3, c3, rfl, hR3⟩ := Sl.Rds.of_own hown3; rw [← flat_iv] at hR3; clear hown3)
        | (go_at_call 11; (with_reducible refine (num_c _ _).mono ?_); rintro e w' ⟨rfl, hw'⟩; have hw'2 := Eq.symm hw'; clear hw'; subst hw'2))
      have Hb3 := K.H.mk (show Below w.heap.size w W3 from (by repeat (first | (with_reducible exact Below.refl _ _) | (with_reducible refine K.b_bel ?_ (by assumption)) | (with_reducible refine K.b_alloc ?_ _) | (with_reducible refine K.b_drewN ?_ _) | (with_reducible refine K.b_drew ?_) | (with_reducible refine K.b_set ?_ (by first | omega | (simp <;> omega)) _) | (with_reducible refine K.b_only ?_ (by assumption) (by first | omega | (simp <;> omega))))))
      have HR3 := K.H.mk hR3
      clear hR3 d1 d1n d2 d3 d3n e1 e2 e2b GC
      go_loop [12, 13] (fun a i => ∃ k : Nat, k ≤ L.length ∧ a = .int .i64 (L.take k).sum ∧ i = .int .i64 k) (fun _ i => L.length - (intOf i).toNat)
      case atStart => exact ⟨0, by omega, rfl, rfl⟩
      case round =>
        obtain ⟨k, hk, rfl, rfl⟩ := hrel
        by_cases hlt : k < L.length
        · obtain ⟨x, hx⟩ : ∃ x, L[k]? = some x := ⟨_, List.getElem?_eq_getElem hlt⟩
          obtain ⟨x0, x1⟩ := H1.out x (List.mem_of_getElem? hx)
          have ht := take_sum hx
          obtain ⟨s0, s1⟩ := HS.out k
          have hlk : ((L.take k).length : Int) ≤ 32 := by rw [List.length_take]; omega
          have s2 : (L.take k).sum ≤ 5 * 32 := Int.le_trans s1 (Int.mul_le_mul (by omega) hlk (by omega) (by omega))
          have Ht := K.H.mk ht
          have dx0 : decide (x < 0) = false := decide_eq_false (by omega)
          have dx1 : decide ((R : Int) < x) = false := decide_eq_false (by omega)
          obtain ⟨b7, off7, rfl, hbl7, hbc7⟩ := Sl.Rds.elem HR3.out (enc := fun n => [.int .i64 n]) (fun _ => rfl) (by omega) hx
          have q7_0 : W3.cell? ⟨b7, off7 + k, none⟩ = some (.int .i64 x) := by
            have := ((Below.refl _ _ : Below W3.heap.size W3 W3).cell (p := ⟨b7, off7 + k * 1 + 0, none⟩) hbl7).trans (hbc7 0 (by omega))
            simpa using this
          clear hx hbc7 ht s1
          generalize (L.take k).sum = S at *
          go_wp2
          go_round
          case rel => exact ⟨k + 1, by omega, by rw [Ht.out], by go_num⟩
          case measure => simp [intOf]; omega
        · obtain rfl : k = L.length := by omega
          rw [List.take_length]
          have dd : (L.sum == L.sum) = true := by simp
          go_wp2
          go_ret
          exact ⟨rfl, Hb3.out⟩
    · have hd : (cntE ids (C : Int) z != 0) = true := by simpa using he
      rw [show cntL ids (C : Int) z seed = [] by unfold cntL; rw [if_neg he]] at GC
      generalize cntE ids (C : Int) z = er at *
      clear hr hg he hE hC
      go_enter Try.func6, Try.ntmps6
      go_wp2_with (first
        | (go_at_call 9; (with_reducible refine (alive_c _).mono ?_); rintro e W1 ⟨rfl, hb1⟩; obtain ⟨hB1, hC1, hF1, hZ1⟩ := K.bel_facts hb1; clear hb1)
        | (go_at_call 17; (with_reducible refine (GC.out _ (by repeat (first | (with_reducible exact Below.refl _ _) | (with_reducible refine K.b_bel ?_ (by assumption)) | (with_reducible refine K.b_alloc ?_ _) | (with_reducible refine K.b_drewN ?_ _) | (with_reducible refine K.b_drew ?_) | (with_reducible refine K.b_set ?_ (by first | omega | (simp <;> omega)) _) | (with_reducible refine K.b_only ?_ (by assumption) (by first | omega | (simp <;> omega)))))).mono ?_); rintro e W3 ⟨v3, rfl, hown3, hb3⟩; obtain ⟨hB3, hC3, hF3, hZ3⟩ := K.bel_facts hb3; clear hb3; obtain ⟨A3, c3, rfl, hR3⟩ := Sl.Rds.of_own hown3; clear hown3)
        | (go_at_call 11; (with_reducible refine (num_c _ _).mono ?_); rintro e w' ⟨rfl, hw'⟩; have hw'2 := Eq.symm hw'; clear hw'; subst hw'2))
      go_ret
      exact ⟨rfl, (by repeat (first | (with_reducible exact Below.refl _ _) | (with_reducible refine K.b_bel ?_ (by assumption)) | (with_reducible refine K.b_alloc ?_ _) | (with_reducible refine K.b_drewN ?_ _) | (with_reducible refine K.b_drew ?_) | (with_reducible refine K.b_set ?_ (by first | omega | (simp <;> omega)) _) | (with_reducible refine K.b_only ?_ (by assumption) (by first | omega | (simp <;> omega)))))⟩
theorem EvenI (ids : List Int) (rounds size seed : Int) (A : Option Addr) (n c : Nat) (w : World) (hr : Sl.Rds w 1 A n (ids.flatMap fun n => [.int .i64 n])) (hs : (Lit.int .u64 seed).wf = true) :
    Calls Try.prog 6 #[.slice A n c, .int .i64 rounds, .int .i64 size, .int .u64 seed] w fun e w' => e = .returned (.bool true) ∧ Below w.heap.size w w' := by
  obtain ⟨h0, h1⟩ := u64_wf hs
  obtain ⟨s, rfl⟩ := Int.eq_ofNat_of_zero_le h0
  exact Even_c ids rounds size s A n c w hr (by omega)
end Go.Proofs.Ytpafbjffecpdmaa.Sb
