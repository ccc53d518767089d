/- Subset: a client's subset. -/
import Derived.Test.YtpafbjffecpdmaaSb5
set_option linter.unusedVariables false
namespace Go.Proofs.Ytpafbjffecpdmaa.Sb
open Go.RowKit Go.Proofs.Ytpafbjffecpdmaa
attribute [local go_sem] K.max2_int K.min2_int K.max_two K.min_two K.max_three K.min_three
set_option linter.unusedSimpArgs false
def ofE (ids : List Int) (client size : Int) : Int := if eChk ids = 0 then (rnd ids.length client size).2.2 else eChk ids
/-- The subset of a client, where nothing is refused. -/
def ofL (ids : List Int) (client size : Int) (seed : Nat) : List Int :=
  if (ids.length : Int) ≤ size then ids else sortI (pk ids (shuf (intsN seed [(rnd ids.length client size).1]) ids.length).2 ((rnd ids.length client size).2.1.toNat * size.toNat) size.toNat)
def oOf (ids : List Int) (client size : Int) (seed : Nat) : List Int := if ofE ids client size = 0 then ofL ids client size seed else []
def OfPost (w : World) (L : List Int) (er : Int) (e : Ending) (w' : World) : Prop := ∃ v, e = .returned (.tuple #[v, .int .i64 er]) ∧ w'.ownsRow w.heap.size 3 1 v L.length (L.map iv) ∧ Below w.heap.size w w'
theorem rnd_ok {n c s : Int} (h : (rnd n c s).2.2 = 0) : ¬ rndBad n c s := by
  intro hb; rw [rnd_4 hb] at h; exact absurd h (by decide)
/-- Where there are more backends than the size: the place lies in the round. -/
theorem rnd_big {n c s : Int} (h : (rnd n c s).2.2 = 0) (h2 : ¬ n ≤ s) : 1 ≤ s ∧ n ≤ 32 ∧ 0 ≤ (rnd n c s).1 ∧ (rnd n c s).1 ≤ 1048576 ∧ 0 ≤ (rnd n c s).2.1 ∧ (rnd n c s).2.1 < n / s ∧ (rnd n c s).2.1 * s + s ≤ n := by
  have hb := rnd_ok h
  rw [rnd_1 hb h2]
  unfold rndBad at hb
  have he1 : 1 ≤ n / s := Int.le_ediv_of_mul_le (by omega) (by omega)
  have hq0 : 0 ≤ c / (n / s) := Int.ediv_nonneg (by omega) (by omega)
  have hq1 : c / (n / s) ≤ c := Int.ediv_le_self _ (by omega)
  have hr0 := Int.emod_nonneg c (b := n / s) (by omega)
  have hr1 := Int.emod_lt_of_pos c (b := n / s) (by omega)
  have hm : n / s * s ≤ n := Int.ediv_mul_le n (by omega)
  have h3 : (c % (n / s) + 1) * s ≤ n / s * s := Int.mul_le_mul_of_nonneg_right (by omega) (by omega)
  rw [Int.add_mul] at h3
  exact ⟨by omega, by omega, hq0, by omega, hr0, hr1, by show c % (n / s) * s + s ≤ n; omega⟩
theorem eChk_len {ids : List Int} (h : eChk ids = 0) : ids.length ≤ 32 := by
  unfold eChk at h; split at h
  · omega
  · omega
theorem ofL_len {ids : List Int} {client size : Int} {seed : Nat} (h : ofE ids client size = 0) (h1 : eChk ids = 0) : (ofL ids client size seed).length ≤ 32 := by
  have := eChk_len h1
  unfold ofL
  split
  · omega
  · rw [sortI_len, pk_len]; omega
set_option maxRecDepth 100000 in
set_option maxHeartbeats 4000000 in
theorem of_c (ids : List Int) (client size : Int) (seed : Nat) (A : Option Addr) (n c : Nat) (w : World) (hr : Sl.Rds w 1 A n (ids.flatMap fun n => [.int .i64 n])) (hs : seed < 18446744073709551616) :
    Calls Try.prog 22 #[.agg #[.slice A n c, .int .i64 size, .int .u64 seed], .int .i64 client] w (OfPost w (oOf ids client size seed) (ofE ids client size)) := by
  obtain rfl := hr.length (fun _ => rfl) (by omega)
  have GC := K.H.mk (fun (W : World) (hb : Below w.heap.size w W) => check_c ids size seed A ids.length c W (hr.below hb))
  by_cases h1 : eChk ids = 0
  · have hl := eChk_len h1
    have GR := K.H.mk (fun (W : World) => Round_c ids.length client size W)
    have he : ofE ids client size = (rnd ids.length client size).2.2 := by unfold ofE; rw [if_pos h1]
    rw [h1] at GC
    by_cases h2 : (rnd ids.length client size).2.2 = 0
    · have GH : ∀ (W : World), Below w.heap.size w W → Calls Try.prog 31 #[.agg #[.slice A ids.length c, .int .i64 size, .int .u64 seed], .agg #[.int .i64 (rnd ids.length client size).1, .int .i64 (rnd ids.length client size).2.1]] W fun e w' => ∃ v, e = .returned v ∧ w'.ownsRow W.heap.size 3 1 v (ofL ids client size seed).length ((ofL ids client size seed).map iv) ∧ Below W.heap.size W w' := by
        intro W hb
        by_cases h3 : (ids.length : Int) ≤ size
        · rw [show ofL ids client size seed = ids by unfold ofL; rw [if_pos h3]]
          exact hand_all ids size seed _ _ A ids.length c W (hr.below hb) hl h3
        · obtain ⟨b1, b2, b3, b4, b5, b6, b7⟩ := rnd_big h2 h3
          have hz : ((size.toNat : Nat) : Int) = size := by omega
          have ha : (((rnd ids.length client size).2.1.toNat : Nat) : Int) = (rnd ids.length client size).2.1 := by omega
          have h9 := handG shuf intsN shuf_perm (fun s l h => intsN_lt h l) Ints_c Shuffle_c ids size.toNat seed (rnd ids.length client size).2.1.toNat (rnd ids.length client size).1 A ids.length c W (hr.below hb) hl hs (by omega) (by omega) (by
            have : (((rnd ids.length client size).2.1.toNat * size.toNat + size.toNat : Nat) : Int) = (rnd ids.length client size).2.1 * size + size := by rw [Int.natCast_add, Int.natCast_mul, hz, ha]
            omega)
          rw [hz, ha] at h9
          rw [show ofL ids client size seed = _ by unfold ofL; rw [if_neg h3]]
          rw [sortI_len, pk_len]
          exact h9
      have HH := K.H.mk GH
      rw [show oOf ids client size seed = ofL ids client size seed by unfold oOf; rw [if_pos (he.trans h2)], he, h2]
      rw [h2] at GR
      generalize ofL ids client size seed = L at *
      generalize (rnd ids.length client size).1 = r1 at *
      generalize (rnd ids.length client size).2.1 = r2 at *
      clear hr he h1 h2 GH
      
      
      go_enter Try.func22, Try.ntmps22
      go_wp2_with (first
        | (go_at_call 30; (with_reducible refine (GC.out _ (by repeat (first | (with_reducible exact Below.refl _ _) | (with_reducible refine K.b_bel ?_ (by assumption)) | (with_reducible refine K.b_alloc ?_ _) | (with_reducible refine K.b_drewN ?_ _) | (with_reducible refine K.b_drew ?_) | (with_reducible refine K.b_set ?_ (by first | omega | (simp <;> omega)) _) | (with_reducible refine K.b_only ?_ (by assumption) (by first | omega | (simp <;> omega)))))).mono ?_); rintro e W1 ⟨rfl, hb1⟩; obtain ⟨hB1, hC1, hF1, hZ1⟩ := K.bel_facts hb1; clear hb1; have kD1 : K.At W1 w.heap.size 46 #[.slice A ids.length c, .int .i64 size, .int .u64 seed] := (by refine K.At.cast (by repeat (first | (with_reducible refine K.At.new' _ _ _ _ (by first | rfl | (simp; done) | omega)) | (with_reducible apply K.At.over hB1) | (with_reducible apply K.At.set) | (with_reducible apply K.At.alloc) | (with_reducible apply K.At.drewN) | (with_reducible apply K.At.drew) | (with_reducible apply K.At.far) | omega | (simp <;> omega))) ?_; rfl); obtain ⟨hc_kD1, hf_kD1, hl_kD1⟩ := K.At.facts kD1)
        | (go_at_call 13; (with_reducible refine (GR.out _).mono ?_); rintro e W2 ⟨rfl, hb2⟩; obtain ⟨hB2, hC2, hF2, hZ2⟩ := K.bel_facts hb2; clear hb2; have kD2 : K.At W2 w.heap.size 46 #[.slice A ids.length c, .int .i64 size, .int .u64 seed] := (by refine K.At.cast (by repeat (first | (with_reducible exact kD1) | (with_reducible refine K.At.new' _ _ _ _ (by first | rfl | (simp; done) | omega)) | (with_reducible apply K.At.over hB2) | (with_reducible apply K.At.set) | (with_reducible apply K.At.alloc) | (with_reducible apply K.At.drewN) | (with_reducible apply K.At.drew) | (with_reducible apply K.At.far) | omega | (simp <;> omega))) ?_; rfl); obtain ⟨hc_kD2, hf_kD2, hl_kD2⟩ := K.At.facts kD2; clear hc_kD1 hf_kD1 hl_kD1)
        | (go_at_call 31; (with_reducible refine (HH.out _ (by repeat (first | (with_reducible exact Below.refl _ _) | (with_reducible refine K.b_bel ?_ (by assumption)) | (with_reducible refine K.b_alloc ?_ _) | (with_reducible refine K.b_drewN ?_ _) | (with_reducible refine K.b_drew ?_) | (with_reducible refine K.b_set ?_ (by first | omega | (simp <;> omega)) _) | (with_reducible refine K.b_only ?_ (by assumption) (by first | omega | (simp <;> omega)))))).mono ?_); rintro e W3 ⟨v3, rfl, hown3, hb3⟩; obtain ⟨hB3, hC3, hF3, hZ3⟩ := K.bel_facts hb3; clear hb3))
      have hz9 := kD2.lt
      go_ret2
      exact ⟨v3, rfl, Sl.own_low hown3 (by omega), (by repeat (first | (with_reducible exact Below.refl _ _) | (with_reducible refine K.b_bel ?_ (by assumption)) | (with_reducible refine K.b_alloc ?_ _) | (with_reducible refine K.b_drewN ?_ _) | (with_reducible refine K.b_drew ?_) | (with_reducible refine K.b_set ?_ (by first | omega | (simp <;> omega)) _) | (with_reducible refine K.b_only ?_ (by assumption) (by first | omega | (simp <;> omega)))))⟩
    · have hd : ((rnd ids.length client size).2.2 != 0) = true := by simpa using h2
      rw [show oOf ids client size seed = [] by unfold oOf; rw [if_neg (by rw [he]; exact h2)], he]
      generalize (rnd ids.length client size).1 = r1 at *
      generalize (rnd ids.length client size).2.1 = r2 at *
      generalize (rnd ids.length client size).2.2 = r3 at *
      clear hr he h1 h2
      
      
      go_enter Try.func22, Try.ntmps22
      go_wp2_with (first
        | (go_at_call 30; (with_reducible refine (GC.out _ (by repeat (first | (with_reducible exact Below.refl _ _) | (with_reducible refine K.b_bel ?_ (by assumption)) | (with_reducible refine K.b_alloc ?_ _) | (with_reducible refine K.b_drewN ?_ _) | (with_reducible refine K.b_drew ?_) | (with_reducible refine K.b_set ?_ (by first | omega | (simp <;> omega)) _) | (with_reducible refine K.b_only ?_ (by assumption) (by first | omega | (simp <;> omega)))))).mono ?_); rintro e W1 ⟨rfl, hb1⟩; obtain ⟨hB1, hC1, hF1, hZ1⟩ := K.bel_facts hb1; clear hb1; have kD1 : K.At W1 w.heap.size 46 #[.slice A ids.length c, .int .i64 size, .int .u64 seed] := (by refine K.At.cast (by repeat (first | (with_reducible refine K.At.new' _ _ _ _ (by first | rfl | (simp; done) | omega)) | (with_reducible apply K.At.over hB1) | (with_reducible apply K.At.set) | (with_reducible apply K.At.alloc) | (with_reducible apply K.At.drewN) | (with_reducible apply K.At.drew) | (with_reducible apply K.At.far) | omega | (simp <;> omega))) ?_; rfl); obtain ⟨hc_kD1, hf_kD1, hl_kD1⟩ := K.At.facts kD1)
        | (go_at_call 13; (with_reducible refine (GR.out _).mono ?_); rintro e W2 ⟨rfl, hb2⟩; obtain ⟨hB2, hC2, hF2, hZ2⟩ := K.bel_facts hb2; clear hb2; have kD2 : K.At W2 w.heap.size 46 #[.slice A ids.length c, .int .i64 size, .int .u64 seed] := (by refine K.At.cast (by repeat (first | (with_reducible exact kD1) | (with_reducible refine K.At.new' _ _ _ _ (by first | rfl | (simp; done) | omega)) | (with_reducible apply K.At.over hB2) | (with_reducible apply K.At.set) | (with_reducible apply K.At.alloc) | (with_reducible apply K.At.drewN) | (with_reducible apply K.At.drew) | (with_reducible apply K.At.far) | omega | (simp <;> omega))) ?_; rfl); obtain ⟨hc_kD2, hf_kD2, hl_kD2⟩ := K.At.facts kD2; clear hc_kD1 hf_kD1 hl_kD1))
      go_ret2
      exact ⟨_, rfl, World.ownsRow_nil _ _ _ _, (by repeat (first | (with_reducible exact Below.refl _ _) | (with_reducible refine K.b_bel ?_ (by assumption)) | (with_reducible refine K.b_alloc ?_ _) | (with_reducible refine K.b_drewN ?_ _) | (with_reducible refine K.b_drew ?_) | (with_reducible refine K.b_set ?_ (by first | omega | (simp <;> omega)) _) | (with_reducible refine K.b_only ?_ (by assumption) (by first | omega | (simp <;> omega)))))⟩
  · have he : ofE ids client size = eChk ids := by unfold ofE; rw [if_neg h1]
    have hd : (eChk ids != 0) = true := by simpa using h1
    rw [show oOf ids client size seed = [] by unfold oOf; rw [if_neg (by rw [he]; exact h1)], he]
    generalize eChk ids = y at *
    clear hr he h1
    go_enter Try.func22, Try.ntmps22
    go_wp2_with (first | (go_at_call 30; (with_reducible refine (GC.out _ (by repeat (first | (with_reducible exact Below.refl _ _) | (with_reducible refine K.b_bel ?_ (by assumption)) | (with_reducible refine K.b_alloc ?_ _) | (with_reducible refine K.b_drewN ?_ _) | (with_reducible refine K.b_drew ?_) | (with_reducible refine K.b_set ?_ (by first | omega | (simp <;> omega)) _) | (with_reducible refine K.b_only ?_ (by assumption) (by first | omega | (simp <;> omega)))))).mono ?_); rintro e W1 ⟨rfl, hb1⟩; obtain ⟨hB1, hC1, hF1, hZ1⟩ := K.bel_facts hb1; clear hb1))
    go_ret2
    exact ⟨_, rfl, World.ownsRow_nil _ _ _ _, (by repeat (first | (with_reducible exact Below.refl _ _) | (with_reducible refine K.b_bel ?_ (by assumption)) | (with_reducible refine K.b_alloc ?_ _) | (with_reducible refine K.b_drewN ?_ _) | (with_reducible refine K.b_drew ?_) | (with_reducible refine K.b_set ?_ (by first | omega | (simp <;> omega)) _) | (with_reducible refine K.b_only ?_ (by assumption) (by first | omega | (simp <;> omega)))))⟩
set_option maxRecDepth 100000 in
set_option maxHeartbeats 4000000 in
theorem Of_c (ids : List Int) (client size : Int) (seed : Nat) (A : Option Addr) (n c : Nat) (w : World) (hr : Sl.Rds w 1 A n (ids.flatMap fun n => [.int .i64 n])) (hs : seed < 18446744073709551616) :
    Calls Try.prog 10 #[.slice A n c, .int .i64 client, .int .i64 size, .int .u64 seed] w (OfPost w (oOf ids client size seed) (ofE ids client size)) := by
  have GO := K.H.mk (fun (W : World) (hb : Below w.heap.size w W) => of_c ids client size seed A n c W (hr.below hb) hs)
  generalize oOf ids client size seed = L at *
  generalize ofE ids client size = er at *
  clear hr
  go_enter Try.func10, Try.ntmps10
  go_wp2_with (first | (go_at_call 22; (with_reducible refine (GO.out _ (by repeat (first | (with_reducible exact Below.refl _ _) | (with_reducible refine K.b_bel ?_ (by assumption)) | (with_reducible refine K.b_alloc ?_ _) | (with_reducible refine K.b_drewN ?_ _) | (with_reducible refine K.b_drew ?_) | (with_reducible refine K.b_set ?_ (by first | omega | (simp <;> omega)) _) | (with_reducible refine K.b_only ?_ (by assumption) (by first | omega | (simp <;> omega)))))).mono ?_); rintro e W3 ⟨v3, rfl, hown3, hb3⟩; obtain ⟨hB3, hC3, hF3, hZ3⟩ := K.bel_facts hb3; clear hb3))
  go_ret2
  exact ⟨v3, rfl, hown3, (by repeat (first | (with_reducible exact Below.refl _ _) | (with_reducible refine K.b_bel ?_ (by assumption)) | (with_reducible refine K.b_alloc ?_ _) | (with_reducible refine K.b_drewN ?_ _) | (with_reducible refine K.b_drew ?_) | (with_reducible refine K.b_set ?_ (by first | omega | (simp <;> omega)) _) | (with_reducible refine K.b_only ?_ (by assumption) (by first | omega | (simp <;> omega)))))⟩
end Go.Proofs.Ytpafbjffecpdmaa.Sb
