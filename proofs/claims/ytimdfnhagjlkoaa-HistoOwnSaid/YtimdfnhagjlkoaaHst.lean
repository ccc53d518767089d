/- Histograms: a number's bucket; a bucket's top. -/
import Derived.Lib.Strings
import Derived.Lib.Slices
import Derived.Lib.Small
import Derived.Lib.Walk
import Derived.Lib.BitFns
import Derived.Laws.Bits64b
import Derived.Test.YtimdfnhagjlkoaaSl
set_option linter.unusedVariables false
namespace Go.Proofs.Ytimdfnhagjlkoaa.Hst
open Go.RowKit Go.Proofs.Ytimdfnhagjlkoaa
attribute [local go_sem] K.max2_int K.min2_int K.max_two K.min_two K.max_three K.min_three
set_option linter.unusedSimpArgs false
theorem tab (y : Int) (h0 : 0 ≤ y) (h1 : y ≤ 255) (h : y.toNat < Lib.len8tab.size) : ((Lib.len8tab[y.toNat]'h).toNat : Int) = (Lib.bitLen y.toNat : Int) := by
  rw [← Lib.len8_of y h0 h1]
  unfold Lib.len8
  rw [getElem?_pos Lib.len8tab y.toNat h]
  rfl
theorem tab_size : (Lib.len8tab.size : Int) = 256 := by
  have : Lib.len8tab.size = 256 := by decide +kernel
  omega
set_option maxHeartbeats 4000000 in
set_option maxRecDepth 100000 in
theorem len64_c (x : Int) (w : World) (h0 : 0 ≤ x) (h1 : x ≤ 1048576) :
    Calls Try.prog 67 #[.int .u64 x] w fun e w' => e = .returned (.int .i64 (Lib.bitLen x.toNat)) ∧ w' = w := by
  have hs := tab_size
  go_enter Try.func67, Try.ntmps67
  go_wp2
  all_goals first
    | (exfalso; omega)
    | (go_ret
       refine ⟨congrArg Ending.returned (congrArg (Value.int IntKind.i64) ?_), rfl⟩
       first
         | (rw [tab (x / 65536) (by omega) (by omega)]
            have e : (x / 65536).toNat = x.toNat / 65536 := by omega
            have l := Lib.bitLen_le8' (x / 65536) (by omega) (by omega)
            have s := Lib.bitLen_shift16 x.toNat (by omega) (by omega)
            rw [e] at l ⊢
            simp only [wrap64]
            omega)
         | (rw [tab (x / 256) (by omega) (by omega)]
            have e : (x / 256).toNat = x.toNat / 256 := by omega
            have l := Lib.bitLen_le8' (x / 256) (by omega) (by omega)
            have s := Lib.bitLen_shift8 x.toNat (by omega) (by omega)
            rw [e] at l ⊢
            simp only [wrap64]
            omega)
         | (rw [tab x (by omega) (by omega)]
            have l := Lib.bitLen_le8' x (by omega) (by omega)
            simp only [wrap64]
            omega))
theorem len_c (x : Int) (w : World) (h0 : 0 ≤ x) (h1 : x ≤ 1048576) :
    Calls Try.prog 63 #[.int .u64 x] w fun e w' => e = .returned (.int .i64 (Lib.bitLen x.toNat)) ∧ w' = w := by
  go_enter Try.func63, Try.ntmps63
  go_wp2_with (go_at_call 67; (with_reducible refine (len64_c x _ h0 h1).mono ?_); rintro e w' ⟨rfl, rfl⟩)
  go_ret
  exact ⟨rfl, rfl⟩
def lg (n : Int) : Int := (Lib.bitLen n.toNat : Int) - 1
theorem lg_of {n : Int} (k : Nat) (hk : k ≤ 62) (h0 : (2 ^ k : Nat) ≤ n) (h1 : n < (2 ^ (k + 1) : Nat)) : lg n = k := by
  obtain ⟨n, rfl⟩ := Int.eq_ofNat_of_zero_le (show 0 ≤ n by omega)
  have h0 : 2 ^ k ≤ n := by omega
  have h1 : n < 2 ^ (k + 1) := by omega
  have hb : 2 ^ (k + 1) ≤ 2 ^ 63 := Nat.pow_le_pow_right (by omega) (by omega)
  have := Lib.bitLen_shift k n h0 (by omega)
  have e : n / 2 ^ k = 1 := by
    have a := Nat.div_lt_of_lt_mul (show n < 2 ^ k * 2 by rw [← Nat.pow_succ]; exact h1)
    have b := (Nat.le_div_iff_mul_le (Nat.two_pow_pos k)).2 (show 1 * 2 ^ k ≤ n by omega)
    omega
  rw [e, show Lib.bitLen 1 = 1 by decide] at this
  unfold lg
  simp only [Int.toNat_natCast]
  omega
theorem lg_cases {n : Int} (h0 : 16 ≤ n) (h1 : n ≤ 1048576) : (16 ≤ n ∧ n < 32) ∨ (32 ≤ n ∧ n < 64) ∨ (64 ≤ n ∧ n < 128) ∨ (128 ≤ n ∧ n < 256) ∨ (256 ≤ n ∧ n < 512) ∨ (512 ≤ n ∧ n < 1024) ∨ (1024 ≤ n ∧ n < 2048) ∨ (2048 ≤ n ∧ n < 4096) ∨ (4096 ≤ n ∧ n < 8192) ∨ (8192 ≤ n ∧ n < 16384) ∨ (16384 ≤ n ∧ n < 32768) ∨ (32768 ≤ n ∧ n < 65536) ∨ (65536 ≤ n ∧ n < 131072) ∨ (131072 ≤ n ∧ n < 262144) ∨ (262144 ≤ n ∧ n < 524288) ∨ (524288 ≤ n ∧ n < 1048576) ∨ (1048576 ≤ n ∧ n < 2097152) := by omega
/-- A number's bucket. -/
def bkt (n : Int) : Int := if n < 16 then n else 16 + 4 * (lg n - 4) + n / 2 ^ (lg n - 2).toNat % 4
theorem bkt_of {n : Int} (k : Nat) (hk4 : 4 ≤ k) (hk : k ≤ 20) (h0 : (2 ^ k : Nat) ≤ n) (h1 : n < (2 ^ (k + 1) : Nat)) : bkt n = 16 + 4 * ((k : Int) - 4) + n / 2 ^ (k - 2) % 4 := by
  have hb : 2 ^ 4 ≤ 2 ^ k := Nat.pow_le_pow_right (by omega) hk4
  unfold bkt
  rw [if_neg (by omega), lg_of k (by omega) h0 h1, show ((k : Int) - 2).toNat = k - 2 by omega]
theorem and3 (a : Int) (h0 : 0 ≤ a) (h1 : a < 9223372036854775808) : bits .and .i64 a 3 = a % 4 := by
  obtain ⟨a, rfl⟩ := Int.eq_ofNat_of_zero_le h0
  have h2 : (BitVec.ofInt 64 (a : Int)).toNat = a := by
    rw [BitVec.ofInt_natCast, BitVec.toNat_ofNat]; exact Nat.mod_eq_of_lt (by omega)
  have h3 : (BitVec.ofInt 64 (3 : Int)).toNat = 3 := by decide
  show IntKind.i64.wrap ((BitVec.ofInt 64 (a : Int) &&& BitVec.ofInt 64 (3 : Int)).toNat : Int) = _
  rw [BitVec.toNat_and, h2, h3, show a &&& 3 = a % 4 from Nat.and_two_pow_sub_one_eq_mod a 2, K.i64_in (by omega) (by omega)]
  omega
theorem lg_in {n : Int} (h0 : 16 ≤ n) (h1 : n ≤ 1048576) : 4 ≤ lg n ∧ lg n ≤ 20 := by
  rcases lg_cases h0 h1 with h | h | h | h | h | h | h | h | h | h | h | h | h | h | h | h | h
  · rw [lg_of 4 (by omega) (by omega) (by omega)]; omega
  · rw [lg_of 5 (by omega) (by omega) (by omega)]; omega
  · rw [lg_of 6 (by omega) (by omega) (by omega)]; omega
  · rw [lg_of 7 (by omega) (by omega) (by omega)]; omega
  · rw [lg_of 8 (by omega) (by omega) (by omega)]; omega
  · rw [lg_of 9 (by omega) (by omega) (by omega)]; omega
  · rw [lg_of 10 (by omega) (by omega) (by omega)]; omega
  · rw [lg_of 11 (by omega) (by omega) (by omega)]; omega
  · rw [lg_of 12 (by omega) (by omega) (by omega)]; omega
  · rw [lg_of 13 (by omega) (by omega) (by omega)]; omega
  · rw [lg_of 14 (by omega) (by omega) (by omega)]; omega
  · rw [lg_of 15 (by omega) (by omega) (by omega)]; omega
  · rw [lg_of 16 (by omega) (by omega) (by omega)]; omega
  · rw [lg_of 17 (by omega) (by omega) (by omega)]; omega
  · rw [lg_of 18 (by omega) (by omega) (by omega)]; omega
  · rw [lg_of 19 (by omega) (by omega) (by omega)]; omega
  · rw [lg_of 20 (by omega) (by omega) (by omega)]; omega
theorem Len_lg (n : Int) (w : World) (h0 : 16 ≤ n) (h1 : n ≤ 1048576) : Calls Try.prog 63 #[.int .u64 n] w fun e w' => e = .returned (.int .i64 (lg n + 1)) ∧ w' = w := by
  have := len_c n w (by omega) h1
  rwa [show (Lib.bitLen n.toNat : Int) = lg n + 1 by unfold lg; omega] at this
theorem div_in {m : Int} {k : Nat} (h0 : 0 ≤ m) (h1 : m ≤ 1048576) : 0 ≤ m / 2 ^ k ∧ m / 2 ^ k ≤ 1048576 := by
  have hp : (0 : Int) < 2 ^ k := Int.pow_pos (by omega)
  exact ⟨Int.ediv_nonneg h0 (by omega), Int.le_trans (Int.ediv_le_self _ h0) h1⟩
set_option maxRecDepth 100000 in
set_option maxHeartbeats 2000000 in
theorem bucket_c (n : Int) (w : World) (h0 : 0 ≤ n) : Calls Try.prog 48 #[.int .i64 n] w fun e w' => e = .returned (.int .i64 (bkt (K.mn n 1048576))) ∧ w' = w := by
  have hm : 0 ≤ K.mn n 1048576 ∧ K.mn n 1048576 ≤ 1048576 := by unfold K.mn; split <;> omega
  obtain ⟨m, hmn⟩ : ∃ m, K.mn n 1048576 = m := ⟨_, rfl⟩
  rw [hmn] at hm ⊢
  by_cases h16 : m < 16
  · have e : bkt m = m := by simp [bkt, h16]
    rw [e]
    clear e
    go_enter Try.func48, Try.ntmps48
    go_wp2
    go_ret
    exact ⟨rfl, rfl⟩
  · have GL := K.H.mk (fun W => Len_lg m W (by omega) hm.2)
    have hl := lg_in (n := m) (by omega) hm.2
    have hu : IntKind.u64.wrap m = m := by rw [IntKind.wrap_u64]; omega
    generalize hlg : lg m = k at *
    have Hlg := K.H.mk hlg
    clear hlg
    go_enter Try.func48, Try.ntmps48
    go_wp2_with (go_at_call 63; (with_reducible refine (GL.out _).mono ?_); rintro e w' ⟨rfl, hw'⟩; have hw'2 := Eq.symm hw'; clear hw'; subst hw'2)
    have hd := div_in (k := (k - 2).toNat) hm.1 hm.2
    rw [and3 _ hd.1 (by omega)]
    go_ret
    refine ⟨K.ret_int ?_, rfl⟩
    unfold bkt
    rw [if_neg (by omega), Hlg.out]
    simp only [wrap64]
    omega
/-- A bucket's top. -/
def tpp (b : Int) : Int := if b < 16 then b else K.mn ((5 + (b - 16) % 4) * 2 ^ (2 + (b - 16) / 4).toNat - 1) 1048576
def eTop (b : Int) : Int := if 0 ≤ b ∧ b < 81 then 0 else 4
def oTop (b : Int) : Int := if 0 ≤ b ∧ b < 81 then tpp b else 0
theorem tpp_of {b : Int} (h : 16 ≤ b) : tpp b = K.mn ((5 + (b - 16) % 4) * 2 ^ (2 + (b - 16) / 4).toNat - 1) 1048576 := by unfold tpp; rw [if_neg (by omega)]
theorem pow_in {q : Int} (h0 : 0 ≤ q) (h1 : q ≤ 16) : (4 : Int) ≤ 2 ^ (2 + q).toNat ∧ (2 : Int) ^ (2 + q).toNat ≤ 262144 := by
  have a : 2 ^ 2 ≤ 2 ^ (2 + q).toNat := Nat.pow_le_pow_right (by omega) (by omega)
  have b : 2 ^ (2 + q).toNat ≤ 2 ^ 18 := Nat.pow_le_pow_right (by omega) (by omega)
  have e : (2 : Int) ^ (2 + q).toNat = ((2 ^ (2 + q).toNat : Nat) : Int) := by simp
  rw [e]
  omega
theorem mul_in {p x : Int} (h0 : 0 ≤ p) (h1 : p ≤ 3) (hx0 : 4 ≤ x) (hx1 : x ≤ 262144) : 20 ≤ (5 + p) * x ∧ (5 + p) * x ≤ 2097152 := by
  have a : (5 + p) * 4 ≤ (5 + p) * x := Int.mul_le_mul_of_nonneg_left hx0 (by omega)
  have b : (5 + p) * x ≤ (5 + p) * 262144 := Int.mul_le_mul_of_nonneg_left hx1 (by omega)
  omega
set_option maxRecDepth 100000 in
set_option maxHeartbeats 2000000 in
theorem Top_c (b : Int) (w : World) : Calls Try.prog 31 #[.int .i64 b] w fun e w' => e = .returned (.tuple #[.int .i64 (oTop b), .int .i64 (eTop b)]) ∧ w' = w := by
  by_cases h : 0 ≤ b ∧ b < 81
  · rw [show eTop b = 0 by simp [eTop, h], show oTop b = tpp b by simp [oTop, h]]
    obtain ⟨h0, h1⟩ := h
    by_cases hb : b < 16
    · have e : tpp b = b := by simp [tpp, hb]
      rw [e]
      clear e
      go_enter Try.func31, Try.ntmps31
      go_wp2
      all_goals first | (exfalso; omega) | (go_ret2; exact ⟨rfl, rfl⟩)
    · have hq : (b - 16).tdiv 4 = (b - 16) / 4 := Int.tdiv_eq_ediv_of_nonneg (by omega)
      have hx := pow_in (q := (b - 16) / 4) (by omega) (by omega)
      have hz := mul_in (p := (b - 16) % 4) (by omega) (by omega) hx.1 hx.2
      rw [tpp_of (by omega)]
      go_enter Try.func31, Try.ntmps31
      go_wp2
      all_goals first
        | (exfalso; omega)
        | (go_ret2
           refine ⟨?_, rfl⟩
           (try rw [hq])
           rw [show 4 + (b - 16) / 4 - 2 = 2 + (b - 16) / 4 by omega, show 4 + (b - 16) % 4 + 1 = 5 + (b - 16) % 4 by omega]
           generalize (5 + (b - 16) % 4) * 2 ^ (2 + (b - 16) / 4).toNat = z at *
           rw [show wrap64 (wrap64 z - 1) = z - 1 by simp only [wrap64]; omega]
           rfl)
  · rw [show eTop b = 4 by simp [eTop, h], show oTop b = 0 by simp [oTop, h]]
    go_enter Try.func31, Try.ntmps31
    go_wp2
    all_goals first | (exfalso; omega) | (go_ret2; exact ⟨rfl, rfl⟩)
theorem pow4 {q : Int} (h : 0 ≤ q) : (2 : Int) ^ (4 + q).toNat = 4 * 2 ^ (2 + q).toNat := by
  rw [show (4 + q).toNat = (2 + q).toNat + 2 by omega, Int.pow_add]
  omega
theorem mul_in1 {p x : Int} (h0 : 0 ≤ p) (h1 : p ≤ 3) (hx0 : 4 ≤ x) (hx1 : x ≤ 262144) : 4 ≤ (p + 1) * x ∧ (p + 1) * x ≤ 1048576 := by
  have a : (p + 1) * 4 ≤ (p + 1) * x := Int.mul_le_mul_of_nonneg_left hx0 (by omega)
  have b : (p + 1) * x ≤ (p + 1) * 262144 := Int.mul_le_mul_of_nonneg_left hx1 (by omega)
  omega
theorem rTop_eq {b : Int} (h16 : 16 ≤ b) (h : b < 80) : tpp b = 2 ^ (4 + (b - 16) / 4).toNat + ((b - 16) % 4 + 1) * 2 ^ (2 + (b - 16) / 4).toNat - 1 := by
  have hx := pow_in (q := (b - 16) / 4) (by omega) (by omega)
  rw [tpp_of h16]
  have e : (2 : Int) ^ (4 + (b - 16) / 4).toNat = 4 * 2 ^ (2 + (b - 16) / 4).toNat := by
    rw [show (4 + (b - 16) / 4).toNat = (2 + (b - 16) / 4).toNat + 2 by omega, Int.pow_add]
    omega
  have h5 : (b - 16) / 4 ≤ 15 := by omega
  have hx2 : (2 : Int) ^ (2 + (b - 16) / 4).toNat ≤ 131072 := by
    have a : 2 ^ (2 + (b - 16) / 4).toNat ≤ 2 ^ 17 := Nat.pow_le_pow_right (by omega) (by omega)
    have e : (2 : Int) ^ (2 + (b - 16) / 4).toNat = ((2 ^ (2 + (b - 16) / 4).toNat : Nat) : Int) := by simp
    rw [e]; omega
  rw [e]
  generalize (2 : Int) ^ (2 + (b - 16) / 4).toNat = x at *
  have e2 : (5 + (b - 16) % 4) * x = 4 * x + ((b - 16) % 4 + 1) * x := by rw [← Int.add_mul]; congr 1; omega
  have hp : 0 ≤ (b - 16) % 4 ∧ (b - 16) % 4 ≤ 3 := by omega
  have e3 : (5 + (b - 16) % 4) * x ≤ 8 * x := Int.mul_le_mul_of_nonneg_right (by omega) (by omega)
  rw [e2] at e3 ⊢
  unfold K.mn
  rw [if_neg (by omega)]
set_option maxRecDepth 100000 in
set_option maxHeartbeats 2000000 in
theorem rTop_c (b : Int) (w : World) : Calls Try.prog 40 #[.int .i64 b] w fun e w' => e = .returned (.tuple #[.int .i64 (oTop b), .int .i64 (eTop b)]) ∧ Below w.heap.size w w' := by
  by_cases h : 0 ≤ b ∧ b < 81
  · rw [show eTop b = 0 by simp [eTop, h], show oTop b = tpp b by simp [oTop, h]]
    obtain ⟨h0, h1⟩ := h
    by_cases hb : b < 16
    · have e : tpp b = b := by simp [tpp, hb]
      rw [e]
      clear e
      go_enter Try.func40, Try.ntmps40
      go_wp2
      all_goals first | (exfalso; omega) | (go_ret2; exact ⟨rfl, (by repeat (first | (with_reducible exact Below.refl _ _) | (with_reducible refine K.b_bel ?_ (by assumption)) | (with_reducible refine K.b_alloc ?_ _) | (with_reducible refine K.b_drewN ?_ _) | (with_reducible refine K.b_drew ?_) | (with_reducible refine K.b_set ?_ (by first | omega | (simp <;> omega)) _) | (with_reducible refine K.b_only ?_ (by assumption) (by first | omega | (simp <;> omega)))))⟩)
    · by_cases h80 : b = 80
      · subst h80
        rw [show tpp 80 = 1048576 by decide]
        go_enter Try.func40, Try.ntmps40
        go_wp2
        all_goals first | (exfalso; omega) | (go_ret2; exact ⟨rfl, (by repeat (first | (with_reducible exact Below.refl _ _) | (with_reducible refine K.b_bel ?_ (by assumption)) | (with_reducible refine K.b_alloc ?_ _) | (with_reducible refine K.b_drewN ?_ _) | (with_reducible refine K.b_drew ?_) | (with_reducible refine K.b_set ?_ (by first | omega | (simp <;> omega)) _) | (with_reducible refine K.b_only ?_ (by assumption) (by first | omega | (simp <;> omega)))))⟩)
      · have hq : (b - 16).tdiv 4 = (b - 16) / 4 := Int.tdiv_eq_ediv_of_nonneg (by omega)
        have hx := pow_in (q := (b - 16) / 4) (by omega) (by omega)
        have hz := mul_in (p := (b - 16) % 4) (by omega) (by omega) hx.1 hx.2
        have hne : (b == 80) = false := by simpa using h80
        rw [rTop_eq (by omega) (by omega)]
        go_enter Try.func40, Try.ntmps40
        have hn1 : ¬ 4 + (b - 16) / 4 < 0 := by omega
        have hn2 : ¬ 2 + (b - 16) / 4 < 0 := by omega
        go_wp2
        go_region
        go_wp2
        go_ret2
        refine ⟨?_, (by repeat (first | (with_reducible exact Below.refl _ _) | (with_reducible refine K.b_bel ?_ (by assumption)) | (with_reducible refine K.b_alloc ?_ _) | (with_reducible refine K.b_drewN ?_ _) | (with_reducible refine K.b_drew ?_) | (with_reducible refine K.b_set ?_ (by first | omega | (simp <;> omega)) _) | (with_reducible refine K.b_only ?_ (by assumption) (by first | omega | (simp <;> omega)))))⟩
        have hE := pow4 (q := (b - 16) / 4) (by omega)
        have hY := mul_in1 (p := (b - 16) % 4) (by omega) (by omega) hx.1 hx.2
        rw [show 4 + (b - 16) / 4 - 2 = 2 + (b - 16) / 4 by omega]
        generalize (2 : Int) ^ (4 + (b - 16) / 4).toNat = E at *
        generalize ((b - 16) % 4 + 1) * (2 : Int) ^ (2 + (b - 16) / 4).toNat = Y at *
        rw [show wrap64 (wrap64 (wrap64 E + wrap64 Y) - 1) = E + Y - 1 by simp only [wrap64]; omega]
        rfl
  · rw [show eTop b = 4 by simp [eTop, h], show oTop b = 0 by simp [oTop, h]]
    go_enter Try.func40, Try.ntmps40
    go_wp2
    all_goals first | (exfalso; omega) | (go_ret2; exact ⟨rfl, (by repeat (first | (with_reducible exact Below.refl _ _) | (with_reducible refine K.b_bel ?_ (by assumption)) | (with_reducible refine K.b_alloc ?_ _) | (with_reducible refine K.b_drewN ?_ _) | (with_reducible refine K.b_drew ?_) | (with_reducible refine K.b_set ?_ (by first | omega | (simp <;> omega)) _) | (with_reducible refine K.b_only ?_ (by assumption) (by first | omega | (simp <;> omega)))))⟩)
theorem lg_spec {n : Int} (h0 : 16 ≤ n) (h1 : n ≤ 1048576) : ((2 ^ (lg n).toNat : Nat) : Int) ≤ n ∧ n < ((2 ^ ((lg n).toNat + 1) : Nat) : Int) := by
  rcases lg_cases h0 h1 with h | h | h | h | h | h | h | h | h | h | h | h | h | h | h | h | h
  · rw [lg_of 4 (by omega) (by omega) (by omega)]; exact h
  · rw [lg_of 5 (by omega) (by omega) (by omega)]; exact h
  · rw [lg_of 6 (by omega) (by omega) (by omega)]; exact h
  · rw [lg_of 7 (by omega) (by omega) (by omega)]; exact h
  · rw [lg_of 8 (by omega) (by omega) (by omega)]; exact h
  · rw [lg_of 9 (by omega) (by omega) (by omega)]; exact h
  · rw [lg_of 10 (by omega) (by omega) (by omega)]; exact h
  · rw [lg_of 11 (by omega) (by omega) (by omega)]; exact h
  · rw [lg_of 12 (by omega) (by omega) (by omega)]; exact h
  · rw [lg_of 13 (by omega) (by omega) (by omega)]; exact h
  · rw [lg_of 14 (by omega) (by omega) (by omega)]; exact h
  · rw [lg_of 15 (by omega) (by omega) (by omega)]; exact h
  · rw [lg_of 16 (by omega) (by omega) (by omega)]; exact h
  · rw [lg_of 17 (by omega) (by omega) (by omega)]; exact h
  · rw [lg_of 18 (by omega) (by omega) (by omega)]; exact h
  · rw [lg_of 19 (by omega) (by omega) (by omega)]; exact h
  · rw [lg_of 20 (by omega) (by omega) (by omega)]; exact h
theorem lg_lt {n : Int} {k : Nat} (h0 : 16 ≤ n) (h1 : n ≤ 1048576) (hk : k ≤ 20) : (2 : Int) * 2 ^ k ≤ n ↔ (k : Int) < lg n := by
  have hs := lg_spec h0 h1
  have hl := lg_in h0 h1
  have e : (2 : Int) * 2 ^ k = ((2 ^ (k + 1) : Nat) : Int) := by rw [Nat.pow_succ]; simp [Int.mul_comm]
  rw [e]
  constructor
  · intro h
    apply Classical.byContradiction
    intro hn
    have : 2 ^ ((lg n).toNat + 1) ≤ 2 ^ (k + 1) := Nat.pow_le_pow_right (by omega) (by omega)
    omega
  · intro h
    have : 2 ^ (k + 1) ≤ 2 ^ (lg n).toNat := Nat.pow_le_pow_right (by omega) (by omega)
    omega
def eBkt (n : Int) : Int := if n < 0 then 4 else 0
def oBkt (n : Int) : Int := if n < 0 then 0 else bkt (K.mn n 1048576)
set_option maxRecDepth 100000 in
set_option maxHeartbeats 2000000 in
theorem Bucket_c (n : Int) (w : World) : Calls Try.prog 29 #[.int .i64 n] w fun e w' => e = .returned (.tuple #[.int .i64 (oBkt n), .int .i64 (eBkt n)]) ∧ w' = w := by
  by_cases h : n < 0
  · rw [show eBkt n = 4 by simp [eBkt, h], show oBkt n = 0 by simp [oBkt, h]]
    go_enter Try.func29, Try.ntmps29
    go_wp2
    go_ret2
    exact ⟨rfl, rfl⟩
  · rw [show eBkt n = 0 by simp [eBkt, h], show oBkt n = bkt (K.mn n 1048576) by simp [oBkt, h]]
    have GB := K.H.mk (fun W => bucket_c n W (by omega))
    generalize bkt (K.mn n 1048576) = m at *
    go_enter Try.func29, Try.ntmps29
    go_wp2_with (go_at_call 48; (with_reducible refine (GB.out _).mono ?_); rintro e w' ⟨rfl, hw'⟩; have hw'2 := Eq.symm hw'; clear hw'; subst hw'2)
    go_ret2
    exact ⟨rfl, rfl⟩
set_option maxRecDepth 100000 in
set_option maxHeartbeats 2000000 in
theorem rBucket_c (n : Int) (w : World) : Calls Try.prog 34 #[.int .i64 n] w fun e w' => e = .returned (.tuple #[.int .i64 (oBkt n), .int .i64 (eBkt n)]) ∧ w' = w := by
  by_cases h : n < 0
  · rw [show eBkt n = 4 by simp [eBkt, h], show oBkt n = 0 by simp [oBkt, h]]
    go_enter Try.func34, Try.ntmps34
    go_wp2
    go_ret2
    exact ⟨rfl, rfl⟩
  · rw [show eBkt n = 0 by simp [eBkt, h], show oBkt n = bkt (K.mn n 1048576) by simp [oBkt, h]]
    have hm : 0 ≤ K.mn n 1048576 ∧ K.mn n 1048576 ≤ 1048576 := by unfold K.mn; split <;> omega
    obtain ⟨m, hmn⟩ : ∃ m, K.mn n 1048576 = m := ⟨_, rfl⟩
    rw [hmn] at hm ⊢
    by_cases h16 : m < 16
    · have e : bkt m = m := by simp [bkt, h16]
      rw [e]
      clear e
      go_enter Try.func34, Try.ntmps34
      go_wp2
      go_ret2
      exact ⟨rfl, rfl⟩
    · have hl := lg_in (n := m) (by omega) hm.2
      have HL := K.H.mk (fun k hk => lg_lt (n := m) (k := k) (by omega) hm.2 hk)
      have Hb := K.H.mk (show bkt m = 16 + 4 * (lg m - 4) + m / 2 ^ (lg m - 2).toNat % 4 by unfold bkt; rw [if_neg h16])
      generalize hlg : lg m = g at *
      have Hlg := K.H.mk hlg
      clear hlg
      go_enter Try.func34, Try.ntmps34
      go_wp2
      go_loop [4] (fun i => ∃ k : Nat, (k : Int) ≤ g ∧ 4 ≤ k ∧ i = .int .i64 k) (fun i => 20 - (intOf i).toNat)
      case atStart => exact ⟨4, by omega, by omega, rfl⟩
      case round =>
        obtain ⟨k, hk, hk4, rfl⟩ := hrel
        have hk20 : k ≤ 20 := by omega
        have hlt := HL.out k hk20
        have hpw : IntKind.i64.wrap (2 * 2 ^ k) = 2 * 2 ^ k := by
          have a : 2 ^ k ≤ 2 ^ 20 := Nat.pow_le_pow_right (by omega) hk20
          have e : (2 : Int) ^ k = ((2 ^ k : Nat) : Int) := by simp
          rw [e]
          obtain ⟨P, hP⟩ : ∃ P : Nat, P = 2 ^ k := ⟨_, rfl⟩
          rw [← hP] at a ⊢
          exact K.i64_in (by omega) (by omega)
        by_cases hkg : (k : Int) < g
        · have hd : decide ((2 : Int) * 2 ^ k ≤ m) = true := by simpa using hlt.2 hkg
          clear hlt
          go_wp2
          go_round
          case rel => exact ⟨k + 1, by omega, by omega, by go_num⟩
          case measure => simp [intOf]; omega
        · have hd : decide ((2 : Int) * 2 ^ k ≤ m) = false := by simpa using fun h => hkg (hlt.1 h)
          clear hlt
          go_wp2
          go_ret2
          refine ⟨?_, rfl⟩
          have hdv := div_in (k := k - 2) hm.1 hm.2
          rw [Hb.out, show (g - 2).toNat = k - 2 by omega, show g = k by omega, Int.tmod_eq_emod_of_nonneg hdv.1]
          rw [show wrap64 (16 + 4 * ((k : Int) - 4) + m / 2 ^ (k - 2) % 4) = 16 + 4 * ((k : Int) - 4) + m / 2 ^ (k - 2) % 4 by simp only [wrap64]; omega]
          rfl
end Go.Proofs.Ytimdfnhagjlkoaa.Hst
