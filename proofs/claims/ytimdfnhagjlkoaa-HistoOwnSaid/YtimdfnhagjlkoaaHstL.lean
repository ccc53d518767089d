/- HistoBuckets: the plain law, and the walk. -/
import Derived.Test.YtimdfnhagjlkoaaHst
set_option linter.unusedVariables false
namespace Go.Proofs.Ytimdfnhagjlkoaa.Hst
open Go.RowKit Go.Proofs.Ytimdfnhagjlkoaa
attribute [local go_sem] K.max2_int K.min2_int K.max_two K.min_two K.max_three K.min_three
set_option linter.unusedSimpArgs false
theorem law_4 {m : Int} (h0 : 16 ≤ m) (h1 : m < 32) (hm : m ≤ 1048576) : (0 ≤ bkt m ∧ bkt m < 81) ∧ m ≤ tpp (bkt m) ∧ 4 * (tpp (bkt m) - m) ≤ m ∧ 1 ≤ bkt m ∧ tpp (bkt m - 1) < m := by
  have hb := bkt_of 4 (by omega) (by omega) h0 h1
  have hb : bkt m = 16 + 4 * (4 - 4) + m / 4 % 4 := by simpa using hb
  generalize bkt m = b at *
  have e1 : tpp b = K.mn ((5 + (b - 16) % 4) * 4 - 1) 1048576 := by
    rw [tpp_of (by omega), show (2 + (b - 16) / 4).toNat = 2 by omega]
    rfl
  have e2 : tpp (b - 1) < m := by
    by_cases hp : (b - 16) % 4 = 0
    · rw [show b - 1 = 15 by omega, show tpp 15 = 15 by decide]; omega
    · rw [tpp_of (by omega), show (2 + (b - 1 - 16) / 4).toNat = 2 by omega, show (2 : Int) ^ 2 = 4 by decide]
      unfold K.mn
      split <;> omega
  refine ⟨by omega, ?_, ?_, by omega, e2⟩
  · rw [e1]; unfold K.mn; split <;> omega
  · rw [e1]; unfold K.mn; split <;> omega
theorem law_5 {m : Int} (h0 : 32 ≤ m) (h1 : m < 64) (hm : m ≤ 1048576) : (0 ≤ bkt m ∧ bkt m < 81) ∧ m ≤ tpp (bkt m) ∧ 4 * (tpp (bkt m) - m) ≤ m ∧ 1 ≤ bkt m ∧ tpp (bkt m - 1) < m := by
  have hb := bkt_of 5 (by omega) (by omega) h0 h1
  have hb : bkt m = 16 + 4 * (5 - 4) + m / 8 % 4 := by simpa using hb
  generalize bkt m = b at *
  have e1 : tpp b = K.mn ((5 + (b - 16) % 4) * 8 - 1) 1048576 := by
    rw [tpp_of (by omega), show (2 + (b - 16) / 4).toNat = 3 by omega]
    rfl
  have e2 : tpp (b - 1) < m := by
    by_cases hp : (b - 16) % 4 = 0
    · rw [tpp_of (by omega), show (2 + (b - 1 - 16) / 4).toNat = 2 by omega, show (2 : Int) ^ 2 = 4 by decide]
      unfold K.mn
      split <;> omega
    · rw [tpp_of (by omega), show (2 + (b - 1 - 16) / 4).toNat = 3 by omega, show (2 : Int) ^ 3 = 8 by decide]
      unfold K.mn
      split <;> omega
  refine ⟨by omega, ?_, ?_, by omega, e2⟩
  · rw [e1]; unfold K.mn; split <;> omega
  · rw [e1]; unfold K.mn; split <;> omega
theorem law_6 {m : Int} (h0 : 64 ≤ m) (h1 : m < 128) (hm : m ≤ 1048576) : (0 ≤ bkt m ∧ bkt m < 81) ∧ m ≤ tpp (bkt m) ∧ 4 * (tpp (bkt m) - m) ≤ m ∧ 1 ≤ bkt m ∧ tpp (bkt m - 1) < m := by
  have hb := bkt_of 6 (by omega) (by omega) h0 h1
  have hb : bkt m = 16 + 4 * (6 - 4) + m / 16 % 4 := by simpa using hb
  generalize bkt m = b at *
  have e1 : tpp b = K.mn ((5 + (b - 16) % 4) * 16 - 1) 1048576 := by
    rw [tpp_of (by omega), show (2 + (b - 16) / 4).toNat = 4 by omega]
    rfl
  have e2 : tpp (b - 1) < m := by
    by_cases hp : (b - 16) % 4 = 0
    · rw [tpp_of (by omega), show (2 + (b - 1 - 16) / 4).toNat = 3 by omega, show (2 : Int) ^ 3 = 8 by decide]
      unfold K.mn
      split <;> omega
    · rw [tpp_of (by omega), show (2 + (b - 1 - 16) / 4).toNat = 4 by omega, show (2 : Int) ^ 4 = 16 by decide]
      unfold K.mn
      split <;> omega
  refine ⟨by omega, ?_, ?_, by omega, e2⟩
  · rw [e1]; unfold K.mn; split <;> omega
  · rw [e1]; unfold K.mn; split <;> omega
theorem law_7 {m : Int} (h0 : 128 ≤ m) (h1 : m < 256) (hm : m ≤ 1048576) : (0 ≤ bkt m ∧ bkt m < 81) ∧ m ≤ tpp (bkt m) ∧ 4 * (tpp (bkt m) - m) ≤ m ∧ 1 ≤ bkt m ∧ tpp (bkt m - 1) < m := by
  have hb := bkt_of 7 (by omega) (by omega) h0 h1
  have hb : bkt m = 16 + 4 * (7 - 4) + m / 32 % 4 := by simpa using hb
  generalize bkt m = b at *
  have e1 : tpp b = K.mn ((5 + (b - 16) % 4) * 32 - 1) 1048576 := by
    rw [tpp_of (by omega), show (2 + (b - 16) / 4).toNat = 5 by omega]
    rfl
  have e2 : tpp (b - 1) < m := by
    by_cases hp : (b - 16) % 4 = 0
    · rw [tpp_of (by omega), show (2 + (b - 1 - 16) / 4).toNat = 4 by omega, show (2 : Int) ^ 4 = 16 by decide]
      unfold K.mn
      split <;> omega
    · rw [tpp_of (by omega), show (2 + (b - 1 - 16) / 4).toNat = 5 by omega, show (2 : Int) ^ 5 = 32 by decide]
      unfold K.mn
      split <;> omega
  refine ⟨by omega, ?_, ?_, by omega, e2⟩
  · rw [e1]; unfold K.mn; split <;> omega
  · rw [e1]; unfold K.mn; split <;> omega
theorem law_8 {m : Int} (h0 : 256 ≤ m) (h1 : m < 512) (hm : m ≤ 1048576) : (0 ≤ bkt m ∧ bkt m < 81) ∧ m ≤ tpp (bkt m) ∧ 4 * (tpp (bkt m) - m) ≤ m ∧ 1 ≤ bkt m ∧ tpp (bkt m - 1) < m := by
  have hb := bkt_of 8 (by omega) (by omega) h0 h1
  have hb : bkt m = 16 + 4 * (8 - 4) + m / 64 % 4 := by simpa using hb
  generalize bkt m = b at *
  have e1 : tpp b = K.mn ((5 + (b - 16) % 4) * 64 - 1) 1048576 := by
    rw [tpp_of (by omega), show (2 + (b - 16) / 4).toNat = 6 by omega]
    rfl
  have e2 : tpp (b - 1) < m := by
    by_cases hp : (b - 16) % 4 = 0
    · rw [tpp_of (by omega), show (2 + (b - 1 - 16) / 4).toNat = 5 by omega, show (2 : Int) ^ 5 = 32 by decide]
      unfold K.mn
      split <;> omega
    · rw [tpp_of (by omega), show (2 + (b - 1 - 16) / 4).toNat = 6 by omega, show (2 : Int) ^ 6 = 64 by decide]
      unfold K.mn
      split <;> omega
  refine ⟨by omega, ?_, ?_, by omega, e2⟩
  · rw [e1]; unfold K.mn; split <;> omega
  · rw [e1]; unfold K.mn; split <;> omega
theorem law_9 {m : Int} (h0 : 512 ≤ m) (h1 : m < 1024) (hm : m ≤ 1048576) : (0 ≤ bkt m ∧ bkt m < 81) ∧ m ≤ tpp (bkt m) ∧ 4 * (tpp (bkt m) - m) ≤ m ∧ 1 ≤ bkt m ∧ tpp (bkt m - 1) < m := by
  have hb := bkt_of 9 (by omega) (by omega) h0 h1
  have hb : bkt m = 16 + 4 * (9 - 4) + m / 128 % 4 := by simpa using hb
  generalize bkt m = b at *
  have e1 : tpp b = K.mn ((5 + (b - 16) % 4) * 128 - 1) 1048576 := by
    rw [tpp_of (by omega), show (2 + (b - 16) / 4).toNat = 7 by omega]
    rfl
  have e2 : tpp (b - 1) < m := by
    by_cases hp : (b - 16) % 4 = 0
    · rw [tpp_of (by omega), show (2 + (b - 1 - 16) / 4).toNat = 6 by omega, show (2 : Int) ^ 6 = 64 by decide]
      unfold K.mn
      split <;> omega
    · rw [tpp_of (by omega), show (2 + (b - 1 - 16) / 4).toNat = 7 by omega, show (2 : Int) ^ 7 = 128 by decide]
      unfold K.mn
      split <;> omega
  refine ⟨by omega, ?_, ?_, by omega, e2⟩
  · rw [e1]; unfold K.mn; split <;> omega
  · rw [e1]; unfold K.mn; split <;> omega
theorem law_10 {m : Int} (h0 : 1024 ≤ m) (h1 : m < 2048) (hm : m ≤ 1048576) : (0 ≤ bkt m ∧ bkt m < 81) ∧ m ≤ tpp (bkt m) ∧ 4 * (tpp (bkt m) - m) ≤ m ∧ 1 ≤ bkt m ∧ tpp (bkt m - 1) < m := by
  have hb := bkt_of 10 (by omega) (by omega) h0 h1
  have hb : bkt m = 16 + 4 * (10 - 4) + m / 256 % 4 := by simpa using hb
  generalize bkt m = b at *
  have e1 : tpp b = K.mn ((5 + (b - 16) % 4) * 256 - 1) 1048576 := by
    rw [tpp_of (by omega), show (2 + (b - 16) / 4).toNat = 8 by omega]
    rfl
  have e2 : tpp (b - 1) < m := by
    by_cases hp : (b - 16) % 4 = 0
    · rw [tpp_of (by omega), show (2 + (b - 1 - 16) / 4).toNat = 7 by omega, show (2 : Int) ^ 7 = 128 by decide]
      unfold K.mn
      split <;> omega
    · rw [tpp_of (by omega), show (2 + (b - 1 - 16) / 4).toNat = 8 by omega, show (2 : Int) ^ 8 = 256 by decide]
      unfold K.mn
      split <;> omega
  refine ⟨by omega, ?_, ?_, by omega, e2⟩
  · rw [e1]; unfold K.mn; split <;> omega
  · rw [e1]; unfold K.mn; split <;> omega
theorem law_11 {m : Int} (h0 : 2048 ≤ m) (h1 : m < 4096) (hm : m ≤ 1048576) : (0 ≤ bkt m ∧ bkt m < 81) ∧ m ≤ tpp (bkt m) ∧ 4 * (tpp (bkt m) - m) ≤ m ∧ 1 ≤ bkt m ∧ tpp (bkt m - 1) < m := by
  have hb := bkt_of 11 (by omega) (by omega) h0 h1
  have hb : bkt m = 16 + 4 * (11 - 4) + m / 512 % 4 := by simpa using hb
  generalize bkt m = b at *
  have e1 : tpp b = K.mn ((5 + (b - 16) % 4) * 512 - 1) 1048576 := by
    rw [tpp_of (by omega), show (2 + (b - 16) / 4).toNat = 9 by omega]
    rfl
  have e2 : tpp (b - 1) < m := by
    by_cases hp : (b - 16) % 4 = 0
    · rw [tpp_of (by omega), show (2 + (b - 1 - 16) / 4).toNat = 8 by omega, show (2 : Int) ^ 8 = 256 by decide]
      unfold K.mn
      split <;> omega
    · rw [tpp_of (by omega), show (2 + (b - 1 - 16) / 4).toNat = 9 by omega, show (2 : Int) ^ 9 = 512 by decide]
      unfold K.mn
      split <;> omega
  refine ⟨by omega, ?_, ?_, by omega, e2⟩
  · rw [e1]; unfold K.mn; split <;> omega
  · rw [e1]; unfold K.mn; split <;> omega
theorem law_12 {m : Int} (h0 : 4096 ≤ m) (h1 : m < 8192) (hm : m ≤ 1048576) : (0 ≤ bkt m ∧ bkt m < 81) ∧ m ≤ tpp (bkt m) ∧ 4 * (tpp (bkt m) - m) ≤ m ∧ 1 ≤ bkt m ∧ tpp (bkt m - 1) < m := by
  have hb := bkt_of 12 (by omega) (by omega) h0 h1
  have hb : bkt m = 16 + 4 * (12 - 4) + m / 1024 % 4 := by simpa using hb
  generalize bkt m = b at *
  have e1 : tpp b = K.mn ((5 + (b - 16) % 4) * 1024 - 1) 1048576 := by
    rw [tpp_of (by omega), show (2 + (b - 16) / 4).toNat = 10 by omega]
    rfl
  have e2 : tpp (b - 1) < m := by
    by_cases hp : (b - 16) % 4 = 0
    · rw [tpp_of (by omega), show (2 + (b - 1 - 16) / 4).toNat = 9 by omega, show (2 : Int) ^ 9 = 512 by decide]
      unfold K.mn
      split <;> omega
    · rw [tpp_of (by omega), show (2 + (b - 1 - 16) / 4).toNat = 10 by omega, show (2 : Int) ^ 10 = 1024 by decide]
      unfold K.mn
      split <;> omega
  refine ⟨by omega, ?_, ?_, by omega, e2⟩
  · rw [e1]; unfold K.mn; split <;> omega
  · rw [e1]; unfold K.mn; split <;> omega
theorem law_13 {m : Int} (h0 : 8192 ≤ m) (h1 : m < 16384) (hm : m ≤ 1048576) : (0 ≤ bkt m ∧ bkt m < 81) ∧ m ≤ tpp (bkt m) ∧ 4 * (tpp (bkt m) - m) ≤ m ∧ 1 ≤ bkt m ∧ tpp (bkt m - 1) < m := by
  have hb := bkt_of 13 (by omega) (by omega) h0 h1
  have hb : bkt m = 16 + 4 * (13 - 4) + m / 2048 % 4 := by simpa using hb
  generalize bkt m = b at *
  have e1 : tpp b = K.mn ((5 + (b - 16) % 4) * 2048 - 1) 1048576 := by
    rw [tpp_of (by omega), show (2 + (b - 16) / 4).toNat = 11 by omega]
    rfl
  have e2 : tpp (b - 1) < m := by
    by_cases hp : (b - 16) % 4 = 0
    · rw [tpp_of (by omega), show (2 + (b - 1 - 16) / 4).toNat = 10 by omega, show (2 : Int) ^ 10 = 1024 by decide]
      unfold K.mn
      split <;> omega
    · rw [tpp_of (by omega), show (2 + (b - 1 - 16) / 4).toNat = 11 by omega, show (2 : Int) ^ 11 = 2048 by decide]
      unfold K.mn
      split <;> omega
  refine ⟨by omega, ?_, ?_, by omega, e2⟩
  · rw [e1]; unfold K.mn; split <;> omega
  · rw [e1]; unfold K.mn; split <;> omega
theorem law_14 {m : Int} (h0 : 16384 ≤ m) (h1 : m < 32768) (hm : m ≤ 1048576) : (0 ≤ bkt m ∧ bkt m < 81) ∧ m ≤ tpp (bkt m) ∧ 4 * (tpp (bkt m) - m) ≤ m ∧ 1 ≤ bkt m ∧ tpp (bkt m - 1) < m := by
  have hb := bkt_of 14 (by omega) (by omega) h0 h1
  have hb : bkt m = 16 + 4 * (14 - 4) + m / 4096 % 4 := by simpa using hb
  generalize bkt m = b at *
  have e1 : tpp b = K.mn ((5 + (b - 16) % 4) * 4096 - 1) 1048576 := by
    rw [tpp_of (by omega), show (2 + (b - 16) / 4).toNat = 12 by omega]
    rfl
  have e2 : tpp (b - 1) < m := by
    by_cases hp : (b - 16) % 4 = 0
    · rw [tpp_of (by omega), show (2 + (b - 1 - 16) / 4).toNat = 11 by omega, show (2 : Int) ^ 11 = 2048 by decide]
      unfold K.mn
      split <;> omega
    · rw [tpp_of (by omega), show (2 + (b - 1 - 16) / 4).toNat = 12 by omega, show (2 : Int) ^ 12 = 4096 by decide]
      unfold K.mn
      split <;> omega
  refine ⟨by omega, ?_, ?_, by omega, e2⟩
  · rw [e1]; unfold K.mn; split <;> omega
  · rw [e1]; unfold K.mn; split <;> omega
theorem law_15 {m : Int} (h0 : 32768 ≤ m) (h1 : m < 65536) (hm : m ≤ 1048576) : (0 ≤ bkt m ∧ bkt m < 81) ∧ m ≤ tpp (bkt m) ∧ 4 * (tpp (bkt m) - m) ≤ m ∧ 1 ≤ bkt m ∧ tpp (bkt m - 1) < m := by
  have hb := bkt_of 15 (by omega) (by omega) h0 h1
  have hb : bkt m = 16 + 4 * (15 - 4) + m / 8192 % 4 := by simpa using hb
  generalize bkt m = b at *
  have e1 : tpp b = K.mn ((5 + (b - 16) % 4) * 8192 - 1) 1048576 := by
    rw [tpp_of (by omega), show (2 + (b - 16) / 4).toNat = 13 by omega]
    rfl
  have e2 : tpp (b - 1) < m := by
    by_cases hp : (b - 16) % 4 = 0
    · rw [tpp_of (by omega), show (2 + (b - 1 - 16) / 4).toNat = 12 by omega, show (2 : Int) ^ 12 = 4096 by decide]
      unfold K.mn
      split <;> omega
    · rw [tpp_of (by omega), show (2 + (b - 1 - 16) / 4).toNat = 13 by omega, show (2 : Int) ^ 13 = 8192 by decide]
      unfold K.mn
      split <;> omega
  refine ⟨by omega, ?_, ?_, by omega, e2⟩
  · rw [e1]; unfold K.mn; split <;> omega
  · rw [e1]; unfold K.mn; split <;> omega
theorem law_16 {m : Int} (h0 : 65536 ≤ m) (h1 : m < 131072) (hm : m ≤ 1048576) : (0 ≤ bkt m ∧ bkt m < 81) ∧ m ≤ tpp (bkt m) ∧ 4 * (tpp (bkt m) - m) ≤ m ∧ 1 ≤ bkt m ∧ tpp (bkt m - 1) < m := by
  have hb := bkt_of 16 (by omega) (by omega) h0 h1
  have hb : bkt m = 16 + 4 * (16 - 4) + m / 16384 % 4 := by simpa using hb
  generalize bkt m = b at *
  have e1 : tpp b = K.mn ((5 + (b - 16) % 4) * 16384 - 1) 1048576 := by
    rw [tpp_of (by omega), show (2 + (b - 16) / 4).toNat = 14 by omega]
    rfl
  have e2 : tpp (b - 1) < m := by
    by_cases hp : (b - 16) % 4 = 0
    · rw [tpp_of (by omega), show (2 + (b - 1 - 16) / 4).toNat = 13 by omega, show (2 : Int) ^ 13 = 8192 by decide]
      unfold K.mn
      split <;> omega
    · rw [tpp_of (by omega), show (2 + (b - 1 - 16) / 4).toNat = 14 by omega, show (2 : Int) ^ 14 = 16384 by decide]
      unfold K.mn
      split <;> omega
  refine ⟨by omega, ?_, ?_, by omega, e2⟩
  · rw [e1]; unfold K.mn; split <;> omega
  · rw [e1]; unfold K.mn; split <;> omega
theorem law_17 {m : Int} (h0 : 131072 ≤ m) (h1 : m < 262144) (hm : m ≤ 1048576) : (0 ≤ bkt m ∧ bkt m < 81) ∧ m ≤ tpp (bkt m) ∧ 4 * (tpp (bkt m) - m) ≤ m ∧ 1 ≤ bkt m ∧ tpp (bkt m - 1) < m := by
  have hb := bkt_of 17 (by omega) (by omega) h0 h1
  have hb : bkt m = 16 + 4 * (17 - 4) + m / 32768 % 4 := by simpa using hb
  generalize bkt m = b at *
  have e1 : tpp b = K.mn ((5 + (b - 16) % 4) * 32768 - 1) 1048576 := by
    rw [tpp_of (by omega), show (2 + (b - 16) / 4).toNat = 15 by omega]
    rfl
  have e2 : tpp (b - 1) < m := by
    by_cases hp : (b - 16) % 4 = 0
    · rw [tpp_of (by omega), show (2 + (b - 1 - 16) / 4).toNat = 14 by omega, show (2 : Int) ^ 14 = 16384 by decide]
      unfold K.mn
      split <;> omega
    · rw [tpp_of (by omega), show (2 + (b - 1 - 16) / 4).toNat = 15 by omega, show (2 : Int) ^ 15 = 32768 by decide]
      unfold K.mn
      split <;> omega
  refine ⟨by omega, ?_, ?_, by omega, e2⟩
  · rw [e1]; unfold K.mn; split <;> omega
  · rw [e1]; unfold K.mn; split <;> omega
theorem law_18 {m : Int} (h0 : 262144 ≤ m) (h1 : m < 524288) (hm : m ≤ 1048576) : (0 ≤ bkt m ∧ bkt m < 81) ∧ m ≤ tpp (bkt m) ∧ 4 * (tpp (bkt m) - m) ≤ m ∧ 1 ≤ bkt m ∧ tpp (bkt m - 1) < m := by
  have hb := bkt_of 18 (by omega) (by omega) h0 h1
  have hb : bkt m = 16 + 4 * (18 - 4) + m / 65536 % 4 := by simpa using hb
  generalize bkt m = b at *
  have e1 : tpp b = K.mn ((5 + (b - 16) % 4) * 65536 - 1) 1048576 := by
    rw [tpp_of (by omega), show (2 + (b - 16) / 4).toNat = 16 by omega]
    rfl
  have e2 : tpp (b - 1) < m := by
    by_cases hp : (b - 16) % 4 = 0
    · rw [tpp_of (by omega), show (2 + (b - 1 - 16) / 4).toNat = 15 by omega, show (2 : Int) ^ 15 = 32768 by decide]
      unfold K.mn
      split <;> omega
    · rw [tpp_of (by omega), show (2 + (b - 1 - 16) / 4).toNat = 16 by omega, show (2 : Int) ^ 16 = 65536 by decide]
      unfold K.mn
      split <;> omega
  refine ⟨by omega, ?_, ?_, by omega, e2⟩
  · rw [e1]; unfold K.mn; split <;> omega
  · rw [e1]; unfold K.mn; split <;> omega
theorem law_19 {m : Int} (h0 : 524288 ≤ m) (h1 : m < 1048576) (hm : m ≤ 1048576) : (0 ≤ bkt m ∧ bkt m < 81) ∧ m ≤ tpp (bkt m) ∧ 4 * (tpp (bkt m) - m) ≤ m ∧ 1 ≤ bkt m ∧ tpp (bkt m - 1) < m := by
  have hb := bkt_of 19 (by omega) (by omega) h0 h1
  have hb : bkt m = 16 + 4 * (19 - 4) + m / 131072 % 4 := by simpa using hb
  generalize bkt m = b at *
  have e1 : tpp b = K.mn ((5 + (b - 16) % 4) * 131072 - 1) 1048576 := by
    rw [tpp_of (by omega), show (2 + (b - 16) / 4).toNat = 17 by omega]
    rfl
  have e2 : tpp (b - 1) < m := by
    by_cases hp : (b - 16) % 4 = 0
    · rw [tpp_of (by omega), show (2 + (b - 1 - 16) / 4).toNat = 16 by omega, show (2 : Int) ^ 16 = 65536 by decide]
      unfold K.mn
      split <;> omega
    · rw [tpp_of (by omega), show (2 + (b - 1 - 16) / 4).toNat = 17 by omega, show (2 : Int) ^ 17 = 131072 by decide]
      unfold K.mn
      split <;> omega
  refine ⟨by omega, ?_, ?_, by omega, e2⟩
  · rw [e1]; unfold K.mn; split <;> omega
  · rw [e1]; unfold K.mn; split <;> omega
theorem law_20 {m : Int} (h0 : 1048576 ≤ m) (h1 : m < 2097152) (hm : m ≤ 1048576) : (0 ≤ bkt m ∧ bkt m < 81) ∧ m ≤ tpp (bkt m) ∧ 4 * (tpp (bkt m) - m) ≤ m ∧ 1 ≤ bkt m ∧ tpp (bkt m - 1) < m := by
  have hb := bkt_of 20 (by omega) (by omega) h0 h1
  have hb : bkt m = 16 + 4 * (20 - 4) + m / 262144 % 4 := by simpa using hb
  generalize bkt m = b at *
  have e1 : tpp b = K.mn ((5 + (b - 16) % 4) * 262144 - 1) 1048576 := by
    rw [tpp_of (by omega), show (2 + (b - 16) / 4).toNat = 18 by omega]
    rfl
  have e2 : tpp (b - 1) < m := by
    by_cases hp : (b - 16) % 4 = 0
    · rw [tpp_of (by omega), show (2 + (b - 1 - 16) / 4).toNat = 17 by omega, show (2 : Int) ^ 17 = 131072 by decide]
      unfold K.mn
      split <;> omega
    · rw [tpp_of (by omega), show (2 + (b - 1 - 16) / 4).toNat = 18 by omega, show (2 : Int) ^ 18 = 262144 by decide]
      unfold K.mn
      split <;> omega
  refine ⟨by omega, ?_, ?_, by omega, e2⟩
  · rw [e1]; unfold K.mn; split <;> omega
  · rw [e1]; unfold K.mn; split <;> omega
theorem law_big {m : Int} (h0 : 16 ≤ m) (hm : m ≤ 1048576) : (0 ≤ bkt m ∧ bkt m < 81) ∧ m ≤ tpp (bkt m) ∧ 4 * (tpp (bkt m) - m) ≤ m ∧ 1 ≤ bkt m ∧ tpp (bkt m - 1) < m := by
  rcases lg_cases h0 hm with h | h | h | h | h | h | h | h | h | h | h | h | h | h | h | h | h
  · exact law_4 h.1 h.2 hm
  · exact law_5 h.1 h.2 hm
  · exact law_6 h.1 h.2 hm
  · exact law_7 h.1 h.2 hm
  · exact law_8 h.1 h.2 hm
  · exact law_9 h.1 h.2 hm
  · exact law_10 h.1 h.2 hm
  · exact law_11 h.1 h.2 hm
  · exact law_12 h.1 h.2 hm
  · exact law_13 h.1 h.2 hm
  · exact law_14 h.1 h.2 hm
  · exact law_15 h.1 h.2 hm
  · exact law_16 h.1 h.2 hm
  · exact law_17 h.1 h.2 hm
  · exact law_18 h.1 h.2 hm
  · exact law_19 h.1 h.2 hm
  · exact law_20 h.1 h.2 hm
theorem law_small {m : Int} (h0 : 0 ≤ m) (h1 : m < 16) : bkt m = m ∧ tpp m = m := by
  unfold bkt tpp
  rw [if_pos h1, if_pos h1]
  exact ⟨rfl, rfl⟩
theorem tpp_small {m : Int} (h1 : m < 16) : tpp m = m := by unfold tpp; rw [if_pos h1]
/-- What the law asks of a number's bucket. -/
theorem law_all {m : Int} (h0 : 0 ≤ m) (hm : m ≤ 1048576) : (0 ≤ bkt m ∧ bkt m < 81) ∧ m ≤ tpp (bkt m) ∧ (m < 16 → tpp (bkt m) = m) ∧ 4 * (tpp (bkt m) - m) ≤ m ∧ (bkt m = 0 → m = 0) ∧ (bkt m ≠ 0 → tpp (bkt m - 1) < m) := by
  by_cases h : m < 16
  · obtain ⟨h2, h3⟩ := law_small h0 h
    rw [h2, h3]
    have h4 := tpp_small (m := m - 1) (by omega)
    rw [h4]
    omega
  · obtain ⟨a, b, c, d, e⟩ := law_big (by omega) hm
    exact ⟨a, b, fun hh => absurd hh h, c, fun hh => by omega, fun _ => e⟩
theorem num_c (a : Int) (w : World) : Calls Try.prog 30 #[.int .i64 a] w fun e w' => e = .returned (.int .i64 a) ∧ w' = w := by
  go_enter Try.func30, Try.ntmps30
  go_wp2
  go_ret
  exact ⟨rfl, rfl⟩
theorem alive_c (w : World) : Calls Try.prog 28 #[] w fun e w' => e = .returned (.bool true) ∧ Below w.heap.size w w' := by
  have h1 : ∀ W, Calls Try.prog 29 #[.int .i64 16] W fun e w' => e = .returned (.tuple #[.int .i64 16, .int .i64 0]) ∧ w' = W := fun W => by
    have h2 := Bucket_c 16 W
    rwa [show oBkt 16 = 16 by decide, show eBkt 16 = 0 by decide] at h2
  have h2 : ∀ W, Calls Try.prog 29 #[.int .i64 20] W fun e w' => e = .returned (.tuple #[.int .i64 17, .int .i64 0]) ∧ w' = W := fun W => by
    have h2 := Bucket_c 20 W
    rwa [show oBkt 20 = 17 by decide, show eBkt 20 = 0 by decide] at h2
  have h3 : ∀ W, Calls Try.prog 31 #[.int .i64 17] W fun e w' => e = .returned (.tuple #[.int .i64 23, .int .i64 0]) ∧ w' = W := fun W => by
    have h2 := Top_c 17 W
    rwa [show oTop 17 = 23 by decide, show eTop 17 = 0 by decide] at h2
  have G1 := K.H.mk h1
  have G2 := K.H.mk h2
  have G3 := K.H.mk h3
  clear h1 h2 h3
  go_enter Try.func28, Try.ntmps28
  go_wp2_with (first | (go_at_call 29; first | (go_at_call 29; (with_reducible refine (G1.out _).mono ?_); rintro e w' ⟨rfl, hw'⟩; have hw'2 := Eq.symm hw'; clear hw'; subst hw'2) | (go_at_call 29; (with_reducible refine (G2.out _).mono ?_); rintro e w' ⟨rfl, hw'⟩; have hw'2 := Eq.symm hw'; clear hw'; subst hw'2)) | (go_at_call 31; (with_reducible refine (G3.out _).mono ?_); rintro e w' ⟨rfl, hw'⟩; have hw'2 := Eq.symm hw'; clear hw'; subst hw'2) | (go_at_call 30; (with_reducible refine (num_c _ _).mono ?_); rintro e w' ⟨rfl, hw'⟩; have hw'2 := Eq.symm hw'; clear hw'; subst hw'2))
  go_ret
  exact ⟨rfl, (by repeat (first | (with_reducible exact Below.refl _ _) | (with_reducible refine K.b_bel ?_ (by assumption)) | (with_reducible refine K.b_alloc ?_ _) | (with_reducible refine K.b_drewN ?_ _) | (with_reducible refine K.b_drew ?_) | (with_reducible refine K.b_set ?_ (by first | omega | (simp <;> omega)) _) | (with_reducible refine K.b_only ?_ (by assumption) (by first | omega | (simp <;> omega)))))⟩
set_option maxRecDepth 100000 in
set_option maxHeartbeats 2000000 in
theorem Buckets_c (n : Int) (w : World) : Calls Try.prog 9 #[.int .i64 n] w fun e w' => e = .returned (.bool true) ∧ Below w.heap.size w w' := by
  by_cases h : n < 0
  · have GB := K.H.mk (fun W => Bucket_c n W)
    rw [show eBkt n = 4 by simp [eBkt, h], show oBkt n = 0 by simp [oBkt, h]] at GB
    go_enter Try.func9, Try.ntmps9
    go_wp2_with (first | (go_at_call 28; (with_reducible refine (alive_c _).mono ?_); rintro e W1 ⟨rfl, hb1⟩; obtain ⟨hB1, hC1, hF1, hZ1⟩ := K.bel_facts hb1; clear hb1) | (go_at_call 29; (with_reducible refine (GB.out _).mono ?_); rintro e w' ⟨rfl, hw'⟩; have hw'2 := Eq.symm hw'; clear hw'; subst hw'2) | (go_at_call 30; (with_reducible refine (num_c _ _).mono ?_); rintro e w' ⟨rfl, hw'⟩; have hw'2 := Eq.symm hw'; clear hw'; subst hw'2))
    go_ret
    exact ⟨rfl, (by repeat (first | (with_reducible exact Below.refl _ _) | (with_reducible refine K.b_bel ?_ (by assumption)) | (with_reducible refine K.b_alloc ?_ _) | (with_reducible refine K.b_drewN ?_ _) | (with_reducible refine K.b_drew ?_) | (with_reducible refine K.b_set ?_ (by first | omega | (simp <;> omega)) _) | (with_reducible refine K.b_only ?_ (by assumption) (by first | omega | (simp <;> omega)))))⟩
  · have GB := K.H.mk (fun W => Bucket_c n W)
    rw [show eBkt n = 0 by simp [eBkt, h], show oBkt n = bkt (K.mn n 1048576) by simp [oBkt, h]] at GB
    have hm : 0 ≤ K.mn n 1048576 ∧ K.mn n 1048576 ≤ 1048576 := by unfold K.mn; split <;> omega
    obtain ⟨m, hmn⟩ : ∃ m, K.mn n 1048576 = m := ⟨_, rfl⟩
    rw [hmn] at hm GB
    obtain ⟨⟨l1, l2⟩, l3, l4, l5, l6, l7⟩ := law_all hm.1 hm.2
    have GT := K.H.mk (fun W => Top_c (bkt m) W)
    have GS := K.H.mk (fun W => Top_c (bkt m - 1) W)
    rw [show eTop (bkt m) = 0 by unfold eTop; rw [if_pos ⟨l1, l2⟩], show oTop (bkt m) = tpp (bkt m) by unfold oTop; rw [if_pos ⟨l1, l2⟩]] at GT
    have GS2 : bkt m ≠ 0 → K.H (∀ W, Calls Try.prog 31 #[.int .i64 (bkt m - 1)] W fun e w' => e = .returned (.tuple #[.int .i64 (tpp (bkt m - 1)), .int .i64 0]) ∧ w' = W) := fun hb => by
      rw [show eTop (bkt m - 1) = 0 by unfold eTop; rw [if_pos (by omega)], show oTop (bkt m - 1) = tpp (bkt m - 1) by unfold oTop; rw [if_pos (by omega)]] at GS
      exact GS
    clear GS
    generalize tpp (bkt m - 1) = s at *
    generalize tpp (bkt m) = t at *
    generalize bkt m = b at *
    have c1 : decide (t < m) = false := by simp; omega
    have c2 : (t != m) = true → ¬ m < 16 := fun h1 h2 => by have := l4 h2; simp [this] at h1
    have c3 : decide (m < 4 * (t - m)) = false := by simp; omega
    have Hl4 := K.H.mk l4
    have HG := K.H.mk GS2
    have H67 := K.H.mk (And.intro l6 l7)
    clear l4 l6 l7 GS2 c2
    by_cases hb : b = 0
    · have hb0 : (b == 0) = true := by simpa using hb
      have hm0 : (m == 0) = true := by simpa using H67.out.1 hb
      have ht : (t != m) = false := by have := Hl4.out (by have := H67.out.1 hb; omega); simpa using this
      clear hb
      go_enter Try.func9, Try.ntmps9
      go_wp2_with (first | (go_at_call 28; (with_reducible refine (alive_c _).mono ?_); rintro e W1 ⟨rfl, hb1⟩; obtain ⟨hB1, hC1, hF1, hZ1⟩ := K.bel_facts hb1; clear hb1) | (go_at_call 29; (with_reducible refine (GB.out _).mono ?_); rintro e w' ⟨rfl, hw'⟩; have hw'2 := Eq.symm hw'; clear hw'; subst hw'2) | (go_at_call 31; (with_reducible refine (GT.out _).mono ?_); rintro e w' ⟨rfl, hw'⟩; have hw'2 := Eq.symm hw'; clear hw'; subst hw'2) | (go_at_call 30; (with_reducible refine (num_c _ _).mono ?_); rintro e w' ⟨rfl, hw'⟩; have hw'2 := Eq.symm hw'; clear hw'; subst hw'2))
      all_goals first | (exfalso; omega) | (go_ret; exact ⟨rfl, (by repeat (first | (with_reducible exact Below.refl _ _) | (with_reducible refine K.b_bel ?_ (by assumption)) | (with_reducible refine K.b_alloc ?_ _) | (with_reducible refine K.b_drewN ?_ _) | (with_reducible refine K.b_drew ?_) | (with_reducible refine K.b_set ?_ (by first | omega | (simp <;> omega)) _) | (with_reducible refine K.b_only ?_ (by assumption) (by first | omega | (simp <;> omega)))))⟩)
    · have hb0 : (b == 0) = false := by simpa using hb
      have GS := HG.out hb
      have hs := H67.out.2 hb
      have c4 : decide (s < m) = true := by simpa using hs
      clear HG
      by_cases h16 : m < 16
      · have ht : (t != m) = false := by have := Hl4.out h16; simpa using this
        clear hb
        go_enter Try.func9, Try.ntmps9
        go_wp2_with (first | (go_at_call 28; (with_reducible refine (alive_c _).mono ?_); rintro e W1 ⟨rfl, hb1⟩; obtain ⟨hB1, hC1, hF1, hZ1⟩ := K.bel_facts hb1; clear hb1) | (go_at_call 29; (with_reducible refine (GB.out _).mono ?_); rintro e w' ⟨rfl, hw'⟩; have hw'2 := Eq.symm hw'; clear hw'; subst hw'2) | (go_at_call 31; first | (go_at_call 31; (with_reducible refine (GT.out _).mono ?_); rintro e w' ⟨rfl, hw'⟩; have hw'2 := Eq.symm hw'; clear hw'; subst hw'2) | (go_at_call 31; (with_reducible refine (GS.out _).mono ?_); rintro e w' ⟨rfl, hw'⟩; have hw'2 := Eq.symm hw'; clear hw'; subst hw'2)) | (go_at_call 30; (with_reducible refine (num_c _ _).mono ?_); rintro e w' ⟨rfl, hw'⟩; have hw'2 := Eq.symm hw'; clear hw'; subst hw'2))
        all_goals first | (exfalso; omega) | (go_ret; exact ⟨rfl, (by repeat (first | (with_reducible exact Below.refl _ _) | (with_reducible refine K.b_bel ?_ (by assumption)) | (with_reducible refine K.b_alloc ?_ _) | (with_reducible refine K.b_drewN ?_ _) | (with_reducible refine K.b_drew ?_) | (with_reducible refine K.b_set ?_ (by first | omega | (simp <;> omega)) _) | (with_reducible refine K.b_only ?_ (by assumption) (by first | omega | (simp <;> omega)))))⟩)
      · have hd16 : decide (m < 16) = false := by simpa using h16
        clear hb
        go_enter Try.func9, Try.ntmps9
        go_wp2_with (first | (go_at_call 28; (with_reducible refine (alive_c _).mono ?_); rintro e W1 ⟨rfl, hb1⟩; obtain ⟨hB1, hC1, hF1, hZ1⟩ := K.bel_facts hb1; clear hb1) | (go_at_call 29; (with_reducible refine (GB.out _).mono ?_); rintro e w' ⟨rfl, hw'⟩; have hw'2 := Eq.symm hw'; clear hw'; subst hw'2) | (go_at_call 31; first | (go_at_call 31; (with_reducible refine (GT.out _).mono ?_); rintro e w' ⟨rfl, hw'⟩; have hw'2 := Eq.symm hw'; clear hw'; subst hw'2) | (go_at_call 31; (with_reducible refine (GS.out _).mono ?_); rintro e w' ⟨rfl, hw'⟩; have hw'2 := Eq.symm hw'; clear hw'; subst hw'2)) | (go_at_call 30; (with_reducible refine (num_c _ _).mono ?_); rintro e w' ⟨rfl, hw'⟩; have hw'2 := Eq.symm hw'; clear hw'; subst hw'2))
        all_goals first | (exfalso; omega) | (go_ret; exact ⟨rfl, (by repeat (first | (with_reducible exact Below.refl _ _) | (with_reducible refine K.b_bel ?_ (by assumption)) | (with_reducible refine K.b_alloc ?_ _) | (with_reducible refine K.b_drewN ?_ _) | (with_reducible refine K.b_drew ?_) | (with_reducible refine K.b_set ?_ (by first | omega | (simp <;> omega)) _) | (with_reducible refine K.b_only ?_ (by assumption) (by first | omega | (simp <;> omega)))))⟩)
end Go.Proofs.Ytimdfnhagjlkoaa.Hst
