/- Ring: may backends be? the library's and the reference's answer. -/
import Derived.Test.YtkalbiihehcjkaaRg2
set_option linter.unusedVariables false
namespace Go.Proofs.Ytkalbiihehcjkaa.Rg
open Go.RowKit Go.Proofs.Ytkalbiihehcjkaa
set_option linter.unusedSimpArgs false
structure Bk where
  id : Int
  wt : Int
def Bk.cs (x : Bk) : List Value := [.int .i64 x.id, .int .i64 x.wt]
abbrev Bk.a (x : Bk) : Value := .agg #[.int .i64 x.id, .int .i64 x.wt]
theorem Bk.cs_len (x : Bk) : x.cs.length = 2 := rfl
def Bk.odd (x : Bk) : Bool := decide (x.id < 0) || decide (2147483647 < x.id) || decide (x.wt < 1) || decide (16 < x.wt)
def ris : List Bk → Bool
  | [] => true
  | [_] => true
  | a :: b :: r => decide (a.id < b.id) && ris (b :: r)
def eChk (l : List Bk) : Int := if 32 < l.length then 3 else if Sl.anyOf Bk.odd l = true then 4 else if ris l = true then 0 else 6
set_option maxRecDepth 100000 in
set_option maxHeartbeats 4000000 in
theorem odd_c (x : Bk) (w : World) : Calls Try.prog 40 #[x.a] w fun e w' => e = .returned (.bool x.odd) ∧ Below w.heap.size w w' := by
  obtain ⟨r, hr⟩ : ∃ r, r = x.odd := ⟨_, rfl⟩
  rw [← hr]
  unfold Bk.odd at hr
  cases d1 : decide (x.id < 0) <;> cases d2 : decide (2147483647 < x.id) <;> cases d3 : decide (x.wt < 1) <;> cases d4 : decide (16 < x.wt)
  all_goals
    rw [d1, d2, d3, d4] at hr
    simp only [Bool.or_false, Bool.or_true, Bool.false_or, Bool.true_or] at hr
    subst hr
    go_enter Try.func40, Try.ntmps40
    go_wp2
    go_ret
    exact ⟨rfl, (by repeat (first | (with_reducible exact Below.refl _ _) | (with_reducible refine K.b_bel ?_ (by assumption)) | (with_reducible refine K.b_alloc ?_ _) | (with_reducible refine K.b_drewN ?_ _) | (with_reducible refine K.b_drew ?_) | (with_reducible refine K.b_set ?_ (by first | omega | (simp <;> omega)) _) | (with_reducible refine K.b_only ?_ (by assumption) (by first | omega | (simp <;> omega)))))⟩
set_option maxHeartbeats 1000000 in
theorem ixOdd_c (xs : List Bk) (A : Option Addr) (n c : Nat) (w : World) (hr : Sl.Rds w 2 A n (xs.flatMap Bk.cs)) :
    Calls Try.prog 56 #[.slice A n c, .func (.func 40) #[] #[]] w fun e w' => e = .returned (.int .i64 (Sl.idx (Bk.odd) xs)) ∧ Below w.heap.size w w' := by
  obtain rfl := hr.length (fun _ => rfl) (by omega)
  have hle := hr.le
  have Hr := K.H.mk hr
  clear hr
  
  go_enter Try.func56, Try.ntmps56
  go_wp2
  go_loopw [8] (fun i wr => ∃ k : Nat, k ≤ xs.length ∧ i = .int .i64 k ∧ K.H (∀ j y, j < k → xs[j]? = some y → (Bk.odd) y = false) ∧ K.H (Below w.heap.size w wr)) (fun i _ => xs.length - (intOf i).toNat)
  case atStart => exact ⟨0, by omega, rfl, ⟨fun j y h => by omega⟩, ⟨Below.refl _ _⟩⟩
  case round =>
    obtain ⟨k, hk, rfl, Hf, Hb⟩ := hrel
    by_cases hlt : k < xs.length
    · obtain ⟨x, hx⟩ : ∃ x, xs[k]? = some x := ⟨_, List.getElem?_eq_getElem hlt⟩
      obtain ⟨b, off, rfl, hbl, hbc⟩ := Sl.Rds.elem Hr.out Bk.cs_len (by omega) hx
      have q_0 : wr.cell? ⟨b, off + k * 2, none⟩ = some (.int .i64 x.id) := (Hb.out.cell (p := ⟨b, off + k * 2 + 0, none⟩) hbl).trans (hbc 0 (by omega))
      have q_1 : wr.cell? ⟨b, off + k * 2 + 1, none⟩ = some (.int .i64 x.wt) := (Hb.out.cell (p := ⟨b, off + k * 2 + 1, none⟩) hbl).trans (hbc 1 (by omega))
      clear hbc
      have hbw : b < wr.heap.size := Nat.lt_of_lt_of_le hbl Hb.out.size
      have Hx := K.H.mk hx
      clear hx
      
      cases hp : (Bk.odd) x
      · go_wp2_with ((go_at_call 40; (with_reducible refine (odd_c x _).mono ?_); rintro e W4 ⟨rfl, hb4⟩; obtain ⟨hB4, hC4, hF4, hZ4⟩ := K.bel_facts hb4; clear hb4))
        go_roundw
        case rel =>
          refine ⟨k + 1, by omega, by go_num, ⟨fun j y hj hy => ?_⟩, ⟨(by repeat (first | (with_reducible exact Below.refl _ _) | (with_reducible exact Hb.out) | (with_reducible refine K.b_bel ?_ (by assumption)) | (with_reducible refine K.b_alloc ?_ _) | (with_reducible refine K.b_drewN ?_ _) | (with_reducible refine K.b_drew ?_) | (with_reducible refine K.b_set ?_ (by first | omega | (simp <;> omega)) _) | (with_reducible refine K.b_only ?_ (by assumption) (by first | omega | (simp <;> omega)))))⟩⟩
          by_cases hjk : j = k
          · subst hjk
            rw [Hx.out] at hy
            cases hy
            exact hp
          · exact Hf.out j y (by omega) hy
        case measure => simp [intOf]; omega
      · go_wp2_with ((go_at_call 40; (with_reducible refine (odd_c x _).mono ?_); rintro e W4 ⟨rfl, hb4⟩; obtain ⟨hB4, hC4, hF4, hZ4⟩ := K.bel_facts hb4; clear hb4))
        go_ret
        exact ⟨K.ret_int (Sl.idx_found Hx.out hp Hf.out).symm, (by repeat (first | (with_reducible exact Below.refl _ _) | (with_reducible exact Hb.out) | (with_reducible refine K.b_bel ?_ (by assumption)) | (with_reducible refine K.b_alloc ?_ _) | (with_reducible refine K.b_drewN ?_ _) | (with_reducible refine K.b_drew ?_) | (with_reducible refine K.b_set ?_ (by first | omega | (simp <;> omega)) _) | (with_reducible refine K.b_only ?_ (by assumption) (by first | omega | (simp <;> omega)))))⟩
    · obtain rfl : k = xs.length := by omega
      go_wp2
      go_ret
      exact ⟨K.ret_int (Sl.idx_none Hf.out).symm, Hb.out⟩
theorem anyOdd_c (xs : List Bk) (A : Option Addr) (n c : Nat) (w : World) (hr : Sl.Rds w 2 A n (xs.flatMap Bk.cs)) :
    Calls Try.prog 41 #[.slice A n c, .func (.func 40) #[] #[]] w fun e w' => e = .returned (.bool (Sl.anyOf (Bk.odd) xs)) ∧ Below w.heap.size w w' := by
  have Hr := K.H.mk hr
  clear hr
  go_enter Try.func41, Try.ntmps41
  go_wp2_with (go_at_call 56; (with_reducible refine (ixOdd_c xs _ _ _ _ Hr.out).mono ?_); rintro e W1 ⟨rfl, hb1⟩; obtain ⟨hB1, hC1, hF1, hZ1⟩ := K.bel_facts hb1; clear hb1)
  go_ret
  exact ⟨K.ret_bool (Sl.idx_any _ _), (by repeat (first | (with_reducible exact Below.refl _ _) | (with_reducible refine K.b_bel ?_ (by assumption)) | (with_reducible refine K.b_alloc ?_ _) | (with_reducible refine K.b_drewN ?_ _) | (with_reducible refine K.b_drew ?_) | (with_reducible refine K.b_set ?_ (by first | omega | (simp <;> omega)) _) | (with_reducible refine K.b_only ?_ (by assumption) (by first | omega | (simp <;> omega)))))⟩
end Go.Proofs.Ytkalbiihehcjkaa.Rg
