/- Timer: alive; the walk of TimerFirst. -/
import Derived.Test.YtmoaekjkihbicaaTm8
import Derived.Laws.StructEq
set_option linter.unusedVariables false
namespace Go.Proofs.Ytmoaekjkihbicaa.Tm
open Go.RowKit Go.Proofs.Ytmoaekjkihbicaa
set_option linter.unusedSimpArgs false
def Tm.same (u v : Tm) : Bool := (u.t == v.t) && (u.id == v.id)
theorem Tm.same_iff {u v : Tm} : Tm.same u v = true ↔ u = v := by
  obtain ⟨a0, a1⟩ := u
  obtain ⟨b0, b1⟩ := v
  simp [Tm.same, and_assoc]
theorem Tm.same_f {u v : Tm} : Tm.same u v = false ↔ u ≠ v := by
  rw [← Bool.not_eq_true, Tm.same_iff]
theorem Tm.eqIn (u v : Tm) (W : World) : (Op.equalIn 10000 25 (.agg #[.int .i64 u.t, .int .i64 u.id]) (.agg #[.int .i64 v.t, .int .i64 v.id])).run Try.prog W = .ok (Tm.same u v) W := by
  have hst : Try.prog.stoodInHeld 25 = false := by kernel_rfl
  have hf : Try.prog.underlying 25 = some (.struct (Try.prog.fieldsOf 25)) := by kernel_rfl
  rw [run_equalIn_agg W 9999 _ _ _ hf hst]
  have hi : Try.prog.underlying 3 = some (.int .i64) := by kernel_rfl
  have hb := hi
  have hu := hi
  unfold Program.fieldsOf
  rw [show Try.prog.underlying 25 = _ from Try.underlying25]
  simp [Go.Op.eqFields, part, go_sem, hi, hb, hu, run_equalIn_int, run_equalIn_bool', Tm.same]
  (repeat' split) <;> simp_all
theorem Tm.eql (u v : Tm) (W : World) : (binOp .eql 25 (.agg #[.int .i64 u.t, .int .i64 u.id]) (.agg #[.int .i64 v.t, .int .i64 v.id])).run Try.prog W = .ok (.bool (Tm.same u v)) W := by
  rw [run_eql_struct, Tm.eqIn]; rfl
theorem Tm.neq (u v : Tm) (W : World) : (binOp .neq 25 (.agg #[.int .i64 u.t, .int .i64 u.id]) (.agg #[.int .i64 v.t, .int .i64 v.id])).run Try.prog W = .ok (.bool (!Tm.same u v)) W := by
  rw [run_neq_struct, Tm.eqIn]; rfl
theorem Tm.guard (op : BinOp) (x y : Operand) (u v : Tm) (W : World) : (eqGuard op 25 x y (.agg #[.int .i64 u.t, .int .i64 u.id]) (.agg #[.int .i64 v.t, .int .i64 v.id])).run Try.prog W = .ok () W :=
  run_eqGuard_agg W op 25 x y _ _ (by kernel_rfl)
instance : DecidableEq Tm := fun a b => if h : Tm.same a b = true then isTrue (Tm.same_iff.1 h) else isFalse (fun e => h (Tm.same_iff.2 e))
theorem num_c (a : Int) (w : World) : Calls Try.prog 11 #[.int .i64 a] w fun e w' => e = .returned (.int .i64 a) ∧ w' = w := by
  go_enter Try.func11, Try.ntmps11
  go_wp2
  go_ret
  exact ⟨rfl, rfl⟩
def L2 : List Tm := [⟨5, 1⟩, ⟨3, 2⟩]
def L3 : List Tm := [⟨3, 2⟩, ⟨5, 1⟩]
theorem l2_add : rAdd [] L2 = (0, L3) := by decide +kernel
theorem l3_e : eFirst L3 = 0 := by decide +kernel
theorem l3_o : oFirst L3 = ⟨3, 2⟩ := by unfold oFirst; rw [if_pos l3_e]; rfl
theorem rds_l2 (W : World) (g : Nat) (h : K.At W g 25 #[.int .i64 5, .int .i64 1, .int .i64 3, .int .i64 2]) : Sl.Rds W 2 (some ⟨g, 0, none⟩) 2 (L2.flatMap Tm.cs) :=
  ⟨by simp [L2, Tm.cs], by simp [maxLen], fun _ => ⟨g, 0, rfl, h.lt, fun j hj => by rw [Nat.zero_add, h.cell]; simp [L2, Tm.cs]⟩⟩
set_option maxRecDepth 100000 in
set_option maxHeartbeats 4000000 in
theorem alive_c (w : World) : Calls Try.prog 9 #[] w fun e w' => e = .returned (.bool true) ∧ Below w.heap.size w w' := by
  have GA := K.H.mk (show ∀ (W : World) (g : Nat), K.At W g 25 #[.int .i64 5, .int .i64 1, .int .i64 3, .int .i64 2] → Calls Try.prog 13 #[.slice none 0 0, .slice (some ⟨g, 0, none⟩) 2 2] W (TPost W (0, L3)) from fun W g h => by
    have := Add_c [] L2 none _ 0 0 2 2 W (Sl.Rds.nil _ _ _) (rds_l2 W g h)
    rw [l2_add] at this; exact this)
  have GF := K.H.mk (show ∀ (W : World) (A : Option Addr) (c : Nat), Sl.Rds W 2 A 2 (L3.flatMap Tm.cs) → Calls Try.prog 10 #[.slice A 2 c] W fun e w' => e = .returned (.tuple #[.agg #[.int .i64 3, .int .i64 2], .int .i64 0]) ∧ Below W.heap.size W w' from fun W A c h => by
    have := First_c L3 A 2 c W h
    rw [l3_e, l3_o] at this; exact this)
  have hq := fun W => Tm.eql ⟨3, 2⟩ ⟨3, 2⟩ W
  have hg := fun o p q W => Tm.guard o p q ⟨3, 2⟩ ⟨3, 2⟩ W
  have hs : Tm.same ⟨3, 2⟩ ⟨3, 2⟩ = true := rfl
  simp only [hs] at hq
  clear hs
  go_enter Try.func9, Try.ntmps9
  go_wp2_with (first
    | (go_at_call 13; (with_reducible refine (GA.out _ _ ?r1).mono ?_); (case r1 => exact K.At.new' _ _ _ _ (by simp)); rintro e W3 ⟨v3, rfl, hown3, hb3⟩; have hown3 : W3.ownsRow _ 25 2 v3 2 (L3.flatMap Tm.cs) := hown3; obtain ⟨hB3, hC3, hF3, hZ3⟩ := K.bel_facts hb3; clear hb3; obtain ⟨A3, c3, rfl, hR3⟩ := Sl.Rds.of_own hown3; clear hown3)
    | (go_at_call 10; (with_reducible refine (GF.out _ _ _ hR3).mono ?_); rintro e W4 ⟨rfl, hb4⟩; obtain ⟨hB4, hC4, hF4, hZ4⟩ := K.bel_facts hb4; clear hb4)
    | (go_at_call 11; (with_reducible refine (num_c _ _).mono ?_); rintro e w' ⟨rfl, hw'⟩; have hw'2 := Eq.symm hw'; clear hw'; subst hw'2))
  go_ret
  exact ⟨rfl, (by repeat (first | (with_reducible exact Below.refl _ _) | (with_reducible refine K.b_bel ?_ (by assumption)) | (with_reducible refine K.b_alloc ?_ _) | (with_reducible refine K.b_drewN ?_ _) | (with_reducible refine K.b_drew ?_) | (with_reducible refine K.b_set ?_ (by first | omega | (simp <;> omega)) _) | (with_reducible refine K.b_only ?_ (by assumption) (by first | omega | (simp <;> omega)))))⟩
theorem at_norm (a : Int) (n : Nat) (h0 : 0 < n) : ∃ k : Nat, k < n ∧ (a.tmod (n : Int) + (n : Int)).tmod (n : Int) = (k : Int) ∧ -(n : Int) < a.tmod n ∧ a.tmod n < n := by
  have h1 : -(n : Int) < a.tmod n ∧ a.tmod n < n := by
    have h3 : (a.natAbs % n) < n := Nat.mod_lt _ h0
    have h4 : (a.tmod (n : Int)).natAbs < n := by rw [Int.natAbs_tmod]; simpa using h3
    generalize a.tmod (n : Int) = z at *
    omega
  have h2 : 0 ≤ a.tmod (n : Int) + (n : Int) := by omega
  have h3 : (a.tmod (n : Int) + (n : Int)).tmod (n : Int) = (a.tmod (n : Int) + (n : Int)) % (n : Int) := Int.tmod_eq_emod_of_nonneg h2
  refine ⟨((a.tmod (n : Int) + (n : Int)) % (n : Int)).toNat, ?_, ?_, h1.1, h1.2⟩
  · have := Int.emod_lt_of_pos (a.tmod (n : Int) + (n : Int)) (show (0 : Int) < n by omega)
    have := Int.emod_nonneg (a.tmod (n : Int) + (n : Int)) (show (n : Int) ≠ 0 by omega)
    omega
  · rw [h3]
    have := Int.emod_nonneg (a.tmod (n : Int) + (n : Int)) (show (n : Int) ≠ 0 by omega)
    omega
theorem first_some {l : List Tm} (h : eFirst l = 0) : eChk l = 0 ∧ 0 < l.length ∧ l[0]? = some (oFirst l) := by
  have h1 : eChk l = 0 := by
    unfold eFirst at h
    by_cases h2 : eChk l = 0
    · exact h2
    · rw [if_neg h2] at h; exact absurd h h2
  unfold eFirst at h
  rw [if_pos h1] at h
  have h0 : 0 < l.length := by
    by_cases h3 : l.length = 0
    · rw [if_pos h3] at h; omega
    · omega
  refine ⟨h1, h0, ?_⟩
  unfold oFirst eFirst
  rw [if_pos h1, if_neg (show ¬ l.length = 0 by omega), if_pos rfl, List.getD_eq_getElem?_getD, List.getElem?_eq_getElem h0]; rfl
theorem first_ahead {l : List Tm} (h : eFirst l = 0) {k : Nat} {x : Tm} (hx : l[k]? = some x) (hn : x ≠ oFirst l) : (oFirst l).lt x = true := by
  obtain ⟨h1, h0, h2⟩ := first_some h
  have h3 := root_le (eChk_of h1).2.2.2 k (List.getElem?_eq_some_iff.1 hx).1
  unfold gt at h3
  rw [List.getD_eq_getElem?_getD, List.getD_eq_getElem?_getD, hx, h2] at h3
  simp only [Option.getD_some] at h3
  cases h4 : (oFirst l).lt x
  · exact absurd (le_anti ((le_lt _ _).2 h4) h3) hn
  · rfl
set_option maxRecDepth 100000 in
set_option maxHeartbeats 4000000 in
theorem FirstLaw_c (l : List Tm) (a : Int) (A : Option Addr) (n c : Nat) (w : World) (hr : Sl.Rds w 2 A n (l.flatMap Tm.cs)) :
    Calls Try.prog 3 #[.slice A n c, .int .i64 a] w fun e w' => e = .returned (.bool true) ∧ Below w.heap.size w w' := by
  obtain rfl := hr.length Tm.cs_len (by omega)
  have GF := K.H.mk (fun (W : World) (hb : Below w.heap.size w W) => First_c l A l.length c W (hr.below hb))
  by_cases h : eFirst l = 0
  · obtain ⟨h1, h0, h2⟩ := first_some h
    have hle := (eChk_of h1).1
    obtain ⟨k, hk, e53, r1, r2⟩ := at_norm a l.length h0
    obtain ⟨x, hx⟩ : ∃ x, l[k]? = some x := ⟨_, List.getElem?_eq_getElem hk⟩
    have HH := K.H.mk (fun hn => first_ahead h hx hn)
    rw [h] at GF
    obtain ⟨y, hy⟩ : ∃ y, y = oFirst l := ⟨_, rfl⟩
    rw [← hy] at GF HH
    have Hr := K.H.mk hr
    have hz : (l.length : Int) ≠ 0 := by omega
    have hzn : l.length ≠ 0 := by omega
    obtain ⟨b, off, rfl, hbl, hbc⟩ := Sl.Rds.elem Hr.out Tm.cs_len (by omega) hx
    have q_0 : w.cell? ⟨b, off + k * 2, none⟩ = some (.int .i64 x.t) := ((Below.refl _ _ : Below w.heap.size w w).cell (p := ⟨b, off + k * 2 + 0, none⟩) hbl).trans (hbc 0 (by omega))
    have q_1 : w.cell? ⟨b, off + k * 2 + 1, none⟩ = some (.int .i64 x.id) := ((Below.refl _ _ : Below w.heap.size w w).cell (p := ⟨b, off + k * 2 + 1, none⟩) hbl).trans (hbc 1 (by omega))
    clear hbc
    generalize hrr : a.tmod (l.length : Int) = r at *
    have hw1 : IntKind.i64.wrap (r + (l.length : Int)) = r + (l.length : Int) := K.i64_in (by omega) (by omega)
    have GH := K.H.mk (fun (W : World) => rAhead_c y x W)
    have hkl : (k : Int) < (l.length : Int) := by omega
    have hk0 : (0 : Int) ≤ (k : Int) := by omega
    have hw2 : IntKind.i64.wrap (k : Int) = (k : Int) := K.i64_in (by omega) (by omega)
    have hq := fun W => Tm.eql x y W
    have hg := fun o p q W => Tm.guard o p q x y W
    obtain ⟨sm, hs⟩ : ∃ sm, sm = Tm.same x y := ⟨_, rfl⟩
    simp only [← hs] at hq
    have HS := K.H.mk hs
    clear hr hy hs hx h h1 h2
    
    
    cases sm
    · have hn : x ≠ y := Tm.same_f.1 HS.out.symm
      rw [HH.out hn] at GH
      clear hn
      go_enter Try.func3, Try.ntmps3
      go_wp2_with (first
        | (go_at_call 9; (with_reducible refine (alive_c _).mono ?_); rintro e W1 ⟨rfl, hb1⟩; obtain ⟨hB1, hC1, hF1, hZ1⟩ := K.bel_facts hb1; clear hb1; (try have hbw1 : b < W1.heap.size := Nat.lt_of_lt_of_le hbl hB1.out.size))
        | (go_at_call 10; (with_reducible refine (GF.out _ (by repeat (first | (with_reducible exact Below.refl _ _) | (with_reducible refine K.b_bel ?_ (by assumption)) | (with_reducible refine K.b_alloc ?_ _) | (with_reducible refine K.b_drewN ?_ _) | (with_reducible refine K.b_drew ?_) | (with_reducible refine K.b_set ?_ (by first | omega | (simp <;> omega)) _) | (with_reducible refine K.b_only ?_ (by assumption) (by first | omega | (simp <;> omega)))))).mono ?_); rintro e W2 ⟨rfl, hb2⟩; obtain ⟨hB2, hC2, hF2, hZ2⟩ := K.bel_facts hb2; clear hb2; (try have hbw2 : b < W2.heap.size := Nat.lt_of_lt_of_le hbw1 hB2.out.size))
        | (go_at_call 11; (with_reducible refine (num_c _ _).mono ?_); rintro e w' ⟨rfl, hw'⟩; have hw'2 := Eq.symm hw'; clear hw'; subst hw'2)
        | (go_at_call 12; (with_reducible refine (GH.out _).mono ?_); rintro e W3 ⟨rfl, hb3⟩; obtain ⟨hB3, hC3, hF3, hZ3⟩ := K.bel_facts hb3; clear hb3))
      go_ret
      exact ⟨rfl, (by repeat (first | (with_reducible exact Below.refl _ _) | (with_reducible refine K.b_bel ?_ (by assumption)) | (with_reducible refine K.b_alloc ?_ _) | (with_reducible refine K.b_drewN ?_ _) | (with_reducible refine K.b_drew ?_) | (with_reducible refine K.b_set ?_ (by first | omega | (simp <;> omega)) _) | (with_reducible refine K.b_only ?_ (by assumption) (by first | omega | (simp <;> omega)))))⟩
    · go_enter Try.func3, Try.ntmps3
      go_wp2_with (first
        | (go_at_call 9; (with_reducible refine (alive_c _).mono ?_); rintro e W1 ⟨rfl, hb1⟩; obtain ⟨hB1, hC1, hF1, hZ1⟩ := K.bel_facts hb1; clear hb1; (try have hbw1 : b < W1.heap.size := Nat.lt_of_lt_of_le hbl hB1.out.size))
        | (go_at_call 10; (with_reducible refine (GF.out _ (by repeat (first | (with_reducible exact Below.refl _ _) | (with_reducible refine K.b_bel ?_ (by assumption)) | (with_reducible refine K.b_alloc ?_ _) | (with_reducible refine K.b_drewN ?_ _) | (with_reducible refine K.b_drew ?_) | (with_reducible refine K.b_set ?_ (by first | omega | (simp <;> omega)) _) | (with_reducible refine K.b_only ?_ (by assumption) (by first | omega | (simp <;> omega)))))).mono ?_); rintro e W2 ⟨rfl, hb2⟩; obtain ⟨hB2, hC2, hF2, hZ2⟩ := K.bel_facts hb2; clear hb2; (try have hbw2 : b < W2.heap.size := Nat.lt_of_lt_of_le hbw1 hB2.out.size))
        | (go_at_call 11; (with_reducible refine (num_c _ _).mono ?_); rintro e w' ⟨rfl, hw'⟩; have hw'2 := Eq.symm hw'; clear hw'; subst hw'2))
      go_ret
      exact ⟨rfl, (by repeat (first | (with_reducible exact Below.refl _ _) | (with_reducible refine K.b_bel ?_ (by assumption)) | (with_reducible refine K.b_alloc ?_ _) | (with_reducible refine K.b_drewN ?_ _) | (with_reducible refine K.b_drew ?_) | (with_reducible refine K.b_set ?_ (by first | omega | (simp <;> omega)) _) | (with_reducible refine K.b_only ?_ (by assumption) (by first | omega | (simp <;> omega)))))⟩
  · rw [show oFirst l = ⟨0, 0⟩ by unfold oFirst; rw [if_neg h]] at GF
    have hd : (eFirst l != 0) = true := by simpa using h
    generalize eFirst l = er at *
    have hq := fun W => Tm.eql ⟨0, 0⟩ ⟨0, 0⟩ W
    have hg := fun o p q W => Tm.guard o p q ⟨0, 0⟩ ⟨0, 0⟩ W
    have hs : Tm.same ⟨0, 0⟩ ⟨0, 0⟩ = true := rfl
    simp only [hs] at hq
    clear hs hr h
    go_enter Try.func3, Try.ntmps3
    go_wp2_with (first
      | (go_at_call 9; (with_reducible refine (alive_c _).mono ?_); rintro e W1 ⟨rfl, hb1⟩; obtain ⟨hB1, hC1, hF1, hZ1⟩ := K.bel_facts hb1; clear hb1; (try have hbw1 : b < W1.heap.size := Nat.lt_of_lt_of_le hbl hB1.out.size))
      | (go_at_call 10; (with_reducible refine (GF.out _ (by repeat (first | (with_reducible exact Below.refl _ _) | (with_reducible refine K.b_bel ?_ (by assumption)) | (with_reducible refine K.b_alloc ?_ _) | (with_reducible refine K.b_drewN ?_ _) | (with_reducible refine K.b_drew ?_) | (with_reducible refine K.b_set ?_ (by first | omega | (simp <;> omega)) _) | (with_reducible refine K.b_only ?_ (by assumption) (by first | omega | (simp <;> omega)))))).mono ?_); rintro e W2 ⟨rfl, hb2⟩; obtain ⟨hB2, hC2, hF2, hZ2⟩ := K.bel_facts hb2; clear hb2; (try have hbw2 : b < W2.heap.size := Nat.lt_of_lt_of_le hbw1 hB2.out.size))
      | (go_at_call 11; (with_reducible refine (num_c _ _).mono ?_); rintro e w' ⟨rfl, hw'⟩; have hw'2 := Eq.symm hw'; clear hw'; subst hw'2))
    go_ret
    exact ⟨rfl, (by repeat (first | (with_reducible exact Below.refl _ _) | (with_reducible refine K.b_bel ?_ (by assumption)) | (with_reducible refine K.b_alloc ?_ _) | (with_reducible refine K.b_drewN ?_ _) | (with_reducible refine K.b_drew ?_) | (with_reducible refine K.b_set ?_ (by first | omega | (simp <;> omega)) _) | (with_reducible refine K.b_only ?_ (by assumption) (by first | omega | (simp <;> omega)))))⟩
end Go.Proofs.Ytmoaekjkihbicaa.Tm
