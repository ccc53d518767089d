/- Subset: a dealer's check, and what it hands out. -/
import Derived.Test.YtpafbjffecpdmaaSb3
set_option linter.unusedVariables false
namespace Go.Proofs.Ytpafbjffecpdmaa.Sb
open Go.RowKit Go.Proofs.Ytpafbjffecpdmaa
attribute [local go_sem] K.max2_int K.min2_int K.max_two K.min_two K.max_three K.min_three
set_option linter.unusedSimpArgs false
def rises : Int → List Int → Bool
  | _, [] => true
  | last, x :: r => decide (last < x) && rises x r
def eChk (ids : List Int) : Int := if 32 < ids.length then 3 else if rises (-1) ids = true then 0 else 9
theorem eChk_3 {ids : List Int} (h : 32 < ids.length) : eChk ids = 3 := by unfold eChk; rw [if_pos h]
theorem eChk_0 {ids : List Int} (h : ¬ 32 < ids.length) (h2 : rises (-1) ids = true) : eChk ids = 0 := by unfold eChk; rw [if_neg h, if_pos h2]
theorem eChk_9 {ids : List Int} (h : ¬ 32 < ids.length) (h2 : rises (-1) ids = false) : eChk ids = 9 := by unfold eChk; rw [if_neg h, if_neg (by rw [h2]; decide)]
abbrev dlc (A : Option Addr) (n c : Nat) (size seed : Int) : Array Value := #[.slice A n c, .int .i64 size, .int .u64 seed]
set_option maxRecDepth 100000 in
set_option maxHeartbeats 2000000 in
theorem check_c (ids : List Int) (size seed : Int) (A : Option Addr) (n c : Nat) (w : World) (hr : Sl.Rds w 1 A n (ids.flatMap fun n => [.int .i64 n])) :
    Calls Try.prog 30 #[.agg #[.slice A n c, .int .i64 size, .int .u64 seed]] w fun e w' => e = .returned (.int .i64 (eChk ids)) ∧ Below w.heap.size w w' := by
  obtain rfl := hr.length (fun _ => rfl) (by omega)
  have hle := hr.le
  have Hr := K.H.mk hr
  clear hr
  by_cases hl : 32 < ids.length
  · rw [eChk_3 hl]
    have d1 : decide ((32 : Int) < (ids.length : Int)) = true := decide_eq_true (by omega)
    have d2 : decide (32 < ids.length) = true := decide_eq_true hl
    clear hl
    go_enter Try.func30, Try.ntmps30
    go_wp2
    go_ret
    exact ⟨rfl, (by repeat (first | (with_reducible exact Below.refl _ _) | (with_reducible refine K.b_bel ?_ (by assumption)) | (with_reducible refine K.b_alloc ?_ _) | (with_reducible refine K.b_drewN ?_ _) | (with_reducible refine K.b_drew ?_) | (with_reducible refine K.b_set ?_ (by first | omega | (simp <;> omega)) _) | (with_reducible refine K.b_only ?_ (by assumption) (by first | omega | (simp <;> omega)))))⟩
  · have d1 : decide ((32 : Int) < (ids.length : Int)) = false := decide_eq_false (by omega)
    have d2 : decide (32 < ids.length) = false := decide_eq_false hl
    have HL := K.H.mk hl
    obtain ⟨R, hR⟩ : ∃ R, R = rises (-1) ids := ⟨_, rfl⟩
    obtain ⟨y, hy⟩ : ∃ y, y = eChk ids := ⟨_, rfl⟩
    have HY := K.H.mk hy
    rw [← hy]
    clear hl hy
    go_enter Try.func30, Try.ntmps30
    go_wp2
    clear d1 d2
    refine K.wp_gen (fun W => Below w.heap.size w W) (by repeat (first | (with_reducible exact Below.refl _ _) | (with_reducible refine K.b_bel ?_ (by assumption)) | (with_reducible refine K.b_alloc ?_ _) | (with_reducible refine K.b_drewN ?_ _) | (with_reducible refine K.b_drew ?_) | (with_reducible refine K.b_set ?_ (by first | omega | (simp <;> omega)) _) | (with_reducible refine K.b_only ?_ (by assumption) (by first | omega | (simp <;> omega))))) ?_
    rintro W1 hb1
    have Hb1 := K.H.mk hb1
    clear hb1
    go_loop [3, 13] (fun l i => ∃ (k : Nat) (t : Int), k ≤ ids.length ∧ l = .int .i64 t ∧ i = .int .i64 k ∧ K.H (R = rises t (ids.drop k))) (fun _ i => ids.length - (intOf i).toNat)
    case atStart => exact ⟨0, -1, by omega, rfl, rfl, ⟨hR⟩⟩
    case round =>
      obtain ⟨k, t, hk, rfl, rfl, HR⟩ := hrel
      by_cases hlt : k < ids.length
      · obtain ⟨x, hx⟩ : ∃ x, ids[k]? = some x := ⟨_, List.getElem?_eq_getElem hlt⟩
        have hdr : ids.drop k = x :: ids.drop (k + 1) := by rw [List.drop_eq_getElem_cons hlt]; congr 1; exact (List.getElem?_eq_some_iff.1 hx).2
        have HS := K.H.mk (show R = (decide (t < x) && rises x (ids.drop (k + 1))) by rw [HR.out, hdr]; rfl)
        obtain ⟨b, off, rfl, hbl, hbc⟩ := Sl.Rds.elem Hr.out (enc := fun n => [.int .i64 n]) (fun _ => rfl) (by omega) hx
        have q_0 : W1.cell? ⟨b, off + k, none⟩ = some (.int .i64 x) := by
          have := (Hb1.out.cell (p := ⟨b, off + k * 1 + 0, none⟩) hbl).trans (hbc 0 (by omega))
          simpa using this
        have hbw : b < W1.heap.size := Nat.lt_of_lt_of_le hbl Hb1.out.size
        clear hx hbc hdr HR
        cases hc : decide (x ≤ t)
        · have h0 := of_decide_eq_false hc
          have HN := K.H.mk (show R = rises x (ids.drop (k + 1)) by rw [HS.out, decide_eq_true (by omega), Bool.true_and])
          clear h0 HS
          go_wp2
          go_round
          case rel => exact ⟨k + 1, x, by omega, rfl, by go_num, HN⟩
          case measure => simp [intOf]; omega
        · have h0 := of_decide_eq_true hc
          have HN := K.H.mk (show R = false by rw [HS.out, decide_eq_false (by omega), Bool.false_and])
          clear h0 HS
          go_wp2
          go_ret
          exact ⟨K.ret_int (by rw [HY.out, eChk_9 HL.out (by rw [← hR, HN.out])]), (by repeat (first | (with_reducible exact Below.refl _ _) | (with_reducible exact Hb1.out) | (with_reducible refine K.b_bel ?_ (by assumption)) | (with_reducible refine K.b_alloc ?_ _) | (with_reducible refine K.b_drewN ?_ _) | (with_reducible refine K.b_drew ?_) | (with_reducible refine K.b_set ?_ (by first | omega | (simp <;> omega)) _) | (with_reducible refine K.b_only ?_ (by assumption) (by first | omega | (simp <;> omega)))))⟩
      · obtain rfl : k = ids.length := by omega
        have HN := K.H.mk (show R = true by rw [HR.out, List.drop_length]; rfl)
        go_wp2
        go_ret
        exact ⟨K.ret_int (by rw [HY.out, eChk_0 HL.out (by rw [← hR, HN.out])]), (by repeat (first | (with_reducible exact Below.refl _ _) | (with_reducible exact Hb1.out) | (with_reducible refine K.b_bel ?_ (by assumption)) | (with_reducible refine K.b_alloc ?_ _) | (with_reducible refine K.b_drewN ?_ _) | (with_reducible refine K.b_drew ?_) | (with_reducible refine K.b_set ?_ (by first | omega | (simp <;> omega)) _) | (with_reducible refine K.b_only ?_ (by assumption) (by first | omega | (simp <;> omega)))))⟩
set_option maxRecDepth 100000 in
set_option maxHeartbeats 2000000 in
theorem clone_c (cs : List Value) (A : Option Addr) (n c : Nat) (w : World) (hr : Sl.Rds w 1 A n cs) (h1 : ∀ u ∈ cs, u.oneCell' = true) (hn : n * 8 ≤ 140737488355328) :
    Calls Try.prog 37 #[.slice A n c] w fun e w' => (∃ v, e = .returned v ∧ w'.ownsRow w.heap.size 3 1 v n cs) ∧ Below w.heap.size w w' := by
  cases A with
  | none =>
    have hn0 : n = 0 := Nat.eq_zero_of_not_pos fun h => by obtain ⟨b, off, e, _⟩ := hr.at_ h; cases e
    subst hn0
    have hc0 : cs = [] := List.eq_nil_of_length_eq_zero (by have := hr.len; omega)
    subst hc0
    have hq := fun W => Lib.run_eql_slice_nil (P := Try.prog) W 22 3 none 0 c 0 0 Try.underlying22
    clear hr h1 hn
    go_enter Try.func37, Try.ntmps37
    go_wp2
    go_ret
    exact ⟨⟨_, rfl, World.ownsRow_nil _ _ _ _⟩, (by repeat (first | (with_reducible exact Below.refl _ _) | (with_reducible refine K.b_bel ?_ (by assumption)) | (with_reducible refine K.b_alloc ?_ _) | (with_reducible refine K.b_drewN ?_ _) | (with_reducible refine K.b_drew ?_) | (with_reducible refine K.b_set ?_ (by first | omega | (simp <;> omega)) _) | (with_reducible refine K.b_only ?_ (by assumption) (by first | omega | (simp <;> omega)))))⟩
  | some ad =>
    have hq := fun W => Lib.run_eql_slice_nil (P := Try.prog) W 22 3 (some ad) n c 0 0 Try.underlying22
    have Hr := K.H.mk hr
    have H1 := K.H.mk h1
    have Hn := K.H.mk hn
    clear hr h1 hn
    go_enter Try.func37, Try.ntmps37
    go_wp2_with (at_builtin; refine Sl.app_to (base := w.heap.size) (g := w.heap.size) rfl _ _ 22 3 (.int .i64 0) 1 8 rfl Try.underlying22 (by kernel_rfl) rfl (by decide) (some ad) n c cs rfl (K.At.new' _ _ _ _ (by rfl)) (Nat.le_refl _) rfl (Hr.out.below (by repeat (first | (with_reducible exact Below.refl _ _) | (with_reducible refine K.b_bel ?_ (by assumption)) | (with_reducible refine K.b_alloc ?_ _) | (with_reducible refine K.b_drewN ?_ _) | (with_reducible refine K.b_drew ?_) | (with_reducible refine K.b_set ?_ (by first | omega | (simp <;> omega)) _) | (with_reducible refine K.b_only ?_ (by assumption) (by first | omega | (simp <;> omega)))))) H1.out Hn.out ?_; intro v W1 hown hb; have Hown := K.H.mk hown; have HB := K.Bel.mk hb; clear hown hb)
    go_ret
    exact ⟨⟨v, rfl, Hown.out⟩, (by repeat (first | (with_reducible exact Below.refl _ _) | (with_reducible refine K.b_bel ?_ (by assumption)) | (with_reducible refine K.b_alloc ?_ _) | (with_reducible refine K.b_drewN ?_ _) | (with_reducible refine K.b_drew ?_) | (with_reducible refine K.b_set ?_ (by first | omega | (simp <;> omega)) _) | (with_reducible refine K.b_only ?_ (by assumption) (by first | omega | (simp <;> omega)))))⟩
theorem one_ints (l : List Int) : ∀ u ∈ l.flatMap (fun n => [Value.int .i64 n]), u.oneCell' = true := fun u hu => by
  obtain ⟨x, _, hx⟩ := List.mem_flatMap.1 hu
  simp at hx; subst hx; rfl
theorem flat_iv (l : List Int) : l.flatMap (fun n => [Value.int .i64 n]) = l.map iv := (Sl.map_flat _ _).symm
/-- What a place gets, where there are more backends than its size. -/
def pk (ids order : List Int) (lo k : Nat) : List Int := (List.range k).map fun j => ids.getD (order.getD (lo + j) 0).toNat 0
theorem pk_succ (ids order : List Int) (lo k : Nat) : pk ids order lo (k + 1) = pk ids order lo k ++ [ids.getD (order.getD (lo + k) 0).toNat 0] := by simp [pk, List.range_succ]
theorem pk_len (ids order : List Int) (lo k : Nat) : (pk ids order lo k).length = k := by simp [pk]
end Go.Proofs.Ytpafbjffecpdmaa.Sb
