/- Timer: Add. -/
import Derived.Test.YtmoaekjkihbicaaTm6
import Derived.Test.YtmoaekjkihbicaaCln
set_option linter.unusedVariables false
namespace Go.Proofs.Ytmoaekjkihbicaa.Tm
open Go.RowKit Go.Proofs.Ytmoaekjkihbicaa
set_option linter.unusedSimpArgs false
set_option maxRecDepth 100000 in
set_option maxHeartbeats 2000000 in
theorem clone_c (cs : List Value) (A : Option Addr) (n c : Nat) (w : World) (hr : Sl.Rds w 2 A n cs) (h1 : ∀ u ∈ cs, u.oneCell' = true) (hn : n * 16 ≤ 140737488355328) :
    Calls Try.prog 27 #[.slice A n c] w fun e w' => (∃ v, e = .returned v ∧ w'.ownsRow w.heap.size 25 2 v n cs) ∧ Below w.heap.size w w' := by
  cases A with
  | none =>
    have hn0 : n = 0 := Nat.eq_zero_of_not_pos fun h => by obtain ⟨b, off, e, _⟩ := hr.at_ h; cases e
    subst hn0
    have hc0 : cs = [] := List.eq_nil_of_length_eq_zero (by have := hr.len; omega)
    subst hc0
    have hq := fun W => Lib.run_eql_slice_nil (P := Try.prog) W 22 25 none 0 c 0 0 Try.underlying22
    clear hr h1 hn
    go_enter Try.func27, Try.ntmps27
    go_wp2
    go_ret
    exact ⟨⟨_, rfl, World.ownsRow_nil _ _ _ _⟩, (by repeat (first | (with_reducible exact Below.refl _ _) | (with_reducible refine K.b_bel ?_ (by assumption)) | (with_reducible refine K.b_alloc ?_ _) | (with_reducible refine K.b_drewN ?_ _) | (with_reducible refine K.b_drew ?_) | (with_reducible refine K.b_set ?_ (by first | omega | (simp <;> omega)) _) | (with_reducible refine K.b_only ?_ (by assumption) (by first | omega | (simp <;> omega)))))⟩
  | some ad =>
    have hq := fun W => Lib.run_eql_slice_nil (P := Try.prog) W 22 25 (some ad) n c 0 0 Try.underlying22
    have Hr := K.H.mk hr
    have H1 := K.H.mk h1
    have Hn := K.H.mk hn
    clear hr h1 hn
    go_enter Try.func27, Try.ntmps27
    go_wp2_with (at_builtin; refine Sl.app_to (base := w.heap.size) (g := w.heap.size) rfl _ _ 22 25 (.agg #[.int .i64 0, .int .i64 0]) 2 16 rfl Try.underlying22 (by kernel_rfl) rfl (by decide) (some ad) n c cs rfl (K.At.new' _ _ _ _ (by rfl)) (Nat.le_refl _) rfl (Hr.out.below (by repeat (first | (with_reducible exact Below.refl _ _) | (with_reducible refine K.b_bel ?_ (by assumption)) | (with_reducible refine K.b_alloc ?_ _) | (with_reducible refine K.b_drewN ?_ _) | (with_reducible refine K.b_drew ?_) | (with_reducible refine K.b_set ?_ (by first | omega | (simp <;> omega)) _) | (with_reducible refine K.b_only ?_ (by assumption) (by first | omega | (simp <;> omega)))))) H1.out Hn.out ?_; intro v W1 hown hb; have Hown := K.H.mk hown; have HB := K.Bel.mk hb; clear hown hb)
    go_ret
    exact ⟨⟨v, rfl, Hown.out⟩, (by repeat (first | (with_reducible exact Below.refl _ _) | (with_reducible refine K.b_bel ?_ (by assumption)) | (with_reducible refine K.b_alloc ?_ _) | (with_reducible refine K.b_drewN ?_ _) | (with_reducible refine K.b_drew ?_) | (with_reducible refine K.b_set ?_ (by first | omega | (simp <;> omega)) _) | (with_reducible refine K.b_only ?_ (by assumption) (by first | omega | (simp <;> omega)))))⟩
theorem one_tm (l : List Tm) : ∀ u ∈ l.flatMap Tm.cs, u.oneCell' = true := fun u hu => by
  obtain ⟨a, _, h⟩ := List.mem_flatMap.1 hu
  simp [Tm.cs] at h
  rcases h with h | h <;> (subst h; rfl)
/-- The ID of x is i. -/
def Tm.isId (i : Int) (x : Tm) : Bool := x.id == i
theorem same_c (t x : Tm) (g : Nat) (w : World) (hA : K.At w g 25 #[.int .i64 t.t, .int .i64 t.id]) :
    Calls Try.prog 30 #[x.a, .pointer (some ⟨g, 0, none⟩)] w fun e w' => e = .returned (.bool (Tm.isId t.id x)) ∧ Below w.heap.size w w' := by
  obtain ⟨hc1, hf1, hl1⟩ := K.At.facts hA
  have hne : g ≠ w.heap.size := by omega
  have hne2 : w.heap.size ≠ g := by omega
  obtain ⟨r, hr⟩ : ∃ r, r = Tm.isId t.id x := ⟨_, rfl⟩
  have HR := K.H.mk hr
  rw [← hr]
  unfold Tm.isId at hr
  clear hr
  go_enter Try.func30, Try.ntmps30
  go_wp2
  go_ret
  refine ⟨K.ret_bool ?_, (by repeat (first | (with_reducible exact Below.refl _ _) | (with_reducible refine K.b_bel ?_ (by assumption)) | (with_reducible refine K.b_alloc ?_ _) | (with_reducible refine K.b_drewN ?_ _) | (with_reducible refine K.b_drew ?_) | (with_reducible refine K.b_set ?_ (by first | omega | (simp <;> omega)) _) | (with_reducible refine K.b_only ?_ (by assumption) (by first | omega | (simp <;> omega)))))⟩
  rw [HR.out]; rfl
set_option maxHeartbeats 1000000 in
theorem ixSame_c (t : Tm) (g : Nat) (xs : List Tm) (A : Option Addr) (n c : Nat) (w : World) (hr : Sl.Rds w 2 A n (xs.flatMap Tm.cs)) (h1 : K.At w g 25 #[.int .i64 t.t, .int .i64 t.id]) :
    Calls Try.prog 42 #[.slice A n c, .func (.func 30) #[] #[.pointer (some ⟨g, 0, none⟩)]] w fun e w' => e = .returned (.int .i64 (Sl.idx (Tm.isId t.id) xs)) ∧ Below w.heap.size w w' := by
  obtain rfl := hr.length (fun _ => rfl) (by omega)
  have hle := hr.le
  have Hr := K.H.mk hr
  clear hr
  
  go_enter Try.func42, Try.ntmps42
  go_wp2
  go_loopw [8] (fun i wr => ∃ k : Nat, k ≤ xs.length ∧ i = .int .i64 k ∧ K.H (∀ j y, j < k → xs[j]? = some y → (Tm.isId t.id) y = false) ∧ K.H (Below w.heap.size w wr)) (fun i _ => xs.length - (intOf i).toNat)
  case atStart => exact ⟨0, by omega, rfl, ⟨fun j y h => by omega⟩, ⟨Below.refl _ _⟩⟩
  case round =>
    obtain ⟨k, hk, rfl, Hf, Hb⟩ := hrel
    by_cases hlt : k < xs.length
    · obtain ⟨x, hx⟩ : ∃ x, xs[k]? = some x := ⟨_, List.getElem?_eq_getElem hlt⟩
      obtain ⟨b, off, rfl, hbl, hbc⟩ := Sl.Rds.elem Hr.out Tm.cs_len (by omega) hx
      have q_0 : wr.cell? ⟨b, off + k * 2, none⟩ = some (.int .i64 x.t) := (Hb.out.cell (p := ⟨b, off + k * 2 + 0, none⟩) hbl).trans (hbc 0 (by omega))
      have q_1 : wr.cell? ⟨b, off + k * 2 + 1, none⟩ = some (.int .i64 x.id) := (Hb.out.cell (p := ⟨b, off + k * 2 + 1, none⟩) hbl).trans (hbc 1 (by omega))
      clear hbc
      have hbw : b < wr.heap.size := Nat.lt_of_lt_of_le hbl Hb.out.size
      have Hx := K.H.mk hx
      clear hx
      have h1w := K.At.over ⟨Hb.out⟩ h1; clear h1
      cases hp : (Tm.isId t.id) x
      · go_wp2_with ((go_at_call 30; (with_reducible refine (same_c t x g _ h1w).mono ?_); rintro e W4 ⟨rfl, hb4⟩; obtain ⟨hB4, hC4, hF4, hZ4⟩ := K.bel_facts hb4; clear hb4))
        go_roundw
        case rel =>
          refine ⟨k + 1, by omega, by go_num, ⟨fun j y hj hy => ?_⟩, ⟨(by repeat (first | (with_reducible exact Below.refl _ _) | (with_reducible exact Hb.out) | (with_reducible refine K.b_bel ?_ (by assumption)) | (with_reducible refine K.b_alloc ?_ _) | (with_reducible refine K.b_drewN ?_ _) | (with_reducible refine K.b_drew ?_) | (with_reducible refine K.b_set ?_ (by first | omega | (simp <;> omega)) _) | (with_reducible refine K.b_only ?_ (by assumption) (by first | omega | (simp <;> omega)))))⟩⟩
          by_cases hjk : j = k
          · subst hjk
            rw [Hx.out] at hy
            cases hy
            exact hp
          · exact Hf.out j y (by omega) hy
        case measure => simp [intOf]; omega
      · go_wp2_with ((go_at_call 30; (with_reducible refine (same_c t x g _ h1w).mono ?_); rintro e W4 ⟨rfl, hb4⟩; obtain ⟨hB4, hC4, hF4, hZ4⟩ := K.bel_facts hb4; clear hb4))
        go_ret
        exact ⟨K.ret_int (Sl.idx_found Hx.out hp Hf.out).symm, (by repeat (first | (with_reducible exact Below.refl _ _) | (with_reducible exact Hb.out) | (with_reducible refine K.b_bel ?_ (by assumption)) | (with_reducible refine K.b_alloc ?_ _) | (with_reducible refine K.b_drewN ?_ _) | (with_reducible refine K.b_drew ?_) | (with_reducible refine K.b_set ?_ (by first | omega | (simp <;> omega)) _) | (with_reducible refine K.b_only ?_ (by assumption) (by first | omega | (simp <;> omega)))))⟩
    · obtain rfl : k = xs.length := by omega
      go_wp2
      go_ret
      exact ⟨K.ret_int (Sl.idx_none Hf.out).symm, Hb.out⟩
theorem anySame_c (t : Tm) (g : Nat) (xs : List Tm) (A : Option Addr) (n c : Nat) (w : World) (hr : Sl.Rds w 2 A n (xs.flatMap Tm.cs)) (h1 : K.At w g 25 #[.int .i64 t.t, .int .i64 t.id]) :
    Calls Try.prog 29 #[.slice A n c, .func (.func 30) #[] #[.pointer (some ⟨g, 0, none⟩)]] w fun e w' => e = .returned (.bool (Sl.anyOf (Tm.isId t.id) xs)) ∧ Below w.heap.size w w' := by
  have Hr := K.H.mk hr
  clear hr
  go_enter Try.func29, Try.ntmps29
  go_wp2_with (go_at_call 42; (with_reducible refine (ixSame_c t g xs _ _ _ _ Hr.out h1).mono ?_); rintro e W1 ⟨rfl, hb1⟩; obtain ⟨hB1, hC1, hF1, hZ1⟩ := K.bel_facts hb1; clear hb1)
  go_ret
  exact ⟨K.ret_bool (Sl.idx_any _ _), (by repeat (first | (with_reducible exact Below.refl _ _) | (with_reducible refine K.b_bel ?_ (by assumption)) | (with_reducible refine K.b_alloc ?_ _) | (with_reducible refine K.b_drewN ?_ _) | (with_reducible refine K.b_drew ?_) | (with_reducible refine K.b_set ?_ (by first | omega | (simp <;> omega)) _) | (with_reducible refine K.b_only ?_ (by assumption) (by first | omega | (simp <;> omega)))))⟩
def addL : List Tm → List Tm → Int × List Tm
  | h, [] => (0, h)
  | h, t :: r => if h.length = 1024 then (3, []) else if t.odd = true then (4, []) else if Sl.anyOf (Tm.isId t.id) h = true then (6, []) else addL (pushL h t) r
def rAdd (l more : List Tm) : Int × List Tm := if eChk l = 0 then addL l more else (eChk l, [])
def TPost (w : World) (r : Int × List Tm) (e : Ending) (w' : World) : Prop :=
  ∃ v, e = .returned (.tuple #[v, .int .i64 r.1]) ∧ w'.ownsRow w.heap.size 25 2 v r.2.length (r.2.flatMap Tm.cs) ∧ Below w.heap.size w w'
theorem TPost.bad {w W : World} {x : Int} (h : Below w.heap.size w W) : TPost w (x, []) (.returned (.tuple #[.slice none 0 0, .int .i64 x])) W :=
  ⟨_, rfl, World.ownsRow_nil _ _ _ _, h⟩
theorem drop_at {α : Type} {l : List α} {k : Nat} {x : α} (h : l[k]? = some x) : l.drop k = x :: l.drop (k + 1) := by
  obtain ⟨h1, rfl⟩ := List.getElem?_eq_some_iff.1 h
  exact List.drop_eq_getElem_cons h1
end Go.Proofs.Ytmoaekjkihbicaa.Tm
