/- Histograms: Merge. -/
import Derived.Test.YtimdfnhagjlkoaaHstT
set_option linter.unusedVariables false
namespace Go.Proofs.Ytimdfnhagjlkoaa.Hst
open Go.RowKit Go.Proofs.Ytimdfnhagjlkoaa
attribute [local go_sem] K.max2_int K.min2_int K.max_two K.min_two K.max_three K.min_three
set_option linter.unusedSimpArgs false
/-- A histogram as it lies in memory, and its counts. -/
structure HV where
  A : Option Addr
  n : Nat
  c : Nat
  t : Int
  xs : List Int
abbrev HV.v (h : HV) : Value := .slice h.A h.n h.c
abbrev HV.cs (h : HV) : List Value := [h.v, .int .i64 h.t]
abbrev HV.a (h : HV) : Value := .agg #[h.v, .int .i64 h.t]
theorem HV.cs_len (h : HV) : h.cs.length = 2 := rfl
/-- Its counts lie there. -/
abbrev HV.In (w : World) (h : HV) : Prop := Sl.Rds w 1 h.A h.n (h.xs.flatMap I1)
theorem HV.In.below {w W : World} {h : HV} (hi : HV.In w h) (hb : Below w.heap.size w W) : HV.In W h := Sl.Rds.below hi hb
noncomputable def badH (h : HV) : Bool := eCk h.xs h.t != 0
theorem bad_no {h : HV} (hb : badH h = false) : HOk h.xs h.t := by
  unfold badH at hb
  apply Classical.byContradiction
  intro hn
  rw [ck_9 hn] at hb
  cases hb
theorem bad_yes {h : HV} (hb : badH h = true) : ¬ HOk h.xs h.t := fun hn => by
  unfold badH at hb
  rw [ck_0 hn] at hb
  cases hb
theorem mg_c (h : HV) (w : World) (hr : HV.In w h) : Calls Try.prog 56 #[h.a] w fun e w' => e = .returned (.bool (badH h)) ∧ Below w.heap.size w w' := by
  have Hr := K.H.mk hr
  clear hr
  go_enter Try.func56, Try.ntmps56
  go_wp2_with (first | (go_at_call 42; (with_reducible refine (Check_c h.xs h.t h.A h.n h.c _ (Hr.out.below (by repeat (first | (with_reducible exact Below.refl _ _) | (with_reducible refine K.b_bel ?_ (by assumption)) | (with_reducible refine K.b_alloc ?_ _) | (with_reducible refine K.b_drewN ?_ _) | (with_reducible refine K.b_drew ?_) | (with_reducible refine K.b_set ?_ (by first | omega | (simp <;> omega)) _) | (with_reducible refine K.b_only ?_ (by assumption) (by first | omega | (simp <;> omega))))))).mono ?_); rintro e W1 ⟨rfl, hb1⟩; obtain ⟨hB1, hC1, hF1, hZ1⟩ := K.bel_facts hb1; clear hb1))
  go_ret
  exact ⟨K.ret_bool rfl, (by repeat (first | (with_reducible exact Below.refl _ _) | (with_reducible refine K.b_bel ?_ (by assumption)) | (with_reducible refine K.b_alloc ?_ _) | (with_reducible refine K.b_drewN ?_ _) | (with_reducible refine K.b_drew ?_) | (with_reducible refine K.b_set ?_ (by first | omega | (simp <;> omega)) _) | (with_reducible refine K.b_only ?_ (by assumption) (by first | omega | (simp <;> omega)))))⟩
set_option maxHeartbeats 1000000 in
theorem ixMg_c (xs : List HV) (A : Option Addr) (n c : Nat) (w : World) (hr : Sl.Rds w 2 A n (xs.flatMap HV.cs)) (ha : ∀ h ∈ xs, HV.In w h) :
    Calls Try.prog 64 #[.slice A n c, .func (.func 56) #[] #[]] w fun e w' => e = .returned (.int .i64 (Sl.idx badH xs)) ∧ Below w.heap.size w w' := by
  obtain rfl := hr.length (fun _ => rfl) (by omega)
  have hle := hr.le
  have Hr := K.H.mk hr
  clear hr
  have Ha := K.H.mk ha; clear ha
  go_enter Try.func64, Try.ntmps64
  go_wp2
  go_loopw [8] (fun i wr => ∃ k : Nat, k ≤ xs.length ∧ i = .int .i64 k ∧ K.H (∀ j y, j < k → xs[j]? = some y → badH y = false) ∧ K.H (Below w.heap.size w wr)) (fun i _ => xs.length - (intOf i).toNat)
  case atStart => exact ⟨0, by omega, rfl, ⟨fun j y h => by omega⟩, ⟨Below.refl _ _⟩⟩
  case round =>
    obtain ⟨k, hk, rfl, Hf, Hb⟩ := hrel
    by_cases hlt : k < xs.length
    · obtain ⟨x, hx⟩ : ∃ x, xs[k]? = some x := ⟨_, List.getElem?_eq_getElem hlt⟩
      obtain ⟨b, off, rfl, hbl, hbc⟩ := Sl.Rds.elem Hr.out HV.cs_len (by omega) hx
      have q_0 : wr.cell? ⟨b, off + k * 2, none⟩ = some (x.v) := (Hb.out.cell (p := ⟨b, off + k * 2 + 0, none⟩) hbl).trans (hbc 0 (by omega))
      have q_1 : wr.cell? ⟨b, off + k * 2 + 1, none⟩ = some (.int .i64 x.t) := (Hb.out.cell (p := ⟨b, off + k * 2 + 1, none⟩) hbl).trans (hbc 1 (by omega))
      clear hbc
      have hbw : b < wr.heap.size := Nat.lt_of_lt_of_le hbl Hb.out.size
      have Hx := K.H.mk hx
      clear hx
      cases hp : badH x
      · go_wp2_with ((go_at_call 56; (with_reducible refine (mg_c x _ ((Ha.out x (List.mem_of_getElem? Hx.out)).below Hb.out)).mono ?_); rintro e W4 ⟨rfl, hb4⟩; obtain ⟨hB4, hC4, hF4, hZ4⟩ := K.bel_facts hb4; clear hb4))
        go_roundw
        case rel =>
          refine ⟨k + 1, by omega, by go_num, ⟨fun j y hj hy => ?_⟩, ⟨(by repeat (first | (with_reducible exact Below.refl _ _) | (with_reducible exact Hb.out) | (with_reducible refine K.b_bel ?_ (by assumption)) | (with_reducible refine K.b_alloc ?_ _) | (with_reducible refine K.b_drewN ?_ _) | (with_reducible refine K.b_drew ?_) | (with_reducible refine K.b_set ?_ (by first | omega | (simp <;> omega)) _) | (with_reducible refine K.b_only ?_ (by assumption) (by first | omega | (simp <;> omega)))))⟩⟩
          by_cases hjk : j = k
          · subst hjk
            rw [Hx.out] at hy
            cases hy
            exact hp
          · exact Hf.out j y (by omega) hy
        case measure => simp [intOf]; omega
      · go_wp2_with ((go_at_call 56; (with_reducible refine (mg_c x _ ((Ha.out x (List.mem_of_getElem? Hx.out)).below Hb.out)).mono ?_); rintro e W4 ⟨rfl, hb4⟩; obtain ⟨hB4, hC4, hF4, hZ4⟩ := K.bel_facts hb4; clear hb4))
        go_ret
        exact ⟨K.ret_int (Sl.idx_found Hx.out hp Hf.out).symm, (by repeat (first | (with_reducible exact Below.refl _ _) | (with_reducible exact Hb.out) | (with_reducible refine K.b_bel ?_ (by assumption)) | (with_reducible refine K.b_alloc ?_ _) | (with_reducible refine K.b_drewN ?_ _) | (with_reducible refine K.b_drew ?_) | (with_reducible refine K.b_set ?_ (by first | omega | (simp <;> omega)) _) | (with_reducible refine K.b_only ?_ (by assumption) (by first | omega | (simp <;> omega)))))⟩
    · obtain rfl : k = xs.length := by omega
      go_wp2
      go_ret
      exact ⟨K.ret_int (Sl.idx_none Hf.out).symm, Hb.out⟩
theorem cnMg_c (xs : List HV) (A : Option Addr) (n c : Nat) (w : World) (hr : Sl.Rds w 2 A n (xs.flatMap HV.cs)) (ha : ∀ h ∈ xs, HV.In w h) :
    Calls Try.prog 55 #[.slice A n c, .func (.func 56) #[] #[]] w fun e w' => e = .returned (.bool (Sl.anyOf badH xs)) ∧ Below w.heap.size w w' := by
  have Hr := K.H.mk hr
  clear hr
  go_enter Try.func55, Try.ntmps55
  go_wp2_with (go_at_call 64; (with_reducible refine (ixMg_c xs _ _ _ _ Hr.out ha).mono ?_); rintro e W1 ⟨rfl, hb1⟩; obtain ⟨hB1, hC1, hF1, hZ1⟩ := K.bel_facts hb1; clear hb1)
  go_ret
  exact ⟨K.ret_bool (Sl.idx_any _ _), (by repeat (first | (with_reducible exact Below.refl _ _) | (with_reducible refine K.b_bel ?_ (by assumption)) | (with_reducible refine K.b_alloc ?_ _) | (with_reducible refine K.b_drewN ?_ _) | (with_reducible refine K.b_drew ?_) | (with_reducible refine K.b_set ?_ (by first | omega | (simp <;> omega)) _) | (with_reducible refine K.b_only ?_ (by assumption) (by first | omega | (simp <;> omega)))))⟩
/-- The first j counts of one on top of another's. -/
def vto (ys xs : List Int) : Nat → List Int
  | 0 => ys
  | j + 1 => (vto ys xs j).set j ((vto ys xs j).getD j 0 + xs.getD j 0)
theorem full_set {ys : List Int} {t : Int} (h : Full ys t) {k : Nat} (hk : k < 81) {d : Int} (hd : 0 ≤ d) (ht : t + d ≤ 1073741824) : ∃ y, ys[k]? = some y ∧ ys.getD k 0 = y ∧ 0 ≤ y ∧ y ≤ t ∧ Full (ys.set k (y + d)) (t + d) := by
  obtain ⟨⟨h1, h2, h3, h4⟩, h5⟩ := h
  obtain ⟨y, hx⟩ : ∃ y, ys[k]? = some y := ⟨_, List.getElem?_eq_getElem (by omega)⟩
  have hg : ys.getD k 0 = y := by rw [List.getD_eq_getElem?_getD, hx]; rfl
  have hb := le_sum h2 hx
  refine ⟨y, hx, hg, hb.1, by omega, ⟨⟨.inr (by simp [h5]), ?_, ?_, by omega⟩, by simp [h5]⟩⟩
  · exact odd_set h2 (by simp [oddc]; omega)
  · rw [sum_set _ hx]; omega
theorem full_vto {ys xs : List Int} {t u : Int} (h : Full ys t) (hx : HOk xs u) (ht : t + u ≤ 1073741824) : ∀ j, j ≤ xs.length → Full (vto ys xs j) (t + (xs.take j).sum)
  | 0, _ => by simpa [vto] using h
  | j + 1, hj => by
    obtain ⟨x, he⟩ : ∃ x, xs[j]? = some x := ⟨_, List.getElem?_eq_getElem (by omega)⟩
    have hg : xs.getD j 0 = x := by rw [List.getD_eq_getElem?_getD, he]; rfl
    have hx0 := le_sum hx.2.1 he
    have hs := sum_mono hx.2.1 (j := j + 1) (k := xs.length) (by omega)
    rw [List.take_length, hx.2.2.1, sum_take he] at hs
    have hl := hx.1
    obtain ⟨y, _, hyg, _, _, hf⟩ := full_set (full_vto h hx ht j (by omega)) (k := j) (by omega) hx0.1 (by omega)
    simp only [vto]
    rw [hyg, hg, sum_take he, show t + ((xs.take j).sum + x) = t + (xs.take j).sum + x by omega]
    exact hf
/-- All counts of all. -/
def mfold (hs : List HV) : List Int := hs.foldl (fun ys h => vto ys h.xs h.xs.length) (pad [])
def tall (hs : List HV) : Int := (hs.map HV.t).sum
def someH (hs : List HV) : Bool := hs.any fun h => decide (0 < h.xs.length)
theorem mfold_snoc (hs : List HV) (h : HV) : mfold (hs ++ [h]) = vto (mfold hs) h.xs h.xs.length := by simp [mfold, List.foldl_append]
theorem tall_snoc (hs : List HV) (h : HV) : tall (hs ++ [h]) = tall hs + h.t := by simp [tall]
theorem some_snoc (hs : List HV) (h : HV) : someH (hs ++ [h]) = (someH hs || decide (0 < h.xs.length)) := by simp [someH]
theorem take_snoc {α : Type} {l : List α} {k : Nat} {x : α} (h : l[k]? = some x) : l.take (k + 1) = l.take k ++ [x] := by
  obtain ⟨hk, he⟩ := List.getElem?_eq_some_iff.1 h
  rw [List.take_succ_eq_append_getElem hk, he]
theorem full_mfold {hs : List HV} (ho : ∀ h ∈ hs, HOk h.xs h.t) : ∀ k, k ≤ hs.length → tall (hs.take k) ≤ 1073741824 → Full (mfold (hs.take k)) (tall (hs.take k)) ∧ 0 ≤ tall (hs.take k)
  | 0, _, _ => by
    simp only [List.take_zero]
    exact ⟨full_pad (xs := []) (t := 0) ⟨.inl rfl, rfl, rfl, by omega⟩, by simp [tall]⟩
  | k + 1, hk, ht => by
    obtain ⟨h, hx⟩ : ∃ h, hs[k]? = some h := ⟨_, List.getElem?_eq_getElem (by omega)⟩
    have hh := ho h (List.mem_of_getElem? hx)
    have h0 := hok_in hh
    rw [take_snoc hx, tall_snoc] at ht ⊢
    obtain ⟨hf, hp⟩ := full_mfold ho k (by omega) (by omega)
    have := full_vto hf hh ht h.xs.length (Nat.le_refl _)
    rw [List.take_length, hh.2.2.1] at this
    rw [mfold_snoc]
    exact ⟨this, by omega⟩
theorem none_zero {hs : List HV} (ho : ∀ h ∈ hs, HOk h.xs h.t) (hn : someH hs = false) : tall hs = 0 := by
  unfold tall
  rw [show hs.map HV.t = hs.map (fun _ => 0) from List.map_congr_left fun h hm => by
    have h1 := ho h hm
    unfold someH at hn
    rw [List.any_eq_false] at hn
    have h2 := hn h hm
    have h3 : h.xs = [] := List.eq_nil_of_length_eq_zero (by simpa using h2)
    rw [← h1.2.2.1, h3]; rfl]
  induction hs with
  | nil => rfl
  | cons a l ih => simpa using ih (fun h hm => ho h (by simp [hm])) (by unfold someH at hn ⊢; simp at hn ⊢; exact hn.2)
theorem tall_mono {hs : List HV} (ho : ∀ h ∈ hs, HOk h.xs h.t) : ∀ k, tall (hs.take k) ≤ tall hs := by
  intro k
  have h1 : tall hs = tall (hs.take k) + tall (hs.drop k) := by
    unfold tall
    rw [← List.sum_append, ← List.map_append, List.take_append_drop]
  have h2 : ∀ l : List HV, (∀ h ∈ l, HOk h.xs h.t) → 0 ≤ tall l := by
    intro l
    induction l with
    | nil => intro _; simp [tall]
    | cons a l ih =>
      intro hl
      have := hok_in (hl a (by simp))
      have := ih (fun h hm => hl h (by simp [hm]))
      simp only [tall, List.map_cons, List.sum_cons] at *
      omega
  have := h2 (hs.drop k) (fun h hm => ho h (List.mem_of_mem_drop hm))
  omega
theorem none_fold : ∀ {hs : List HV}, someH hs = false → mfold hs = pad [] := by
  intro hs hn
  suffices hh : ∀ (l : List HV) (ys : List Int), someH l = false → l.foldl (fun ys h => vto ys h.xs h.xs.length) ys = ys from hh hs _ hn
  intro l
  induction l with
  | nil => intro ys _; rfl
  | cons a l ih =>
    intro ys hl
    unfold someH at hl ih
    simp only [List.any_cons, Bool.or_eq_false_iff] at hl
    have h0 : a.xs.length = 0 := by have := hl.1; simp at this; simp [this]
    simp only [List.foldl_cons]
    rw [h0]
    exact ih _ hl.2
/-- Merge's state: nothing yet, or a tally of one's own. -/
def MRel (W1 : World) (hs : List HV) (k : Nat) (ptr : Value) (wr : World) : Prop :=
  (someH (hs.take k) = false ∧ ∃ P, ptr = .pointer (some ⟨P, 0, none⟩) ∧ W1.heap.size ≤ P ∧ K.At wr P 86 #[.slice none 0 0, .int .i64 0]) ∨
  (someH (hs.take k) = true ∧ ∃ P R, ptr = .pointer (some ⟨P, 0, none⟩) ∧ W1.heap.size ≤ P ∧ W1.heap.size ≤ R ∧ P ≠ R ∧ K.At wr P 86 #[.slice (some ⟨R, 0, none⟩) 81 81, .int .i64 (tall (hs.take k))] ∧ K.At wr R 3 (vals (mfold (hs.take k))))
theorem mrel_keep {W1 wr wq : World} {hs : List HV} {k : Nat} {ptr : Value} (h : MRel W1 hs k ptr wr) (e1 : tall (hs.take (k + 1)) = tall (hs.take k)) (e2 : someH (hs.take (k + 1)) = someH (hs.take k)) (e3 : mfold (hs.take (k + 1)) = mfold (hs.take k)) (hb : K.Bel wr wq) : MRel W1 hs (k + 1) ptr wq := by
  unfold MRel at *
  rw [e1, e2, e3]
  rcases h with ⟨a, P, b, c, d⟩ | ⟨a, P, R, b, c, d, e, f, g⟩
  · exact .inl ⟨a, P, b, c, K.At.over hb d⟩
  · exact .inr ⟨a, P, R, b, c, d, e, K.At.over hb f, K.At.over hb g⟩
/-- What Merge tells where nothing is refused. -/
def MPost (w : World) (hs : List HV) (e : Ending) (w' : World) : Prop :=
  (someH hs = false → e = .returned (.tuple #[.agg #[.slice none 0 0, .int .i64 0], .int .i64 0]) ∧ Below w.heap.size w w') ∧ (someH hs = true → AddsPost w (mfold hs) (tall hs) e w')
set_option maxRecDepth 100000 in
set_option maxHeartbeats 8000000 in
theorem Merge_c (hs : List HV) (A : Option Addr) (n c : Nat) (w : World) (hr : Sl.Rds w 2 A n (hs.flatMap HV.cs)) (ha : ∀ h ∈ hs, HV.In w h) (hb : Sl.anyOf badH hs = false) :
    Calls Try.prog 35 #[.slice A n c] w fun e w' => (1073741824 < tall hs → e = .returned (.tuple #[.agg #[.slice none 0 0, .int .i64 0], .int .i64 72]) ∧ Below w.heap.size w w') ∧ (tall hs ≤ 1073741824 → MPost w hs e w') := by
  obtain rfl := hr.length HV.cs_len (by omega)
  have hle := hr.le
  have Hr := K.H.mk hr
  have Ha := K.H.mk ha
  have Ho := K.H.mk (fun h hm => bad_no (Sl.anyOf_false hb h hm) : ∀ h ∈ hs, HOk h.xs h.t)
  have GN := K.H.mk (fun (W : World) (hbw : Below w.heap.size w W) => cnMg_c hs A _ c W (Hr.out.below hbw) (fun h hm => HV.In.below (Ha.out h hm) hbw))
  rw [hb] at GN
  clear hr ha hb
  go_enter Try.func35, Try.ntmps35
  go_wp2_with (first | (go_at_call 55; (with_reducible refine (GN.out _ (by repeat (first | (with_reducible exact Below.refl _ _) | (with_reducible refine K.b_bel ?_ (by assumption)) | (with_reducible refine K.b_alloc ?_ _) | (with_reducible refine K.b_drewN ?_ _) | (with_reducible refine K.b_drew ?_) | (with_reducible refine K.b_set ?_ (by first | omega | (simp <;> omega)) _) | (with_reducible refine K.b_only ?_ (by assumption) (by first | omega | (simp <;> omega)))))).mono ?_); rintro e W1 ⟨rfl, hb1⟩; obtain ⟨hB1, hC1, hF1, hZ1⟩ := K.bel_facts hb1; clear hb1; have hZZ := hZ1; (try simp at hZZ); have hz1_0 : w.heap.size < W1.heap.size := (by omega); clear hZZ))
  have hZ : K.At W1 w.heap.size 54 #[.slice none 0 0, .int .i64 0] := (by refine K.At.cast (by repeat (first | (with_reducible refine K.At.new' _ _ _ _ (by first | rfl | (simp; done) | omega)) | (with_reducible apply K.At.over hB1) | (with_reducible apply K.At.set) | (with_reducible apply K.At.alloc) | (with_reducible apply K.At.drewN) | (with_reducible apply K.At.drew) | (with_reducible apply K.At.far) | omega | (simp <;> omega))) ?_; rfl)
  have hbw1 : Below w.heap.size w W1 := (by repeat (first | (with_reducible exact Below.refl _ _) | (with_reducible refine K.b_bel ?_ (by assumption)) | (with_reducible refine K.b_alloc ?_ _) | (with_reducible refine K.b_drewN ?_ _) | (with_reducible refine K.b_drew ?_) | (with_reducible refine K.b_set ?_ (by first | omega | (simp <;> omega)) _) | (with_reducible refine K.b_only ?_ (by assumption) (by first | omega | (simp <;> omega)))))
  have Hbw1 := K.H.mk hbw1
  have hz1 := hZ.lt
  clear hbw1 GN
  ((try clear hC1); (try clear hF1); (try clear hZ1); (try clear hc1); (try clear hf1); (try clear hl1); (try clear hB1); (try clear hO1); (try clear hA1); (try clear hz1_0); (try clear hz1_1); (try clear hz1_2); (try clear hz1_3))
  go_loopw [4, 5, 17] (fun ptr all i wr => ∃ k : Nat, k ≤ hs.length ∧ i = .int .i64 k ∧ all = .int .i64 (tall (hs.take k)) ∧ tall (hs.take k) ≤ 1073741824 ∧ K.H (Below W1.heap.size W1 wr) ∧ MRel W1 hs k ptr wr) (fun _ _ i _ => hs.length - (intOf i).toNat)
  case atStart => exact ⟨0, by omega, rfl, rfl, by simp [tall], ⟨K.b_alloc (Below.refl _ _) _⟩, .inl ⟨rfl, W1.heap.size, rfl, Nat.le_refl _, K.At.new _ _ _⟩⟩
  case round =>
    obtain ⟨k, hk, rfl, rfl, htk, Hb, hrl⟩ := hrel
    have hb0 : Below w.heap.size w wr := Hbw1.out.trans (Hb.out.mono Hbw1.out.size)
    have hZ2 : K.At wr w.heap.size 54 #[.slice none 0 0, .int .i64 0] := ⟨(Hb.out.block _ hz1).trans hZ.out⟩
    by_cases hlt : k < hs.length
    · obtain ⟨h, hx⟩ : ∃ h, hs[k]? = some h := ⟨_, List.getElem?_eq_getElem hlt⟩
      have hm := List.mem_of_getElem? hx
      have Hok := K.H.mk (Ho.out h hm)
      have Hin := K.H.mk (Ha.out h hm)
      have ht0 := hok_in Hok.out
      have hnl : h.xs.length = h.n := Hin.out.length (fun _ => rfl) (by omega)
      have hfull := full_mfold Ho.out k hk htk
      have hta : tall (hs.take (k + 1)) = tall (hs.take k) + h.t := by rw [take_snoc hx, tall_snoc]
      have Hta := K.H.mk hta
      have Hso := K.H.mk (show someH (hs.take (k + 1)) = (someH (hs.take k) || decide (0 < h.xs.length)) by rw [take_snoc hx, some_snoc])
      have Hmf := K.H.mk (show mfold (hs.take (k + 1)) = vto (mfold (hs.take k)) h.xs h.xs.length by rw [take_snoc hx, mfold_snoc])
      obtain ⟨b9, off9, rfl, hbl9, hbc9⟩ := Sl.Rds.elem Hr.out HV.cs_len (by omega) hx
      have q9_0 : wr.cell? ⟨b9, off9 + k * 2, none⟩ = some (h.v) := (hb0.cell (p := ⟨b9, off9 + k * 2 + 0, none⟩) hbl9).trans (hbc9 0 (by omega))
      have q9_1 : wr.cell? ⟨b9, off9 + k * 2 + 1, none⟩ = some (.int .i64 h.t) := (hb0.cell (p := ⟨b9, off9 + k * 2 + 1, none⟩) hbl9).trans (hbc9 1 (by omega))
      clear hbc9
      have hbw9 : b9 < wr.heap.size := Nat.lt_of_lt_of_le hbl9 hb0.size
      have hl81 : h.xs.length ≤ 81 := by have := Hok.out.1; omega
      obtain ⟨hc6, hf6, hl6⟩ := K.At.facts hZ2
      by_cases hfl : 1073741824 < tall (hs.take k) + h.t
      · have hd : decide (1073741824 < tall (hs.take k) + h.t) = true := decide_eq_true hfl
        have Hc := K.H.mk (show 1073741824 < tall hs by have := tall_mono Ho.out (k + 1); omega)
        have Hb0 := K.H.mk hb0
        clear hfl hb0 hx hrl hta
        generalize tall (hs.take k) = T at *
        go_wp2
        ((try simp only [Exit.inBlock, Exit.then]); refine bodyPost_ret (v := .tuple #[.agg #[.slice none 0 0, .int .i64 0], .int .i64 72]) (by simp only [results, Try.results35]; go_simp) rfl ?_)
        exact ⟨fun _ => ⟨rfl, (by repeat (first | (with_reducible exact Below.refl _ _) | (with_reducible exact Hb0.out) | (with_reducible refine K.b_bel ?_ (by assumption)) | (with_reducible refine K.b_alloc ?_ _) | (with_reducible refine K.b_drewN ?_ _) | (with_reducible refine K.b_drew ?_) | (with_reducible refine K.b_set ?_ (by first | omega | (simp <;> omega)) _) | (with_reducible refine K.b_only ?_ (by assumption) (by first | omega | (simp <;> omega)))))⟩, fun hc => by have := Hc.out; omega⟩
      · have hd : decide (1073741824 < tall (hs.take k) + h.t) = false := decide_eq_false hfl
        have Hnl := K.H.mk hnl
        have Hfl := K.H.mk hfl
        have Hx := K.H.mk hx
        have hk1 := hlt
        have HFV := K.H.mk (fun j hj => full_vto hfull.1 Hok.out (by omega) j hj : ∀ j, j ≤ h.xs.length → Full (vto (mfold (hs.take k)) h.xs j) (tall (hs.take k) + (h.xs.take j).sum))
        have htp := hfull.2
        by_cases hz0 : h.xs.length = 0
        · have hn0 : h.n = 0 := by omega
          have hd0 : decide ((0 : Int) < (h.n : Int)) = false := decide_eq_false (by omega)
          have hd1 : ¬ (0 < h.n) := by omega
          have hx0 : h.xs = [] := List.eq_nil_of_length_eq_zero hz0
          have ht00 : h.t = 0 := by have := Hok.out.2.2.1; rw [hx0] at this; simpa using this.symm
          have Hte := K.H.mk (show tall (hs.take (k + 1)) = tall (hs.take k) by rw [Hta.out, ht00]; omega)
          have Hse := K.H.mk (show someH (hs.take (k + 1)) = someH (hs.take k) by rw [Hso.out]; simp [hz0])
          have Hme := K.H.mk (show mfold (hs.take (k + 1)) = mfold (hs.take k) by rw [Hmf.out, hz0]; rfl)
          have Hrl := K.H.mk hrl
          have Hn0 := K.H.mk hn0
          clear hrl hx hta hz0 hx0 hnl hfull hfl hn0 ht00
          generalize hTT : tall (hs.take k) = T at *
          have HT := K.H.mk hTT
          clear hTT
          go_wp2
          go_loopw [46] (fun i wq => i = .int .i64 0 ∧ wq = wr.alloc (.cells #[.slice h.A h.n h.c, .int .i64 h.t] 54)) (fun _ _ => 0)
          case atStart => exact ⟨rfl, rfl⟩
          case round =>
            obtain ⟨rfl, rfl⟩ := hrel
            go_wp2
            go_roundw
            case rel => exact ⟨k + 1, by omega, by go_num, by rw [Hta.out], by have := Hfl.out; rw [Hta.out]; omega, ⟨K.b_alloc Hb.out _⟩, mrel_keep Hrl.out (by rw [Hte.out, HT.out]) Hse.out Hme.out ⟨K.b_alloc (Below.refl _ _) _⟩⟩
            case measure => simp [intOf]; omega
        · have hn81 : h.xs.length = 81 := by have := Hok.out.1; omega
          have hd0 : decide ((0 : Int) < (h.n : Int)) = true := decide_eq_true (by omega)
          have hd1 : 0 < h.n := by omega
          have Hb0 := K.H.mk hb0
          have Hhn := K.H.mk (show h.n = 81 by omega)
          rcases hrl with ⟨hso, Po, hpe, hPo0, hPo⟩ | ⟨hso, P, R, hpe, hP0, hR0, hne, hP, hR⟩
          · have hT0 : tall (hs.take k) = 0 := none_zero (fun h hm => Ho.out h (List.mem_of_mem_take hm)) hso
            have hF0 := none_fold hso
            rw [hT0] at hta HFV Hfl hd
            rw [hF0] at HFV
            have Hmf := K.H.mk (show mfold (hs.take (k + 1)) = vto (pad []) h.xs h.xs.length by rw [Hmf.out, hF0])
            have Hta := K.H.mk (show tall (hs.take (k + 1)) = 0 + h.t by rw [hta])
            have GO := K.H.mk (fun (W : World) => own_c [] 0 none 0 0 W (Sl.Rds.nil _ _ _) (.inl rfl))
            have hHt := Hfl.out
            subst hpe
            rw [hT0]
            obtain ⟨hc5, hf5, hl5⟩ := K.At.facts hPo
            clear hx hta hz0 hnl hfull hfl hso hT0 hF0 hb0 htk htp
            go_wp2_with (go_at_call 53; (with_reducible refine (GO.out _).mono ?_); rintro e W3 ⟨P, R, rfl, hPa, hRa, hne, hPq, hRq, hb3⟩; have hG7 : K.At W3 wr.heap.size 54 #[.slice h.A h.n h.c, .int .i64 h.t] := K.At.over ⟨hb3⟩ (K.At.new' _ _ _ _ rfl); obtain ⟨hc7, hf7, hl7⟩ := K.At.facts hG7; have HB3 := K.H.mk hb3; clear hb3)
            have hbq : Below W1.heap.size W1 W3 := (K.b_alloc Hb.out _).trans (HB3.out.mono (by have := Hb.out.size; simp; omega))
            have hP0 : W1.heap.size ≤ P := by have := Hb.out.size; simp at hPa; omega
            have hR0 : W1.heap.size ≤ R := by have := Hb.out.size; simp at hRa; omega
            have Hbq := K.H.mk hbq
            clear hbq HB3 hPa hRa GO hPo hc5 hf5 hl5 hc6 hf6 hl6 hc7 hf7 hl7 hG7 Hb Hb0 hHt
            go_loopw [46] (fun i wq => ∃ j : Nat, j ≤ h.xs.length ∧ i = .int .i64 j ∧ K.At wq P 86 #[.slice (some ⟨R, 0, none⟩) 81 81, .int .i64 (0 + (h.xs.take j).sum)] ∧ K.At wq R 3 (vals (vto (pad []) h.xs j)) ∧ K.H (Below W1.heap.size W1 wq)) (fun i _ => h.xs.length - (intOf i).toNat)
            case atStart => exact ⟨0, by omega, rfl, (hPq.cast (by simp)), hRq, ⟨Hbq.out⟩⟩
            case round =>
              clear hPq hRq
              obtain ⟨j, hj, rfl, hP, hR, Hb⟩ := hrel
              have hb0 : Below w.heap.size w wr := Hbw1.out.trans (Hb.out.mono Hbw1.out.size)
              by_cases hlj : j < h.xs.length
              · obtain ⟨x, hx⟩ : ∃ x, h.xs[j]? = some x := ⟨_, List.getElem?_eq_getElem hlj⟩
                have hg : h.xs.getD j 0 = x := by rw [List.getD_eq_getElem?_getD, hx]; rfl
                have hx0 := le_sum Hok.out.2.1 hx
                have hsm := sum_mono Hok.out.2.1 (j := j + 1) (k := h.xs.length) (by omega)
                rw [List.take_length, Hok.out.2.2.1, sum_take hx] at hsm
                have hf := HFV.out j hj
                have hfl2 := Hfl.out
                obtain ⟨y, hy, hyg, hy0, hy1, _⟩ := full_set hf (k := j) (by omega) hx0.1 (by omega)
                have hyl := hf.2
                have Hv := K.H.mk (show vto (pad []) h.xs (j + 1) = (vto (pad []) h.xs j).set j (y + x) by simp only [vto]; rw [hyg, hg])
                have Hst := K.H.mk (sum_take hx)
                obtain ⟨b2, off2, he2, hbl2, hbc2⟩ := Sl.Rds.elem (Hin.out) (enc := I1) (fun _ => rfl) (by omega) hx
                rw [he2]
                have q2_0 : wr.cell? ⟨b2, off2 + j, none⟩ = some (.int .i64 x) := by
                  have := (hb0.cell (p := ⟨b2, off2 + j * 1 + 0, none⟩) hbl2).trans (hbc2 0 (by omega))
                  simpa using this
                have hbw2 : b2 < wr.heap.size := Nat.lt_of_lt_of_le hbl2 hb0.size
                have GA := K.H.mk (add_c (vto (pad []) h.xs j) (0 + (h.xs.take j).sum) P R j y x wr W1 hP hR hyl hy hne (by simp only [wrap64]; omega) (by simp only [wrap64]; omega) Hb.out hP0 hR0)
                have hjn : (j : Int) < h.n := by have := Hnl.out; omega
                have hjm : j < h.n := by omega
                clear hx hg hf hyg hy hyl hbc2 hP hR he2
                go_wp2_with (first | (go_at_call 54; (with_reducible refine (GA.out).mono ?_); rintro e W7 ⟨⟨v7, rfl⟩, hP7, hR7, hb7⟩; have HB7 := K.H.mk hb7; clear hb7))
                go_roundw
                case rel => exact ⟨j + 1, by omega, by go_num, hP7.cast (by rw [Hst.out, Int.add_assoc]), hR7.cast (by rw [Hv.out]), HB7⟩
                case measure => simp [intOf]; omega
              · obtain rfl : j = h.xs.length := by omega
                rw [List.take_length, Hok.out.2.2.1] at hP
                have hje : ¬ h.xs.length < h.n := by have := Hnl.out; omega
                have hje2 : h.n ≤ h.xs.length := by have := Hnl.out; omega
                go_wp2
                go_roundw
                case rel => exact ⟨k + 1, by omega, by go_num, (by rw [Hta.out]; try rw [Int.zero_add]), by have := Hfl.out; rw [Hta.out]; omega, Hb, .inr ⟨by rw [Hso.out]; simp; omega, P, R, rfl, hP0, hR0, hne, hP.cast (by rw [Hta.out]), hR.cast (by rw [Hmf.out])⟩⟩
                case measure => simp [intOf]; omega
          · subst hpe
            have hPc := hP
            obtain ⟨hc5, hf5, hl5⟩ := K.At.facts hPc
            have hPq0 := hP.alloc (.cells #[.slice h.A h.n h.c, .int .i64 h.t] 54)
            have hRq := hR.alloc (.cells #[.slice h.A h.n h.c, .int .i64 h.t] 54)
            have Hbq := K.H.mk (K.b_alloc Hb.out (.cells #[.slice h.A h.n h.c, .int .i64 h.t] 54))
            have hPq := hPq0
            clear hx hta hz0 hnl hfull hfl hso hb0 hP hR hPc hPq0
            generalize tall (hs.take k) = T at *
            go_wp2
            clear hc5 hf5 hl5 hc6 hf6 hl6 Hb Hb0
            go_loopw [46] (fun i wq => ∃ j : Nat, j ≤ h.xs.length ∧ i = .int .i64 j ∧ K.At wq P 86 #[.slice (some ⟨R, 0, none⟩) 81 81, .int .i64 (T + (h.xs.take j).sum)] ∧ K.At wq R 3 (vals (vto (mfold (hs.take k)) h.xs j)) ∧ K.H (Below W1.heap.size W1 wq)) (fun i _ => h.xs.length - (intOf i).toNat)
            case atStart => exact ⟨0, by omega, rfl, (hPq.cast (by simp)), hRq, ⟨Hbq.out⟩⟩
            case round =>
              clear hPq hRq
              obtain ⟨j, hj, rfl, hP, hR, Hb⟩ := hrel
              have hb0 : Below w.heap.size w wr := Hbw1.out.trans (Hb.out.mono Hbw1.out.size)
              by_cases hlj : j < h.xs.length
              · obtain ⟨x, hx⟩ : ∃ x, h.xs[j]? = some x := ⟨_, List.getElem?_eq_getElem hlj⟩
                have hg : h.xs.getD j 0 = x := by rw [List.getD_eq_getElem?_getD, hx]; rfl
                have hx0 := le_sum Hok.out.2.1 hx
                have hsm := sum_mono Hok.out.2.1 (j := j + 1) (k := h.xs.length) (by omega)
                rw [List.take_length, Hok.out.2.2.1, sum_take hx] at hsm
                have hf := HFV.out j hj
                have hfl2 := Hfl.out
                obtain ⟨y, hy, hyg, hy0, hy1, _⟩ := full_set hf (k := j) (by omega) hx0.1 (by omega)
                have hyl := hf.2
                have Hv := K.H.mk (show vto (mfold (hs.take k)) h.xs (j + 1) = (vto (mfold (hs.take k)) h.xs j).set j (y + x) by simp only [vto]; rw [hyg, hg])
                have Hst := K.H.mk (sum_take hx)
                obtain ⟨b2, off2, he2, hbl2, hbc2⟩ := Sl.Rds.elem (Hin.out) (enc := I1) (fun _ => rfl) (by omega) hx
                rw [he2]
                have q2_0 : wr.cell? ⟨b2, off2 + j, none⟩ = some (.int .i64 x) := by
                  have := (hb0.cell (p := ⟨b2, off2 + j * 1 + 0, none⟩) hbl2).trans (hbc2 0 (by omega))
                  simpa using this
                have hbw2 : b2 < wr.heap.size := Nat.lt_of_lt_of_le hbl2 hb0.size
                have GA := K.H.mk (add_c (vto (mfold (hs.take k)) h.xs j) (T + (h.xs.take j).sum) P R j y x wr W1 hP hR hyl hy hne (by simp only [wrap64]; omega) (by simp only [wrap64]; omega) Hb.out hP0 hR0)
                have hjn : (j : Int) < h.n := by have := Hnl.out; omega
                have hjm : j < h.n := by omega
                clear hx hg hf hyg hy hyl hbc2 hP hR he2
                go_wp2_with (first | (go_at_call 54; (with_reducible refine (GA.out).mono ?_); rintro e W7 ⟨⟨v7, rfl⟩, hP7, hR7, hb7⟩; have HB7 := K.H.mk hb7; clear hb7))
                go_roundw
                case rel => exact ⟨j + 1, by omega, by go_num, hP7.cast (by rw [Hst.out, Int.add_assoc]), hR7.cast (by rw [Hv.out]), HB7⟩
                case measure => simp [intOf]; omega
              · obtain rfl : j = h.xs.length := by omega
                rw [List.take_length, Hok.out.2.2.1] at hP
                have hje : ¬ h.xs.length < h.n := by have := Hnl.out; omega
                have hje2 : h.n ≤ h.xs.length := by have := Hnl.out; omega
                go_wp2
                go_roundw
                case rel => exact ⟨k + 1, by omega, by go_num, (by rw [Hta.out]; try rw [Int.zero_add]), by have := Hfl.out; rw [Hta.out]; omega, Hb, .inr ⟨by rw [Hso.out]; simp; omega, P, R, rfl, hP0, hR0, hne, hP.cast (by rw [Hta.out]), hR.cast (by rw [Hmf.out])⟩⟩
                case measure => simp [intOf]; omega
    · obtain rfl : k = hs.length := by omega
      unfold MRel at hrl
      rw [List.take_length] at hrl htk
      have Hb0 := K.H.mk hb0
      obtain ⟨hc6, hf6, hl6⟩ := K.At.facts hZ2
      have htl : tall (hs.take hs.length) = tall hs := by rw [List.take_length]
      have Htk := K.H.mk htk
      rcases hrl with ⟨hso, P, hpe, hP0, hP⟩ | ⟨hso, P, R, hpe, hP0, hR0, hne, hP, hR⟩
      · subst hpe
        have Hso := K.H.mk hso
        obtain ⟨hc5, hf5, hl5⟩ := K.At.facts hP
        clear hso hb0 htk htl
        go_wp2
        ((try simp only [Exit.inBlock, Exit.then]); refine bodyPost_ret (v := .tuple #[.agg #[.slice none 0 0, .int .i64 0], .int .i64 0]) (by simp only [results, Try.results35]; go_simp) rfl ?_)
        exact ⟨fun hc => by have := Htk.out; omega, fun _ => ⟨fun _ => ⟨rfl, (by repeat (first | (with_reducible exact Below.refl _ _) | (with_reducible exact Hb0.out) | (with_reducible refine K.b_bel ?_ (by assumption)) | (with_reducible refine K.b_alloc ?_ _) | (with_reducible refine K.b_drewN ?_ _) | (with_reducible refine K.b_drew ?_) | (with_reducible refine K.b_set ?_ (by first | omega | (simp <;> omega)) _) | (with_reducible refine K.b_only ?_ (by assumption) (by first | omega | (simp <;> omega)))))⟩, fun hc => by have := Hso.out; rw [hc] at this; cases this⟩⟩
      · subst hpe
        have Hso := K.H.mk hso
        obtain ⟨hc5, hf5, hl5⟩ := K.At.facts hP
        have hwR : w.heap.size ≠ R := by omega
        have hRl : w.heap.size ≤ R := by omega
        clear hso hb0 htk htl
        go_wp2
        ((try simp only [Exit.inBlock, Exit.then]); refine bodyPost_ret (v := .tuple #[.agg #[.slice (some ⟨R, 0, none⟩) 81 81, .int .i64 (tall hs)], .int .i64 0]) (by simp only [results, Try.results35]; go_simp) rfl ?_)
        exact ⟨fun hc => by have := Htk.out; omega, fun _ => ⟨fun hc => (by have := Hso.out; rw [hc] at this; cases this), fun _ => ⟨R, rfl, hRl, (by refine K.At.cast (by repeat (first | (with_reducible exact hR) | (with_reducible refine K.At.new' _ _ _ _ (by first | rfl | (simp; done) | omega)) | (with_reducible apply K.At.set) | (with_reducible apply K.At.alloc) | (with_reducible apply K.At.drewN) | (with_reducible apply K.At.drew) | (with_reducible apply K.At.far) | omega | (simp <;> omega))) ?_; rfl), (by repeat (first | (with_reducible exact Below.refl _ _) | (with_reducible exact Hb0.out) | (with_reducible refine K.b_bel ?_ (by assumption)) | (with_reducible refine K.b_alloc ?_ _) | (with_reducible refine K.b_drewN ?_ _) | (with_reducible refine K.b_drew ?_) | (with_reducible refine K.b_set ?_ (by first | omega | (simp <;> omega)) _) | (with_reducible refine K.b_only ?_ (by assumption) (by first | omega | (simp <;> omega)))))⟩⟩⟩
end Go.Proofs.Ytimdfnhagjlkoaa.Hst
