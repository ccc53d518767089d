/- Histograms: Add. -/
import Derived.Test.YtimdfnhagjlkoaaHstA
set_option linter.unusedVariables false
namespace Go.Proofs.Ytimdfnhagjlkoaa.Hst
open Go.RowKit Go.Proofs.Ytimdfnhagjlkoaa
attribute [local go_sem] K.max2_int K.min2_int K.max_two K.min_two K.max_three K.min_three
set_option linter.unusedSimpArgs false
/-- The place of a number's bucket. -/
def bk (n : Int) : Nat := (bkt (K.mn n 1048576)).toNat
theorem bk_in {n : Int} (h : 0 ≤ n) : bkt (K.mn n 1048576) = (bk n : Int) ∧ bk n < 81 := by
  have hm : 0 ≤ K.mn n 1048576 ∧ K.mn n 1048576 ≤ 1048576 := by unfold K.mn; split <;> omega
  have := law_all hm.1 hm.2
  unfold bk
  omega
def inc (ys : List Int) (k : Nat) : List Int := ys.set k (ys.getD k 0 + 1)
def adds (ys ns : List Int) : List Int := ns.foldl (fun ys n => inc ys (bk n)) ys
theorem adds_snoc (ys ns : List Int) (n : Int) : adds ys (ns ++ [n]) = inc (adds ys ns) (bk n) := by simp [adds, List.foldl_append]
theorem adds_take (ys : List Int) {ns : List Int} {k : Nat} {n : Int} (h : ns[k]? = some n) : adds ys (ns.take (k + 1)) = inc (adds ys (ns.take k)) (bk n) := by
  obtain ⟨hk, hx⟩ := List.getElem?_eq_some_iff.1 h
  rw [List.take_succ_eq_append_getElem hk, hx, adds_snoc]
theorem sum_set : ∀ {ys : List Int} {k : Nat} {x : Int} (v : Int), ys[k]? = some x → (ys.set k v).sum = ys.sum + v - x
  | [], k, x, v, h => by simp at h
  | y :: ys, 0, x, v, h => by
    simp at h
    subst h
    simp; omega
  | y :: ys, k + 1, x, v, h => by
    have := sum_set (ys := ys) (k := k) (x := x) v (by simpa using h)
    simp [this]; omega
theorem odd_set {ys : List Int} {k : Nat} {v : Int} (h : Sl.anyOf oddc ys = false) (hv : oddc v = false) : Sl.anyOf oddc (ys.set k v) = false := by
  unfold Sl.anyOf at *
  rw [List.any_eq_false] at *
  intro x hx
  rcases List.mem_or_eq_of_mem_set hx with hx | rfl
  · exact h x hx
  · simp [hv]
theorem le_sum {ys : List Int} (h : Sl.anyOf oddc ys = false) {k : Nat} {x : Int} (hx : ys[k]? = some x) : 0 ≤ x ∧ x ≤ ys.sum := by
  have h1 := sum_mono h (j := k + 1) (k := ys.length) (by have := (List.getElem?_eq_some_iff.1 hx).1; omega)
  rw [sum_take hx, List.take_length] at h1
  have h2 := (sum_in (any_take h k)).1
  have := Sl.anyOf_false h x (List.mem_of_getElem? hx)
  simp [oddc] at this
  omega
/-- A histogram of 81 counts. -/
def Full (ys : List Int) (t : Int) : Prop := HOk ys t ∧ ys.length = 81
theorem full_inc {ys : List Int} {t : Int} (h : Full ys t) {k : Nat} (hk : k < 81) (ht : t < 1073741824) : ∃ x, ys[k]? = some x ∧ ys.getD k 0 = x ∧ 0 ≤ x ∧ x ≤ t ∧ Full (inc ys k) (t + 1) := by
  obtain ⟨⟨h1, h2, h3, h4⟩, h5⟩ := h
  obtain ⟨x, hx⟩ : ∃ x, ys[k]? = some x := ⟨_, List.getElem?_eq_getElem (by omega)⟩
  have hg : ys.getD k 0 = x := by rw [List.getD_eq_getElem?_getD, hx]; rfl
  have hb := le_sum h2 hx
  refine ⟨x, hx, hg, hb.1, by omega, ⟨⟨.inr (by simp [inc, h5]), ?_, ?_, by omega⟩, by simp [inc, h5]⟩⟩
  · unfold inc
    rw [hg]
    exact odd_set h2 (by simp [oddc]; omega)
  · unfold inc
    rw [hg, sum_set _ hx]; omega
theorem full_pad {xs : List Int} {t : Int} (h : HOk xs t) : Full (pad xs) t := by
  obtain ⟨h1, h2, h3, h4⟩ := h
  have hl := pad_len xs (by omega)
  refine ⟨⟨.inr hl, ?_, ?_, h4⟩, hl⟩
  · unfold pad
    unfold Sl.anyOf at *
    rw [List.any_append, h2, Bool.false_or, List.any_eq_false]
    intro x hx
    rw [List.eq_of_mem_replicate hx]
    decide
  · unfold pad
    rw [List.sum_append, h3]
    simp
theorem full_adds {ys ns : List Int} {t : Int} (h : Full ys t) (hn : ∀ n ∈ ns, 0 ≤ n) : ∀ k, k ≤ ns.length → t + k ≤ 1073741824 → Full (adds ys (ns.take k)) (t + k)
  | 0, _, _ => by simpa [adds] using h
  | k + 1, hk, ht => by
    obtain ⟨n, hx⟩ : ∃ n, ns[k]? = some n := ⟨_, List.getElem?_eq_getElem (by omega)⟩
    rw [adds_take ys hx]
    obtain ⟨x, _, _, _, _, hf⟩ := full_inc (full_adds h hn k (by omega) (by omega)) (bk_in (hn n (List.mem_of_getElem? hx))).2 (by omega)
    rw [show t + ((k + 1 : Nat) : Int) = t + k + 1 by omega]
    exact hf
def neg (n : Int) : Bool := decide (n < 0)
theorem neg_c (x : Int) (w : World) : Calls Try.prog 52 #[.int .i64 x] w fun e w' => e = .returned (.bool (neg x)) ∧ Below w.heap.size w w' := by
  go_enter Try.func52, Try.ntmps52
  go_wp2
  go_ret
  exact ⟨K.ret_bool (by unfold neg; rfl), (by repeat (first | (with_reducible exact Below.refl _ _) | (with_reducible refine K.b_bel ?_ (by assumption)) | (with_reducible refine K.b_alloc ?_ _) | (with_reducible refine K.b_drewN ?_ _) | (with_reducible refine K.b_drew ?_) | (with_reducible refine K.b_set ?_ (by first | omega | (simp <;> omega)) _) | (with_reducible refine K.b_only ?_ (by assumption) (by first | omega | (simp <;> omega)))))⟩
set_option maxHeartbeats 1000000 in
theorem ixNeg_c (xs : List Int) (A : Option Addr) (n c : Nat) (w : World) (hr : Sl.Rds w 1 A n (xs.flatMap (fun n : Int => [Value.int .i64 n]))) :
    Calls Try.prog 49 #[.slice A n c, .func (.func 52) #[] #[]] w fun e w' => e = .returned (.int .i64 (Sl.idx neg xs)) ∧ Below w.heap.size w w' := by
  obtain rfl := hr.length (fun _ => rfl) (by omega)
  have hle := hr.le
  have Hr := K.H.mk hr
  clear hr
  
  go_enter Try.func49, Try.ntmps49
  go_wp2
  go_loopw [8] (fun i wr => ∃ k : Nat, k ≤ xs.length ∧ i = .int .i64 k ∧ K.H (∀ j y, j < k → xs[j]? = some y → neg y = false) ∧ K.H (Below w.heap.size w wr)) (fun i _ => xs.length - (intOf i).toNat)
  case atStart => exact ⟨0, by omega, rfl, ⟨fun j y h => by omega⟩, ⟨Below.refl _ _⟩⟩
  case round =>
    obtain ⟨k, hk, rfl, Hf, Hb⟩ := hrel
    by_cases hlt : k < xs.length
    · obtain ⟨x, hx⟩ : ∃ x, xs[k]? = some x := ⟨_, List.getElem?_eq_getElem hlt⟩
      obtain ⟨b, off, rfl, hbl, hbc⟩ := Sl.Rds.elem Hr.out (enc := fun n => [.int .i64 n]) (fun _ => rfl) (by omega) hx
      have q_0 : wr.cell? ⟨b, off + k, none⟩ = some (.int .i64 x) := by
        have := (Hb.out.cell (p := ⟨b, off + k * 1 + 0, none⟩) hbl).trans (hbc 0 (by omega))
        simpa using this
      have hbw : b < wr.heap.size := Nat.lt_of_lt_of_le hbl Hb.out.size
      have Hx := K.H.mk hx
      clear hx
      cases hp : neg x
      · go_wp2_with ((go_at_call 52; (with_reducible refine (neg_c x _).mono ?_); rintro e W4 ⟨rfl, hb4⟩; obtain ⟨hB4, hC4, hF4, hZ4⟩ := K.bel_facts hb4; clear hb4))
        go_roundw
        case rel =>
          refine ⟨k + 1, by omega, by go_num, ⟨fun j y hj hy => ?_⟩, ⟨(by repeat (first | (with_reducible exact Below.refl _ _) | (with_reducible exact Hb.out) | (with_reducible refine K.b_bel ?_ (by assumption)) | (with_reducible refine K.b_alloc ?_ _) | (with_reducible refine K.b_drewN ?_ _) | (with_reducible refine K.b_drew ?_) | (with_reducible refine K.b_set ?_ (by first | omega | (simp <;> omega)) _) | (with_reducible refine K.b_only ?_ (by assumption) (by first | omega | (simp <;> omega)))))⟩⟩
          by_cases hjk : j = k
          · subst hjk
            rw [Hx.out] at hy
            cases hy
            exact hp
          · exact Hf.out j y (by omega) hy
        case measure => simp [intOf]; omega
      · go_wp2_with ((go_at_call 52; (with_reducible refine (neg_c x _).mono ?_); rintro e W4 ⟨rfl, hb4⟩; obtain ⟨hB4, hC4, hF4, hZ4⟩ := K.bel_facts hb4; clear hb4))
        go_ret
        exact ⟨K.ret_int (Sl.idx_found Hx.out hp Hf.out).symm, (by repeat (first | (with_reducible exact Below.refl _ _) | (with_reducible exact Hb.out) | (with_reducible refine K.b_bel ?_ (by assumption)) | (with_reducible refine K.b_alloc ?_ _) | (with_reducible refine K.b_drewN ?_ _) | (with_reducible refine K.b_drew ?_) | (with_reducible refine K.b_set ?_ (by first | omega | (simp <;> omega)) _) | (with_reducible refine K.b_only ?_ (by assumption) (by first | omega | (simp <;> omega)))))⟩
    · obtain rfl : k = xs.length := by omega
      go_wp2
      go_ret
      exact ⟨K.ret_int (Sl.idx_none Hf.out).symm, Hb.out⟩
theorem cnNeg_c (xs : List Int) (A : Option Addr) (n c : Nat) (w : World) (hr : Sl.Rds w 1 A n (xs.flatMap (fun n : Int => [Value.int .i64 n]))) :
    Calls Try.prog 51 #[.slice A n c, .func (.func 52) #[] #[]] w fun e w' => e = .returned (.bool (Sl.anyOf neg xs)) ∧ Below w.heap.size w w' := by
  have Hr := K.H.mk hr
  clear hr
  go_enter Try.func51, Try.ntmps51
  go_wp2_with (go_at_call 49; (with_reducible refine (ixNeg_c xs _ _ _ _ Hr.out).mono ?_); rintro e W1 ⟨rfl, hb1⟩; obtain ⟨hB1, hC1, hF1, hZ1⟩ := K.bel_facts hb1; clear hb1)
  go_ret
  exact ⟨K.ret_bool (Sl.idx_any _ _), (by repeat (first | (with_reducible exact Below.refl _ _) | (with_reducible refine K.b_bel ?_ (by assumption)) | (with_reducible refine K.b_alloc ?_ _) | (with_reducible refine K.b_drewN ?_ _) | (with_reducible refine K.b_drew ?_) | (with_reducible refine K.b_set ?_ (by first | omega | (simp <;> omega)) _) | (with_reducible refine K.b_only ?_ (by assumption) (by first | omega | (simp <;> omega)))))⟩
open Classical in
noncomputable def eAdd (xs : List Int) (t : Int) (ns : List Int) : Int := if HOk xs t then (if Sl.anyOf neg ns then 4 else if 1073741824 - (ns.length : Int) < t then 72 else 0) else 9
/-- What Add tells: a histogram of its own. -/
def AddsPost (w : World) (ys : List Int) (t : Int) (e : Ending) (w' : World) : Prop := ∃ R, e = .returned (.tuple #[.agg #[.slice (some ⟨R, 0, none⟩) 81 81, .int .i64 t], .int .i64 0]) ∧ w.heap.size ≤ R ∧ K.At w' R 3 (vals ys) ∧ Below w.heap.size w w'
set_option maxRecDepth 100000 in
set_option maxHeartbeats 4000000 in
theorem Add_ok (xs : List Int) (t : Int) (ns : List Int) (A B : Option Addr) (n c m d : Nat) (w : World) (hr : Sl.Rds w 1 A n (xs.flatMap I1)) (hs : Sl.Rds w 1 B m (ns.flatMap I1)) (h : HOk xs t) (hn : Sl.anyOf neg ns = false) (ht : t + ns.length ≤ 1073741824) :
    Calls Try.prog 33 #[.agg #[.slice A n c, .int .i64 t], .slice B m d] w (AddsPost w (adds (pad xs) ns) (t + ns.length)) := by
  obtain rfl := hr.length (fun _ => rfl) (by omega)
  obtain rfl := hs.length (fun _ => rfl) (by omega)
  have hle := hr.le
  have hle2 := hs.le
  have Hr := K.H.mk hr
  have Hs := K.H.mk hs
  have ht0 := hok_in h
  have GC := K.H.mk (fun (W : World) (hb : Below w.heap.size w W) => Check_c xs t A _ c W (Hr.out.below hb))
  rw [ck_0 h] at GC
  have GN := K.H.mk (fun (W : World) (hb : Below w.heap.size w W) => cnNeg_c ns B _ d W (Hs.out.below hb))
  rw [hn] at GN
  have GO := K.H.mk (fun (W : World) (hb : Below w.heap.size w W) => own_c xs t A _ c W (Hr.out.below hb) h.1)
  have HF := K.H.mk (fun k hk hk2 => full_adds (full_pad h) (fun n hm => by have := Sl.anyOf_false hn n hm; simpa [neg] using this) k hk hk2 : ∀ k, k ≤ ns.length → t + k ≤ 1073741824 → Full (adds (pad xs) (ns.take k)) (t + k))
  have Hn := K.H.mk (fun n hm => by have := Sl.anyOf_false hn n hm; simpa [neg] using this : ∀ n ∈ ns, 0 ≤ n)
  have hd1 : decide (1073741824 - (ns.length : Int) < t) = false := by simp; omega
  clear hr hs h hn
  go_enter Try.func33, Try.ntmps33
  go_wp2_with (first | (go_at_call 42; (with_reducible refine (GC.out _ (by repeat (first | (with_reducible exact Below.refl _ _) | (with_reducible refine K.b_bel ?_ (by assumption)) | (with_reducible refine K.b_alloc ?_ _) | (with_reducible refine K.b_drewN ?_ _) | (with_reducible refine K.b_drew ?_) | (with_reducible refine K.b_set ?_ (by first | omega | (simp <;> omega)) _) | (with_reducible refine K.b_only ?_ (by assumption) (by first | omega | (simp <;> omega)))))).mono ?_); rintro e W1 ⟨rfl, hb1⟩; obtain ⟨hB1, hC1, hF1, hZ1⟩ := K.bel_facts hb1; clear hb1; have hZZ := hZ1; (try simp at hZZ); have hz1_0 : w.heap.size < W1.heap.size := (by omega); have hz1_1 : w.heap.size + 1 < W1.heap.size := (by omega); clear hZZ) | (go_at_call 51; (with_reducible refine (GN.out _ (by repeat (first | (with_reducible exact Below.refl _ _) | (with_reducible refine K.b_bel ?_ (by assumption)) | (with_reducible refine K.b_alloc ?_ _) | (with_reducible refine K.b_drewN ?_ _) | (with_reducible refine K.b_drew ?_) | (with_reducible refine K.b_set ?_ (by first | omega | (simp <;> omega)) _) | (with_reducible refine K.b_only ?_ (by assumption) (by first | omega | (simp <;> omega)))))).mono ?_); rintro e W2 ⟨rfl, hb2⟩; obtain ⟨hB2, hC2, hF2, hZ2⟩ := K.bel_facts hb2; clear hb2; have hZZ := hZ2; (try simp at hZZ); have hz2_0 : w.heap.size < W2.heap.size := (by omega); have hz2_1 : w.heap.size + 1 < W2.heap.size := (by omega); (try have hz2_1_0 : W1.heap.size < W2.heap.size := (by omega)); (try have hz2_1_1 : W1.heap.size + 1 < W2.heap.size := (by omega)); clear hZZ) | (go_at_call 53; (with_reducible refine (GO.out _ (by repeat (first | (with_reducible exact Below.refl _ _) | (with_reducible refine K.b_bel ?_ (by assumption)) | (with_reducible refine K.b_alloc ?_ _) | (with_reducible refine K.b_drewN ?_ _) | (with_reducible refine K.b_drew ?_) | (with_reducible refine K.b_set ?_ (by first | omega | (simp <;> omega)) _) | (with_reducible refine K.b_only ?_ (by assumption) (by first | omega | (simp <;> omega)))))).mono ?_); rintro e W3 ⟨P, R, rfl, hP0, hR0, hne, hP3, hR3, hb3⟩; have HB3 := K.H.mk hb3; clear hb3))
  have hH : K.At W2 (w.heap.size + 1) 54 #[.slice none 0 0, .int .i64 0] := (by refine K.At.cast (by repeat (first | (with_reducible refine K.At.new' _ _ _ _ (by first | rfl | (simp; done) | omega)) | (with_reducible apply K.At.over hB2) | (with_reducible apply K.At.over hB1) | (with_reducible apply K.At.set) | (with_reducible apply K.At.alloc) | (with_reducible apply K.At.drewN) | (with_reducible apply K.At.drew) | (with_reducible apply K.At.far) | omega | (simp <;> omega))) ?_; rfl)
  have hbw2 : Below w.heap.size w W2 := (by repeat (first | (with_reducible exact Below.refl _ _) | (with_reducible refine K.b_bel ?_ (by assumption)) | (with_reducible refine K.b_alloc ?_ _) | (with_reducible refine K.b_drewN ?_ _) | (with_reducible refine K.b_drew ?_) | (with_reducible refine K.b_set ?_ (by first | omega | (simp <;> omega)) _) | (with_reducible refine K.b_only ?_ (by assumption) (by first | omega | (simp <;> omega)))))
  have HBw2 := K.H.mk hbw2
  have hH1 := hH.lt
  clear hbw2 GC GN GO
  ((try clear hC2); (try clear hF2); (try clear hZ2); (try clear hc2); (try clear hf2); (try clear hl2); (try clear hB2); (try clear hO2); (try clear hA2); (try clear hz2_0); (try clear hz2_1); (try clear hz2_2); (try clear hz2_3); (try clear hz2_1_0); (try clear hz2_1_1); (try clear hC1); (try clear hF1); (try clear hZ1); (try clear hc1); (try clear hf1); (try clear hl1); (try clear hB1); (try clear hO1); (try clear hA1); (try clear hz1_0); (try clear hz1_1); (try clear hz1_2); (try clear hz1_3))
  go_loopw [30] (fun i wr => ∃ k : Nat, k ≤ ns.length ∧ i = .int .i64 k ∧ K.At wr P 86 #[.slice (some ⟨R, 0, none⟩) 81 81, .int .i64 (t + k)] ∧ K.At wr R 3 (vals (adds (pad xs) (ns.take k))) ∧ K.H (Below W2.heap.size W2 wr)) (fun i _ => ns.length - (intOf i).toNat)
  case atStart => exact ⟨0, by omega, rfl, hP3.cast (by simp), hR3.cast (by simp [adds]), HB3⟩
  case round =>
    clear hP3 hR3 HB3
    obtain ⟨k, hk, rfl, hP, hR, Hb⟩ := hrel
    by_cases hlt : k < ns.length
    · obtain ⟨x, hx⟩ : ∃ x, ns[k]? = some x := ⟨_, List.getElem?_eq_getElem hlt⟩
      have hx0 := Hn.out x (List.mem_of_getElem? hx)
      have hbk := bk_in hx0
      obtain ⟨y, hy, hyg, hy0, hy1, hf⟩ := full_inc (HF.out k hk (by omega)) hbk.2 (by omega)
      have hyl := (HF.out k hk (by omega)).2
      have hat := adds_take (pad xs) hx
      have Hat := K.H.mk (show adds (pad xs) (ns.take (k + 1)) = (adds (pad xs) (ns.take k)).set (bk x) (y + 1) by rw [hat]; unfold inc; rw [hyg])
      obtain ⟨b, off, rfl, hbl, hbc⟩ := Sl.Rds.elem Hs.out (enc := I1) (fun _ => rfl) (by omega) hx
      have q_0 : wr.cell? ⟨b, off + k, none⟩ = some (.int .i64 x) := by
        have := ((HBw2.out.trans (Hb.out.mono HBw2.out.size)).cell (p := ⟨b, off + k * 1 + 0, none⟩) hbl).trans (hbc 0 (by omega))
        simpa using this
      have hbw : b < wr.heap.size := Nat.lt_of_lt_of_le hbl (Nat.le_trans HBw2.out.size Hb.out.size)
      have GB := K.H.mk (fun W => bucket_c x W hx0)
      rw [hbk.1] at GB
      have GA := K.H.mk (add_c (adds (pad xs) (ns.take k)) (t + k) P R (bk x) y 1 wr W2 hP hR hyl hy hne (by simp only [wrap64]; omega) (by simp only [wrap64]; omega) Hb.out hP0 hR0)
      clear hx hbc hat hyg hf hyl hy hP hR hbk
      generalize bk x = j at *
      go_wp2_with (first | (go_at_call 48; (with_reducible refine (GB.out _).mono ?_); rintro e w' ⟨rfl, hw'⟩; have hw'2 := Eq.symm hw'; clear hw'; subst hw'2) | (go_at_call 54; (with_reducible refine (GA.out).mono ?_); rintro e W7 ⟨⟨v7, rfl⟩, hP7, hR7, hb7⟩; have HB7 := K.H.mk hb7; clear hb7))
      go_roundw
      case rel => exact ⟨k + 1, by omega, by go_num, hP7.cast (by rw [show t + (k : Int) + 1 = t + ((k + 1 : Nat) : Int) by omega]), hR7.cast (by rw [Hat.out]), HB7⟩
      case measure => simp [intOf]; omega
    · obtain rfl : k = ns.length := by omega
      rw [List.take_length] at hR
      have hH2 : K.At wr (w.heap.size + 1) 54 #[.slice none 0 0, .int .i64 0] := ⟨(Hb.out.block _ hH1).trans hH.out⟩
      have Hw := K.H.mk (HBw2.out.trans (Hb.out.mono HBw2.out.size))
      obtain ⟨hc5, hf5, hl5⟩ := K.At.facts hP
      obtain ⟨hc6, hf6, hl6⟩ := K.At.facts hH2
      have hwR : w.heap.size + 1 ≠ R := by omega
      have hRl : w.heap.size ≤ R := by omega
      clear hH
      go_wp2
      ((try simp only [Exit.inBlock, Exit.then]); refine bodyPost_ret (v := .tuple #[.agg #[.slice (some ⟨R, 0, none⟩) 81 81, .int .i64 (t + ns.length)], .int .i64 0]) (by simp only [results, Try.results33]; go_simp) rfl ?_)
      exact ⟨R, rfl, hRl, (by refine K.At.cast (by repeat (first | (with_reducible exact hR) | (with_reducible refine K.At.new' _ _ _ _ (by first | rfl | (simp; done) | omega)) | (with_reducible apply K.At.set) | (with_reducible apply K.At.alloc) | (with_reducible apply K.At.drewN) | (with_reducible apply K.At.drew) | (with_reducible apply K.At.far) | omega | (simp <;> omega))) ?_; rfl), (by repeat (first | (with_reducible exact Below.refl _ _) | (with_reducible exact Hw.out) | (with_reducible refine K.b_bel ?_ (by assumption)) | (with_reducible refine K.b_alloc ?_ _) | (with_reducible refine K.b_drewN ?_ _) | (with_reducible refine K.b_drew ?_) | (with_reducible refine K.b_set ?_ (by first | omega | (simp <;> omega)) _) | (with_reducible refine K.b_only ?_ (by assumption) (by first | omega | (simp <;> omega)))))⟩
theorem eAdd_0 {xs : List Int} {t : Int} {ns : List Int} (h : HOk xs t) (hn : Sl.anyOf neg ns = false) (ht : t + ns.length ≤ 1073741824) : eAdd xs t ns = 0 := by
  unfold eAdd
  rw [if_pos h, if_neg (by simp [hn]), if_neg (by omega)]
theorem eAdd_ok {xs : List Int} {t : Int} {ns : List Int} (h : eAdd xs t ns = 0) : HOk xs t ∧ Sl.anyOf neg ns = false ∧ t + ns.length ≤ 1073741824 := by
  unfold eAdd at h
  split at h
  · rename_i h1
    split at h
    · omega
    · rename_i h2
      split at h
      · omega
      · exact ⟨h1, by simpa using h2, by omega⟩
  · omega
set_option maxRecDepth 100000 in
set_option maxHeartbeats 4000000 in
theorem Add_bad (xs : List Int) (t : Int) (ns : List Int) (A B : Option Addr) (n c m d : Nat) (w : World) (hr : Sl.Rds w 1 A n (xs.flatMap I1)) (hs : Sl.Rds w 1 B m (ns.flatMap I1)) (h : eAdd xs t ns ≠ 0) :
    Calls Try.prog 33 #[.agg #[.slice A n c, .int .i64 t], .slice B m d] w fun e w' => e = .returned (.tuple #[.agg #[.slice none 0 0, .int .i64 0], .int .i64 (eAdd xs t ns)]) ∧ Below w.heap.size w w' := by
  obtain rfl := hr.length (fun _ => rfl) (by omega)
  obtain rfl := hs.length (fun _ => rfl) (by omega)
  have hle := hr.le
  have hle2 := hs.le
  have Hr := K.H.mk hr
  have Hs := K.H.mk hs
  have GC := K.H.mk (fun (W : World) (hb : Below w.heap.size w W) => Check_c xs t A _ c W (Hr.out.below hb))
  have GN := K.H.mk (fun (W : World) (hb : Below w.heap.size w W) => cnNeg_c ns B _ d W (Hs.out.below hb))
  by_cases hh : HOk xs t
  · have ht0 := hok_in hh
    rw [ck_0 hh] at GC
    cases hn : Sl.anyOf neg ns
    · have hd1 : decide (1073741824 - (ns.length : Int) < t) = true := by
        have : ¬ t + ns.length ≤ 1073741824 := fun hc => h (eAdd_0 hh hn hc)
        simp; omega
      rw [show eAdd xs t ns = 72 by unfold eAdd; rw [if_pos hh, if_neg (by simp [hn]), if_pos (by simpa using hd1)]]
      rw [hn] at GN
      clear hr hs h hh hn
      go_enter Try.func33, Try.ntmps33
      go_wp2_with (first | (go_at_call 42; (with_reducible refine (GC.out _ (by repeat (first | (with_reducible exact Below.refl _ _) | (with_reducible refine K.b_bel ?_ (by assumption)) | (with_reducible refine K.b_alloc ?_ _) | (with_reducible refine K.b_drewN ?_ _) | (with_reducible refine K.b_drew ?_) | (with_reducible refine K.b_set ?_ (by first | omega | (simp <;> omega)) _) | (with_reducible refine K.b_only ?_ (by assumption) (by first | omega | (simp <;> omega)))))).mono ?_); rintro e W1 ⟨rfl, hb1⟩; obtain ⟨hB1, hC1, hF1, hZ1⟩ := K.bel_facts hb1; clear hb1; have hZZ := hZ1; (try simp at hZZ); have hz1_0 : w.heap.size < W1.heap.size := (by omega); have hz1_1 : w.heap.size + 1 < W1.heap.size := (by omega); clear hZZ; have hP1 : K.At W1 (w.heap.size + 1) 54 #[.slice none 0 0, .int .i64 0] := (by refine K.At.cast (by repeat (first | (with_reducible refine K.At.new' _ _ _ _ (by first | rfl | (simp; done) | omega)) | (with_reducible apply K.At.over hB1) | (with_reducible apply K.At.set) | (with_reducible apply K.At.alloc) | (with_reducible apply K.At.drewN) | (with_reducible apply K.At.drew) | (with_reducible apply K.At.far) | omega | (simp <;> omega))) ?_; rfl); obtain ⟨hcP, hfP, hlP⟩ := K.At.facts hP1) | (go_at_call 51; (with_reducible refine (GN.out _ (by repeat (first | (with_reducible exact Below.refl _ _) | (with_reducible refine K.b_bel ?_ (by assumption)) | (with_reducible refine K.b_alloc ?_ _) | (with_reducible refine K.b_drewN ?_ _) | (with_reducible refine K.b_drew ?_) | (with_reducible refine K.b_set ?_ (by first | omega | (simp <;> omega)) _) | (with_reducible refine K.b_only ?_ (by assumption) (by first | omega | (simp <;> omega)))))).mono ?_); rintro e W2 ⟨rfl, hb2⟩; obtain ⟨hB2, hC2, hF2, hZ2⟩ := K.bel_facts hb2; clear hb2; have hZZ := hZ2; (try simp at hZZ); have hz2_0 : w.heap.size < W2.heap.size := (by omega); have hz2_1 : w.heap.size + 1 < W2.heap.size := (by omega); (try have hz2_1_0 : W1.heap.size < W2.heap.size := (by omega)); (try have hz2_1_1 : W1.heap.size + 1 < W2.heap.size := (by omega)); clear hZZ; have hP2 : K.At W2 (w.heap.size + 1) 54 #[.slice none 0 0, .int .i64 0] := K.At.over hB2 hP1; obtain ⟨hcP2, hfP2, hlP2⟩ := K.At.facts hP2))
      ((try simp only [Exit.inBlock, Exit.then]); refine bodyPost_ret (v := .tuple #[.agg #[.slice none 0 0, .int .i64 0], .int .i64 (72)]) (by simp only [results, Try.results33]; go_simp) rfl ?_)
      exact ⟨rfl, (by repeat (first | (with_reducible exact Below.refl _ _) | (with_reducible refine K.b_bel ?_ (by assumption)) | (with_reducible refine K.b_alloc ?_ _) | (with_reducible refine K.b_drewN ?_ _) | (with_reducible refine K.b_drew ?_) | (with_reducible refine K.b_set ?_ (by first | omega | (simp <;> omega)) _) | (with_reducible refine K.b_only ?_ (by assumption) (by first | omega | (simp <;> omega)))))⟩
    · rw [show eAdd xs t ns = 4 by unfold eAdd; rw [if_pos hh, if_pos hn]]
      rw [hn] at GN
      clear hr hs h hh hn
      go_enter Try.func33, Try.ntmps33
      go_wp2_with (first | (go_at_call 42; (with_reducible refine (GC.out _ (by repeat (first | (with_reducible exact Below.refl _ _) | (with_reducible refine K.b_bel ?_ (by assumption)) | (with_reducible refine K.b_alloc ?_ _) | (with_reducible refine K.b_drewN ?_ _) | (with_reducible refine K.b_drew ?_) | (with_reducible refine K.b_set ?_ (by first | omega | (simp <;> omega)) _) | (with_reducible refine K.b_only ?_ (by assumption) (by first | omega | (simp <;> omega)))))).mono ?_); rintro e W1 ⟨rfl, hb1⟩; obtain ⟨hB1, hC1, hF1, hZ1⟩ := K.bel_facts hb1; clear hb1; have hZZ := hZ1; (try simp at hZZ); have hz1_0 : w.heap.size < W1.heap.size := (by omega); have hz1_1 : w.heap.size + 1 < W1.heap.size := (by omega); clear hZZ; have hP1 : K.At W1 (w.heap.size + 1) 54 #[.slice none 0 0, .int .i64 0] := (by refine K.At.cast (by repeat (first | (with_reducible refine K.At.new' _ _ _ _ (by first | rfl | (simp; done) | omega)) | (with_reducible apply K.At.over hB1) | (with_reducible apply K.At.set) | (with_reducible apply K.At.alloc) | (with_reducible apply K.At.drewN) | (with_reducible apply K.At.drew) | (with_reducible apply K.At.far) | omega | (simp <;> omega))) ?_; rfl); obtain ⟨hcP, hfP, hlP⟩ := K.At.facts hP1) | (go_at_call 51; (with_reducible refine (GN.out _ (by repeat (first | (with_reducible exact Below.refl _ _) | (with_reducible refine K.b_bel ?_ (by assumption)) | (with_reducible refine K.b_alloc ?_ _) | (with_reducible refine K.b_drewN ?_ _) | (with_reducible refine K.b_drew ?_) | (with_reducible refine K.b_set ?_ (by first | omega | (simp <;> omega)) _) | (with_reducible refine K.b_only ?_ (by assumption) (by first | omega | (simp <;> omega)))))).mono ?_); rintro e W2 ⟨rfl, hb2⟩; obtain ⟨hB2, hC2, hF2, hZ2⟩ := K.bel_facts hb2; clear hb2; have hZZ := hZ2; (try simp at hZZ); have hz2_0 : w.heap.size < W2.heap.size := (by omega); have hz2_1 : w.heap.size + 1 < W2.heap.size := (by omega); (try have hz2_1_0 : W1.heap.size < W2.heap.size := (by omega)); (try have hz2_1_1 : W1.heap.size + 1 < W2.heap.size := (by omega)); clear hZZ; have hP2 : K.At W2 (w.heap.size + 1) 54 #[.slice none 0 0, .int .i64 0] := K.At.over hB2 hP1; obtain ⟨hcP2, hfP2, hlP2⟩ := K.At.facts hP2))
      ((try simp only [Exit.inBlock, Exit.then]); refine bodyPost_ret (v := .tuple #[.agg #[.slice none 0 0, .int .i64 0], .int .i64 (4)]) (by simp only [results, Try.results33]; go_simp) rfl ?_)
      exact ⟨rfl, (by repeat (first | (with_reducible exact Below.refl _ _) | (with_reducible refine K.b_bel ?_ (by assumption)) | (with_reducible refine K.b_alloc ?_ _) | (with_reducible refine K.b_drewN ?_ _) | (with_reducible refine K.b_drew ?_) | (with_reducible refine K.b_set ?_ (by first | omega | (simp <;> omega)) _) | (with_reducible refine K.b_only ?_ (by assumption) (by first | omega | (simp <;> omega)))))⟩
  · rw [ck_9 hh] at GC
    rw [show eAdd xs t ns = 9 by unfold eAdd; rw [if_neg hh]]
    clear hr hs h hh
    go_enter Try.func33, Try.ntmps33
    go_wp2_with (first | (go_at_call 42; (with_reducible refine (GC.out _ (by repeat (first | (with_reducible exact Below.refl _ _) | (with_reducible refine K.b_bel ?_ (by assumption)) | (with_reducible refine K.b_alloc ?_ _) | (with_reducible refine K.b_drewN ?_ _) | (with_reducible refine K.b_drew ?_) | (with_reducible refine K.b_set ?_ (by first | omega | (simp <;> omega)) _) | (with_reducible refine K.b_only ?_ (by assumption) (by first | omega | (simp <;> omega)))))).mono ?_); rintro e W1 ⟨rfl, hb1⟩; obtain ⟨hB1, hC1, hF1, hZ1⟩ := K.bel_facts hb1; clear hb1; have hZZ := hZ1; (try simp at hZZ); have hz1_0 : w.heap.size < W1.heap.size := (by omega); have hz1_1 : w.heap.size + 1 < W1.heap.size := (by omega); clear hZZ; have hP1 : K.At W1 (w.heap.size + 1) 54 #[.slice none 0 0, .int .i64 0] := (by refine K.At.cast (by repeat (first | (with_reducible refine K.At.new' _ _ _ _ (by first | rfl | (simp; done) | omega)) | (with_reducible apply K.At.over hB1) | (with_reducible apply K.At.set) | (with_reducible apply K.At.alloc) | (with_reducible apply K.At.drewN) | (with_reducible apply K.At.drew) | (with_reducible apply K.At.far) | omega | (simp <;> omega))) ?_; rfl); obtain ⟨hcP, hfP, hlP⟩ := K.At.facts hP1) | (go_at_call 51; (with_reducible refine (GN.out _ (by repeat (first | (with_reducible exact Below.refl _ _) | (with_reducible refine K.b_bel ?_ (by assumption)) | (with_reducible refine K.b_alloc ?_ _) | (with_reducible refine K.b_drewN ?_ _) | (with_reducible refine K.b_drew ?_) | (with_reducible refine K.b_set ?_ (by first | omega | (simp <;> omega)) _) | (with_reducible refine K.b_only ?_ (by assumption) (by first | omega | (simp <;> omega)))))).mono ?_); rintro e W2 ⟨rfl, hb2⟩; obtain ⟨hB2, hC2, hF2, hZ2⟩ := K.bel_facts hb2; clear hb2; have hZZ := hZ2; (try simp at hZZ); have hz2_0 : w.heap.size < W2.heap.size := (by omega); have hz2_1 : w.heap.size + 1 < W2.heap.size := (by omega); (try have hz2_1_0 : W1.heap.size < W2.heap.size := (by omega)); (try have hz2_1_1 : W1.heap.size + 1 < W2.heap.size := (by omega)); clear hZZ; have hP2 : K.At W2 (w.heap.size + 1) 54 #[.slice none 0 0, .int .i64 0] := K.At.over hB2 hP1; obtain ⟨hcP2, hfP2, hlP2⟩ := K.At.facts hP2))
    ((try simp only [Exit.inBlock, Exit.then]); refine bodyPost_ret (v := .tuple #[.agg #[.slice none 0 0, .int .i64 0], .int .i64 (9)]) (by simp only [results, Try.results33]; go_simp) rfl ?_)
    exact ⟨rfl, (by repeat (first | (with_reducible exact Below.refl _ _) | (with_reducible refine K.b_bel ?_ (by assumption)) | (with_reducible refine K.b_alloc ?_ _) | (with_reducible refine K.b_drewN ?_ _) | (with_reducible refine K.b_drew ?_) | (with_reducible refine K.b_set ?_ (by first | omega | (simp <;> omega)) _) | (with_reducible refine K.b_only ?_ (by assumption) (by first | omega | (simp <;> omega)))))⟩
end Go.Proofs.Ytimdfnhagjlkoaa.Hst
