/- Histograms: Merge of what may hold a histogram that may not be; all of Add and Merge, on both sides, in one form. -/
import Derived.Test.YtimdfnhagjlkoaaHstN
import Derived.Test.YtimdfnhagjlkoaaHstV
import Derived.Test.YtimdfnhagjlkoaaCp
set_option linter.unusedVariables false
namespace Go.Proofs.Ytimdfnhagjlkoaa.Hst
open Go.RowKit Go.Proofs.Ytimdfnhagjlkoaa
attribute [local go_sem] K.max2_int K.min2_int K.max_two K.min_two K.max_three K.min_three
set_option linter.unusedSimpArgs false
theorem bad_9 {h : HV} (hb : badH h = true) : eCk h.xs h.t = 9 := ck_9 (bad_yes hb)
theorem good_0 {h : HV} (hb : badH h = false) : eCk h.xs h.t = 0 := ck_0 (bad_no hb)
theorem bad_snoc {hs : List HV} {k : Nat} {h : HV} (hx : hs[k]? = some h) (ho : Sl.anyOf badH (hs.take k) = false) (hb : badH h = false) : Sl.anyOf badH (hs.take (k + 1)) = false := by
  rw [take_snoc hx]
  unfold Sl.anyOf at ho ⊢
  simp [ho, hb]
set_option maxRecDepth 100000 in
set_option maxHeartbeats 4000000 in
theorem Merge_bad (hs : List HV) (A : Option Addr) (n c : Nat) (w : World) (hr : Sl.Rds w 2 A n (hs.flatMap HV.cs)) (ha : ∀ h ∈ hs, HV.In w h) (hb : Sl.anyOf badH hs = true) :
    Calls Try.prog 35 #[.slice A n c] w fun e w' => e = .returned (.tuple #[.agg #[.slice none 0 0, .int .i64 0], .int .i64 9]) ∧ Below w.heap.size w w' := by
  obtain rfl := hr.length HV.cs_len (by omega)
  have hle := hr.le
  have GN := K.H.mk (fun (W : World) (hbw : Below w.heap.size w W) => cnMg_c hs A _ c W (hr.below hbw) (fun h hm => HV.In.below (ha h hm) hbw))
  rw [hb] at GN
  clear hr ha hb
  go_enter Try.func35, Try.ntmps35
  go_wp2_with (first | (go_at_call 55; (with_reducible refine (GN.out _ (by repeat (first | (with_reducible exact Below.refl _ _) | (with_reducible refine K.b_bel ?_ (by assumption)) | (with_reducible refine K.b_alloc ?_ _) | (with_reducible refine K.b_drewN ?_ _) | (with_reducible refine K.b_drew ?_) | (with_reducible refine K.b_set ?_ (by first | omega | (simp <;> omega)) _) | (with_reducible refine K.b_only ?_ (by assumption) (by first | omega | (simp <;> omega)))))).mono ?_); rintro e W1 ⟨rfl, hb1⟩; obtain ⟨hB1, hC1, hF1, hZ1⟩ := K.bel_facts hb1; clear hb1; have hZZ := hZ1; (try simp at hZZ); have hz1_0 : w.heap.size < W1.heap.size := (by omega); clear hZZ; have hP1 : K.At W1 w.heap.size 54 #[.slice none 0 0, .int .i64 0] := (by refine K.At.cast (by repeat (first | (with_reducible refine K.At.new' _ _ _ _ (by first | rfl | (simp; done) | omega)) | (with_reducible apply K.At.over hB1) | (with_reducible apply K.At.set) | (with_reducible apply K.At.alloc) | (with_reducible apply K.At.drewN) | (with_reducible apply K.At.drew) | (with_reducible apply K.At.far) | omega | (simp <;> omega))) ?_; rfl); obtain ⟨hcP, hfP, hlP⟩ := K.At.facts hP1))
  ((try simp only [Exit.inBlock, Exit.then]); refine bodyPost_ret (v := .tuple #[.agg #[.slice none 0 0, .int .i64 0], .int .i64 9]) (by simp only [results, Try.results35]; go_simp) rfl ?_)
  exact ⟨rfl, (by repeat (first | (with_reducible exact Below.refl _ _) | (with_reducible refine K.b_bel ?_ (by assumption)) | (with_reducible refine K.b_alloc ?_ _) | (with_reducible refine K.b_drewN ?_ _) | (with_reducible refine K.b_drew ?_) | (with_reducible refine K.b_set ?_ (by first | omega | (simp <;> omega)) _) | (with_reducible refine K.b_only ?_ (by assumption) (by first | omega | (simp <;> omega)))))⟩
set_option maxRecDepth 100000 in
set_option maxHeartbeats 4000000 in
theorem rMerge_bad (hs : List HV) (A : Option Addr) (n c : Nat) (w : World) (hr : Sl.Rds w 2 A n (hs.flatMap HV.cs)) (ha : ∀ h ∈ hs, HV.In w h) (hb : Sl.anyOf badH hs = true) :
    Calls Try.prog 39 #[.slice A n c] w fun e w' => e = .returned (.tuple #[.agg #[.slice none 0 0, .int .i64 0], .int .i64 9]) ∧ Below w.heap.size w w' := by
  obtain rfl := hr.length HV.cs_len (by omega)
  have hle := hr.le
  have Hr := K.H.mk hr
  have Ha := K.H.mk ha
  have Hbad := K.H.mk hb
  clear hr ha hb
  go_enter Try.func39, Try.ntmps39
  go_wp2
  refine K.wp_gen (fun W => K.At W w.heap.size 54 #[.slice none 0 0, .int .i64 0] ∧ Below w.heap.size w W) ⟨(by refine K.At.cast (by repeat (first | (with_reducible refine K.At.new' _ _ _ _ (by first | rfl | (simp; done) | omega)) | (with_reducible apply K.At.set) | (with_reducible apply K.At.alloc) | (with_reducible apply K.At.drewN) | (with_reducible apply K.At.drew) | (with_reducible apply K.At.far) | omega | (simp <;> omega))) ?_; rfl), (by repeat (first | (with_reducible exact Below.refl _ _) | (with_reducible refine K.b_bel ?_ (by assumption)) | (with_reducible refine K.b_alloc ?_ _) | (with_reducible refine K.b_drewN ?_ _) | (with_reducible refine K.b_drew ?_) | (with_reducible refine K.b_set ?_ (by first | omega | (simp <;> omega)) _) | (with_reducible refine K.b_only ?_ (by assumption) (by first | omega | (simp <;> omega)))))⟩ ?_
  rintro W0 ⟨hZ0, hbw0⟩
  have Hbw0 := K.H.mk hbw0
  have hz0 := hZ0.lt
  clear hbw0
  go_loopw [4] (fun i wr => ∃ k : Nat, k ≤ hs.length ∧ i = .int .i64 k ∧ K.H (Below W0.heap.size W0 wr) ∧ K.H (Sl.anyOf badH (hs.take k) = false)) (fun i _ => hs.length - (intOf i).toNat)
  case atStart => exact ⟨0, by omega, rfl, ⟨Below.refl _ _⟩, ⟨rfl⟩⟩
  case round =>
    obtain ⟨k, hk, rfl, Hb, Hg⟩ := hrel
    have hb0 : Below w.heap.size w wr := Hbw0.out.trans (Hb.out.mono Hbw0.out.size)
    have hZ : K.At wr w.heap.size 54 #[.slice none 0 0, .int .i64 0] := ⟨(Hb.out.block _ hz0).trans hZ0.out⟩
    have hz1 := hZ.lt
    obtain ⟨hc6, hf6, hl6⟩ := K.At.facts hZ
    by_cases hlt : k < hs.length
    · obtain ⟨h, hx⟩ : ∃ h, hs[k]? = some h := ⟨_, List.getElem?_eq_getElem hlt⟩
      have hm := List.mem_of_getElem? hx
      have GC := K.H.mk (rCheck_c h.xs h.t h.A h.n h.c wr (HV.In.below (Ha.out h hm) hb0))
      obtain ⟨b9, off9, rfl, hbl9, hbc9⟩ := Sl.Rds.elem Hr.out HV.cs_len (by omega) hx
      have q9_0 : wr.cell? ⟨b9, off9 + k * 2, none⟩ = some (h.v) := (hb0.cell (p := ⟨b9, off9 + k * 2 + 0, none⟩) hbl9).trans (hbc9 0 (by omega))
      have q9_1 : wr.cell? ⟨b9, off9 + k * 2 + 1, none⟩ = some (.int .i64 h.t) := (hb0.cell (p := ⟨b9, off9 + k * 2 + 1, none⟩) hbl9).trans (hbc9 1 (by omega))
      clear hbc9
      have hbw9 : b9 < wr.heap.size := Nat.lt_of_lt_of_le hbl9 hb0.size
      have Hb0 := K.H.mk hb0
      cases hbd : badH h
      · rw [good_0 hbd] at GC
        have Hg2 := K.H.mk (bad_snoc hx Hg.out hbd)
        clear hx hm hb0 hbd
        go_wp2_with (go_at_call 43; (with_reducible refine (GC.out).mono ?_); rintro e W7 ⟨rfl, hb7⟩; obtain ⟨hB7, hC7, hF7, hZ7⟩ := K.bel_facts hb7; clear hb7)
        go_roundw
        case rel => exact ⟨k + 1, by omega, by go_num, ⟨(by repeat (first | (with_reducible exact Below.refl _ _) | (with_reducible exact Hb.out) | (with_reducible refine K.b_bel ?_ (by assumption)) | (with_reducible refine K.b_alloc ?_ _) | (with_reducible refine K.b_drewN ?_ _) | (with_reducible refine K.b_drew ?_) | (with_reducible refine K.b_set ?_ (by first | omega | (simp <;> omega)) _) | (with_reducible refine K.b_only ?_ (by assumption) (by first | omega | (simp <;> omega)))))⟩, Hg2⟩
        case measure => simp [intOf]; omega
      · rw [bad_9 hbd] at GC
        clear hx hm hb0 hbd
        go_wp2_with (go_at_call 43; (with_reducible refine (GC.out).mono ?_); rintro e W7 ⟨rfl, hb7⟩; obtain ⟨hB7, hC7, hF7, hZ7⟩ := K.bel_facts hb7; clear hb7; have hZ7 := K.At.over hB7 hZ; obtain ⟨hcZ, hfZ, hlZ⟩ := K.At.facts hZ7)
        ((try simp only [Exit.inBlock, Exit.then]); refine bodyPost_ret (v := .tuple #[.agg #[.slice none 0 0, .int .i64 0], .int .i64 9]) (by simp only [results, Try.results39]; go_simp) rfl ?_)
        exact ⟨rfl, (by repeat (first | (with_reducible exact Below.refl _ _) | (with_reducible exact Hb0.out) | (with_reducible refine K.b_bel ?_ (by assumption)) | (with_reducible refine K.b_alloc ?_ _) | (with_reducible refine K.b_drewN ?_ _) | (with_reducible refine K.b_drew ?_) | (with_reducible refine K.b_set ?_ (by first | omega | (simp <;> omega)) _) | (with_reducible refine K.b_only ?_ (by assumption) (by first | omega | (simp <;> omega)))))⟩
    · exfalso
      obtain rfl : k = hs.length := by omega
      have h1 := Hg.out
      rw [List.take_length, Hbad.out] at h1
      cases h1
/-- A histogram and an error are told: the counts ys, in memory of their own, the total t, the error x. -/
def HP (w : World) (ys : List Int) (t x : Int) (e : Ending) (w' : World) : Prop := ∃ A n c, e = .returned (.tuple #[.agg #[.slice A n c, .int .i64 t], .int .i64 x]) ∧ Sl.Rds w' 1 A n (ys.flatMap I1) ∧ (∀ a, A = some a → w.heap.size ≤ a.block) ∧ Below w.heap.size w w'
theorem hp_zero {w w' : World} {x : Int} {e : Ending} (h : e = .returned (.tuple #[.agg #[.slice none 0 0, .int .i64 0], .int .i64 x]) ∧ Below w.heap.size w w') : HP w [] 0 x e w' :=
  ⟨none, 0, 0, h.1, Sl.Rds.nil _ _ _, (fun _ h => by cases h), h.2⟩
theorem hp_adds {w w' : World} {ys : List Int} {t : Int} {e : Ending} (hl : ys.length = 81) (h : AddsPost w ys t e w') : HP w ys t 0 e w' := by
  obtain ⟨R, he, hR, hA, hb⟩ := h
  have h1 := rds_vals hA (by omega)
  rw [hl] at h1
  exact ⟨some ⟨R, 0, none⟩, 81, 81, he, h1, (fun a h => by cases h; exact hR), hb⟩
noncomputable def yAdd (xs : List Int) (t : Int) (ns : List Int) : List Int := if eAdd xs t ns = 0 then adds (pad xs) ns else []
noncomputable def tAdd (xs : List Int) (t : Int) (ns : List Int) : Int := if eAdd xs t ns = 0 then t + ns.length else 0
theorem adds_81 {xs : List Int} {t : Int} {ns : List Int} (h : eAdd xs t ns = 0) : (adds (pad xs) ns).length = 81 := by
  have := (eAdd_ok h).1.1
  rw [adds_len, pad_len xs (by omega)]
theorem Add_hp (xs : List Int) (t : Int) (ns : List Int) (A B : Option Addr) (n c m d : Nat) (w : World) (hr : Sl.Rds w 1 A n (xs.flatMap I1)) (hs : Sl.Rds w 1 B m (ns.flatMap I1)) :
    Calls Try.prog 33 #[.agg #[.slice A n c, .int .i64 t], .slice B m d] w (HP w (yAdd xs t ns) (tAdd xs t ns) (eAdd xs t ns)) := by
  by_cases h : eAdd xs t ns = 0
  · obtain ⟨h1, h2, h3⟩ := eAdd_ok h
    unfold yAdd tAdd
    rw [if_pos h, if_pos h, h]
    exact (Add_ok xs t ns A B n c m d w hr hs h1 h2 h3).mono fun e w' hh => hp_adds (adds_81 h) hh
  · unfold yAdd tAdd
    rw [if_neg h, if_neg h]
    exact (Add_bad xs t ns A B n c m d w hr hs h).mono fun e w' hh => hp_zero hh
theorem rAdd_hp (xs : List Int) (t : Int) (ns : List Int) (A B : Option Addr) (n c m d : Nat) (w : World) (hr : Sl.Rds w 1 A n (xs.flatMap I1)) (hs : Sl.Rds w 1 B m (ns.flatMap I1)) :
    Calls Try.prog 38 #[.agg #[.slice A n c, .int .i64 t], .slice B m d] w (HP w (yAdd xs t ns) (tAdd xs t ns) (eAdd xs t ns)) := by
  refine (rAdd_c xs t ns A B n c m d w hr hs).mono fun e w' hh => ?_
  by_cases h : eAdd xs t ns = 0
  · unfold yAdd tAdd
    rw [if_pos h, if_pos h, h]
    exact hp_adds (adds_81 h) (hh.2 h)
  · unfold yAdd tAdd
    rw [if_neg h, if_neg h]
    exact hp_zero (hh.1 h)
noncomputable def eMrg (hs : List HV) : Int := if Sl.anyOf badH hs = true then 9 else if 1073741824 < tall hs then 72 else 0
noncomputable def yMrg (hs : List HV) : List Int := if eMrg hs = 0 ∧ someH hs = true then mfold hs else []
noncomputable def tMrg (hs : List HV) : Int := if eMrg hs = 0 ∧ someH hs = true then tall hs else 0
theorem mrg_hp {hs : List HV} {w : World} {e : Ending} {w' : World} (hb : Sl.anyOf badH hs = false)
    (h : (1073741824 < tall hs → e = .returned (.tuple #[.agg #[.slice none 0 0, .int .i64 0], .int .i64 72]) ∧ Below w.heap.size w w') ∧ (tall hs ≤ 1073741824 → MPost w hs e w')) : HP w (yMrg hs) (tMrg hs) (eMrg hs) e w' := by
  unfold yMrg tMrg
  by_cases h1 : 1073741824 < tall hs
  · have h2 : eMrg hs = 72 := by unfold eMrg; rw [if_neg (by simp [hb]), if_pos h1]
    rw [h2, if_neg (by simp), if_neg (by simp)]
    exact hp_zero (h.1 h1)
  · have h2 : eMrg hs = 0 := by unfold eMrg; rw [if_neg (by simp [hb]), if_neg h1]
    rw [h2]
    have h3 := h.2 (by omega)
    cases hsm : someH hs
    · rw [if_neg (by simp), if_neg (by simp)]
      exact hp_zero (h3.1 hsm)
    · rw [if_pos (by simp), if_pos (by simp)]
      have hf := (full_mfold (fun h hm => bad_no (Sl.anyOf_false hb h hm) : ∀ h ∈ hs, HOk h.xs h.t) hs.length (Nat.le_refl _) (by rw [List.take_length]; omega)).1
      rw [List.take_length] at hf
      exact hp_adds hf.2 (h3.2 hsm)
theorem mrg_bad {hs : List HV} {w : World} {e : Ending} {w' : World} (hb : Sl.anyOf badH hs = true) (h : e = .returned (.tuple #[.agg #[.slice none 0 0, .int .i64 0], .int .i64 9]) ∧ Below w.heap.size w w') : HP w (yMrg hs) (tMrg hs) (eMrg hs) e w' := by
  have h2 : eMrg hs = 9 := by unfold eMrg; rw [if_pos hb]
  unfold yMrg tMrg
  rw [h2, if_neg (by simp), if_neg (by simp)]
  exact hp_zero h
theorem Merge_hp (hs : List HV) (A : Option Addr) (n c : Nat) (w : World) (hr : Sl.Rds w 2 A n (hs.flatMap HV.cs)) (ha : ∀ h ∈ hs, HV.In w h) : Calls Try.prog 35 #[.slice A n c] w (HP w (yMrg hs) (tMrg hs) (eMrg hs)) := by
  cases hb : Sl.anyOf badH hs
  · exact (Merge_c hs A n c w hr ha hb).mono fun e w' h => mrg_hp hb h
  · exact (Merge_bad hs A n c w hr ha hb).mono fun e w' h => mrg_bad hb h
theorem rMerge_hp (hs : List HV) (A : Option Addr) (n c : Nat) (w : World) (hr : Sl.Rds w 2 A n (hs.flatMap HV.cs)) (ha : ∀ h ∈ hs, HV.In w h) : Calls Try.prog 39 #[.slice A n c] w (HP w (yMrg hs) (tMrg hs) (eMrg hs)) := by
  cases hb : Sl.anyOf badH hs
  · exact (rMerge_c hs A n c w hr ha hb).mono fun e w' h => mrg_hp hb h
  · exact (rMerge_bad hs A n c w hr ha hb).mono fun e w' h => mrg_bad hb h
/-- The law's own: a copy. -/
def LOwn (w : World) (xs : List Int) (n : Nat) (t : Int) (e : Ending) (w' : World) : Prop := ∃ A c, e = .returned (.agg #[.slice A n c, .int .i64 t]) ∧ w'.ownsRow w.heap.size 3 1 (.slice A n c) n (xs.flatMap I1) ∧ Below w.heap.size w w'
set_option maxRecDepth 100000 in
set_option maxHeartbeats 4000000 in
theorem lown_c (xs : List Int) (t : Int) (A : Option Addr) (n c : Nat) (w : World) (hr : Sl.Rds w 1 A n (xs.flatMap I1)) (hn : n * 8 ≤ 140737488355328) :
    Calls Try.prog 37 #[.agg #[.slice A n c, .int .i64 t]] w (LOwn w xs n t) := by
  have GC := K.H.mk (fun (W : World) (hb : Below w.heap.size w W) => Sl.copy_c xs A n c W (hr.below hb) hn)
  clear hr hn
  go_enter Try.func37, Try.ntmps37
  go_wp2
  refine K.wp_gen (fun W => K.At W w.heap.size 54 #[.slice A n c, .int .i64 t] ∧ K.At W (w.heap.size + 1) 54 #[.slice none 0 0, .int .i64 0] ∧ Below w.heap.size w W) ⟨(by refine K.At.cast (by repeat (first | (with_reducible refine K.At.new' _ _ _ _ (by first | rfl | (simp; done) | omega)) | (with_reducible apply K.At.set) | (with_reducible apply K.At.alloc) | (with_reducible apply K.At.drewN) | (with_reducible apply K.At.drew) | (with_reducible apply K.At.far) | omega | (simp <;> omega))) ?_; rfl), (by refine K.At.cast (by repeat (first | (with_reducible refine K.At.new' _ _ _ _ (by first | rfl | (simp; done) | omega)) | (with_reducible apply K.At.set) | (with_reducible apply K.At.alloc) | (with_reducible apply K.At.drewN) | (with_reducible apply K.At.drew) | (with_reducible apply K.At.far) | omega | (simp <;> omega))) ?_; rfl), (by repeat (first | (with_reducible exact Below.refl _ _) | (with_reducible refine K.b_bel ?_ (by assumption)) | (with_reducible refine K.b_alloc ?_ _) | (with_reducible refine K.b_drewN ?_ _) | (with_reducible refine K.b_drew ?_) | (with_reducible refine K.b_set ?_ (by first | omega | (simp <;> omega)) _) | (with_reducible refine K.b_only ?_ (by assumption) (by first | omega | (simp <;> omega)))))⟩ ?_
  rintro W1 ⟨hH, hZ, hb1⟩
  have HB1 := K.H.mk hb1
  clear hb1
  obtain ⟨hc5, hf5, hl5⟩ := K.At.facts hH
  obtain ⟨hc6, hf6, hl6⟩ := K.At.facts hZ
  go_region_with ((go_at_call 57; (with_reducible refine (GC.out _ (by repeat (first | (with_reducible exact Below.refl _ _) | (with_reducible exact HB1.out) | (with_reducible refine K.b_bel ?_ (by assumption)) | (with_reducible refine K.b_alloc ?_ _) | (with_reducible refine K.b_drewN ?_ _) | (with_reducible refine K.b_drew ?_) | (with_reducible refine K.b_set ?_ (by first | omega | (simp <;> omega)) _) | (with_reducible refine K.b_only ?_ (by assumption) (by first | omega | (simp <;> omega)))))).mono ?_); rintro e W3 ⟨⟨v3, rfl, hown3⟩, hb3⟩; have hB3 := K.Bel.mk hb3; clear hb3; have hH3 := K.At.over hB3 (K.At.drew hH); have hZ3 := K.At.over hB3 (K.At.drew hZ); obtain ⟨hc7, hf7, hl7⟩ := K.At.facts hH3; obtain ⟨hc8, hf8, hl8⟩ := K.At.facts hZ3; obtain ⟨A3, c3, rfl, hR3⟩ := Sl.Rds.of_own hown3; have Hown3 := K.H.mk hown3; clear hR3; clear hown3 hc5 hf5 hl5 hc6 hf6 hl6))
  all_goals go_wp2
  all_goals ((try simp only [Exit.inBlock, Exit.then]); refine bodyPost_ret (v := .agg #[.slice A3 n c3, .int .i64 t]) (by simp only [results, Try.results37]; go_simp) rfl ?_)
  all_goals have hq := Sl.own_ne Hown3.out hZ3 (by decide)
  all_goals exact ⟨A3, c3, rfl, Sl.own_low (Sl.own_set (Sl.own_set Hown3.out hq _) hq _) HB1.out.size, (by repeat (first | (with_reducible exact Below.refl _ _) | (with_reducible exact HB1.out) | (with_reducible refine K.b_bel ?_ (by assumption)) | (with_reducible refine K.b_alloc ?_ _) | (with_reducible refine K.b_drewN ?_ _) | (with_reducible refine K.b_drew ?_) | (with_reducible refine K.b_set ?_ (by first | omega | (simp <;> omega)) _) | (with_reducible refine K.b_only ?_ (by assumption) (by first | omega | (simp <;> omega)))))⟩
end Go.Proofs.Ytimdfnhagjlkoaa.Hst
