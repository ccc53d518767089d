/- HistoOwn: what is told shares nothing with what was handed in. -/
import Derived.Test.YtimdfnhagjlkoaaHstX
set_option linter.unusedVariables false
namespace Go.Proofs.Ytimdfnhagjlkoaa.Hst
open Go.RowKit Go.Proofs.Ytimdfnhagjlkoaa
attribute [local go_sem] K.max2_int K.min2_int K.max_two K.min_two K.max_three K.min_three
set_option linter.unusedSimpArgs false
theorem rds_alloc {w : World} {sz n : Nat} {A : Option Addr} {cs : List Value} (h : Sl.Rds w sz A n cs) (o : Obj) : Sl.Rds (w.alloc o) sz A n cs := h.below (K.b_alloc (Below.refl _ _) o)
theorem rds_grown {w W : World} {sz n : Nat} {A : Option Addr} {cs : List Value} {row : Option Nat} (h : Sl.Rds w sz A n cs) (hg : w.grownBy W row) (hn : ∀ a, A = some a → row ≠ some a.block) : Sl.Rds W sz A n cs := by
  refine ⟨h.len, h.small, fun hp => ?_⟩
  obtain ⟨b, off, rfl, hb, hc⟩ := h.at_ hp
  have hbk := hg.block b hb (Ne.symm (hn _ rfl))
  refine ⟨b, off, rfl, Nat.lt_of_lt_of_le hb hg.size, fun j hj => ?_⟩
  rw [← hc j hj]
  unfold World.cell?
  simp only [hbk]
theorem own_rds {w : World} {base n : Nat} {A : Option Addr} {c : Nat} {cs : List Value} {e : TypeId} (h : w.ownsRow base e 1 (.slice A n c) n cs) : Sl.Rds w 1 A n cs := by
  obtain ⟨A2, c2, he, hr⟩ := Sl.Rds.of_own h
  injection he with h1 h2 h3
  rw [h1]; exact hr
theorem one_rds (w : World) (g : Nat) (h : HV) (hg : K.At w g 54 #[h.v, .int .i64 h.t]) : Sl.Rds w 2 (some ⟨g, 0, none⟩) 1 ([h].flatMap HV.cs) := by
  refine ⟨rfl, by simp [maxLen], fun _ => ⟨g, 0, rfl, hg.lt, fun j hj => ?_⟩⟩
  rw [Nat.zero_add, hg.cell]
  simp
noncomputable def yM1 (xs : List Int) (t : Int) : List Int := yMrg [⟨none, 0, 0, t, xs⟩]
noncomputable def tM1 (xs : List Int) (t : Int) : Int := tMrg [⟨none, 0, 0, t, xs⟩]
noncomputable def eM1 (xs : List Int) (t : Int) : Int := eMrg [⟨none, 0, 0, t, xs⟩]
theorem Merge1_hp (xs : List Int) (t : Int) (A : Option Addr) (n c g : Nat) (w : World) (hg : K.At w g 54 #[.slice A n c, .int .i64 t]) (hr : Sl.Rds w 1 A n (xs.flatMap I1)) :
    Calls Try.prog 35 #[.slice (some ⟨g, 0, none⟩) 1 1] w (HP w (yM1 xs t) (tM1 xs t) (eM1 xs t)) :=
  Merge_hp [⟨A, n, c, t, xs⟩] _ 1 1 w (one_rds w g ⟨A, n, c, t, xs⟩ hg) (fun h hm => by rcases List.mem_cons.1 hm with rfl | hm; exact hr; cases hm)
theorem rMerge1_hp (xs : List Int) (t : Int) (A : Option Addr) (n c g : Nat) (w : World) (hg : K.At w g 54 #[.slice A n c, .int .i64 t]) (hr : Sl.Rds w 1 A n (xs.flatMap I1)) :
    Calls Try.prog 39 #[.slice (some ⟨g, 0, none⟩) 1 1] w (HP w (yM1 xs t) (tM1 xs t) (eM1 xs t)) :=
  rMerge_hp [⟨A, n, c, t, xs⟩] _ 1 1 w (one_rds w g ⟨A, n, c, t, xs⟩ hg) (fun h hm => by rcases List.mem_cons.1 hm with rfl | hm; exact hr; cases hm)
theorem own_apart {W : World} {base n c N : Nat} {A A3 : Option Addr} {e : TypeId} {cs : List Value} (h : W.ownsRow base e 1 (.slice A n c) n cs) (k : W.heap.size ≤ N) (hL : ∀ a, A3 = some a → N ≤ a.block) :
    ∀ a, A3 = some a → (Value.slice A n c).ownBlock ≠ some a.block := fun a ha e => by
  have h1 := (h.lt _ e).2
  have h2 := hL a ha
  omega
/-- Only a row of one's own was written. -/
def Keep (base : Nat) (W5 wr : World) (A : Option Addr) (n c : Nat) : Prop := W5.grownBy wr (Value.slice A n c).ownBlock ∧ ∃ cs, wr.ownsRow base 3 1 (.slice A n c) n cs
theorem keep_step {base : Nat} {W5 wr : World} {A : Option Addr} {n c k : Nat} (h : Keep base W5 wr A n c) (hk : k < n) (u : Value) :
    ∃ g, A = some ⟨g, 0, none⟩ ∧ g < wr.heap.size ∧ wr.frozen? ⟨g, k, none⟩ = false ∧ (∃ v, wr.cell? ⟨g, k, none⟩ = some v) ∧ Keep base W5 (wr.setCell ⟨g, k, none⟩ u) A n c := by
  obtain ⟨hg, cs, hl, h0 | ⟨g, cap, cur, hv, hb, hh, hnc, hcm, hcs, hcur⟩⟩ := h
  · exfalso; omega
  · injection hv with hA hn2 hc2
    subst hA
    have hat : K.At wr g 3 cur := ⟨hh⟩
    refine ⟨g, rfl, hat.lt, hat.frozen k, ⟨cur[k]'(by omega), by rw [hat.cell]; exact Array.getElem?_eq_getElem _⟩, ?_⟩
    have hat2 := hat.set k u
    refine ⟨K.o_set hg _ _, (cur.setIfInBounds k u).toList.take n, ?_, .inr ⟨g, cap, _, by rw [hc2], hb, hat2.out, hnc, hcm, by simpa using hcs, by simp⟩⟩
    simp; omega
set_option maxRecDepth 100000 in
set_option maxHeartbeats 8000000 in
theorem HOwn_c (xs : List Int) (t : Int) (ns : List Int) (A B : Option Addr) (n c m d : Nat) (w : World) (hr : Sl.Rds w 1 A n (xs.flatMap I1)) (hs : Sl.Rds w 1 B m (ns.flatMap I1)) (hn : n * 8 ≤ 140737488355328) :
    Calls Try.prog 13 #[.agg #[.slice A n c, .int .i64 t], .slice B m d] w fun e w' => e = .returned (.bool true) ∧ Below w.heap.size w w' := by
  have hnle := hr.le
  have GO := K.H.mk (fun (W : World) (hb : Below w.heap.size w W) => lown_c xs t A n c W (hr.below hb) hn)
  have GA := K.H.mk (fun (W : World) (A2 : Option Addr) (c2 : Nat) (hb : Below w.heap.size w W) (hr2 : Sl.Rds W 1 A2 n (xs.flatMap I1)) => Add_hp xs t ns A2 B n c2 m d W hr2 (hs.below hb))
  have GM := K.H.mk (fun (W : World) (A2 : Option Addr) (c2 g : Nat) hg hr2 => Merge1_hp xs t A2 n c2 g W hg hr2)
  have GRA := K.H.mk (fun (W : World) (hb : Below w.heap.size w W) => rAdd_hp xs t ns A B n c m d W (hr.below hb) (hs.below hb))
  have GRM := K.H.mk (fun (W : World) (g : Nat) (hb : Below w.heap.size w W) hg => rMerge1_hp xs t A n c g W hg (hr.below hb))
  have GSA := K.H.mk (fun (W : World) (P Q : Option Addr) (p p2 q q2 : Nat) h1 h2 => same_c (yAdd xs t ns) (tAdd xs t ns) P Q p q p2 q2 W h1 h2)
  have GSM := K.H.mk (fun (W : World) (P Q : Option Addr) (p p2 q q2 : Nat) h1 h2 => same_c (yM1 xs t) (tM1 xs t) P Q p q p2 q2 W h1 h2)
  have hee : (eAdd xs t ns == eAdd xs t ns) = true := by simp
  have hem : (eM1 xs t == eM1 xs t) = true := by simp
  generalize yAdd xs t ns = yA at *
  generalize tAdd xs t ns = tA at *
  generalize eAdd xs t ns = eA at *
  generalize yM1 xs t = yM at *
  generalize tM1 xs t = tM at *
  generalize eM1 xs t = eM at *
  clear hr hs hn
  go_enter Try.func13, Try.ntmps13
  go_wp2_with (first
    | (go_at_call 28; (with_reducible refine (alive_c _).mono ?_); rintro e W1 ⟨rfl, hb1⟩; obtain ⟨hB1, hC1, hF1, hZ1⟩ := K.bel_facts hb1; clear hb1; have hZZ := hZ1; (try simp at hZZ); have hz1_0 : w.heap.size < W1.heap.size := (by omega); clear hZZ)
    | (go_at_call 37; (with_reducible refine (GO.out _ (by repeat (first | (with_reducible exact Below.refl _ _) | (with_reducible refine K.b_bel ?_ (by assumption)) | (with_reducible refine K.b_alloc ?_ _) | (with_reducible refine K.b_drewN ?_ _) | (with_reducible refine K.b_drew ?_) | (with_reducible refine K.b_set ?_ (by first | omega | (simp <;> omega)) _) | (with_reducible refine K.b_only ?_ (by assumption) (by first | omega | (simp <;> omega)))))).mono ?_); rintro e W2 ⟨A2, c2, rfl, hown2, hb2⟩; obtain ⟨hB2, hC2, hF2, hZ2⟩ := K.bel_facts hb2; clear hb2 GO)
    | (go_at_call 33; (with_reducible refine (GA.out _ A2 c2 (by repeat (first | (with_reducible exact Below.refl _ _) | (with_reducible refine K.b_bel ?_ (by assumption)) | (with_reducible refine K.b_alloc ?_ _) | (with_reducible refine K.b_drewN ?_ _) | (with_reducible refine K.b_drew ?_) | (with_reducible refine K.b_set ?_ (by first | omega | (simp <;> omega)) _) | (with_reducible refine K.b_only ?_ (by assumption) (by first | omega | (simp <;> omega))))) (rds_alloc (own_rds hown2) _)).mono ?_); rintro e W3 ⟨A3, n3, c3, rfl, hR3, hL3, hb3⟩; obtain ⟨hB3, hC3, hF3, hZ3⟩ := K.bel_facts hb3; clear hb3 GA; have hP3 : K.At W3 W2.heap.size 54 #[.slice A2 n c2, .int .i64 t] := K.At.over hB3 (K.At.new' _ _ _ _ rfl); obtain ⟨hcP, hfP, hlP⟩ := K.At.facts hP3)
    | (go_at_call 35; (with_reducible refine (GM.out _ A2 c2 (W3.heap.size + 1) (K.At.new' _ _ _ _ (by simp)) (rds_alloc (rds_alloc (Sl.Rds.bel (rds_alloc (own_rds hown2) _) hB3) _) _)).mono ?_); rintro e W4 ⟨A4, n4, c4, rfl, hR4, hL4, hb4⟩; obtain ⟨hB4, hC4, hF4, hZ4⟩ := K.bel_facts hb4; clear hb4 GM))
  have hap3 := own_apart hown2 (N := W2.heap.size) (Nat.le_refl _) (fun a h => by have := hL3 a h; simp at this; omega)
  have hap4 := own_apart hown2 (N := W2.heap.size) (Nat.le_refl _) (fun a h => by have := hL4 a h; simp at this; omega)
  have hrow5 : (W4.alloc (.cells #[.slice A4 n4 c4, .int .i64 tM] 54)).ownsRow w.heap.size 3 1 (.slice A2 n c2) n (xs.flatMap I1) :=
    Sl.own_low ((Sl.own_over (((Sl.own_over (hown2.alloc _) hB3).alloc _).alloc _) hB4).alloc _) (by have h0 := hZ1; (try simp at h0); (try simp); omega)
  refine K.wp_gen (fun W => K.At W w.heap.size 54 #[.slice A n c, .int .i64 t] ∧ K.At W W2.heap.size 54 #[.slice A2 n c2, .int .i64 t] ∧ K.At W W3.heap.size 54 #[.slice A3 n3 c3, .int .i64 tA] ∧ K.At W W4.heap.size 54 #[.slice A4 n4 c4, .int .i64 tM] ∧
      Sl.Rds W 1 A3 n3 (yA.flatMap I1) ∧ Sl.Rds W 1 A4 n4 (yM.flatMap I1) ∧ W.ownsRow w.heap.size 3 1 (.slice A2 n c2) n (xs.flatMap I1) ∧ Below w.heap.size w W)
    ⟨(by refine K.At.cast (by repeat (first | (with_reducible refine K.At.new' _ _ _ _ (by first | rfl | (simp; done) | omega)) | (with_reducible apply K.At.over hB4) | (with_reducible apply K.At.over hB3) | (with_reducible apply K.At.over hB2) | (with_reducible apply K.At.over hB1) | (with_reducible apply K.At.set) | (with_reducible apply K.At.alloc) | (with_reducible apply K.At.drewN) | (with_reducible apply K.At.drew) | (with_reducible apply K.At.far) | omega | (simp <;> omega))) ?_; rfl), (by refine K.At.cast (by repeat (first | (with_reducible refine K.At.new' _ _ _ _ (by first | rfl | (simp; done) | omega)) | (with_reducible apply K.At.over hB4) | (with_reducible apply K.At.over hB3) | (with_reducible apply K.At.set) | (with_reducible apply K.At.alloc) | (with_reducible apply K.At.drewN) | (with_reducible apply K.At.drew) | (with_reducible apply K.At.far) | omega | (simp <;> omega))) ?_; rfl), (by refine K.At.cast (by repeat (first | (with_reducible refine K.At.new' _ _ _ _ (by first | rfl | (simp; done) | omega)) | (with_reducible apply K.At.over hB4) | (with_reducible apply K.At.set) | (with_reducible apply K.At.alloc) | (with_reducible apply K.At.drewN) | (with_reducible apply K.At.drew) | (with_reducible apply K.At.far) | omega | (simp <;> omega))) ?_; rfl), (by refine K.At.cast (by repeat (first | (with_reducible refine K.At.new' _ _ _ _ (by first | rfl | (simp; done) | omega)) | (with_reducible apply K.At.set) | (with_reducible apply K.At.alloc) | (with_reducible apply K.At.drewN) | (with_reducible apply K.At.drew) | (with_reducible apply K.At.far) | omega | (simp <;> omega))) ?_; rfl), rds_alloc (Sl.Rds.bel (rds_alloc (rds_alloc hR3 _) _) hB4) _, rds_alloc hR4 _, hrow5, (by repeat (first | (with_reducible exact Below.refl _ _) | (with_reducible refine K.b_bel ?_ (by assumption)) | (with_reducible refine K.b_alloc ?_ _) | (with_reducible refine K.b_drewN ?_ _) | (with_reducible refine K.b_drew ?_) | (with_reducible refine K.b_set ?_ (by first | omega | (simp <;> omega)) _) | (with_reducible refine K.b_only ?_ (by assumption) (by first | omega | (simp <;> omega)))))⟩ ?_
  generalize W2.heap.size = p2 at *
  generalize W3.heap.size = p3 at *
  generalize W4.heap.size = p4 at *
  rintro W5 ⟨hH, hP2, hP3, hP4, hR3b, hR4b, hown5, hb5⟩
  have Hown5 := K.H.mk hown5
  have HR3 := K.H.mk hR3b
  have HR4 := K.H.mk hR4b
  have HB5 := K.H.mk hb5
  have Hap3 := K.H.mk hap3
  have Hap4 := K.H.mk hap4
  have HK : K.H (Keep w.heap.size W5 W5 A2 n c2) := ⟨World.grownBy.refl _ _, _, hown5⟩
  have hne2 := Sl.own_ne Hown5.out hP2 (by decide)
  have hneH := Sl.own_ne Hown5.out hH (by decide)
  have hne3 := Sl.own_ne Hown5.out hP3 (by decide)
  have hne4 := Sl.own_ne Hown5.out hP4 (by decide)
  have HN := K.H.mk (And.intro (And.intro hneH hne2) (And.intro hne3 hne4))
  have HP := K.H.mk (And.intro (And.intro hH hP2) (And.intro hP3 hP4))
  clear hown5 hb5 hR3b hR4b hap3 hap4 hrow5 hown2 hR3 hR4 hL3 hL4 hcP hfP hlP hne2 hneH hne3 hne4 hH hP2 hP3 hP4
  ((try clear hC4); (try clear hF4); (try clear hZ4); (try clear hc4); (try clear hf4); (try clear hl4); (try clear hB4); (try clear hO4); (try clear hA4); (try clear hz4_0); (try clear hz4_1); (try clear hz4_2); (try clear hz4_3); (try clear hz4_1_0); (try clear hz4_1_1); (try clear hz4_2_0); (try clear hz4_2_1); (try clear hz4_3_0); (try clear hz4_3_1); (try clear hC3); (try clear hF3); (try clear hZ3); (try clear hc3); (try clear hf3); (try clear hl3); (try clear hB3); (try clear hO3); (try clear hA3); (try clear hz3_0); (try clear hz3_1); (try clear hz3_2); (try clear hz3_3); (try clear hz3_1_0); (try clear hz3_1_1); (try clear hz3_2_0); (try clear hz3_2_1); (try clear hC2); (try clear hF2); (try clear hZ2); (try clear hc2); (try clear hf2); (try clear hl2); (try clear hB2); (try clear hO2); (try clear hA2); (try clear hz2_0); (try clear hz2_1); (try clear hz2_2); (try clear hz2_3); (try clear hz2_1_0); (try clear hz2_1_1); (try clear hC1); (try clear hF1); (try clear hZ1); (try clear hc1); (try clear hf1); (try clear hl1); (try clear hB1); (try clear hO1); (try clear hA1); (try clear hz1_0); (try clear hz1_1); (try clear hz1_2); (try clear hz1_3))
  go_loopw [10] (fun i wr => ∃ k : Nat, k ≤ n ∧ i = .int .i64 k ∧ K.H (Keep w.heap.size W5 wr A2 n c2)) (fun i _ => n - (intOf i).toNat)
  case atStart => exact ⟨0, by omega, rfl, HK⟩
  case round =>
    clear HK
    obtain ⟨k, hk, rfl, HK⟩ := hrel
    have hP2w := Sl.at_grown HP.out.1.2 HK.out.1 HN.out.1.2
    obtain ⟨hc6, hf6, hl6⟩ := K.At.facts hP2w
    by_cases hlt : k < n
    · obtain ⟨g, rfl, hg, hfz, ⟨v, hv⟩, hK2⟩ := keep_step HK.out hlt (.int .i64 77)
      have HK2 := K.H.mk hK2
      have hki : (k : Int) < n := by omega
      clear hK2
      go_wp2
      go_roundw
      case rel => exact ⟨k + 1, by omega, by go_num, HK2⟩
      case measure => simp [intOf]; omega
    · obtain rfl : k = n := by omega
      have hHw := Sl.at_grown HP.out.1.1 HK.out.1 HN.out.1.1
      have hP3w := Sl.at_grown HP.out.2.1 HK.out.1 HN.out.2.1
      have hP4w := Sl.at_grown HP.out.2.2 HK.out.1 HN.out.2.2
      have hbw := Sl.below_grown HB5.out HK.out.1 (Sl.own_base Hown5.out)
      have hR3w := rds_grown HR3.out HK.out.1 Hap3.out
      have hR4w := rds_grown HR4.out HK.out.1 Hap4.out
      have HBW := K.H.mk hbw
      obtain ⟨hc7, hf7, hl7⟩ := K.At.facts hHw
      obtain ⟨hc8, hf8, hl8⟩ := K.At.facts hP3w
      obtain ⟨hc9, hf9, hl9⟩ := K.At.facts hP4w
      clear hbw
      skip
      go_wp2_with (first
        | (go_at_call 38; (with_reducible refine (GRA.out _ (by repeat (first | (with_reducible exact Below.refl _ _) | (with_reducible exact HBW.out) | (with_reducible refine K.b_bel ?_ (by assumption)) | (with_reducible refine K.b_alloc ?_ _) | (with_reducible refine K.b_drewN ?_ _) | (with_reducible refine K.b_drew ?_) | (with_reducible refine K.b_set ?_ (by first | omega | (simp <;> omega)) _) | (with_reducible refine K.b_only ?_ (by assumption) (by first | omega | (simp <;> omega)))))).mono ?_); rintro e W6 ⟨A6, n6, c6, rfl, hR6, hL6, hb6⟩; obtain ⟨hB6, hC6, hF6, hZ6⟩ := K.bel_facts hb6; clear hb6; have hZZ := hZ6; (try simp at hZZ); have hz6_0 : w.heap.size < W6.heap.size := (by omega); (try have hz6_1_0 : W1.heap.size < W6.heap.size := (by omega)); (try have hz6_1_1 : W1.heap.size + 1 < W6.heap.size := (by omega)); (try have hz6_2_0 : W2.heap.size < W6.heap.size := (by omega)); (try have hz6_2_1 : W2.heap.size + 1 < W6.heap.size := (by omega)); (try have hz6_3_0 : W3.heap.size < W6.heap.size := (by omega)); (try have hz6_3_1 : W3.heap.size + 1 < W6.heap.size := (by omega)); (try have hz6_4_0 : W4.heap.size < W6.heap.size := (by omega)); (try have hz6_4_1 : W4.heap.size + 1 < W6.heap.size := (by omega)); (try have hz6_5_0 : W5.heap.size < W6.heap.size := (by omega)); (try have hz6_5_1 : W5.heap.size + 1 < W6.heap.size := (by omega)); (try have hz6_p2 : p2 < W6.heap.size := (by omega)); (try have hz6_p3 : p3 < W6.heap.size := (by omega)); (try have hz6_p4 : p4 < W6.heap.size := (by omega)); clear hZZ; have hH6 : K.At W6 w.heap.size 54 #[.slice A k c, .int .i64 t] := (by refine K.At.cast (by repeat (first | (with_reducible exact hHw) | (with_reducible refine K.At.new' _ _ _ _ (by first | rfl | (simp; done) | omega)) | (with_reducible apply K.At.over hB6) | (with_reducible apply K.At.set) | (with_reducible apply K.At.alloc) | (with_reducible apply K.At.drewN) | (with_reducible apply K.At.drew) | (with_reducible apply K.At.far) | omega | (simp <;> omega))) ?_; rfl); obtain ⟨hc_hH6, hf_hH6, hl_hH6⟩ := K.At.facts hH6)
        | (go_at_call 39; (with_reducible refine (GRM.out _ _ (by repeat (first | (with_reducible exact Below.refl _ _) | (with_reducible exact HBW.out) | (with_reducible refine K.b_bel ?_ (by assumption)) | (with_reducible refine K.b_alloc ?_ _) | (with_reducible refine K.b_drewN ?_ _) | (with_reducible refine K.b_drew ?_) | (with_reducible refine K.b_set ?_ (by first | omega | (simp <;> omega)) _) | (with_reducible refine K.b_only ?_ (by assumption) (by first | omega | (simp <;> omega))))) (K.At.new' _ _ _ _ (by simp))).mono ?_); rintro e W7 ⟨A7, n7, c7, rfl, hR7, hL7, hb7⟩; obtain ⟨hB7, hC7, hF7, hZ7⟩ := K.bel_facts hb7; clear hb7; have hZZ := hZ7; (try simp at hZZ); have hz7_0 : w.heap.size < W7.heap.size := (by omega); (try have hz7_1_0 : W1.heap.size < W7.heap.size := (by omega)); (try have hz7_1_1 : W1.heap.size + 1 < W7.heap.size := (by omega)); (try have hz7_2_0 : W2.heap.size < W7.heap.size := (by omega)); (try have hz7_2_1 : W2.heap.size + 1 < W7.heap.size := (by omega)); (try have hz7_3_0 : W3.heap.size < W7.heap.size := (by omega)); (try have hz7_3_1 : W3.heap.size + 1 < W7.heap.size := (by omega)); (try have hz7_4_0 : W4.heap.size < W7.heap.size := (by omega)); (try have hz7_4_1 : W4.heap.size + 1 < W7.heap.size := (by omega)); (try have hz7_5_0 : W5.heap.size < W7.heap.size := (by omega)); (try have hz7_5_1 : W5.heap.size + 1 < W7.heap.size := (by omega)); (try have hz7_6_0 : W6.heap.size < W7.heap.size := (by omega)); (try have hz7_6_1 : W6.heap.size + 1 < W7.heap.size := (by omega)); (try have hz7_p2 : p2 < W7.heap.size := (by omega)); (try have hz7_p3 : p3 < W7.heap.size := (by omega)); (try have hz7_p4 : p4 < W7.heap.size := (by omega)); clear hZZ; have hP37 : K.At W7 p3 54 #[.slice A3 n3 c3, .int .i64 tA] := (by refine K.At.cast (by repeat (first | (with_reducible exact hP3w) | (with_reducible refine K.At.new' _ _ _ _ (by first | rfl | (simp; done) | omega)) | (with_reducible apply K.At.over hB7) | (with_reducible apply K.At.over hB6) | (with_reducible apply K.At.set) | (with_reducible apply K.At.alloc) | (with_reducible apply K.At.drewN) | (with_reducible apply K.At.drew) | (with_reducible apply K.At.far) | omega | (simp <;> omega))) ?_; rfl); obtain ⟨hc_hP37, hf_hP37, hl_hP37⟩ := K.At.facts hP37; have hP47 : K.At W7 p4 54 #[.slice A4 n4 c4, .int .i64 tM] := (by refine K.At.cast (by repeat (first | (with_reducible exact hP4w) | (with_reducible refine K.At.new' _ _ _ _ (by first | rfl | (simp; done) | omega)) | (with_reducible apply K.At.over hB7) | (with_reducible apply K.At.over hB6) | (with_reducible apply K.At.set) | (with_reducible apply K.At.alloc) | (with_reducible apply K.At.drewN) | (with_reducible apply K.At.drew) | (with_reducible apply K.At.far) | omega | (simp <;> omega))) ?_; rfl); obtain ⟨hc_hP47, hf_hP47, hl_hP47⟩ := K.At.facts hP47; have hU7 : K.At W7 W6.heap.size 54 #[.slice A6 n6 c6, .int .i64 tA] := (by refine K.At.cast (by repeat (first | (with_reducible refine K.At.new' _ _ _ _ (by first | rfl | (simp; done) | omega)) | (with_reducible apply K.At.over hB7) | (with_reducible apply K.At.set) | (with_reducible apply K.At.alloc) | (with_reducible apply K.At.drewN) | (with_reducible apply K.At.drew) | (with_reducible apply K.At.far) | omega | (simp <;> omega))) ?_; rfl); obtain ⟨hc_hU7, hf_hU7, hl_hU7⟩ := K.At.facts hU7)
        | (go_at_call 36; (with_reducible refine (GSA.out _ _ _ _ _ _ _ (by repeat (first | (with_reducible exact hR3w) | (with_reducible refine Sl.Rds.bel ?_ hB7) | (with_reducible refine Sl.Rds.bel ?_ hB6) | (with_reducible refine Hst.rds_alloc ?_ _))) (by repeat (first | (with_reducible exact hR6) | (with_reducible refine Sl.Rds.bel ?_ hB7) | (with_reducible refine Hst.rds_alloc ?_ _)))).mono ?_); rintro e W8 ⟨rfl, hb8⟩; obtain ⟨hB8, hC8, hF8, hZ8⟩ := K.bel_facts hb8; clear hb8; have hZZ := hZ8; (try simp at hZZ); have hz8_0 : w.heap.size < W8.heap.size := (by omega); (try have hz8_1_0 : W1.heap.size < W8.heap.size := (by omega)); (try have hz8_1_1 : W1.heap.size + 1 < W8.heap.size := (by omega)); (try have hz8_2_0 : W2.heap.size < W8.heap.size := (by omega)); (try have hz8_2_1 : W2.heap.size + 1 < W8.heap.size := (by omega)); (try have hz8_3_0 : W3.heap.size < W8.heap.size := (by omega)); (try have hz8_3_1 : W3.heap.size + 1 < W8.heap.size := (by omega)); (try have hz8_4_0 : W4.heap.size < W8.heap.size := (by omega)); (try have hz8_4_1 : W4.heap.size + 1 < W8.heap.size := (by omega)); (try have hz8_5_0 : W5.heap.size < W8.heap.size := (by omega)); (try have hz8_5_1 : W5.heap.size + 1 < W8.heap.size := (by omega)); (try have hz8_6_0 : W6.heap.size < W8.heap.size := (by omega)); (try have hz8_6_1 : W6.heap.size + 1 < W8.heap.size := (by omega)); (try have hz8_7_0 : W7.heap.size < W8.heap.size := (by omega)); (try have hz8_7_1 : W7.heap.size + 1 < W8.heap.size := (by omega)); (try have hz8_p2 : p2 < W8.heap.size := (by omega)); (try have hz8_p3 : p3 < W8.heap.size := (by omega)); (try have hz8_p4 : p4 < W8.heap.size := (by omega)); clear hZZ; have hP48 : K.At W8 p4 54 #[.slice A4 n4 c4, .int .i64 tM] := (by refine K.At.cast (by repeat (first | (with_reducible exact hP47) | (with_reducible refine K.At.new' _ _ _ _ (by first | rfl | (simp; done) | omega)) | (with_reducible apply K.At.over hB8) | (with_reducible apply K.At.set) | (with_reducible apply K.At.alloc) | (with_reducible apply K.At.drewN) | (with_reducible apply K.At.drew) | (with_reducible apply K.At.far) | omega | (simp <;> omega))) ?_; rfl); obtain ⟨hc_hP48, hf_hP48, hl_hP48⟩ := K.At.facts hP48; have hV8 : K.At W8 W7.heap.size 54 #[.slice A7 n7 c7, .int .i64 tM] := (by refine K.At.cast (by repeat (first | (with_reducible refine K.At.new' _ _ _ _ (by first | rfl | (simp; done) | omega)) | (with_reducible apply K.At.over hB8) | (with_reducible apply K.At.set) | (with_reducible apply K.At.alloc) | (with_reducible apply K.At.drewN) | (with_reducible apply K.At.drew) | (with_reducible apply K.At.far) | omega | (simp <;> omega))) ?_; rfl); obtain ⟨hc_hV8, hf_hV8, hl_hV8⟩ := K.At.facts hV8)
        | (go_at_call 36; (with_reducible refine (GSM.out _ _ _ _ _ _ _ (by repeat (first | (with_reducible exact hR4w) | (with_reducible refine Sl.Rds.bel ?_ hB8) | (with_reducible refine Sl.Rds.bel ?_ hB7) | (with_reducible refine Sl.Rds.bel ?_ hB6) | (with_reducible refine Hst.rds_alloc ?_ _))) (by repeat (first | (with_reducible exact hR7) | (with_reducible refine Sl.Rds.bel ?_ hB8) | (with_reducible refine Hst.rds_alloc ?_ _)))).mono ?_); rintro e W9 ⟨rfl, hb9⟩; obtain ⟨hB9, hC9, hF9, hZ9⟩ := K.bel_facts hb9; clear hb9; have hZZ := hZ9; (try simp at hZZ); have hz9_0 : w.heap.size < W9.heap.size := (by omega); (try have hz9_1_0 : W1.heap.size < W9.heap.size := (by omega)); (try have hz9_1_1 : W1.heap.size + 1 < W9.heap.size := (by omega)); (try have hz9_2_0 : W2.heap.size < W9.heap.size := (by omega)); (try have hz9_2_1 : W2.heap.size + 1 < W9.heap.size := (by omega)); (try have hz9_3_0 : W3.heap.size < W9.heap.size := (by omega)); (try have hz9_3_1 : W3.heap.size + 1 < W9.heap.size := (by omega)); (try have hz9_4_0 : W4.heap.size < W9.heap.size := (by omega)); (try have hz9_4_1 : W4.heap.size + 1 < W9.heap.size := (by omega)); (try have hz9_5_0 : W5.heap.size < W9.heap.size := (by omega)); (try have hz9_5_1 : W5.heap.size + 1 < W9.heap.size := (by omega)); (try have hz9_6_0 : W6.heap.size < W9.heap.size := (by omega)); (try have hz9_6_1 : W6.heap.size + 1 < W9.heap.size := (by omega)); (try have hz9_7_0 : W7.heap.size < W9.heap.size := (by omega)); (try have hz9_7_1 : W7.heap.size + 1 < W9.heap.size := (by omega)); (try have hz9_8_0 : W8.heap.size < W9.heap.size := (by omega)); (try have hz9_8_1 : W8.heap.size + 1 < W9.heap.size := (by omega)); (try have hz9_p2 : p2 < W9.heap.size := (by omega)); (try have hz9_p3 : p3 < W9.heap.size := (by omega)); (try have hz9_p4 : p4 < W9.heap.size := (by omega)); clear hZZ)
        | (go_at_call 30; (with_reducible refine (num_c _ _).mono ?_); rintro e w' ⟨rfl, hw'⟩; have hw'2 := Eq.symm hw'; clear hw'; subst hw'2))
      trace_state
      go_ret
      exact ⟨rfl, (by repeat (first | (with_reducible exact Below.refl _ _) | (with_reducible exact HBW.out) | (with_reducible refine K.b_bel ?_ (by assumption)) | (with_reducible refine K.b_alloc ?_ _) | (with_reducible refine K.b_drewN ?_ _) | (with_reducible refine K.b_drew ?_) | (with_reducible refine K.b_set ?_ (by first | omega | (simp <;> omega)) _) | (with_reducible refine K.b_only ?_ (by assumption) (by first | omega | (simp <;> omega)))))⟩
end Go.Proofs.Ytimdfnhagjlkoaa.Hst
