/- Ring: Shares. -/
import Derived.Test.YtkalbiihehcjkaaRg35
set_option linter.unusedVariables false
namespace Go.Proofs.Ytkalbiihehcjkaa.Rg
open Go.RowKit Go.Shelf Go.Proofs.Ytkalbiihehcjkaa
set_option linter.unusedSimpArgs false
theorem rds_one (w : World) (g : Nat) (x : Int) (h : K.At w g 3 #[.int .i64 x]) : Sl.Rds w 1 (some ⟨g, 0, none⟩) 1 ([x].flatMap fun n => [.int .i64 n]) :=
  ⟨by simp, by simp [maxLen], fun _ => ⟨g, 0, rfl, h.lt, fun j hj => by rw [Nat.zero_add, h.cell]; simp⟩⟩
theorem rds_far {W : World} {sz n g i : Nat} {A : Option Addr} {cs : List Value} (h : Sl.Rds W sz A n cs) (hn : ∀ b off, A = some ⟨b, off, none⟩ → b ≠ g) (u : Value) : Sl.Rds (W.setCell ⟨g, i, none⟩ u) sz A n cs := by
  refine ⟨h.len, h.small, fun hp => ?_⟩
  obtain ⟨b, off, rfl, hb, hc⟩ := h.at_ hp
  refine ⟨b, off, rfl, by simpa [World.setCell] using hb, fun j hj => ?_⟩
  rw [← hc j hj]
  exact World.cell?_of_block (Below.heap_setCell W ⟨g, i, none⟩ u b (hn b off rfl))
set_option maxRecDepth 100000 in
set_option maxHeartbeats 8000000 in
theorem Shares_ok (r : List Pt) (C : Nat) (A : Option Addr) (n c : Nat) (w : World) (hr : Sl.Rds w 2 A n (r.flatMap Pt.cs)) (he : eAsk r = 0) (hC : C ≤ 4096) (hwf : ∀ x ∈ r, (Lit.int .i64 x.i).wf = true) :
    Calls Try.prog 20 #[.slice A n c, .int .i64 C] w (IPost w (cntK (keyAt r) (sortI (oWalk r 0)) C) 0) := by
  obtain rfl := hr.length Pt.cs_len (by omega)
  obtain ⟨h1, h2, h3, _⟩ := eAsk_ok he
  have GW := K.H.mk (fun (W : World) (hb : Below w.heap.size w W) => Walk_c r 0 A r.length c W (hr.below hb) hwf)
  rw [he] at GW
  have GB := K.H.mk (fun (h : Nat) (W : World) (hb : Below w.heap.size w W) => begins_c r h A r.length c W (hr.below hb) h1 h3)
  have GF := K.H.mk (fun (h : Nat) (W : World) (hb : Below w.heap.size w W) => first_c r h A r.length c W (hr.below hb) h2 h3)
  have HK := K.H.mk (key_in he)
  have hLl := walk_len (l := r) (h := 0)
  have hL0 : 0 < (oWalk r 0).length := (List.getElem?_eq_some_iff.1 (walk_head (h := 0) he)).1
  have Hnd := K.H.mk (walk_nodup r 0)
  have GI := K.H.mk (fun (k : Nat) (g : Nat) (W : World) (hW : K.At W g 3 #[.int .i64 k]) => Sb.Ints_c 2 [(k : Int)] _ 1 1 W (rds_one W g _ hW) (by omega))
  generalize oWalk r 0 = L at *
  obtain ⟨ids, hids⟩ : ∃ ids, ids = sortI L := ⟨_, rfl⟩
  have hil : ids.length = L.length := by rw [hids, sortI_len]
  have Hlt := K.H.mk (show ids.Pairwise (· < ·) by rw [hids]; exact sortI_lt Hnd.out)
  rw [← hids] at HK ⊢
  have GS := K.H.mk (fun (v : Value) (base : Nat) (W : World) (hown : W.ownsRow base 3 1 v L.length (L.map iv)) => hids ▸ Sort_c L v base L.length W hown hL0 (by omega))
  have hmk := make_i L.length (by omega)
  have d1 : decide ((C : Int) < 0) = false := decide_eq_false (by omega)
  have d2 : decide ((4096 : Int) < (C : Int)) = false := decide_eq_false (by omega)
  have d2n : decide (4096 < C) = false := decide_eq_false (by omega)
  clear hr he h1 hwf hids
  go_enter Try.func20, Try.ntmps20
  go_wp2_with (first
    | (go_at_call 16; (with_reducible refine (GW.out _ (by repeat (first | (with_reducible exact Below.refl _ _) | (with_reducible refine K.b_bel ?_ (by assumption)) | (with_reducible refine K.b_alloc ?_ _) | (with_reducible refine K.b_drewN ?_ _) | (with_reducible refine K.b_drew ?_) | (with_reducible refine K.b_set ?_ (by first | omega | (simp <;> omega)) _) | (with_reducible refine K.b_only ?_ (by assumption) (by first | omega | (simp <;> omega)))))).mono ?_); rintro e W1 ⟨v1, rfl, hown1, hb1⟩; obtain ⟨hB1, hC1, hF1, hZ1⟩ := K.bel_facts hb1; clear hb1)
    | (go_at_call 38; (with_reducible refine (GS.out _ _ _ hown1).mono ?_); rintro e W2 ⟨rfl, hown2, hgr2⟩; obtain ⟨A2, d2', rfl, hR2⟩ := Sl.Rds.of_own hown2))
  have hb2 : Below w.heap.size w W2 := Sl.below_grown hB1.out hgr2 (fun k hk => Sl.own_base hown1 k hk)
  have hz2 := hb2.size
  have o1 := own_made W2 L.length w.heap.size (by omega) hz2
  have hb3 : Below w.heap.size w (W2.alloc (.cells (madeCells #[.int .i64 0] L.length) 3)) := K.b_alloc hb2 _
  have Hb3 := K.H.mk hb3
  have hR3 : Sl.Rds (W2.alloc (.cells (madeCells #[.int .i64 0] L.length) 3)) 1 A2 L.length (ids.flatMap fun n => [.int .i64 n]) := by
    rw [flat_iv]; exact hR2.below (K.b_alloc (Below.refl _ _) _)
  have HR3 := K.H.mk hR3
  have hne2 : ∀ b off, A2 = some ⟨b, off, none⟩ → b < W2.heap.size := fun b off e => by
    have := hown2.lt b (by rw [e]; rfl); omega
  have Hne2 := K.H.mk hne2
  obtain ⟨gO, hgO⟩ : ∃ g, g = W2.heap.size := ⟨_, rfl⟩
  have hgw : w.heap.size ≤ gO := by omega
  have o2 : (W2.alloc (.cells (madeCells #[.int .i64 0] L.length) 3)).ownsRow w.heap.size 3 1 (.slice (some ⟨gO, 0, none⟩) L.length L.length) L.length ((cntK (keyAt r) ids 0).map iv) := by
    rw [hgO]; unfold cntK; rw [hil]; exact o1
  rw [← hgO]
  have HgO := K.H.mk hgO
  clear hb2 hb3 hmk d1 d2 d2n hown1 hown2 hgr2 hR2 hR3 o1 hne2 GW GS hz2 Hnd hgO
  ((try clear hC2); (try clear hF2); (try clear hZ2); (try clear hc2); (try clear hf2); (try clear hl2); (try clear hB2); (try clear hO2); (try clear hA2); (try clear hz2_0); (try clear hz2_1); (try clear hz2_2); (try clear hz2_3); (try clear hz2_1_0); (try clear hz2_1_1); (try clear hC1); (try clear hF1); (try clear hZ1); (try clear hc1); (try clear hf1); (try clear hl1); (try clear hB1); (try clear hO1); (try clear hA1); (try clear hz1_0); (try clear hz1_1); (try clear hz1_2); (try clear hz1_3))
  generalize (W2.alloc (.cells (madeCells #[.int .i64 0] L.length) 3)) = W3 at *
  go_loopw [34] (fun i wr => ∃ k : Nat, k ≤ C ∧ i = .int .i64 k ∧ wr.ownsRow w.heap.size 3 1 (.slice (some ⟨gO, 0, none⟩) L.length L.length) L.length ((cntK (keyAt r) ids k).map iv) ∧ K.H (Sl.Rds wr 1 A2 L.length (ids.flatMap fun n => [.int .i64 n])) ∧ K.H (Below w.heap.size w wr)) (fun i _ => C - (intOf i).toNat)
  case atStart => exact ⟨0, by omega, rfl, o2, HR3, Hb3⟩
  case round =>
    clear o2 HR3 Hb3
    obtain ⟨k, hk, rfl, hown, HR, Hb⟩ := hrel
    by_cases hlt : k < C
    · have hkc : (k : Int) < C := by omega
      have HKk := K.H.mk (HK.out k)
      have hsz := Hb.out.size
      have GBk := K.H.mk (fun (W : World) (hb : Below w.heap.size w W) => GB.out (hashK k) W hb)
      have GFk := K.H.mk (fun (W : World) (hb : Below w.heap.size w W) => show Calls Try.prog 36 #[.agg #[.slice A r.length c, .int .i64 (ahead r (hashK k) : Nat)]] W fun e w' => e = .returned (.int .i64 (keyAt r k)) ∧ Below W.heap.size W w' from GF.out (hashK k) W hb)
      have GIk := K.H.mk (fun (g : Nat) (W : World) (hW : K.At W g 3 #[.int .i64 k]) => show Calls Try.prog 27 #[.int .u64 2, .slice (some ⟨g, 0, none⟩) 1 1] W fun e w' => e = .returned (.int .u64 (hashK k : Nat)) ∧ w' = W from GI.out k g W hW)
      have GSk := K.H.mk (fun (W : World) (hb : Below wr.heap.size wr W) => Search_i ids (keyAt r k) A2 L.length d2' W (HR.out.below hb) Hlt.out hL0 (by omega))
      have hbi := below1_lt HKk.out
      rw [hil] at hbi
      obtain ⟨v0, v1⟩ := cntK_in (keyAt r) ids k (below1 ids (keyAt r k))
      have hPl := cntK_len (keyAt r) ids k
      have HPS := K.H.mk (show ((cntK (keyAt r) ids k).map iv).set (below1 ids (keyAt r k)) (iv ((cntK (keyAt r) ids k).getD (below1 ids (keyAt r k)) 0 + 1)) = (cntK (keyAt r) ids (k + 1)).map iv by rw [← List.map_set]; rfl)
      have HPG := K.H.mk (show ((cntK (keyAt r) ids k).map iv)[below1 ids (keyAt r k)]? = some (iv ((cntK (keyAt r) ids k).getD (below1 ids (keyAt r k)) 0)) from map_getD (by omega))
      have hgl : gO < wr.heap.size := (hown.lt gO rfl).2
      have HOWN := K.H.mk hown
      generalize (cntK (keyAt r) ids k).getD (below1 ids (keyAt r k)) 0 = vi at *
      generalize hbx : below1 ids (keyAt r k) = bi at *
      generalize keyAt r k = y at *
      generalize ids.contains y = ct at *
      generalize ahead r (hashK k) = ak at *
      generalize hashK k = hk9 at *
      have hbi2 : (bi : Int) < (L.length : Int) := by omega
      have hv1 : vi + 1 ≤ 9223372036854775807 := by omega
      have hv2 : -9223372036854775808 ≤ vi + 1 := by omega
      clear hown hbx HKk
      go_wp2_with (first
        | (go_at_call 27; (with_reducible refine (GIk.out _ _ ?r1).mono ?_); (case r1 => exact (by refine K.At.cast (by repeat (first | (with_reducible refine K.At.new' _ _ _ _ (by first | rfl | (simp; done) | omega)) | (with_reducible apply K.At.set) | (with_reducible apply K.At.alloc) | (with_reducible apply K.At.drewN) | (with_reducible apply K.At.drew) | (with_reducible apply K.At.far) | omega | (simp <;> omega))) ?_; rfl)); rintro e w' ⟨rfl, hw'⟩; have hw'2 := Eq.symm hw'; clear hw'; subst hw'2)
        | (go_at_call 35; (with_reducible refine (GBk.out _ (by repeat (first | (with_reducible exact Below.refl _ _) | (with_reducible exact Hb.out) | (with_reducible refine K.b_bel ?_ (by assumption)) | (with_reducible refine K.b_alloc ?_ _) | (with_reducible refine K.b_drewN ?_ _) | (with_reducible refine K.b_drew ?_) | (with_reducible refine K.b_set ?_ (by first | omega | (simp <;> omega)) _) | (with_reducible refine K.b_only ?_ (by assumption) (by first | omega | (simp <;> omega)))))).mono ?_); rintro e W5 ⟨rfl, hb5⟩; obtain ⟨hB5, hC5, hF5, hZ5⟩ := K.bel_facts hb5; clear hb5)
        | (go_at_call 36; (with_reducible refine (GFk.out _ (by repeat (first | (with_reducible exact Below.refl _ _) | (with_reducible exact Hb.out) | (with_reducible refine K.b_bel ?_ (by assumption)) | (with_reducible refine K.b_alloc ?_ _) | (with_reducible refine K.b_drewN ?_ _) | (with_reducible refine K.b_drew ?_) | (with_reducible refine K.b_set ?_ (by first | omega | (simp <;> omega)) _) | (with_reducible refine K.b_only ?_ (by assumption) (by first | omega | (simp <;> omega)))))).mono ?_); rintro e W6 ⟨rfl, hb6⟩; obtain ⟨hB6, hC6, hF6, hZ6⟩ := K.bel_facts hb6; clear hb6)
        | (go_at_call 39; (with_reducible refine (GSk.out _ (by repeat (first | (with_reducible exact Below.refl _ _) | (with_reducible refine K.b_bel ?_ (by assumption)) | (with_reducible refine K.b_alloc ?_ _) | (with_reducible refine K.b_drewN ?_ _) | (with_reducible refine K.b_drew ?_) | (with_reducible refine K.b_set ?_ (by first | omega | (simp <;> omega)) _) | (with_reducible refine K.b_only ?_ (by assumption) (by first | omega | (simp <;> omega)))))).mono ?_); rintro e W7 ⟨rfl, hb7⟩; obtain ⟨hB7, hC7, hF7, hZ7⟩ := K.bel_facts hb7; clear hb7; have own7 : W7.ownsRow w.heap.size 3 1 (.slice (some ⟨gO, 0, none⟩) L.length L.length) L.length ((cntK (keyAt r) ids k).map iv) := (by repeat (first | (with_reducible exact HOWN.out) | (with_reducible refine Sl.own_over ?_ hB7) | (with_reducible refine Sl.own_over ?_ hB6) | (with_reducible refine Sl.own_over ?_ hB5) | (with_reducible refine World.ownsRow.alloc ?_ _))); have hcv7 : W7.cell? ⟨gO, bi, none⟩ = some (.int .i64 vi) := (by rw [own7.cellAt bi (by omega)]; exact HPG.out); have hf7 := own7.frozenAt bi; have hst7 := (own7.stored bi (iv (vi + 1))).1; rw [HPS.out] at hst7; have HST := K.H.mk hst7; have HR7 := K.H.mk (show Sl.Rds W7 1 A2 L.length (ids.flatMap fun n => [.int .i64 n]) from HR.out.below (by repeat (first | (with_reducible exact Below.refl _ _) | (with_reducible refine K.b_bel ?_ (by assumption)) | (with_reducible refine K.b_alloc ?_ _) | (with_reducible refine K.b_drewN ?_ _) | (with_reducible refine K.b_drew ?_) | (with_reducible refine K.b_set ?_ (by first | omega | (simp <;> omega)) _) | (with_reducible refine K.b_only ?_ (by assumption) (by first | omega | (simp <;> omega)))))); have HB7 := K.H.mk (show Below w.heap.size w W7 from (by repeat (first | (with_reducible exact Below.refl _ _) | (with_reducible exact Hb.out) | (with_reducible refine K.b_bel ?_ (by assumption)) | (with_reducible refine K.b_alloc ?_ _) | (with_reducible refine K.b_drewN ?_ _) | (with_reducible refine K.b_drew ?_) | (with_reducible refine K.b_set ?_ (by first | omega | (simp <;> omega)) _) | (with_reducible refine K.b_only ?_ (by assumption) (by first | omega | (simp <;> omega)))))); clear hst7 own7))
      go_roundw
      case rel => exact ⟨k + 1, by omega, by go_num, HST.out, ⟨rds_far HR7.out (fun b off e => by have := Hne2.out b off e; have := HgO.out; omega) _⟩, ⟨(by repeat (first | (with_reducible exact Below.refl _ _) | (with_reducible exact HB7.out) | (with_reducible refine K.b_bel ?_ (by assumption)) | (with_reducible refine K.b_alloc ?_ _) | (with_reducible refine K.b_drewN ?_ _) | (with_reducible refine K.b_drew ?_) | (with_reducible refine K.b_set ?_ (by first | omega | (simp <;> omega)) _) | (with_reducible refine K.b_only ?_ (by assumption) (by first | omega | (simp <;> omega)))))⟩⟩
      case measure => simp [intOf]; omega
    · obtain rfl : k = C := by omega
      go_wp2
      go_ret2
      exact ⟨_, rfl, by rw [cntK_len, hil]; exact hown, Hb.out⟩
set_option maxRecDepth 100000 in
set_option maxHeartbeats 4000000 in
theorem shares_bad (r : List Pt) (keys : Int) (A : Option Addr) (n c : Nat) (w : World) (hr : Sl.Rds w 2 A n (r.flatMap Pt.cs)) (he : eAsk r ≠ 0) (hwf : ∀ x ∈ r, (Lit.int .i64 x.i).wf = true) :
    Calls Try.prog 20 #[.slice A n c, .int .i64 keys] w (IPost w [] (eAsk r)) := by
  have GW := K.H.mk (fun (W : World) (hb : Below w.heap.size w W) => Walk_c r 0 A n c W (hr.below hb) hwf)
  have hd : (eAsk r != 0) = true := by simpa using he
  generalize eAsk r = er at *
  generalize oWalk r 0 = L at *
  clear hr he hwf
  go_enter Try.func20, Try.ntmps20
  go_wp2_with (first
    | (go_at_call 16; (with_reducible refine (GW.out _ (by repeat (first | (with_reducible exact Below.refl _ _) | (with_reducible refine K.b_bel ?_ (by assumption)) | (with_reducible refine K.b_alloc ?_ _) | (with_reducible refine K.b_drewN ?_ _) | (with_reducible refine K.b_drew ?_) | (with_reducible refine K.b_set ?_ (by first | omega | (simp <;> omega)) _) | (with_reducible refine K.b_only ?_ (by assumption) (by first | omega | (simp <;> omega)))))).mono ?_); rintro e W1 ⟨v1, rfl, hown1, hb1⟩; obtain ⟨hB1, hC1, hF1, hZ1⟩ := K.bel_facts hb1; clear hb1 hown1))
  go_ret2
  exact ⟨_, rfl, World.ownsRow_nil _ _ _ _, (by repeat (first | (with_reducible exact Below.refl _ _) | (with_reducible refine K.b_bel ?_ (by assumption)) | (with_reducible refine K.b_alloc ?_ _) | (with_reducible refine K.b_drewN ?_ _) | (with_reducible refine K.b_drew ?_) | (with_reducible refine K.b_set ?_ (by first | omega | (simp <;> omega)) _) | (with_reducible refine K.b_only ?_ (by assumption) (by first | omega | (simp <;> omega)))))⟩
set_option maxRecDepth 100000 in
set_option maxHeartbeats 4000000 in
theorem shares_range (r : List Pt) (keys : Int) (A : Option Addr) (n c : Nat) (w : World) (hr : Sl.Rds w 2 A n (r.flatMap Pt.cs)) (he : eAsk r = 0) (h2 : keys < 0 ∨ 4096 < keys) (hwf : ∀ x ∈ r, (Lit.int .i64 x.i).wf = true) :
    Calls Try.prog 20 #[.slice A n c, .int .i64 keys] w (IPost w [] 4) := by
  have GW := K.H.mk (fun (W : World) (hb : Below w.heap.size w W) => Walk_c r 0 A n c W (hr.below hb) hwf)
  rw [he] at GW
  generalize oWalk r 0 = L at *
  have hd : decide (keys < 0) = true ∨ (decide (keys < 0) = false ∧ decide (4096 < keys) = true) := by
    by_cases h0 : keys < 0
    · exact .inl (decide_eq_true h0)
    · exact .inr ⟨decide_eq_false h0, decide_eq_true (by omega)⟩
  clear hr he hwf h2
  rcases hd with d1 | ⟨d1, d2⟩
  all_goals
    go_enter Try.func20, Try.ntmps20
    go_wp2_with (first
      | (go_at_call 16; (with_reducible refine (GW.out _ (by repeat (first | (with_reducible exact Below.refl _ _) | (with_reducible refine K.b_bel ?_ (by assumption)) | (with_reducible refine K.b_alloc ?_ _) | (with_reducible refine K.b_drewN ?_ _) | (with_reducible refine K.b_drew ?_) | (with_reducible refine K.b_set ?_ (by first | omega | (simp <;> omega)) _) | (with_reducible refine K.b_only ?_ (by assumption) (by first | omega | (simp <;> omega)))))).mono ?_); rintro e W1 ⟨v1, rfl, hown1, hb1⟩; obtain ⟨hB1, hC1, hF1, hZ1⟩ := K.bel_facts hb1; clear hb1 hown1))
    go_ret2
    exact ⟨_, rfl, World.ownsRow_nil _ _ _ _, (by repeat (first | (with_reducible exact Below.refl _ _) | (with_reducible refine K.b_bel ?_ (by assumption)) | (with_reducible refine K.b_alloc ?_ _) | (with_reducible refine K.b_drewN ?_ _) | (with_reducible refine K.b_drew ?_) | (with_reducible refine K.b_set ?_ (by first | omega | (simp <;> omega)) _) | (with_reducible refine K.b_only ?_ (by assumption) (by first | omega | (simp <;> omega)))))⟩
theorem Shares_c (r : List Pt) (keys : Int) (A : Option Addr) (n c : Nat) (w : World) (hr : Sl.Rds w 2 A n (r.flatMap Pt.cs)) (hwf : ∀ x ∈ r, (Lit.int .i64 x.i).wf = true) :
    Calls Try.prog 20 #[.slice A n c, .int .i64 keys] w (IPost w (oShares r keys) (eShares r keys)) := by
  unfold oShares
  by_cases he : eAsk r = 0
  · by_cases h2 : keys < 0 ∨ 4096 < keys
    · rw [show eShares r keys = 4 by unfold eShares; rw [if_pos he, if_pos h2], if_neg (by decide)]
      exact shares_range r keys A n c w hr he h2 hwf
    · rw [show eShares r keys = 0 by unfold eShares; rw [if_pos he, if_neg h2], if_pos rfl]
      obtain ⟨C, rfl⟩ := Int.eq_ofNat_of_zero_le (show 0 ≤ keys by omega)
      exact Shares_ok r C A n c w hr he (by omega) hwf
  · have h1 : eShares r keys = eAsk r := by unfold eShares; rw [if_neg he]
    rw [h1, if_neg he]
    exact shares_bad r keys A n c w hr he hwf
end Go.Proofs.Ytkalbiihehcjkaa.Rg
