/- Ring: the reference's Shares. -/
import Derived.Test.YtkalbiihehcjkaaRg38
import Derived.Test.YtkalbiihehcjkaaRg36
import Derived.Test.YtkalbiihehcjkaaRgH
set_option linter.unusedVariables false
namespace Go.Proofs.Ytkalbiihehcjkaa.Rg
open Go.RowKit Go.Shelf Go.Proofs.Ytkalbiihehcjkaa
set_option linter.unusedSimpArgs false
theorem mid_sortI {L S : List Int} {a : Nat} {x : Int} (hS : S = sortI L) (h1 : a = 0 ∨ ∃ z, S[a - 1]? = some z ∧ z ≤ x) (ha : a ≤ S.length) (h2 : ∀ z ∈ S.drop a, x < z) : sortI (L ++ [x]) = mid S a x := by
  subst hS
  have hs := sortI_le L
  apply sortI_eq
  · exact (mid_perm _ _ _).trans ((sortI_perm L).append_right [x])
  · have hd : (List.take a (sortI L) ++ List.drop a (sortI L)).Pairwise (· ≤ ·) := by rw [List.take_append_drop]; exact hs
    rw [List.pairwise_append] at hd
    have hle : ∀ z ∈ (sortI L).take a, z ≤ x := by
      intro z hz
      rcases h1 with h0 | ⟨u, hu, hux⟩
      · subst h0; simp at hz
      · obtain ⟨i, hi, rfl⟩ := List.mem_iff_getElem.1 hz
        simp at hi
        rw [List.getElem_take]
        by_cases he : i = a - 1
        · subst he
          rw [(List.getElem?_eq_some_iff.1 hu).2]; exact hux
        · have h3 := List.pairwise_iff_getElem.1 hs i (a - 1) (by omega) (by omega) (by omega)
          rw [(List.getElem?_eq_some_iff.1 hu).2] at h3
          omega
    unfold mid
    rw [List.pairwise_append, List.pairwise_cons]
    refine ⟨hd.1, ⟨fun z hz => by have := h2 z hz; omega, hd.2.1⟩, ?_⟩
    intro u hu v hv
    rcases List.mem_cons.1 hv with rfl | hv
    · exact hle u hu
    · exact hd.2.2 u hu v hv
theorem form_i {w : World} {base n : Nat} {e : TypeId} {sz : Nat} {v : Value} {xs : List Value} (h : w.ownsRow base e sz v n xs) (hn : 0 < n) : ∃ g cap, v = .slice (some ⟨g, 0, none⟩) n cap ∧ base ≤ g ∧ g < w.heap.size := by
  rcases h.2 with ⟨_, h0⟩ | ⟨g, cap, cur, rfl, hb, hg, _⟩
  · omega
  · exact ⟨g, cap, rfl, hb, (Array.getElem?_eq_some_iff.1 hg).1⟩
/-- The counts, behind the first i places. -/
def stepR (P : List Int) (bi i : Nat) : List Int := if bi < i then bump P bi else P
set_option maxRecDepth 100000 in
set_option maxHeartbeats 16000000 in
theorem rShares_ok (r : List Pt) (C : Nat) (A : Option Addr) (n c : Nat) (w : World) (hr : Sl.Rds w 2 A n (r.flatMap Pt.cs)) (he : eAsk r = 0) (hC : C ≤ 4096) :
    Calls Try.prog 21 #[.slice A n c, .int .i64 C] w (IPost w (cntK (keyAt r) (sortI (oWalk r 0)) C) 0) := by
  obtain rfl := hr.length Pt.cs_len (by omega)
  obtain ⟨h1, h2, h3, _⟩ := eAsk_ok he
  have GW := K.H.mk (fun (W : World) (hb : Below w.heap.size w W) => rWalk_c r 0 A r.length c W (hr.below hb))
  rw [he] at GW
  have HK := K.H.mk (key_in he)
  have hLl := walk_len (l := r) (h := 0)
  have hL0 : 0 < (oWalk r 0).length := (List.getElem?_eq_some_iff.1 (walk_head (h := 0) he)).1
  have Hnd := K.H.mk (walk_nodup r 0)
  have Hr := K.H.mk hr
  have Hor := K.H.mk h1
  have GI := K.H.mk (fun (k : Nat) (g : Nat) (W : World) (hW : K.At W g 3 #[.int .i64 k]) => show Calls Try.prog 26 #[.int .u64 2, .slice (some ⟨g, 0, none⟩) 1 1] W fun e w' => e = .returned (.int .u64 (hashK k : Nat)) ∧ w' = W from Sb.rInts_c 2 [(k : Int)] _ 1 1 W (rds_one W g _ hW) (by omega))
  generalize oWalk r 0 = L at *
  have Hlt := K.H.mk (sortI_lt Hnd.out)
  have hil := sortI_len L
  obtain ⟨ids, hids⟩ : ∃ ids, ids = sortI L := ⟨_, rfl⟩
  rw [← hids] at HK Hlt hil ⊢
  have HIDS := K.H.mk hids
  have hmk := make_i L.length (by omega)
  have d1 : decide ((C : Int) < 0) = false := decide_eq_false (by omega)
  have d2 : decide ((4096 : Int) < (C : Int)) = false := decide_eq_false (by omega)
  have d2n : decide (4096 < C) = false := decide_eq_false (by omega)
  clear hr he h1 hids
  go_enter Try.func21, Try.ntmps21
  go_wp2_with (first
    | (go_at_call 19; (with_reducible refine (GW.out _ (by repeat (first | (with_reducible exact Below.refl _ _) | (with_reducible refine K.b_bel ?_ (by assumption)) | (with_reducible refine K.b_alloc ?_ _) | (with_reducible refine K.b_drewN ?_ _) | (with_reducible refine K.b_drew ?_) | (with_reducible refine K.b_set ?_ (by first | omega | (simp <;> omega)) _) | (with_reducible refine K.b_only ?_ (by assumption) (by first | omega | (simp <;> omega)))))).mono ?_); rintro e W1 ⟨v1, rfl, hown1, hb1⟩; obtain ⟨hB1, hC1, hF1, hZ1⟩ := K.bel_facts hb1; clear hb1; obtain ⟨B1, d9, rfl, hR1⟩ := Sl.Rds.of_own hown1; rw [← flat_iv] at hR1; clear hown1))
  have HR1 := K.H.mk hR1
  have Hb1 := K.H.mk hB1.out
  clear hR1 GW d1 d2 d2n
  have hz1 : w.heap.size ≤ W1.heap.size := hB1.out.size
  ((try clear hC1); (try clear hF1); (try clear hZ1); (try clear hc1); (try clear hf1); (try clear hl1); (try clear hB1); (try clear hO1); (try clear hA1); (try clear hz1_0); (try clear hz1_1); (try clear hz1_2); (try clear hz1_3))
  go_loopw [8, 9] (fun v i wr => ∃ k : Nat, k ≤ L.length ∧ i = .int .i64 k ∧ wr.ownsRow W1.heap.size 3 1 v k ((sortI (L.take k)).map iv) ∧ K.H (Below W1.heap.size W1 wr)) (fun _ i _ => L.length - (intOf i).toNat)
  case atStart => exact ⟨0, by omega, rfl, by simpa [sortI] using World.ownsRow_nil _ _ _ _, ⟨Below.refl _ _⟩⟩
  case round =>
    obtain ⟨k, hk, rfl, hown, Hb⟩ := hrel
    have hsz := Hb.out.size
    by_cases hlt : k < L.length
    · obtain ⟨x, hx⟩ : ∃ x, L[k]? = some x := ⟨_, List.getElem?_eq_getElem hlt⟩
      have hSl : (sortI (L.take k)).length = k := by rw [sortI_len, List.length_take]; omega
      obtain ⟨S, hS⟩ : ∃ S, S = sortI (L.take k) := ⟨_, rfl⟩
      have HS := K.H.mk hS
      rw [← hS] at hown hSl
      clear hS
      have HT := K.H.mk (show L.take (k + 1) = L.take k ++ [x] by rw [List.take_add_one, hx]; rfl)
      obtain ⟨b, off, rfl, hbl, hbc⟩ := Sl.Rds.elem HR1.out (enc := fun n => [.int .i64 n]) (fun _ => rfl) (by omega) hx
      have q_0 : wr.cell? ⟨b, off + k, none⟩ = some (.int .i64 x) := by
        have := (Hb.out.cell (p := ⟨b, off + k * 1 + 0, none⟩) hbl).trans (hbc 0 (by omega))
        simpa using this
      have HC0 := K.H.mk (hbc 0 (by omega))
      have hbw : b < wr.heap.size := Nat.lt_of_lt_of_le hbl Hb.out.size
      obtain ⟨A1, c1, rfl, hnc, hcm, hR1⟩ := Sl.Rds.of_own2 hown
      clear hnc hcm hR1
      have hkl : (k : Int) < (L.length : Int) := by omega
      go_wp2_with (first | (at_builtin; refine Sl.app1 (news := [iv x]) rfl _ _ 41 3 (.int .i64 0) rfl Try.underlying41 (by kernel_rfl : (Try.prog.info? 3).map (fun i => (i.zero, i.size, i.bytes)) = some (some (.int .i64 0), 1, 8)) rfl (by decide) (by decide) rfl ((hown).alloc _) rfl rfl (Sl.new_cells _ _ _ _ (by first | rfl | simp)) (by simp [Value.oneCell']) (by omega) (by simp; omega) ?_; intro v8 W8 hown8 hgr8))
      have Hw8 : K.H (Below W1.heap.size W1 W8) := ⟨Sl.below_grown (K.b_alloc Hb.out _) hgr8 (fun k hk => Sl.own_base hown k hk)⟩
      obtain ⟨g, cap, he, hgb, hgl⟩ := form_i hown8 (by omega)
      subst he
      rw [show S.map iv ++ [iv x] = (mid S k x).map iv by rw [← hSl, mid_end]; simp] at hown8
      clear hx hbc hown Hb hgr8 hbw hsz q_0
      go_loopw [10] (fun v5 wr => ∃ (a : Nat) (y : Int), a ≤ k ∧ v5 = .int .i64 a ∧ wr.ownsRow W1.heap.size 3 1 (.slice (some ⟨g, 0, none⟩) (k + 1) cap) (k + 1) ((mid S a y).map iv) ∧ K.H (Below W1.heap.size W1 wr) ∧ K.H (∀ z ∈ S.drop a, x < z)) (fun v5 _ => (intOf v5).toNat)
      case atStart => exact ⟨k, x, by omega, rfl, hown8, Hw8, ⟨by rw [List.drop_eq_nil_of_le (by omega)]; simp⟩⟩
      case round =>
        clear hown8 Hw8 hgl
        obtain ⟨a, y, ha, rfl, hown, Hb, HD⟩ := hrel
        have q2 := (Hb.out.cell (p := ⟨b, off + k * 1 + 0, none⟩) hbl).trans HC0.out
        simp at q2
        have hsz := Hb.out.size
        have hbw : b < wr.heap.size := Nat.lt_of_lt_of_le hbl hsz
        have hbg : b ≠ g := by omega
        obtain ⟨go, hgo⟩ : ∃ go, go = (decide (0 < a) && decide (x < S.getD (a - 1) 0)) := ⟨_, rfl⟩
        have HG := K.H.mk hgo
        have Hown := K.H.mk hown
        go_upto_region 12 with fail
        go_cut [60] from 47 to 70 (fun cc wx => cc = .bool go ∧ Below wr.heap.size wr wx)
        case first =>
          clear hgo
          by_cases h0 : a = 0
          · subst h0
            have hg2 : go = false := by rw [HG.out]; simp
            subst hg2
            clear hown
            refine K.wp_region_ext_lit (by kernel_rfl) (by kernel_rfl) ?_
            repeat (any_goals (first | go_big_quiet_skip | quiet_step (fail) | (refine wpQuiet_step (fun K hK => ?_); go_simp; split <;> (refine hK _ ?_; clear hK K))))
            all_goals (refine wpQuiet_nil ?_; intro W9 hW9; obtain ⟨hB9, hC9, hF9, hZ9⟩ := K.ext_facts hW9; clear hW9)
            go_wp2_with fail
            go_meet
            exact ⟨rfl, (by repeat (first | (with_reducible exact Below.refl _ _) | (with_reducible refine K.b_bel ?_ (by assumption)) | (with_reducible refine K.b_alloc ?_ _) | (with_reducible refine K.b_drewN ?_ _) | (with_reducible refine K.b_drew ?_) | (with_reducible refine K.b_set ?_ (by first | omega | (simp <;> omega)) _) | (with_reducible refine K.b_only ?_ (by assumption) (by first | omega | (simp <;> omega)))))⟩
          · obtain ⟨z, hz⟩ : ∃ z, S[a - 1]? = some z := ⟨_, List.getElem?_eq_getElem (by omega)⟩
            have hg2 : go = decide (x < z) := by
              rw [HG.out, List.getD_eq_getElem?_getD, hz, decide_eq_true (show 0 < a by omega)]; rfl
            have HG2 := K.H.mk hg2
            have hc_p : wr.cell? ⟨g, a - 1, none⟩ = some (.int .i64 z) := by rw [hown.cellAt (a - 1) (by omega), List.getElem?_map, mid_get (by omega) (by omega), hz]; rfl
            have hf_p := hown.frozenAt (a - 1)
            have d0 : decide ((0 : Int) < (a : Int)) = true := decide_eq_true (by omega)
            have d0n : decide (0 < a) = true := decide_eq_true (by omega)
            have hw1 : IntKind.i64.wrap ((a : Int) - 1) = ((a - 1 : Nat) : Int) := by rw [K.i64_in (by omega) (by omega)]; omega
            have hi1 : ((a - 1 : Nat) : Int) < ((k + 1 : Nat) : Int) := by omega
            have hi2 : ((a - 1 : Nat) : Int) < (k : Int) + 1 := by omega
            have hi0 : (0 : Int) ≤ ((a - 1 : Nat) : Int) := by omega
            have hgl : g < wr.heap.size := (hown.lt g rfl).2
            clear hz hg2 HG hown
            refine K.wp_region_ext_lit (by kernel_rfl) (by kernel_rfl) ?_
            repeat (any_goals (first | go_big_quiet_skip | quiet_step (fail) | (refine wpQuiet_step (fun K hK => ?_); go_simp; split <;> (refine hK _ ?_; clear hK K))))
            all_goals (refine wpQuiet_nil ?_; intro W9 hW9; obtain ⟨hB9, hC9, hF9, hZ9⟩ := K.ext_facts hW9; clear hW9)
            go_wp2_with fail
            go_meet
            exact ⟨by rw [HG2.out], (by repeat (first | (with_reducible exact Below.refl _ _) | (with_reducible refine K.b_bel ?_ (by assumption)) | (with_reducible refine K.b_alloc ?_ _) | (with_reducible refine K.b_drewN ?_ _) | (with_reducible refine K.b_drew ?_) | (with_reducible refine K.b_set ?_ (by first | omega | (simp <;> omega)) _) | (with_reducible refine K.b_only ?_ (by assumption) (by first | omega | (simp <;> omega)))))⟩
        case rest =>
        obtain ⟨rfl, hbc2⟩ := hcut
        have hown2 := Sl.own_over hown ⟨hbc2⟩
        have Hb2 := K.H.mk (Hb.out.trans (hbc2.mono hsz))
        have q3 : wc.cell? ⟨b, off + k, none⟩ = some (.int .i64 x) := (hbc2.cell (p := ⟨b, off + k, none⟩) hbw).trans q2
        have hbw3 : b < wc.heap.size := Nat.lt_of_lt_of_le hbw hbc2.size
        have hgl : g < wc.heap.size := (hown2.lt g rfl).2
        clear hown Hb hbc2 hgo q2 Hown
        cases go
        · have HN := K.H.mk (show mid S a x = sortI (L.take (k + 1)) by
            rw [HT.out, mid_sortI HS.out ?_ (by omega) HD.out]
            by_cases h0 : a = 0
            · exact .inl h0
            · obtain ⟨z, hz⟩ : ∃ z, S[a - 1]? = some z := ⟨_, List.getElem?_eq_getElem (by omega)⟩
              have h1 := HG.out
              rw [List.getD_eq_getElem?_getD, hz, decide_eq_true (show 0 < a by omega)] at h1
              have h2 := of_decide_eq_false (by simpa using h1.symm : decide (x < z) = false)
              exact .inr ⟨z, hz, by omega⟩)
          have hst := (hown2.stored a (iv x)).1
          rw [← List.map_set, mid_set (by omega), HN.out] at hst
          have Hst := K.H.mk hst
          have hf_a := hown2.frozenAt a
          have hc_a : wc.cell? ⟨g, a, none⟩ = some (.int .i64 y) := by rw [hown2.cellAt a (by omega), List.getElem?_map, mid_at (by omega)]; rfl
          have hak : (a : Int) < ((k + 1 : Nat) : Int) := by omega
          have hak2 : (a : Int) < (k : Int) + 1 := by omega
          clear hst hown2 HG HD HS HT HN
          go_wp2
          go_roundw
          case rel => exact ⟨k + 1, by omega, by go_num, Hst.out, ⟨(by repeat (first | (with_reducible exact Below.refl _ _) | (with_reducible exact Hb2.out) | (with_reducible refine K.b_bel ?_ (by assumption)) | (with_reducible refine K.b_alloc ?_ _) | (with_reducible refine K.b_drewN ?_ _) | (with_reducible refine K.b_drew ?_) | (with_reducible refine K.b_set ?_ (by first | omega | (simp <;> omega)) _) | (with_reducible refine K.b_only ?_ (by assumption) (by first | omega | (simp <;> omega)))))⟩⟩
          case measure => simp [intOf]; omega
        · have hgo := HG.out
          have h0 : 0 < a := by
            by_cases h0 : 0 < a
            · exact h0
            · rw [decide_eq_false h0] at hgo; cases hgo
          obtain ⟨z, hz⟩ : ∃ z, S[a - 1]? = some z := ⟨_, List.getElem?_eq_getElem (by omega)⟩
          have hzx : x < z := by
            rw [List.getD_eq_getElem?_getD, hz, decide_eq_true h0] at hgo
            simpa using hgo.symm
          have hst := (hown2.stored a (iv z)).1
          rw [← List.map_set, show (mid S a y).set a z = mid S (a - 1) z by
            obtain ⟨p, rfl⟩ : ∃ p, a = p + 1 := ⟨a - 1, by omega⟩
            exact mid_step hz y] at hst
          have Hst := K.H.mk hst
          have HD2 : K.H (∀ u ∈ S.drop (a - 1), x < u) := ⟨by
            intro u hu
            rw [List.drop_eq_getElem_cons (show a - 1 < S.length by omega), (List.getElem?_eq_some_iff.1 hz).2, show a - 1 + 1 = a by omega] at hu
            rcases List.mem_cons.1 hu with rfl | hu
            · exact hzx
            · exact HD.out u hu⟩
          have hc_p : wc.cell? ⟨g, a - 1, none⟩ = some (.int .i64 z) := by rw [hown2.cellAt (a - 1) (by omega), List.getElem?_map, mid_get (by omega) (by omega), hz]; rfl
          have hf_p := hown2.frozenAt (a - 1)
          have hf_a := hown2.frozenAt a
          have hc_a : wc.cell? ⟨g, a, none⟩ = some (.int .i64 y) := by rw [hown2.cellAt a (by omega), List.getElem?_map, mid_at (by omega)]; rfl
          have hak : (a : Int) < ((k + 1 : Nat) : Int) := by omega
          have hak2 : (a : Int) < (k : Int) + 1 := by omega
          have hw1 : IntKind.i64.wrap ((a : Int) - 1) = ((a - 1 : Nat) : Int) := by rw [K.i64_in (by omega) (by omega)]; omega
          have hi1 : ((a - 1 : Nat) : Int) < ((k + 1 : Nat) : Int) := by omega
          have hi2 : ((a - 1 : Nat) : Int) < (k : Int) + 1 := by omega
          have hi0 : (0 : Int) ≤ ((a - 1 : Nat) : Int) := by omega
          have HP := K.H.mk h0
          clear hst hown2 HG HD HS HT hz hgo hzx h0
          go_wp2
          go_roundw
          case rel => exact ⟨a - 1, z, by omega, rfl, Hst.out, ⟨(by repeat (first | (with_reducible exact Below.refl _ _) | (with_reducible exact Hb2.out) | (with_reducible refine K.b_bel ?_ (by assumption)) | (with_reducible refine K.b_alloc ?_ _) | (with_reducible refine K.b_drewN ?_ _) | (with_reducible refine K.b_drew ?_) | (with_reducible refine K.b_set ?_ (by first | omega | (simp <;> omega)) _) | (with_reducible refine K.b_only ?_ (by assumption) (by first | omega | (simp <;> omega)))))⟩, HD2⟩
          case measure => have hpp := HP.out; simp [intOf]; omega
    · obtain rfl : k = L.length := by omega
      rw [List.take_length, ← HIDS.out] at hown
      obtain ⟨A2, d2, rfl, hnc, hcm, hR2⟩ := Sl.Rds.of_own2 hown
      clear hnc hcm
      go_wp2
      have o1 := own_made wr L.length w.heap.size (by omega) (by omega)
      have Hb3 := K.H.mk (show Below w.heap.size w (wr.alloc (.cells (madeCells #[.int .i64 0] L.length) 3)) from K.b_alloc (Hb1.out.trans (Hb.out.mono hz1)) _)
      have HR3 := K.H.mk (show Sl.Rds (wr.alloc (.cells (madeCells #[.int .i64 0] L.length) 3)) 1 A2 L.length (ids.flatMap fun n => [.int .i64 n]) by
        rw [flat_iv]; exact hR2.below (K.b_alloc (Below.refl _ _) _))
      obtain ⟨gO, hgO⟩ : ∃ g, g = wr.heap.size := ⟨_, rfl⟩
      have Hn2 := K.H.mk (show ∀ b off, A2 = some ⟨b, off, none⟩ → b ≠ gO from fun b off e => by
        have h1 := (hown.lt b (by rw [e]; rfl)).2
        omega)
      have hgw : w.heap.size ≤ gO := by omega
      have o2 : (wr.alloc (.cells (madeCells #[.int .i64 0] L.length) 3)).ownsRow w.heap.size 3 1 (.slice (some ⟨gO, 0, none⟩) L.length L.length) L.length ((cntK (keyAt r) ids 0).map iv) := by
        rw [hgO]; unfold cntK; rw [hil]; exact o1
      rw [← hgO]
      clear hown Hb HR1 Hb1 hR2 o1 hmk hgO hsz hz1 hk hlt Hnd
      generalize (wr.alloc (.cells (madeCells #[.int .i64 0] L.length) 3)) = W3 at *
      go_loopw [12] (fun i wr => ∃ k : Nat, k ≤ C ∧ i = .int .i64 k ∧ wr.ownsRow w.heap.size 3 1 (.slice (some ⟨gO, 0, none⟩) L.length L.length) L.length ((cntK (keyAt r) ids k).map iv) ∧ K.H (Sl.Rds wr 1 A2 L.length (ids.flatMap fun n => [.int .i64 n])) ∧ K.H (Below w.heap.size w wr)) (fun i _ => C - (intOf i).toNat)
      case atStart => exact ⟨0, by omega, rfl, o2, HR3, Hb3⟩
      case round =>
        clear o2 HR3 Hb3
        obtain ⟨k, hk, rfl, hown, HR, Hb⟩ := hrel
        by_cases hlt : k < C
        · have hkc : (k : Int) < C := by omega
          have hsz := Hb.out.size
          have hyi := HK.out k
          have GIk := K.H.mk (fun (g : Nat) (W : World) (hW : K.At W g 3 #[.int .i64 k]) => GI.out k g W hW)
          have Hst := K.H.mk (show cntK (keyAt r) ids (k + 1) = bump (cntK (keyAt r) ids k) (below1 ids (keyAt r k)) from rfl)
          have hbi := below1_lt hyi
          have Hat := K.H.mk (below1_at Hlt.out hyi)
          have hPb := fun i => cntK_in (keyAt r) ids k i
          have hPl := cntK_len (keyAt r) ids k
          have hye : keyAt r k = lookI r (hashK k) := rfl
          have HYE := K.H.mk hye
          clear hye
          generalize keyAt r k = y at *
          generalize hashK k = hh at *
          generalize below1 ids y = bi at *
          have HPB := K.H.mk hPb
          clear hPb hyi
          generalize hPe : cntK (keyAt r) ids k = P at *
          clear hPe
          have Hown := K.H.mk hown
          go_wp2_with (first
            | (go_at_call 26; (with_reducible refine (GIk.out _ _ ?r1).mono ?_); (case r1 => exact (by refine K.At.cast (by repeat (first | (with_reducible refine K.At.new' _ _ _ _ (by first | rfl | (simp; done) | omega)) | (with_reducible apply K.At.set) | (with_reducible apply K.At.alloc) | (with_reducible apply K.At.drewN) | (with_reducible apply K.At.drew) | (with_reducible apply K.At.far) | omega | (simp <;> omega))) ?_; rfl)); rintro e w' ⟨rfl, hw'⟩; have hw'2 := Eq.symm hw'; clear hw'; subst hw'2))
          have hbA : Below wr.heap.size wr (wr.alloc (.cells #[.int .i64 k] 3)) := (by repeat (first | (with_reducible exact Below.refl _ _) | (with_reducible refine K.b_bel ?_ (by assumption)) | (with_reducible refine K.b_alloc ?_ _) | (with_reducible refine K.b_drewN ?_ _) | (with_reducible refine K.b_drew ?_) | (with_reducible refine K.b_set ?_ (by first | omega | (simp <;> omega)) _) | (with_reducible refine K.b_only ?_ (by assumption) (by first | omega | (simp <;> omega)))))
          have own7 : (wr.alloc (.cells #[.int .i64 k] 3)).ownsRow w.heap.size 3 1 (.slice (some ⟨gO, 0, none⟩) L.length L.length) L.length ((stepR P bi 0).map iv) := by
            rw [show stepR P bi 0 = P by unfold stepR; rw [if_neg (by omega)]]
            exact hown.alloc _
          have HR7 := K.H.mk (HR.out.below hbA)
          have HB7 := K.H.mk (Hb.out.trans (hbA.mono hsz))
          clear hown HR Hb hbA GIk Hown hsz
          generalize (wr.alloc (.cells #[.int .i64 k] 3)) = W7 at *
          go_loopw [14] (fun i w2 => ∃ a : Nat, a ≤ r.length ∧ i = .int .i64 a ∧ K.H (∀ (j : Nat) (z : Pt), j < a → r[j]? = some z → z.h < hh) ∧ K.H (Below W7.heap.size W7 w2)) (fun i _ => r.length - (intOf i).toNat)
          case atStart => exact ⟨0, by omega, rfl, ⟨fun j y hj => by omega⟩, ⟨Below.refl _ _⟩⟩
          case round =>
            obtain ⟨a, ha, rfl, Hf, Hb⟩ := hrel
            have hsz := Hb.out.size
            have Hbw := K.H.mk (HB7.out.trans (Hb.out.mono HB7.out.size))
            obtain ⟨go, hgo⟩ : ∃ go, go = (decide (a < r.length) && decide ((r.getD a ⟨0, 0⟩).h < hh)) := ⟨_, rfl⟩
            have HG := K.H.mk hgo
            go_upto_region 22 with fail
            go_cut [101] from 89 to 103 (fun c wx => c = .bool go ∧ Below W7.heap.size W7 wx)
            case first =>
              clear hgo
              by_cases hlt : a < r.length
              · obtain ⟨x, hx⟩ : ∃ x, r[a]? = some x := ⟨_, List.getElem?_eq_getElem hlt⟩
                have hg2 : go = decide (x.h < hh) := by rw [HG.out, List.getD_eq_getElem?_getD, hx, decide_eq_true hlt]; rfl
                obtain ⟨b, off, rfl, hbl, hbc⟩ := Sl.Rds.elem Hr.out Pt.cs_len (by omega) hx
                have q_0 : wr.cell? ⟨b, off + a * 2, none⟩ = some (.int .u64 x.h) := (Hbw.out.cell (p := ⟨b, off + a * 2 + 0, none⟩) hbl).trans (hbc 0 (by omega))
                have q_1 : wr.cell? ⟨b, off + a * 2 + 1, none⟩ = some (.int .i64 x.i) := (Hbw.out.cell (p := ⟨b, off + a * 2 + 1, none⟩) hbl).trans (hbc 1 (by omega))
                clear hbc
                have hal : (a : Int) < (r.length : Int) := by omega
                have hbw : b < wr.heap.size := Nat.lt_of_lt_of_le hbl Hbw.out.size
                have HG2 := K.H.mk hg2
                clear hx hg2 HG
                go_wp2_with fail
                go_meet
                exact ⟨by rw [HG2.out], (by repeat (first | (with_reducible exact Below.refl _ _) | (with_reducible exact Hb.out) | (with_reducible refine K.b_bel ?_ (by assumption)) | (with_reducible refine K.b_alloc ?_ _) | (with_reducible refine K.b_drewN ?_ _) | (with_reducible refine K.b_drew ?_) | (with_reducible refine K.b_set ?_ (by first | omega | (simp <;> omega)) _) | (with_reducible refine K.b_only ?_ (by assumption) (by first | omega | (simp <;> omega)))))⟩
              · have hg2 : go = false := by rw [HG.out, decide_eq_false hlt]; rfl
                obtain rfl : a = r.length := by omega
                have HG2 := K.H.mk hg2
                clear hg2 HG
                go_wp2_with fail
                go_meet
                exact ⟨by rw [HG2.out], (by repeat (first | (with_reducible exact Below.refl _ _) | (with_reducible exact Hb.out) | (with_reducible refine K.b_bel ?_ (by assumption)) | (with_reducible refine K.b_alloc ?_ _) | (with_reducible refine K.b_drewN ?_ _) | (with_reducible refine K.b_drew ?_) | (with_reducible refine K.b_set ?_ (by first | omega | (simp <;> omega)) _) | (with_reducible refine K.b_only ?_ (by assumption) (by first | omega | (simp <;> omega)))))⟩
            case rest =>
            obtain ⟨rfl, hb2⟩ := hcut
            have Hb2 := K.H.mk hb2
            clear Hb hgo hsz Hbw
            cases go
            · have hah : ahead r hh = a := by
                refine ahead_at ha Hf.out (fun j y hj hy => ?_)
                have hal : a < r.length := Nat.lt_of_le_of_lt hj (List.getElem?_eq_some_iff.1 hy).1
                have h4 := HG.out
                rw [List.getD_eq_getElem?_getD, List.getElem?_eq_getElem hal, decide_eq_true hal] at h4
                have h5 := of_decide_eq_false (by simpa using h4.symm : decide (r[a].h < hh) = false)
                have h6 := ord_pair Hor.out hj (List.getElem?_eq_getElem hal) hy
                omega
              have hm := Nat.mod_lt a h2
              obtain ⟨x, hx⟩ : ∃ x, r[a % r.length]? = some x := ⟨_, List.getElem?_eq_getElem hm⟩
              have hyx : y = x.i := by rw [HYE.out]; unfold lookI; rw [hah, hx]; rfl
              have hmo : ((a : Nat) : Int).tmod (r.length : Int) = ((a % r.length : Nat) : Int) := by rw [Int.natCast_emod]; exact Int.tmod_eq_emod_of_nonneg (by omega)
              have hz : (r.length : Int) ≠ 0 := by omega
              have hzn : r.length ≠ 0 := by omega
              have HX := K.H.mk hx
              have hml : ((a % r.length : Nat) : Int) < (r.length : Int) := by omega
              have hm0 : (0 : Int) ≤ ((a % r.length : Nat) : Int) := by omega
              have own8 := Sl.own_over own7 ⟨hb2⟩
              have HR8 := K.H.mk (HR7.out.below hb2)
              have HB8 := K.H.mk (HB7.out.trans (hb2.mono HB7.out.size))
              clear HG Hf hah hb2 Hb2 own7 HR7 HB7 hx HYE
              generalize a % r.length = m at *
              go_wp2
              go_loopw [15] (fun i wr => ∃ j : Nat, j ≤ L.length ∧ i = .int .i64 j ∧ wr.ownsRow w.heap.size 3 1 (.slice (some ⟨gO, 0, none⟩) L.length L.length) L.length ((stepR P bi j).map iv) ∧ K.H (Sl.Rds wr 1 A2 L.length (ids.flatMap fun n => [.int .i64 n])) ∧ K.H (Below w.heap.size w wr)) (fun i _ => L.length - (intOf i).toNat)
              case atStart => exact ⟨0, by omega, rfl, own8, HR8, HB8⟩
              case round =>
                clear own8 HR8 HB8
                obtain ⟨j, hj, rfl, hown, HR, Hb⟩ := hrel
                by_cases hlt2 : j < L.length
                · obtain ⟨u, hu⟩ : ∃ u, ids[j]? = some u := ⟨_, List.getElem?_eq_getElem (by omega)⟩
                  obtain ⟨b5, off5, rfl, hbl5, hbc5⟩ := Sl.Rds.elem HR.out (enc := fun n => [.int .i64 n]) (fun _ => rfl) (by omega) hu
                  have q5_0 : wr.cell? ⟨b5, off5 + j, none⟩ = some (.int .i64 u) := by
                    have := ((Below.refl _ _ : Below wr.heap.size wr wr).cell (p := ⟨b5, off5 + j * 1 + 0, none⟩) hbl5).trans (hbc5 0 (by omega))
                    simpa using this
                  obtain ⟨b, off, rfl, hbl, hbc⟩ := Sl.Rds.elem Hr.out Pt.cs_len (by omega) HX.out
                  have q_0 : wr.cell? ⟨b, off + m * 2, none⟩ = some (.int .u64 x.h) := (Hb.out.cell (p := ⟨b, off + m * 2 + 0, none⟩) hbl).trans (hbc 0 (by omega))
                  have q_1 : wr.cell? ⟨b, off + m * 2 + 1, none⟩ = some (.int .i64 x.i) := (Hb.out.cell (p := ⟨b, off + m * 2 + 1, none⟩) hbl).trans (hbc 1 (by omega))
                  clear hbc
                  have hbw : b < wr.heap.size := Nat.lt_of_lt_of_le hbl Hb.out.size
                  have hjl : (j : Int) < (L.length : Int) := by omega
                  have hj0 : (0 : Int) ≤ (j : Int) := by omega
                  have hgl : gO < wr.heap.size := (hown.lt gO rfl).2
                  clear hbc5
                  by_cases hjb : j = bi
                  · have huy : u = y := by have := Hat.out; rw [← hjb, hu] at this; cases this; rfl
                    have hq : (u == x.i) = true := by simp [huy, hyx]
                    have hS0 : stepR P bi j = P := by unfold stepR; rw [if_neg (by omega)]
                    have HS1 := K.H.mk (show stepR P bi (j + 1) = bump P j by unfold stepR; rw [if_pos (by omega), hjb])
                    rw [hS0] at hown
                    obtain ⟨v0, v1⟩ := HPB.out j
                    have Hown := K.H.mk hown
                    have HPL := K.H.mk (show j < P.length by omega)
                    have HST := K.H.mk (fun (W : World) (hb : K.Bel wr W) => show (W.setCell ⟨gO, j, none⟩ (iv (P.getD j 0 + 1))).ownsRow w.heap.size 3 1 (.slice (some ⟨gO, 0, none⟩) L.length L.length) L.length ((stepR P bi (j + 1)).map iv) by
                      have h := ((Sl.own_over hown hb).stored j (iv (P.getD j 0 + 1))).1
                      rw [← List.map_set, show P.set j (P.getD j 0 + 1) = bump P j from rfl, ← HS1.out] at h
                      exact h)
                    have hcv : wr.cell? ⟨gO, j, none⟩ = some (.int .i64 (P.getD j 0)) := by
                      rw [hown.cellAt _ (by omega)]; exact map_getD HPL.out
                    have hfv := hown.frozenAt j
                    generalize P.getD j 0 = vi at *
                    have hv1 : vi + 1 ≤ 9223372036854775807 := by omega
                    have hv2 : -9223372036854775808 ≤ vi + 1 := by omega
                    clear hown hS0 HS1 hu hjb huy hyx
                    go_wp2
                    refine K.wp_region_ext_lit (by kernel_rfl) (by kernel_rfl) ?_
                    repeat (any_goals (first | go_big_quiet_skip | quiet_step (fail) | (refine wpQuiet_step (fun K hK => ?_); go_simp; split <;> (refine hK _ ?_; clear hK K))))
                    all_goals (refine wpQuiet_nil ?_; intro W9 hW9; obtain ⟨hB9, hC9, hF9, hZ9⟩ := K.ext_facts hW9; clear hW9)
                    have Hst9 := K.H.mk (HST.out W9 hB9)
                    have HR9 := K.H.mk (HR.out.below hB9.out)
                    go_wp2
                    go_roundw
                    case rel => exact ⟨j + 1, by omega, by go_num, Hst9.out, ⟨rds_far HR9.out Hn2.out _⟩, ⟨(by repeat (first | (with_reducible exact Below.refl _ _) | (with_reducible exact Hb.out) | (with_reducible refine K.b_bel ?_ (by assumption)) | (with_reducible refine K.b_alloc ?_ _) | (with_reducible refine K.b_drewN ?_ _) | (with_reducible refine K.b_drew ?_) | (with_reducible refine K.b_set ?_ (by first | omega | (simp <;> omega)) _) | (with_reducible refine K.b_only ?_ (by assumption) (by first | omega | (simp <;> omega)))))⟩⟩
                    case measure => simp [intOf]; omega
                  · have hq : (u == x.i) = false := by
                      rw [beq_eq_false_iff_ne, ← hyx]
                      intro hxy
                      have h1 := List.getElem?_eq_some_iff.1 hu
                      have h2 := List.getElem?_eq_some_iff.1 Hat.out
                      rcases Nat.lt_or_gt_of_ne hjb with h3 | h3
                      · have := List.pairwise_iff_getElem.1 Hlt.out j bi h1.1 h2.1 h3; omega
                      · have := List.pairwise_iff_getElem.1 Hlt.out bi j h2.1 h1.1 h3; omega
                    have HS1 := K.H.mk (show stepR P bi (j + 1) = stepR P bi j by unfold stepR; split <;> split <;> first | rfl | omega)
                    have Hown := K.H.mk hown
                    clear hu hjb hown hyx
                    go_wp2
                    refine K.wp_region_ext_lit (by kernel_rfl) (by kernel_rfl) ?_
                    repeat (any_goals (first | go_big_quiet_skip | quiet_step (fail) | (refine wpQuiet_step (fun K hK => ?_); go_simp; split <;> (refine hK _ ?_; clear hK K))))
                    all_goals (refine wpQuiet_nil ?_; intro W9 hW9; obtain ⟨hB9, hC9, hF9, hZ9⟩ := K.ext_facts hW9; clear hW9)
                    have own9 := Sl.own_over Hown.out hB9
                    have HR9 := K.H.mk (HR.out.below hB9.out)
                    go_wp2
                    go_roundw
                    case rel => exact ⟨j + 1, by omega, by go_num, by rw [HS1.out]; exact own9, HR9, ⟨(by repeat (first | (with_reducible exact Below.refl _ _) | (with_reducible exact Hb.out) | (with_reducible refine K.b_bel ?_ (by assumption)) | (with_reducible refine K.b_alloc ?_ _) | (with_reducible refine K.b_drewN ?_ _) | (with_reducible refine K.b_drew ?_) | (with_reducible refine K.b_set ?_ (by first | omega | (simp <;> omega)) _) | (with_reducible refine K.b_only ?_ (by assumption) (by first | omega | (simp <;> omega)))))⟩⟩
                    case measure => simp [intOf]; omega
                · obtain rfl : j = L.length := by omega
                  have HS1 := K.H.mk (show stepR P bi L.length = cntK (keyAt r) ids (k + 1) by unfold stepR; rw [if_pos (by omega), Hst.out])
                  rw [HS1.out] at hown
                  go_wp2
                  go_roundw
                  case rel => exact ⟨k + 1, by omega, by go_num, hown, HR, Hb⟩
                  case measure => simp [intOf]; omega
            · have hgo := HG.out
              have hlt : a < r.length := by
                by_cases h0 : a < r.length
                · exact h0
                · rw [decide_eq_false h0] at hgo; cases hgo
              have Hf2 := K.H.mk (show ∀ (j : Nat) (z : Pt), j < a + 1 → r[j]? = some z → z.h < hh from fun j z hj hy => by
                by_cases hja : j = a
                · subst hja
                  rw [List.getD_eq_getElem?_getD, hy, decide_eq_true hlt] at hgo
                  simpa using hgo.symm
                · exact Hf.out j z (by omega) hy)
              clear HG Hf hgo hb2
              go_wp2
              go_roundw
              case rel => exact ⟨a + 1, by omega, by go_num, Hf2, Hb2⟩
              case measure => simp [intOf]; omega
        · obtain rfl : k = C := by omega
          go_wp2
          go_ret2
          exact ⟨_, rfl, by rw [cntK_len, hil]; exact hown, Hb.out⟩
set_option maxRecDepth 100000 in
set_option maxHeartbeats 4000000 in
theorem rshares_bad (r : List Pt) (keys : Int) (A : Option Addr) (n c : Nat) (w : World) (hr : Sl.Rds w 2 A n (r.flatMap Pt.cs)) (he : eAsk r ≠ 0) :
    Calls Try.prog 21 #[.slice A n c, .int .i64 keys] w (IPost w [] (eAsk r)) := by
  have GW := K.H.mk (fun (W : World) (hb : Below w.heap.size w W) => rWalk_c r 0 A n c W (hr.below hb))
  have hd : (eAsk r != 0) = true := by simpa using he
  generalize eAsk r = er at *
  generalize oWalk r 0 = L at *
  clear hr he
  go_enter Try.func21, Try.ntmps21
  go_wp2_with (first
    | (go_at_call 19; (with_reducible refine (GW.out _ (by repeat (first | (with_reducible exact Below.refl _ _) | (with_reducible refine K.b_bel ?_ (by assumption)) | (with_reducible refine K.b_alloc ?_ _) | (with_reducible refine K.b_drewN ?_ _) | (with_reducible refine K.b_drew ?_) | (with_reducible refine K.b_set ?_ (by first | omega | (simp <;> omega)) _) | (with_reducible refine K.b_only ?_ (by assumption) (by first | omega | (simp <;> omega)))))).mono ?_); rintro e W1 ⟨v1, rfl, hown1, hb1⟩; obtain ⟨hB1, hC1, hF1, hZ1⟩ := K.bel_facts hb1; clear hb1 hown1))
  go_ret2
  exact ⟨_, rfl, World.ownsRow_nil _ _ _ _, (by repeat (first | (with_reducible exact Below.refl _ _) | (with_reducible refine K.b_bel ?_ (by assumption)) | (with_reducible refine K.b_alloc ?_ _) | (with_reducible refine K.b_drewN ?_ _) | (with_reducible refine K.b_drew ?_) | (with_reducible refine K.b_set ?_ (by first | omega | (simp <;> omega)) _) | (with_reducible refine K.b_only ?_ (by assumption) (by first | omega | (simp <;> omega)))))⟩
set_option maxRecDepth 100000 in
set_option maxHeartbeats 4000000 in
theorem rshares_range (r : List Pt) (keys : Int) (A : Option Addr) (n c : Nat) (w : World) (hr : Sl.Rds w 2 A n (r.flatMap Pt.cs)) (he : eAsk r = 0) (h2 : keys < 0 ∨ 4096 < keys) :
    Calls Try.prog 21 #[.slice A n c, .int .i64 keys] w (IPost w [] 4) := by
  have GW := K.H.mk (fun (W : World) (hb : Below w.heap.size w W) => rWalk_c r 0 A n c W (hr.below hb))
  rw [he] at GW
  generalize oWalk r 0 = L at *
  have hd : decide (keys < 0) = true ∨ (decide (keys < 0) = false ∧ decide (4096 < keys) = true) := by
    by_cases h0 : keys < 0
    · exact .inl (decide_eq_true h0)
    · exact .inr ⟨decide_eq_false h0, decide_eq_true (by omega)⟩
  clear hr he h2
  rcases hd with d1 | ⟨d1, d2⟩
  all_goals
    go_enter Try.func21, Try.ntmps21
    go_wp2_with (first
      | (go_at_call 19; (with_reducible refine (GW.out _ (by repeat (first | (with_reducible exact Below.refl _ _) | (with_reducible refine K.b_bel ?_ (by assumption)) | (with_reducible refine K.b_alloc ?_ _) | (with_reducible refine K.b_drewN ?_ _) | (with_reducible refine K.b_drew ?_) | (with_reducible refine K.b_set ?_ (by first | omega | (simp <;> omega)) _) | (with_reducible refine K.b_only ?_ (by assumption) (by first | omega | (simp <;> omega)))))).mono ?_); rintro e W1 ⟨v1, rfl, hown1, hb1⟩; obtain ⟨hB1, hC1, hF1, hZ1⟩ := K.bel_facts hb1; clear hb1 hown1))
    go_ret2
    exact ⟨_, rfl, World.ownsRow_nil _ _ _ _, (by repeat (first | (with_reducible exact Below.refl _ _) | (with_reducible refine K.b_bel ?_ (by assumption)) | (with_reducible refine K.b_alloc ?_ _) | (with_reducible refine K.b_drewN ?_ _) | (with_reducible refine K.b_drew ?_) | (with_reducible refine K.b_set ?_ (by first | omega | (simp <;> omega)) _) | (with_reducible refine K.b_only ?_ (by assumption) (by first | omega | (simp <;> omega)))))⟩
theorem rShares_c (r : List Pt) (keys : Int) (A : Option Addr) (n c : Nat) (w : World) (hr : Sl.Rds w 2 A n (r.flatMap Pt.cs)) :
    Calls Try.prog 21 #[.slice A n c, .int .i64 keys] w (IPost w (oShares r keys) (eShares r keys)) := by
  unfold oShares
  by_cases he : eAsk r = 0
  · by_cases h2 : keys < 0 ∨ 4096 < keys
    · rw [show eShares r keys = 4 by unfold eShares; rw [if_pos he, if_pos h2], if_neg (by decide)]
      exact rshares_range r keys A n c w hr he h2
    · rw [show eShares r keys = 0 by unfold eShares; rw [if_pos he, if_neg h2], if_pos rfl]
      obtain ⟨C, rfl⟩ := Int.eq_ofNat_of_zero_le (show 0 ≤ keys by omega)
      exact rShares_ok r C A n c w hr he (by omega)
  · have h1 : eShares r keys = eAsk r := by unfold eShares; rw [if_neg he]
    rw [h1, if_neg he]
    exact rshares_bad r keys A n c w hr he
end Go.Proofs.Ytkalbiihehcjkaa.Rg
