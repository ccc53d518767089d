/- Ring: the reference's Build, where nothing is refused. -/
import Derived.Test.YtkalbiihehcjkaaRg24
import Derived.Deep.CutRange
import Derived.Deep.RegionWith
set_option linter.unusedVariables false
namespace Go.Proofs.Ytkalbiihehcjkaa.Rg
open Go.RowKit Go.Proofs.Ytkalbiihehcjkaa
set_option linter.unusedSimpArgs false
theorem own_form {w : World} {base n : Nat} {e : TypeId} {sz : Nat} {v : Value} {xs : List Value} (h : w.ownsRow base e sz v n xs) (hn : 0 < n) : ∃ g cap, v = .slice (some ⟨g, 0, none⟩) n cap ∧ base ≤ g ∧ g < w.heap.size := by
  rcases h.2 with ⟨_, h0⟩ | ⟨g, cap, cur, rfl, hb, hg, _⟩
  · omega
  · exact ⟨g, cap, rfl, hb, (Array.getElem?_eq_some_iff.1 hg).1⟩
theorem own_drew {w : World} {base n sz : Nat} {e : TypeId} {v : Value} {xs : List Value} (h : w.ownsRow base e sz v n xs) : w.drew.ownsRow base e sz v n xs := h
set_option maxRecDepth 100000 in
set_option maxHeartbeats 16000000 in
theorem rBuild_ok (l : List Bk) (p : Int) (A : Option Addr) (n c : Nat) (w : World) (hr : Sl.Rds w 2 A n (l.flatMap Bk.cs)) (h : eChk l = 0) (hp1 : 1 ≤ p) (hp2 : p ≤ 64) :
    Calls Try.prog 13 #[.int .i64 p, .slice A n c] w (BPost w (oBuild p l) (eBuild p l)) := by
  obtain ⟨f1, f2, f3⟩ := eChk_fine h
  obtain rfl := hr.length Bk.cs_len (by omega)
  have hle := hr.le
  have Hr := K.H.mk hr
  have GC := K.H.mk (fun (W : World) (hb : Below w.heap.size w W) => rCheck_c l A l.length c W (hr.below hb))
  rw [h] at GC
  have d1 : decide (p < 1) = false := decide_eq_false (by omega)
  have d2 : decide (64 < p) = false := decide_eq_false (by omega)
  have HF := K.H.mk f2
  have Hh := K.H.mk h
  clear hr f2 f3 h
  obtain ⟨er, her⟩ : ∃ er, er = eBuild p l := ⟨_, rfl⟩
  obtain ⟨LL, hLL⟩ : ∃ LL, LL = oBuild p l := ⟨_, rfl⟩
  rw [← her, ← hLL]
  have HE := K.H.mk her
  have HL := K.H.mk hLL
  clear her hLL
  go_enter Try.func13, Try.ntmps13
  go_wp2_with (first | (go_at_call 24; (with_reducible refine (GC.out _ (by repeat (first | (with_reducible exact Below.refl _ _) | (with_reducible refine K.b_bel ?_ (by assumption)) | (with_reducible refine K.b_alloc ?_ _) | (with_reducible refine K.b_drewN ?_ _) | (with_reducible refine K.b_drew ?_) | (with_reducible refine K.b_set ?_ (by first | omega | (simp <;> omega)) _) | (with_reducible refine K.b_only ?_ (by assumption) (by first | omega | (simp <;> omega)))))).mono ?_); rintro e W1 ⟨rfl, hb1⟩; obtain ⟨hB1, hC1, hF1, hZ1⟩ := K.bel_facts hb1; clear hb1))
  have Hw1 := K.H.mk (show Below w.heap.size w W1 from (by repeat (first | (with_reducible exact Below.refl _ _) | (with_reducible refine K.b_bel ?_ (by assumption)) | (with_reducible refine K.b_alloc ?_ _) | (with_reducible refine K.b_drewN ?_ _) | (with_reducible refine K.b_drew ?_) | (with_reducible refine K.b_set ?_ (by first | omega | (simp <;> omega)) _) | (with_reducible refine K.b_only ?_ (by assumption) (by first | omega | (simp <;> omega))))))
  clear GC d1 d2
  ((try clear hC1); (try clear hF1); (try clear hZ1); (try clear hc1); (try clear hf1); (try clear hl1); (try clear hB1); (try clear hO1); (try clear hA1); (try clear hz1_0); (try clear hz1_1); (try clear hz1_2); (try clear hz1_3))
  go_loopw [7, 8] (fun v i wr => ∃ k m : Nat, k ≤ l.length ∧ K.H (m = (rawTo p (l.take k)).length) ∧ m ≤ 1024 * k ∧ v = .int .i64 m ∧ i = .int .i64 k ∧ K.H (Below w.heap.size w wr)) (fun _ i _ => l.length - (intOf i).toNat)
  case atStart => exact ⟨0, 0, by omega, ⟨rfl⟩, by omega, rfl, rfl, Hw1⟩
  case round =>
    clear Hw1
    obtain ⟨k, m, hk, HM, hmk, rfl, rfl, Hb⟩ := hrel
    have hsz := Hb.out.size
    by_cases hlt : k < l.length
    · obtain ⟨x, hx⟩ : ∃ x, l[k]? = some x := ⟨_, List.getElem?_eq_getElem hlt⟩
      obtain ⟨f3, f4, f5, f6⟩ := HF.out x (List.mem_of_getElem? hx)
      obtain ⟨c1, c2⟩ := cnt_le (x := x) hp1 hp2 f5 f6
      have HT := K.H.mk (rawTo_take (p := p) hx)
      obtain ⟨b, off, rfl, hbl, hbc⟩ := Sl.Rds.elem Hr.out Bk.cs_len (by omega) hx
      have q_0 : wr.cell? ⟨b, off + k * 2, none⟩ = some (.int .i64 x.id) := (Hb.out.cell (p := ⟨b, off + k * 2 + 0, none⟩) hbl).trans (hbc 0 (by omega))
      have q_1 : wr.cell? ⟨b, off + k * 2 + 1, none⟩ = some (.int .i64 x.wt) := (Hb.out.cell (p := ⟨b, off + k * 2 + 1, none⟩) hbl).trans (hbc 1 (by omega))
      clear hbc
      have hbw : b < wr.heap.size := Nat.lt_of_lt_of_le hbl Hb.out.size
      have hkl : (k : Int) < (l.length : Int) := by omega
      have m1 : IntKind.i64.wrap (p * x.wt) = ((cnt p x : Nat) : Int) := by rw [← c1, K.i64_in (by omega) (by omega)]
      generalize hN : cnt p x = N at *
      have HNN := K.H.mk hN
      clear hx c1 hN
      go_wp2
      go_roundw
      case rel => exact ⟨k + 1, m + N, by omega, ⟨by rw [HT.out, List.length_append, ← HM.out, rowOf_len]⟩, by omega, by go_num, by go_num, Hb⟩
      case measure => simp [intOf]; omega
    · obtain rfl : k = l.length := by omega
      rw [List.take_length] at HM
      by_cases hd : 1024 < m
      · have hE : er = 5 := by
          rw [HE.out]; unfold eBuild
          rw [if_pos Hh.out, if_neg (by omega), if_pos (by rw [← HM.out]; exact hd)]
        have hL : LL = [] := by rw [HL.out]; unfold oBuild; rw [if_neg]; rw [← HE.out]; omega
        have hdt : decide (1024 < (m : Int)) = true := decide_eq_true (by omega)
        clear HE HL HM
        subst hE; subst hL
        go_wp2
        go_ret2
        exact ⟨_, rfl, World.ownsRow_nil _ _ _ _, (by repeat (first | (with_reducible exact Below.refl _ _) | (with_reducible exact Hb.out) | (with_reducible refine K.b_bel ?_ (by assumption)) | (with_reducible refine K.b_alloc ?_ _) | (with_reducible refine K.b_drewN ?_ _) | (with_reducible refine K.b_drew ?_) | (with_reducible refine K.b_set ?_ (by first | omega | (simp <;> omega)) _) | (with_reducible refine K.b_only ?_ (by assumption) (by first | omega | (simp <;> omega)))))⟩
      · have hE : er = 0 := by
          rw [HE.out]; unfold eBuild
          rw [if_pos Hh.out, if_neg (by omega), if_neg (by rw [← HM.out]; exact hd)]
        have hL : LL = sortP (rawTo p l) := by rw [HL.out]; unfold oBuild; rw [if_pos]; rw [← HE.out]; exact hE
        have hdt : decide (1024 < (m : Int)) = false := decide_eq_false (by omega)
        have HLL : K.H (LL.length = m) := ⟨by rw [hL, sortP_len, HM.out]⟩
        have hL2 := K.H.mk hL
        have hm24 : m ≤ 1024 := by omega
        have HM2 := K.H.mk (fun (k : Nat) => show (rawTo p (l.take k)).length ≤ m by
          rw [HM.out]; conv => rhs; rw [← List.take_append_drop k l]
          unfold rawTo; rw [List.flatMap_append, List.length_append]; omega)
        clear HE HL HM hL hmk hk
        subst hE
        go_wp2
        go_loopw [9, 10] (fun v i wr => ∃ k q : Nat, k ≤ l.length ∧ K.H (q = (rawTo p (l.take k)).length) ∧ q ≤ 1024 ∧ i = .int .i64 k ∧ wr.ownsRow w.heap.size 31 2 v q ((sortP (rawTo p (l.take k))).flatMap Pt.cs) ∧ K.H (q = 0 → v = .slice none 0 0) ∧ K.H (Below w.heap.size w wr)) (fun _ i _ => l.length - (intOf i).toNat)
        case atStart => exact ⟨0, 0, by omega, ⟨rfl⟩, by omega, rfl, by simpa [rawTo, sortP] using World.ownsRow_nil _ _ _ _, ⟨fun _ => rfl⟩, Hb⟩
        case round =>
          clear Hb
          obtain ⟨k, q, hk, HM, hmk, rfl, hown, HV, Hb⟩ := hrel
          have hsz := Hb.out.size
          by_cases hlt : k < l.length
          · obtain ⟨x, hx⟩ : ∃ x, l[k]? = some x := ⟨_, List.getElem?_eq_getElem hlt⟩
            obtain ⟨f3, f4, f5, f6⟩ := HF.out x (List.mem_of_getElem? hx)
            obtain ⟨c1, c2⟩ := cnt_le (x := x) hp1 hp2 f5 f6
            have HT := K.H.mk (rawTo_take (p := p) hx)
            have hqm : q + cnt p x ≤ 1024 := by have := HM2.out (k + 1); rw [HT.out, List.length_append, rowOf_len, ← HM.out] at this; omega
            have m1 : IntKind.i64.wrap (p * x.wt) = ((cnt p x : Nat) : Int) := by rw [← c1, K.i64_in (by omega) (by omega)]
            have hkl : (k : Int) < (l.length : Int) := by omega
            have HX := K.H.mk hx
            generalize rawTo p (l.take k) = X at *
            generalize cnt p x = N at *
            have M1 := K.H.mk m1
            clear hx c1 m1 f3 f4 f5 f6
            go_wp2
            go_loopw [9, 11] (fun v i wr => ∃ j : Nat, j ≤ N ∧ i = .int .i64 j ∧ wr.ownsRow w.heap.size 31 2 v (q + j) ((sortP (X ++ rowOf x j)).flatMap Pt.cs) ∧ K.H (q + j = 0 → v = .slice none 0 0) ∧ K.H (Below w.heap.size w wr)) (fun _ i _ => N - (intOf i).toNat)
            case atStart => exact ⟨0, by omega, rfl, by simpa [rowOf] using hown, HV, Hb⟩
            case round =>
              clear hown Hb HV
              obtain ⟨j, hj, rfl, hown, HV, Hb⟩ := hrel
              have hsz := Hb.out.size
              obtain ⟨b, off, rfl, hbl, hbc⟩ := Sl.Rds.elem Hr.out Bk.cs_len (by omega) HX.out
              have q_0 : wr.cell? ⟨b, off + k * 2, none⟩ = some (.int .i64 x.id) := (Hb.out.cell (p := ⟨b, off + k * 2 + 0, none⟩) hbl).trans (hbc 0 (by omega))
              have q_1 : wr.cell? ⟨b, off + k * 2 + 1, none⟩ = some (.int .i64 x.wt) := (Hb.out.cell (p := ⟨b, off + k * 2 + 1, none⟩) hbl).trans (hbc 1 (by omega))
              clear hbc
              have hbw : b < wr.heap.size := Nat.lt_of_lt_of_le hbl Hb.out.size
              have m1 := M1.out
              by_cases hjn : j < N
              · obtain ⟨ph, hph⟩ : ∃ ph, ph = (ptAt x j).h := ⟨_, rfl⟩
                have hpt : ptAt x j = ⟨ph, x.id⟩ := by rw [hph]; rfl
                have HRW := K.H.mk (show X ++ rowOf x (j + 1) = (X ++ rowOf x j) ++ [⟨ph, x.id⟩] by rw [rowOf_succ, hpt, List.append_assoc])
                have GI := K.H.mk (fun (g : Nat) (W : World) (hW : K.At W g 3 #[.int .i64 x.id, .int .i64 j]) => show Calls Try.prog 26 #[.int .u64 1, .slice (some ⟨g, 0, none⟩) 2 2] W fun e w' => e = .returned (.int .u64 ph) ∧ w' = W by
                  rw [hph]; exact Sb.rInts_c 1 [x.id, (j : Int)] _ 2 2 W (rds_two W g _ _ hW) (by omega))
                obtain ⟨S, hS⟩ : ∃ S, S = sortP (X ++ rowOf x j) := ⟨_, rfl⟩
                have hSl : S.length = q + j := by rw [hS, sortP_len, List.length_append, rowOf_len, ← HM.out]
                have HS := K.H.mk hS
                rw [← hS] at hown
                obtain ⟨A1, d1, rfl, hnc, hcm, hR1⟩ := Sl.Rds.of_own2 hown
                clear hnc hcm hR1 hS hph hpt
                go_upto_region 20 with fail
                go_cut [12] from 51 to 114 (fun s12 wx => ∃ gp : Nat, s12 = .pointer (some ⟨gp, 0, none⟩) ∧ wr.heap.size ≤ gp ∧ K.At wx gp 31 #[.int .u64 ph, .int .i64 x.id] ∧ wx.ownsRow w.heap.size 31 2 (.slice A1 (q + j) d1) (q + j) (S.flatMap Pt.cs) ∧ Below w.heap.size w wx)
                case first =>
                  go_region_with (go_at_call 26; (with_reducible refine (GI.out _ _ ?r1).mono ?_); (case r1 => exact (by refine K.At.cast (by repeat (first | (with_reducible refine K.At.new' _ _ _ _ (by first | rfl | (simp; done) | omega)) | (with_reducible apply K.At.set) | (with_reducible apply K.At.alloc) | (with_reducible apply K.At.drewN) | (with_reducible apply K.At.drew) | (with_reducible apply K.At.far) | omega | (simp <;> omega))) ?_; rfl)); rintro e w' ⟨rfl, hw'⟩; have hw'2 := Eq.symm hw'; clear hw'; subst hw'2)
                  all_goals (go_wp2_with fail; go_meet; exact ⟨_, rfl, (by first | omega | (simp <;> omega)), (by refine K.At.cast (by repeat (first | (with_reducible refine K.At.new' _ _ _ _ (by first | rfl | (simp; done) | omega)) | (with_reducible apply K.At.set) | (with_reducible apply K.At.alloc) | (with_reducible apply K.At.drewN) | (with_reducible apply K.At.drew) | (with_reducible apply K.At.far) | omega | (simp <;> omega))) ?_; rfl), by repeat (first | (with_reducible exact hown) | (with_reducible refine own_drew ?_) | (with_reducible refine World.ownsRow.alloc ?_ _)), (by repeat (first | (with_reducible exact Below.refl _ _) | (with_reducible exact Hb.out) | (with_reducible refine K.b_bel ?_ (by assumption)) | (with_reducible refine K.b_alloc ?_ _) | (with_reducible refine K.b_drewN ?_ _) | (with_reducible refine K.b_drew ?_) | (with_reducible refine K.b_set ?_ (by first | omega | (simp <;> omega)) _) | (with_reducible refine K.b_only ?_ (by assumption) (by first | omega | (simp <;> omega)))))⟩)
                case rest =>
                obtain ⟨gp, rfl, hgb, hG, hown2, hb2⟩ := hcut
                have Hb2 := K.H.mk hb2
                have HA := K.H.mk (fun (h0 : q + j = 0) => HV.out h0)
                have HNG : K.H ((Value.slice A1 (q + j) d1).ownBlock ≠ some gp) := ⟨fun e => by have := (hown.lt _ e).2; omega⟩
                have hgw : w.heap.size ≤ gp := by omega
                clear hown Hb hb2 GI hgb
                have hgl := hG.lt
                obtain ⟨hc3, hf3, hl3⟩ := K.At.facts hG
                have hsz2 := Hb2.out.size
                go_wp2
                clear hc3 hf3 hl3 hgl hsz2 q_0 q_1 hbw m1 hsz
                go_loopw [13] (fun v wr => ∃ a : Nat, a ≤ q + j ∧ v = .int .i64 a ∧ K.At wr gp 31 #[.int .u64 ph, .int .i64 x.id] ∧ wr.ownsRow w.heap.size 31 2 (.slice A1 (q + j) d1) (q + j) (S.flatMap Pt.cs) ∧ K.H (∀ z ∈ S.drop a, z.beh ⟨ph, x.id⟩ = true) ∧ K.H (Below w.heap.size w wr)) (fun v _ => (intOf v).toNat)
                case atStart => exact ⟨q + j, by omega, rfl, hG, hown2, ⟨by rw [List.drop_eq_nil_of_le (by omega)]; simp⟩, Hb2⟩
                case round =>
                  clear hG hown2 Hb2
                  obtain ⟨a, ha, rfl, hG, hown, HD, Hb⟩ := hrel
                  have hgl := hG.lt
                  have hsz := Hb.out.size
                  obtain ⟨hc3, hf3, hl3⟩ := K.At.facts hG
                  obtain ⟨go, hgo⟩ : ∃ go, go = (decide (0 < a) && (S.getD (a - 1) ⟨0, 0⟩).beh ⟨ph, x.id⟩) := ⟨_, rfl⟩
                  have HG := K.H.mk hgo
                  go_upto_region 22 with fail
                  go_cut [88] from 78 to 90 (fun c wx => c = .bool go ∧ K.At wx gp 31 #[.int .u64 ph, .int .i64 x.id] ∧ wx.ownsRow w.heap.size 31 2 (.slice A1 (q + j) d1) (q + j) (S.flatMap Pt.cs) ∧ Below w.heap.size w wx)
                  case first =>
                    clear hgo
                    by_cases h0 : a = 0
                    · subst h0
                      have hg2 : go = false := by rw [HG.out]; simp
                      subst hg2
                      refine K.wp_region_ext_lit (by kernel_rfl) (by kernel_rfl) ?_
                      repeat (any_goals (first | go_big_quiet_skip | quiet_step (fail) | (refine wpQuiet_step (fun K hK => ?_); go_simp; split <;> (refine hK _ ?_; clear hK K))))
                      all_goals (refine wpQuiet_nil ?_; intro W9 hW9; obtain ⟨hB9, hC9, hF9, hZ9⟩ := K.ext_facts hW9; clear hW9)
                      go_wp2_with fail
                      go_meet
                      exact ⟨rfl, K.At.over hB9 hG, Sl.own_over hown hB9, (by repeat (first | (with_reducible exact Below.refl _ _) | (with_reducible exact Hb.out) | (with_reducible refine K.b_bel ?_ (by assumption)) | (with_reducible refine K.b_alloc ?_ _) | (with_reducible refine K.b_drewN ?_ _) | (with_reducible refine K.b_drew ?_) | (with_reducible refine K.b_set ?_ (by first | omega | (simp <;> omega)) _) | (with_reducible refine K.b_only ?_ (by assumption) (by first | omega | (simp <;> omega)))))⟩
                    · obtain ⟨z, hz⟩ : ∃ z, S[a - 1]? = some z := ⟨_, List.getElem?_eq_getElem (by omega)⟩
                      have hg2 : go = z.beh ⟨ph, x.id⟩ := by rw [HG.out, List.getD_eq_getElem?_getD, hz]; simp; omega
                      have GH := K.H.mk (fun (W : World) => behind_c z ⟨ph, x.id⟩ W)
                      rw [← hg2] at GH
                      clear hg2 HG
                      obtain ⟨g1, cap1, he, hgb1, hgl1⟩ := own_form hown (by omega)
                      cases he
                      have hc_0 : wr.cell? ⟨g1, (a - 1) * 2, none⟩ = some (.int .u64 z.h) := by
                        rw [hown.cellAt _ (by omega)]; have := Sl.flat_get Pt.cs_len S (a - 1) 0 z hz (by omega); simpa [Pt.cs] using this
                      have hc_1 : wr.cell? ⟨g1, (a - 1) * 2 + 1, none⟩ = some (.int .i64 z.i) := by
                        rw [hown.cellAt _ (by omega)]; have := Sl.flat_get Pt.cs_len S (a - 1) 1 z hz (by omega); simpa [Pt.cs] using this
                      have hf_0 := hown.frozenAt ((a - 1) * 2)
                      have hf_1 := hown.frozenAt ((a - 1) * 2 + 1)
                      have d0 : decide ((0 : Int) < (a : Int)) = true := decide_eq_true (by omega)
                      have d0n : decide (0 < a) = true := decide_eq_true (by omega)
                      have hw1 : IntKind.i64.wrap ((a : Int) - 1) = ((a - 1 : Nat) : Int) := by rw [K.i64_in (by omega) (by omega)]; omega
                      have hi1 : ((a - 1 : Nat) : Int) < ((q + j : Nat) : Int) := by omega
                      have hi2 : ((a - 1 : Nat) : Int) < (q : Int) + (j : Int) := by omega
                      have hi0 : (0 : Int) ≤ ((a - 1 : Nat) : Int) := by omega
                      clear hz
                      refine K.wp_region_ext_lit (by kernel_rfl) (by kernel_rfl) ?_
                      repeat (any_goals (first | go_big_quiet_skip | quiet_step ((go_at_call 33; first | (with_reducible exact K.q_below (GH.out _)))) | (refine wpQuiet_step (fun K hK => ?_); go_simp; split <;> (refine hK _ ?_; clear hK K))))
                      all_goals (refine wpQuiet_nil ?_; intro W9 hW9; obtain ⟨hB9, hC9, hF9, hZ9⟩ := K.ext_facts hW9; clear hW9)
                      go_wp2_with fail
                      go_meet
                      exact ⟨rfl, K.At.over hB9 hG, Sl.own_over hown hB9, (by repeat (first | (with_reducible exact Below.refl _ _) | (with_reducible exact Hb.out) | (with_reducible refine K.b_bel ?_ (by assumption)) | (with_reducible refine K.b_alloc ?_ _) | (with_reducible refine K.b_drewN ?_ _) | (with_reducible refine K.b_drew ?_) | (with_reducible refine K.b_set ?_ (by first | omega | (simp <;> omega)) _) | (with_reducible refine K.b_only ?_ (by assumption) (by first | omega | (simp <;> omega)))))⟩
                  case rest =>
                  obtain ⟨rfl, hG2, hown2, hb2⟩ := hcut
                  have Hb2 := K.H.mk hb2
                  clear hG hown Hb hgl hc3 hf3 hl3 hb2 hgo
                  cases go
                  · have hsz2 := Hb2.out.size
                    have HN := K.H.mk (show sortP (X ++ rowOf x (j + 1)) = mid S a ⟨ph, x.id⟩ by
                      rw [HRW.out]
                      refine mid_sort HS.out ?_ (by omega) (fun z hz => ?_)
                      · by_cases h0 : a = 0
                        · exact .inl h0
                        · obtain ⟨z, hz⟩ : ∃ z, S[a - 1]? = some z := ⟨_, List.getElem?_eq_getElem (by omega)⟩
                          have h1 := HG.out
                          rw [List.getD_eq_getElem?_getD, hz, decide_eq_true (by omega : 0 < a), beh_le] at h1
                          exact .inr ⟨z, hz, by simpa using h1⟩
                      · have h1 := HD.out z hz
                        have h2 := le_total z ⟨ph, x.id⟩
                        rw [beh_le] at h1
                        cases h3 : Pt.le z ⟨ph, x.id⟩
                        · rw [h3] at h2; simpa using h2
                        · rw [h3] at h1; cases h1)
                    clear HG HD HS HRW
                    obtain ⟨hc3, hf3, hl3⟩ := K.At.facts hG2
                    have hgl := hG2.lt
                    obtain ⟨B, hBw, hBl, hBg, hown2⟩ : ∃ B, w.heap.size ≤ B ∧ B ≤ wc.heap.size ∧ (q + j = 0 → gp < B) ∧ wc.ownsRow B 31 2 (.slice A1 (q + j) d1) (q + j) (S.flatMap Pt.cs) := by
                      by_cases h0 : q + j = 0
                      · have h1 := HA.out h0
                        refine ⟨wc.heap.size, hsz2, Nat.le_refl _, fun _ => hgl, ?_⟩
                        rw [h1, List.eq_nil_of_length_eq_zero (hSl.trans h0), h0]
                        exact World.ownsRow_nil _ _ _ _
                      · exact ⟨w.heap.size, Nat.le_refl _, hsz2, fun h => absurd h h0, hown2⟩
                    have HBG := K.H.mk hBg
                    clear hBg
                    go_upto_region 25 with (first | (at_builtin; refine Sl.app1 (news := [.int .u64 ph, .int .i64 x.id]) rfl _ _ 24 31 (.agg #[.int .u64 0, .int .i64 0]) rfl Try.underlying24 (by kernel_rfl : (Try.prog.info? 31).map (fun i => (i.zero, i.size, i.bytes)) = some (some (.agg #[.int .u64 0, .int .i64 0]), 2, 16)) rfl (by decide) (by decide) rfl ((hown2).alloc _) rfl rfl (Sl.new_cells _ _ _ _ (by first | rfl | simp)) (by simp [Value.oneCell']) (by omega) (by simp; omega) ?_; intro v8 W8 hown8 hgr8))
                    have hb8 : Below w.heap.size w W8 := Sl.below_grown (K.b_alloc Hb2.out _) hgr8 (fun k hk => Nat.le_trans hBw (Sl.own_base hown2 k hk))
                    have Hb8 := K.H.mk hb8
                    have hG8 := Sl.at_grown (K.At.alloc hG2 _) hgr8 HNG.out
                    obtain ⟨g8, cap8, he8, hgb8, hgl8⟩ := own_form hown8 (by omega)
                    subst he8
                    have hl8 : S.flatMap Pt.cs ++ [.int .u64 ph, .int .i64 x.id] = (mid S (q + j) ⟨ph, x.id⟩).flatMap Pt.cs := by
                      rw [← hSl, mid_end]; simp [List.flatMap_append, Pt.cs]
                    rw [hl8] at hown8
                    have hne8 : gp ≠ g8 := by
                      rintro rfl
                      by_cases h0 : q + j = 0
                      · have := HBG.out h0; omega
                      · rcases hown8.2 with ⟨h1, _⟩ | ⟨g, cap, cur, h1, h2, h3, h4, h5, h6, h7⟩
                        · cases h1
                        · cases h1
                          have h8 := h3.symm.trans hG8.out
                          cases h8
                          simp at h6; omega
                    have hown8 := Sl.own_low hown8 hBw
                    clear hl8 hb8 hgr8 hown2 hG2 hc3 hf3 hl3 hgl hsz2 Hb2 HNG
                    go_wp2
                    go_loopw [14] (fun v wr => ∃ (b : Nat) (z : Pt), a ≤ b ∧ b ≤ q + j ∧ v = .int .i64 b ∧ K.At wr gp 31 #[.int .u64 ph, .int .i64 x.id] ∧ wr.ownsRow w.heap.size 31 2 (.slice (some ⟨g8, 0, none⟩) (q + j + 1) cap8) (q + j + 1) ((mid S b z).flatMap Pt.cs) ∧ K.H (Below w.heap.size w wr)) (fun v _ => (intOf v).toNat)
                    case atStart => exact ⟨q + j, ⟨ph, x.id⟩, by omega, by omega, by go_num, hG8, hown8, Hb8⟩
                    case round =>
                      clear hG8 hown8 Hb8 hgl8
                      obtain ⟨b, z, hab, hbq, rfl, hG, hown, Hb⟩ := hrel
                      have hgl := hG.lt
                      have hsz := Hb.out.size
                      by_cases hlt2 : a < b
                      · obtain ⟨u, hu⟩ : ∃ u, S[b - 1]? = some u := ⟨_, List.getElem?_eq_getElem (by omega)⟩
                        have hu2 : (mid S b z)[b - 1]? = some u := by rw [mid_get (by omega) (by omega)]; exact hu
                        have hc_0 : wr.cell? ⟨g8, (b - 1) * 2, none⟩ = some (.int .u64 u.h) := by
                          rw [hown.cellAt _ (by omega)]; have := Sl.flat_get Pt.cs_len _ (b - 1) 0 u hu2 (by omega); simpa [Pt.cs] using this
                        have hc_1 : wr.cell? ⟨g8, (b - 1) * 2 + 1, none⟩ = some (.int .i64 u.i) := by
                          rw [hown.cellAt _ (by omega)]; have := Sl.flat_get Pt.cs_len _ (b - 1) 1 u hu2 (by omega); simpa [Pt.cs] using this
                        have hf_0 := hown.frozenAt ((b - 1) * 2)
                        have hf_1 := hown.frozenAt ((b - 1) * 2 + 1)
                        have hw1 : IntKind.i64.wrap ((b : Int) - 1) = ((b - 1 : Nat) : Int) := by rw [K.i64_in (by omega) (by omega)]; omega
                        have hi1 : ((b - 1 : Nat) : Int) < ((q + j + 1 : Nat) : Int) := by omega
                        have hi2 : ((b - 1 : Nat) : Int) < (q : Int) + (j : Int) + 1 := by omega
                        have hi0 : (0 : Int) ≤ ((b - 1 : Nat) : Int) := by omega
                        have hi3 : (b : Int) < (q : Int) + (j : Int) + 1 := by omega
                        have hi4 : (0 : Int) ≤ (b : Int) := by omega
                        have hst : (mid S b z).set b u = mid S (b - 1) u := by
                          obtain ⟨p, rfl⟩ : ∃ p, b = p + 1 := ⟨b - 1, by omega⟩
                          exact mid_step hu z
                        have Hst := K.H.mk hst
                        clear hu hu2 hst
                        go_wp2_with (first | (with_reducible refine st_own u b hown (by omega) ?hx ?hy ?hi ?h; (case hx => kernel_rfl); (case hy => kernel_rfl); (case hi => kernel_rfl); intro W6 hown6 hO6))
                        rw [Hst.out] at hown6
                        go_roundw
                        case rel => exact ⟨b - 1, u, by omega, by omega, by go_num, K.At.past hO6 hne8 hG, hown6, ⟨Hb.out.grown hO6.out Hb.out.size (fun j e => by cases e; omega)⟩⟩
                        case measure => simp [intOf]; omega
                      · obtain rfl : b = a := by omega
                        obtain ⟨hc4, hf4, hl4⟩ := K.At.facts hG
                        have hi3 : (b : Int) < (q : Int) + (j : Int) + 1 := by omega
                        have hi4 : (0 : Int) ≤ (b : Int) := by omega
                        have hst : (mid S b z).set b ⟨ph, x.id⟩ = mid S b ⟨ph, x.id⟩ := mid_set (by omega) _ _
                        have Hst := K.H.mk hst
                        clear hst
                        go_wp2_with (first | (with_reducible refine st_own ⟨ph, x.id⟩ b hown (by omega) ?hx ?hy ?hi ?h; (case hx => kernel_rfl); (case hy => kernel_rfl); (case hi => kernel_rfl); intro W6 hown6 hO6))
                        rw [Hst.out, ← HN.out] at hown6
                        go_roundw
                        case rel => exact ⟨j + 1, by omega, by go_num, hown6, ⟨fun h => by omega⟩, ⟨Hb.out.grown hO6.out Hb.out.size (fun j e => by cases e; omega)⟩⟩
                        case measure => simp [intOf]; omega
                  · have h0 : 0 < a := by
                      have h1 := HG.out
                      by_cases h0 : 0 < a
                      · exact h0
                      · rw [decide_eq_false h0] at h1; cases h1
                    have HDn := K.H.mk (show ∀ z ∈ S.drop (a - 1), z.beh ⟨ph, x.id⟩ = true by
                      intro z hz
                      have hlt3 : a - 1 < S.length := by omega
                      rw [List.drop_eq_getElem_cons hlt3, show a - 1 + 1 = a by omega] at hz
                      rcases List.mem_cons.1 hz with rfl | hz
                      · have h1 := HG.out
                        rw [List.getD_eq_getElem?_getD, List.getElem?_eq_getElem hlt3, decide_eq_true h0] at h1
                        simpa using h1.symm
                      · exact HD.out z hz)
                    clear HD HG
                    have hw1 : IntKind.i64.wrap ((a : Int) - 1) = ((a - 1 : Nat) : Int) := by rw [K.i64_in (by omega) (by omega)]; omega
                    have HP := K.H.mk h0
                    clear h0
                    go_wp2
                    go_roundw
                    case rel => exact ⟨a - 1, by omega, rfl, hG2, hown2, HDn, Hb2⟩
                    case measure => have := HP.out; simp [intOf]; omega
              · obtain rfl : j = N := by omega
                obtain ⟨A1, d1, rfl, hnc, hcm, hR1⟩ := Sl.Rds.of_own2 hown
                clear hnc hcm hR1
                go_wp2
                go_roundw
                case rel => exact ⟨k + 1, q + j, by omega, ⟨by rw [HT.out, List.length_append, rowOf_len, ← HM.out]⟩, by omega, by go_num, by rw [HT.out]; exact hown, HV, Hb⟩
                case measure => simp [intOf]; omega
          · obtain rfl : k = l.length := by omega
            have hq : q = LL.length := by rw [HM.out, List.take_length, hL2.out, sortP_len]
            rw [List.take_length, ← hL2.out] at hown
            subst hq
            obtain ⟨A2, d2, rfl, hnc, hcm, hR2⟩ := Sl.Rds.of_own2 hown
            clear hnc hcm hR2
            go_wp2
            go_ret2
            exact ⟨_, rfl, hown, Hb.out⟩
end Go.Proofs.Ytkalbiihehcjkaa.Rg
