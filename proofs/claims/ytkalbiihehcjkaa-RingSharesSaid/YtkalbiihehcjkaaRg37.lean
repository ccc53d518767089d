/- Ring: the walk of RingShares. -/
import Derived.Test.YtkalbiihehcjkaaRg36
import Derived.Test.YtkalbiihehcjkaaRg34
import Derived.Test.YtkalbiihehcjkaaRgH
import Derived.Test.YtkalbiihehcjkaaSame
set_option linter.unusedVariables false
namespace Go.Proofs.Ytkalbiihehcjkaa.Rg
open Go.RowKit Go.Shelf Go.Proofs.Ytkalbiihehcjkaa
set_option linter.unusedSimpArgs false
theorem shares_ids {p : Int} {l : List Bk} (h : eBuild p l = 0) (hl : 0 < l.length) (hh : Int) : sortI (oWalk (oBuild p l) hh) = l.map Bk.id := by
  have hp := ris_pair (eChk_fine (eBuild_0 h).1).2.2
  have h1 : (l.map Bk.id).Nodup := by
    unfold List.Nodup; rw [List.pairwise_map]; exact hp.imp fun h => by omega
  refine sortI_eq ?_ ?_
  · refine ((List.perm_ext_iff_of_nodup (walk_nodup _ _) h1).2 fun a => ?_).symm
    rw [walk_mem (build_pos h hl), mem_build h, List.mem_map]
  · rw [List.pairwise_map]; exact hp.imp fun h => by omega
/-- The counts, behind the first i places. -/
def stepTo (P : List Int) (bi i : Nat) : List Int := if bi < i then bump P bi else P
set_option maxRecDepth 100000 in
set_option maxHeartbeats 16000000 in
theorem SharesL_c (p : Int) (l : List Bk) (keys : Int) (A : Option Addr) (n c : Nat) (w : World) (hr : Sl.Rds w 2 A n (l.flatMap Bk.cs)) :
    Calls Try.prog 8 #[.int .i64 p, .slice A n c, .int .i64 keys] w fun e w' => e = .returned (.bool true) ∧ Below w.heap.size w w' := by
  obtain rfl := hr.length Bk.cs_len (by omega)
  have hle := hr.le
  have GL := K.H.mk (fun (W : World) => alive_c W)
  have GB := K.H.mk (fun (W : World) (hb : Below w.heap.size w W) => Build_c l p A l.length c W (hr.below hb))
  have Hr := K.H.mk hr
  obtain ⟨C, hC, e53, r1, r2⟩ := at_norm keys 200 (by omega)
  rw [show ((200 : Nat) : Int) = 200 from rfl] at e53 r1 r2
  generalize hrr : keys.tmod 200 = r at *
  have hw1 : IntKind.i64.wrap (r + 200) = r + 200 := K.i64_in (by omega) (by omega)
  by_cases he : eBuild p l = 0
  · by_cases hl0 : l.length = 0
    · have hld : ((l.length : Int) == 0) = true := by simp [hl0]
      rw [he] at GB
      generalize oBuild p l = R at *
      have Hl0 := K.H.mk hl0
      clear hr he hl0
      go_enter Try.func8, Try.ntmps8
      go_wp2_with (first
        | (go_at_call 9; (with_reducible refine (GL.out _).mono ?_); rintro e W1 ⟨rfl, hb1⟩; obtain ⟨hB1, hC1, hF1, hZ1⟩ := K.bel_facts hb1; clear hb1)
        | (go_at_call 10; (with_reducible refine (GB.out _ (by repeat (first | (with_reducible exact Below.refl _ _) | (with_reducible refine K.b_bel ?_ (by assumption)) | (with_reducible refine K.b_alloc ?_ _) | (with_reducible refine K.b_drewN ?_ _) | (with_reducible refine K.b_drew ?_) | (with_reducible refine K.b_set ?_ (by first | omega | (simp <;> omega)) _) | (with_reducible refine K.b_only ?_ (by assumption) (by first | omega | (simp <;> omega)))))).mono ?_); rintro e W3 ⟨v3, rfl, hown3, hb3⟩; obtain ⟨hB3, hC3, hF3, hZ3⟩ := K.bel_facts hb3; clear hb3; obtain ⟨B3, d3, rfl, hR3⟩ := Sl.Rds.of_own hown3; clear hown3)
        | (go_at_call 11; (with_reducible refine (num_c _ _).mono ?_); rintro e w' ⟨rfl, hw'⟩; have hw'2 := Eq.symm hw'; clear hw'; subst hw'2))
      go_ret
      exact ⟨rfl, (by repeat (first | (with_reducible exact Below.refl _ _) | (with_reducible refine K.b_bel ?_ (by assumption)) | (with_reducible refine K.b_alloc ?_ _) | (with_reducible refine K.b_drewN ?_ _) | (with_reducible refine K.b_drew ?_) | (with_reducible refine K.b_set ?_ (by first | omega | (simp <;> omega)) _) | (with_reducible refine K.b_only ?_ (by assumption) (by first | omega | (simp <;> omega)))))⟩
    · have hld : ((l.length : Int) == 0) = false := beq_eq_false_iff_ne.2 (by omega)
      have hask := build_pos he (by omega)
      have hl32 : l.length ≤ 32 := (eChk_fine (eBuild_0 he).1).1
      have hids := shares_ids he (show 0 < l.length by omega) 0
      have HWF := K.H.mk (build_wf he)
      have Hin := K.H.mk (fun k => hids ▸ key_in hask k)
      have hes : eShares (oBuild p l) C = 0 := by unfold eShares; rw [if_pos hask, if_neg (by omega)]
      have hsl : (oShares (oBuild p l) C) = cntK (keyAt (oBuild p l)) (l.map Bk.id) C := by
        unfold oShares; rw [if_pos hes, hids]; rfl
      have HLK := K.H.mk (fun (k : Nat) => show oLook (oBuild p l) (hashK k) = keyAt (oBuild p l) k by unfold oLook keyAt; rw [if_pos hask])
      have Hlt := K.H.mk (show (l.map Bk.id).Pairwise (· < ·) by rw [List.pairwise_map]; exact ris_pair (eChk_fine (eBuild_0 he).1).2.2)
      rw [he] at GB
      generalize oBuild p l = R at *
      have GSh := K.H.mk (fun (A : Option Addr) (c : Nat) (W : World) (hr : Sl.Rds W 2 A R.length (R.flatMap Pt.cs)) => show Calls Try.prog 20 #[.slice A R.length c, .int .i64 C] W (IPost W (cntK (keyAt R) (l.map Bk.id) C) 0) by
        have := Shares_c R C A R.length c W hr HWF.out
        rw [hsl, hes] at this; exact this)
      have GK := K.H.mk (fun (k : Nat) (A : Option Addr) (c : Nat) (W : World) (hr : Sl.Rds W 2 A R.length (R.flatMap Pt.cs)) => show Calls Try.prog 15 #[.slice A R.length c, .int .u64 (hashK k : Nat)] W fun e w' => e = .returned (.tuple #[.int .i64 (keyAt R k), .int .i64 0]) ∧ Below W.heap.size W w' by
        have := Lookup_c R (hashK k) A R.length c W hr
        rw [hask, HLK.out k] at this; exact this)
      have GI := K.H.mk (fun (k : Nat) (g : Nat) (W : World) (hW : K.At W g 3 #[.int .i64 k]) => show Calls Try.prog 26 #[.int .u64 2, .slice (some ⟨g, 0, none⟩) 1 1] W fun e w' => e = .returned (.int .u64 (hashK k : Nat)) ∧ w' = W from Sb.rInts_c 2 [(k : Int)] _ 1 1 W (rds_one W g _ hW) (by omega))
      have hcl := cntK_len (keyAt R) (l.map Bk.id) C
      rw [List.length_map] at hcl
      have hcq : (((cntK (keyAt R) (l.map Bk.id) C).length : Int) != (l.length : Int)) = false := by simp [hcl]
      have hmk := make_i l.length (by omega)
      obtain ⟨ids, hidse⟩ : ∃ ids, ids = l.map Bk.id := ⟨_, rfl⟩
      have hidl : ids.length = l.length := by rw [hidse, List.length_map]
      rw [← hidse] at GSh hcl hcq Hin Hlt
      have HI := K.H.mk hidse
      have Hhcl := K.H.mk hcl
      clear hr he hids hsl hes hask HLK hidse hcl
      go_enter Try.func8, Try.ntmps8
      go_wp2_with (first
        | (go_at_call 9; (with_reducible refine (GL.out _).mono ?_); rintro e W1 ⟨rfl, hb1⟩; obtain ⟨hB1, hC1, hF1, hZ1⟩ := K.bel_facts hb1; clear hb1)
        | (go_at_call 10; (with_reducible refine (GB.out _ (by repeat (first | (with_reducible exact Below.refl _ _) | (with_reducible refine K.b_bel ?_ (by assumption)) | (with_reducible refine K.b_alloc ?_ _) | (with_reducible refine K.b_drewN ?_ _) | (with_reducible refine K.b_drew ?_) | (with_reducible refine K.b_set ?_ (by first | omega | (simp <;> omega)) _) | (with_reducible refine K.b_only ?_ (by assumption) (by first | omega | (simp <;> omega)))))).mono ?_); rintro e W3 ⟨v3, rfl, hown3, hb3⟩; obtain ⟨hB3, hC3, hF3, hZ3⟩ := K.bel_facts hb3; clear hb3; obtain ⟨B3, d3, rfl, hR3⟩ := Sl.Rds.of_own hown3)
        | (go_at_call 20; (with_reducible refine (GSh.out _ _ _ hR3).mono ?_); rintro e W5 ⟨v5, rfl, hown5, hb5⟩; obtain ⟨hB5, hC5, hF5, hZ5⟩ := K.bel_facts hb5; clear hb5; obtain ⟨B5, d5, rfl, hR5⟩ := Sl.Rds.of_own hown5)
        | (go_at_call 11; (with_reducible refine (num_c _ _).mono ?_); rintro e w' ⟨rfl, hw'⟩; have hw'2 := Eq.symm hw'; clear hw'; subst hw'2))
      have hb5 : Below w.heap.size w W5 := (by repeat (first | (with_reducible exact Below.refl _ _) | (with_reducible refine K.b_bel ?_ (by assumption)) | (with_reducible refine K.b_alloc ?_ _) | (with_reducible refine K.b_drewN ?_ _) | (with_reducible refine K.b_drew ?_) | (with_reducible refine K.b_set ?_ (by first | omega | (simp <;> omega)) _) | (with_reducible refine K.b_only ?_ (by assumption) (by first | omega | (simp <;> omega)))))
      have hz5 := hb5.size
      have hR35 := hR3.below hB5.out
      have hw3 := hB1.out.size
      have o1 := own_made W5 l.length w.heap.size (by omega) hz5
      have Hb6 := K.H.mk (show Below w.heap.size w (W5.alloc (.cells (madeCells #[.int .i64 0] l.length) 3)) from K.b_alloc hb5 _)
      have HR3 := K.H.mk (show Sl.Rds (W5.alloc (.cells (madeCells #[.int .i64 0] l.length) 3)) 2 B3 R.length (R.flatMap Pt.cs) from hR35.below (K.b_alloc (Below.refl _ _) _))
      rw [← flat_iv] at hR5
      have HR5 := K.H.mk (show Sl.Rds (W5.alloc (.cells (madeCells #[.int .i64 0] l.length) 3)) 1 B5 (cntK (keyAt R) ids C).length ((cntK (keyAt R) ids C).flatMap fun n => [.int .i64 n]) from hR5.below (K.b_alloc (Below.refl _ _) _))
      obtain ⟨gO, hgO⟩ : ∃ g, g = W5.heap.size := ⟨_, rfl⟩
      have Hn3 := K.H.mk (show ∀ b off, B3 = some ⟨b, off, none⟩ → b ≠ gO from fun b off e => by
        have h1 := (hown3.lt b (by rw [e]; rfl)).2
        have h2 := hB5.out.size
        omega)
      have Hn5 := K.H.mk (show ∀ b off, B5 = some ⟨b, off, none⟩ → b ≠ gO from fun b off e => by
        have h1 := (hown5.lt b (by rw [e]; rfl)).2
        omega)
      have hgw : w.heap.size ≤ gO := by omega
      have o2 : (W5.alloc (.cells (madeCells #[.int .i64 0] l.length) 3)).ownsRow w.heap.size 3 1 (.slice (some ⟨gO, 0, none⟩) l.length l.length) l.length ((cntK (keyAt R) ids 0).map iv) := by
        rw [hgO]; unfold cntK; rw [hidl]; exact o1
      rw [← hgO]
      clear hb5 hz5 hR3 hR35 hR5 hown3 hown5 o1 hmk hgO GSh GL GB hw1 hrr hld hcq
      ((try clear hC5); (try clear hF5); (try clear hZ5); (try clear hc5); (try clear hf5); (try clear hl5); (try clear hB5); (try clear hO5); (try clear hA5); (try clear hz5_0); (try clear hz5_1); (try clear hz5_2); (try clear hz5_3); (try clear hz5_1_0); (try clear hz5_1_1); (try clear hz5_2_0); (try clear hz5_2_1); (try clear hz5_3_0); (try clear hz5_3_1); (try clear hz5_4_0); (try clear hz5_4_1); (try clear hC4); (try clear hF4); (try clear hZ4); (try clear hc4); (try clear hf4); (try clear hl4); (try clear hB4); (try clear hO4); (try clear hA4); (try clear hz4_0); (try clear hz4_1); (try clear hz4_2); (try clear hz4_3); (try clear hz4_1_0); (try clear hz4_1_1); (try clear hz4_2_0); (try clear hz4_2_1); (try clear hz4_3_0); (try clear hz4_3_1); (try clear hC3); (try clear hF3); (try clear hZ3); (try clear hc3); (try clear hf3); (try clear hl3); (try clear hB3); (try clear hO3); (try clear hA3); (try clear hz3_0); (try clear hz3_1); (try clear hz3_2); (try clear hz3_3); (try clear hz3_1_0); (try clear hz3_1_1); (try clear hz3_2_0); (try clear hz3_2_1); (try clear hC2); (try clear hF2); (try clear hZ2); (try clear hc2); (try clear hf2); (try clear hl2); (try clear hB2); (try clear hO2); (try clear hA2); (try clear hz2_0); (try clear hz2_1); (try clear hz2_2); (try clear hz2_3); (try clear hz2_1_0); (try clear hz2_1_1); (try clear hC1); (try clear hF1); (try clear hZ1); (try clear hc1); (try clear hf1); (try clear hl1); (try clear hB1); (try clear hO1); (try clear hA1); (try clear hz1_0); (try clear hz1_1); (try clear hz1_2); (try clear hz1_3))
      generalize (W5.alloc (.cells (madeCells #[.int .i64 0] l.length) 3)) = W6 at *
      go_loopw [12] (fun i wr => ∃ k : Nat, k ≤ C ∧ i = .int .i64 k ∧ wr.ownsRow w.heap.size 3 1 (.slice (some ⟨gO, 0, none⟩) l.length l.length) l.length ((cntK (keyAt R) ids k).map iv) ∧ K.H (Sl.Rds wr 2 B3 R.length (R.flatMap Pt.cs) ∧ Sl.Rds wr 1 B5 (cntK (keyAt R) ids C).length ((cntK (keyAt R) ids C).flatMap fun n => [.int .i64 n])) ∧ K.H (Below w.heap.size w wr)) (fun i _ => C - (intOf i).toNat)
      case atStart => exact ⟨0, by omega, rfl, o2, ⟨HR3.out, HR5.out⟩, Hb6⟩
      case round =>
        clear o2 HR3 HR5 Hb6
        obtain ⟨k, hk, rfl, hown, HR, Hb⟩ := hrel
        by_cases hlt : k < C
        · have hkc : (k : Int) < C := by omega
          have hsz := Hb.out.size
          have hyi := Hin.out k
          have GIk := K.H.mk (fun (g : Nat) (W : World) (hW : K.At W g 3 #[.int .i64 k]) => GI.out k g W hW)
          have GKk := K.H.mk (fun (W : World) (hr : Sl.Rds W 2 B3 R.length (R.flatMap Pt.cs)) => GK.out k B3 d3 W hr)
          have Hst := K.H.mk (show cntK (keyAt R) ids (k + 1) = bump (cntK (keyAt R) ids k) (below1 ids (keyAt R k)) from rfl)
          have hbi := below1_lt hyi
          have Hat := K.H.mk (below1_at Hlt.out hyi)
          have hPb := fun i => cntK_in (keyAt R) ids k i
          have hPl := cntK_len (keyAt R) ids k
          generalize keyAt R k = y at *
          generalize hashK k = hh at *
          generalize below1 ids y = bi at *
          have HPB := K.H.mk hPb
          clear hPb hyi
          generalize hPe : cntK (keyAt R) ids k = P at *
          clear hPe
          go_wp2_with (first
            | (go_at_call 26; (with_reducible refine (GIk.out _ _ ?r1).mono ?_); (case r1 => exact (by refine K.At.cast (by repeat (first | (with_reducible refine K.At.new' _ _ _ _ (by first | rfl | (simp; done) | omega)) | (with_reducible apply K.At.set) | (with_reducible apply K.At.alloc) | (with_reducible apply K.At.drewN) | (with_reducible apply K.At.drew) | (with_reducible apply K.At.far) | omega | (simp <;> omega))) ?_; rfl)); rintro e w' ⟨rfl, hw'⟩; have hw'2 := Eq.symm hw'; clear hw'; subst hw'2)
            | (go_at_call 15; (with_reducible refine (GKk.out _ ?r1).mono ?_); (case r1 => exact HR.out.1.below (by repeat (first | (with_reducible exact Below.refl _ _) | (with_reducible refine K.b_bel ?_ (by assumption)) | (with_reducible refine K.b_alloc ?_ _) | (with_reducible refine K.b_drewN ?_ _) | (with_reducible refine K.b_drew ?_) | (with_reducible refine K.b_set ?_ (by first | omega | (simp <;> omega)) _) | (with_reducible refine K.b_only ?_ (by assumption) (by first | omega | (simp <;> omega)))))); rintro e W7 ⟨rfl, hb7⟩; obtain ⟨hB7, hC7, hF7, hZ7⟩ := K.bel_facts hb7; clear hb7))
          have own7 : W7.ownsRow w.heap.size 3 1 (.slice (some ⟨gO, 0, none⟩) l.length l.length) l.length ((stepTo P bi 0).map iv) := by
            rw [show stepTo P bi 0 = P by unfold stepTo; rw [if_neg (by omega)]]
            exact (by repeat (first | (with_reducible exact hown) | (with_reducible refine Sl.own_over ?_ hB7) | (with_reducible refine World.ownsRow.alloc ?_ _)))
          have hb7 : Below wr.heap.size wr W7 := (by repeat (first | (with_reducible exact Below.refl _ _) | (with_reducible refine K.b_bel ?_ (by assumption)) | (with_reducible refine K.b_alloc ?_ _) | (with_reducible refine K.b_drewN ?_ _) | (with_reducible refine K.b_drew ?_) | (with_reducible refine K.b_set ?_ (by first | omega | (simp <;> omega)) _) | (with_reducible refine K.b_only ?_ (by assumption) (by first | omega | (simp <;> omega)))))
          have HR7 : K.H (Sl.Rds W7 2 B3 R.length (R.flatMap Pt.cs) ∧ Sl.Rds W7 1 B5 (cntK (keyAt R) ids C).length ((cntK (keyAt R) ids C).flatMap fun n => [.int .i64 n])) := ⟨HR.out.1.below hb7, HR.out.2.below hb7⟩
          have HB7 : K.H (Below w.heap.size w W7) := ⟨(by repeat (first | (with_reducible exact Below.refl _ _) | (with_reducible exact Hb.out) | (with_reducible refine K.b_bel ?_ (by assumption)) | (with_reducible refine K.b_alloc ?_ _) | (with_reducible refine K.b_drewN ?_ _) | (with_reducible refine K.b_drew ?_) | (with_reducible refine K.b_set ?_ (by first | omega | (simp <;> omega)) _) | (with_reducible refine K.b_only ?_ (by assumption) (by first | omega | (simp <;> omega)))))⟩
          clear hown HR Hb hb7 GIk GKk
          ((try clear hC7); (try clear hF7); (try clear hZ7); (try clear hc7); (try clear hf7); (try clear hl7); (try clear hB7); (try clear hO7); (try clear hA7); (try clear hz7_0); (try clear hz7_1); (try clear hz7_2); (try clear hz7_3); (try clear hz7_1_0); (try clear hz7_1_1); (try clear hz7_2_0); (try clear hz7_2_1); (try clear hz7_3_0); (try clear hz7_3_1); (try clear hz7_4_0); (try clear hz7_4_1); (try clear hz7_5_0); (try clear hz7_5_1); (try clear hz7_6_0); (try clear hz7_6_1))
          go_loopw [15] (fun i wr => ∃ j : Nat, j ≤ l.length ∧ i = .int .i64 j ∧ wr.ownsRow w.heap.size 3 1 (.slice (some ⟨gO, 0, none⟩) l.length l.length) l.length ((stepTo P bi j).map iv) ∧ K.H (Sl.Rds wr 2 B3 R.length (R.flatMap Pt.cs) ∧ Sl.Rds wr 1 B5 (cntK (keyAt R) ids C).length ((cntK (keyAt R) ids C).flatMap fun n => [.int .i64 n])) ∧ K.H (Below w.heap.size w wr)) (fun i _ => l.length - (intOf i).toNat)
          case atStart => exact ⟨0, by omega, rfl, own7, HR7, HB7⟩
          case round =>
            clear own7 HR7 HB7
            obtain ⟨j, hj, rfl, hown, HR, Hb⟩ := hrel
            by_cases hlt2 : j < l.length
            · obtain ⟨x, hx⟩ : ∃ x, l[j]? = some x := ⟨_, List.getElem?_eq_getElem hlt2⟩
              have hxi : ids[j]? = some x.id := by rw [HI.out, List.getElem?_map, hx]; rfl
              obtain ⟨b, off, rfl, hbl, hbc⟩ := Sl.Rds.elem Hr.out Bk.cs_len (by omega) hx
              have q_0 : wr.cell? ⟨b, off + j * 2, none⟩ = some (.int .i64 x.id) := (Hb.out.cell (p := ⟨b, off + j * 2 + 0, none⟩) hbl).trans (hbc 0 (by omega))
              have q_1 : wr.cell? ⟨b, off + j * 2 + 1, none⟩ = some (.int .i64 x.wt) := (Hb.out.cell (p := ⟨b, off + j * 2 + 1, none⟩) hbl).trans (hbc 1 (by omega))
              clear hbc
              have hbw : b < wr.heap.size := Nat.lt_of_lt_of_le hbl Hb.out.size
              have hjl : (j : Int) < (l.length : Int) := by omega
              have hj0 : (0 : Int) ≤ (j : Int) := by omega
              have hgl : gO < wr.heap.size := (hown.lt gO rfl).2
              clear hx
              by_cases hjb : j = bi
              · have hxy : x.id = y := by have := Hat.out; rw [← hjb, hxi] at this; cases this; rfl
                have hq : (x.id == y) = true := by simp [hxy]
                have hS0 : stepTo P bi j = P := by unfold stepTo; rw [if_neg (by omega)]
                have HS1 := K.H.mk (show stepTo P bi (j + 1) = bump P j by unfold stepTo; rw [if_pos (by omega), hjb])
                rw [hS0] at hown
                obtain ⟨v0, v1⟩ := HPB.out j
                have hcv : wr.cell? ⟨gO, j, none⟩ = some (.int .i64 (P.getD j 0)) := by
                  rw [hown.cellAt _ (by omega)]; exact map_getD (by omega)
                have hfv := hown.frozenAt j
                have hst := (hown.stored j (iv (P.getD j 0 + 1))).1
                rw [← List.map_set, show P.set j (P.getD j 0 + 1) = bump P j from rfl, ← HS1.out] at hst
                have HST := K.H.mk hst
                generalize P.getD j 0 = vi at *
                have hv1 : vi + 1 ≤ 9223372036854775807 := by omega
                have hv2 : -9223372036854775808 ≤ vi + 1 := by omega
                clear hst hown hS0 HS1 hxi hjb hxy
                go_wp2_with (first | (go_at_call 11; (with_reducible refine (num_c _ _).mono ?_); rintro e w' ⟨rfl, hw'⟩; have hw'2 := Eq.symm hw'; clear hw'; subst hw'2))
                go_roundw
                case rel => exact ⟨j + 1, by omega, by go_num, HST.out, ⟨rds_far HR.out.1 Hn3.out _, rds_far HR.out.2 Hn5.out _⟩, ⟨(by repeat (first | (with_reducible exact Below.refl _ _) | (with_reducible exact Hb.out) | (with_reducible refine K.b_bel ?_ (by assumption)) | (with_reducible refine K.b_alloc ?_ _) | (with_reducible refine K.b_drewN ?_ _) | (with_reducible refine K.b_drew ?_) | (with_reducible refine K.b_set ?_ (by first | omega | (simp <;> omega)) _) | (with_reducible refine K.b_only ?_ (by assumption) (by first | omega | (simp <;> omega)))))⟩⟩
                case measure => simp [intOf]; omega
              · have hq : (x.id == y) = false := by
                  rw [beq_eq_false_iff_ne]
                  intro hxy
                  have h1 := List.getElem?_eq_some_iff.1 hxi
                  have h2 := List.getElem?_eq_some_iff.1 Hat.out
                  rcases Nat.lt_or_gt_of_ne hjb with h3 | h3
                  · have := List.pairwise_iff_getElem.1 Hlt.out j bi h1.1 h2.1 h3; omega
                  · have := List.pairwise_iff_getElem.1 Hlt.out bi j h2.1 h1.1 h3; omega
                have HS1 := K.H.mk (show stepTo P bi (j + 1) = stepTo P bi j by unfold stepTo; split <;> split <;> first | rfl | omega)
                clear hxi hjb
                go_wp2_with (first | (go_at_call 11; (with_reducible refine (num_c _ _).mono ?_); rintro e w' ⟨rfl, hw'⟩; have hw'2 := Eq.symm hw'; clear hw'; subst hw'2))
                go_roundw
                case rel => exact ⟨j + 1, by omega, by go_num, by rw [HS1.out]; exact hown, HR, Hb⟩
                case measure => simp [intOf]; omega
            · obtain rfl : j = l.length := by omega
              have HS1 := K.H.mk (show stepTo P bi l.length = cntK (keyAt R) ids (k + 1) by unfold stepTo; rw [if_pos (by omega), Hst.out])
              rw [HS1.out] at hown
              go_wp2
              go_roundw
              case rel => exact ⟨k + 1, by omega, by go_num, hown, HR, Hb⟩
              case measure => simp [intOf]; omega
        · obtain rfl : k = C := by omega
          have GSm := K.H.mk (show Calls Try.prog 22 #[.slice B5 (cntK (keyAt R) ids k).length d5, .slice (some ⟨gO, 0, none⟩) l.length l.length] wr fun e w' => e = .returned (.bool true) ∧ Below wr.heap.size wr w' by
            obtain ⟨_, _, he9, hR9⟩ := Sl.Rds.of_own hown
            cases he9
            rw [← flat_iv] at hR9
            have := Sl.same_c _ _ B5 (some ⟨gO, 0, none⟩) _ l.length d5 l.length wr HR.out.2 hR9
            simpa using this)
          go_wp2_with (first | (go_at_call 22; (with_reducible refine (GSm.out).mono ?_); rintro e W7 ⟨rfl, hb7⟩; obtain ⟨hB7, hC7, hF7, hZ7⟩ := K.bel_facts hb7; clear hb7))
          go_ret
          exact ⟨rfl, (by repeat (first | (with_reducible exact Below.refl _ _) | (with_reducible exact Hb.out) | (with_reducible refine K.b_bel ?_ (by assumption)) | (with_reducible refine K.b_alloc ?_ _) | (with_reducible refine K.b_drewN ?_ _) | (with_reducible refine K.b_drew ?_) | (with_reducible refine K.b_set ?_ (by first | omega | (simp <;> omega)) _) | (with_reducible refine K.b_only ?_ (by assumption) (by first | omega | (simp <;> omega)))))⟩
  · have hd : (eBuild p l != 0) = true := by simpa using he
    have hd2 : (eBuild p l == 0) = false := by simpa using he
    rw [oBuild_nil he] at GB
    generalize eBuild p l = er at *
    clear hr he
    go_enter Try.func8, Try.ntmps8
    go_wp2_with (first
      | (go_at_call 9; (with_reducible refine (GL.out _).mono ?_); rintro e W1 ⟨rfl, hb1⟩; obtain ⟨hB1, hC1, hF1, hZ1⟩ := K.bel_facts hb1; clear hb1)
      | (go_at_call 10; (with_reducible refine (GB.out _ (by repeat (first | (with_reducible exact Below.refl _ _) | (with_reducible refine K.b_bel ?_ (by assumption)) | (with_reducible refine K.b_alloc ?_ _) | (with_reducible refine K.b_drewN ?_ _) | (with_reducible refine K.b_drew ?_) | (with_reducible refine K.b_set ?_ (by first | omega | (simp <;> omega)) _) | (with_reducible refine K.b_only ?_ (by assumption) (by first | omega | (simp <;> omega)))))).mono ?_); rintro e W3 ⟨v3, rfl, hown3, hb3⟩; obtain ⟨hB3, hC3, hF3, hZ3⟩ := K.bel_facts hb3; clear hb3; obtain ⟨B3, d3, rfl, hR3⟩ := Sl.Rds.of_own hown3; clear hown3)
      | (go_at_call 11; (with_reducible refine (num_c _ _).mono ?_); rintro e w' ⟨rfl, hw'⟩; have hw'2 := Eq.symm hw'; clear hw'; subst hw'2))
    go_ret
    exact ⟨rfl, (by repeat (first | (with_reducible exact Below.refl _ _) | (with_reducible refine K.b_bel ?_ (by assumption)) | (with_reducible refine K.b_alloc ?_ _) | (with_reducible refine K.b_drewN ?_ _) | (with_reducible refine K.b_drew ?_) | (with_reducible refine K.b_set ?_ (by first | omega | (simp <;> omega)) _) | (with_reducible refine K.b_only ?_ (by assumption) (by first | omega | (simp <;> omega)))))⟩
end Go.Proofs.Ytkalbiihehcjkaa.Rg
