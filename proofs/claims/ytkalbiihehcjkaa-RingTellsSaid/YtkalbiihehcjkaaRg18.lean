/- Ring: Build's loops. -/
import Derived.Test.YtkalbiihehcjkaaRg17
set_option linter.unusedVariables false
namespace Go.Proofs.Ytkalbiihehcjkaa.Rg
open Go.RowKit Go.Proofs.Ytkalbiihehcjkaa
set_option linter.unusedSimpArgs false
theorem rds_two (w : World) (g : Nat) (x y : Int) (h : K.At w g 3 #[.int .i64 x, .int .i64 y]) : Sl.Rds w 1 (some ⟨g, 0, none⟩) 2 ([x, y].flatMap fun n => [.int .i64 n]) :=
  ⟨by simp, by simp [maxLen], fun _ => ⟨g, 0, rfl, h.lt, fun j hj => by rw [Nat.zero_add, h.cell]; simp⟩⟩
set_option maxRecDepth 100000 in
set_option maxHeartbeats 8000000 in
theorem BuildG (l : List Bk) (p : Int) (A : Option Addr) (n c : Nat) (w : World) (hr : Sl.Rds w 2 A n (l.flatMap Bk.cs)) (h : eChk l = 0) (hp1 : 1 ≤ p) (hp2 : p ≤ 64)
    (hS : ∀ (L : List Pt) (v : Value) (m base : Nat) (W : World), W.ownsRow base 31 2 v m (L.flatMap Pt.cs) → m ≤ 1024 → Calls Try.prog 28 #[v, .func (.func 29) #[] #[]] W fun e W' => e = .returned (.tuple #[]) ∧ W'.ownsRow base 31 2 v m ((sortP L).flatMap Pt.cs) ∧ W.grownBy W' v.ownBlock)
    (hI : ∀ (b : Bk) (k : Nat) (g : Nat) (W : World), K.At W g 3 #[.int .i64 b.id, .int .i64 k] → Calls Try.prog 27 #[.int .u64 1, .slice (some ⟨g, 0, none⟩) 2 2] W fun e W' => e = .returned (.int .u64 (ptAt b k).h) ∧ W' = W) :
    Calls Try.prog 10 #[.int .i64 p, .slice A n c] w (BPost w (oBuild p l) (eBuild p l)) := by
  obtain ⟨f1, f2, f3⟩ := eChk_fine h
  have hlen := rawTo_len (l := l) hp1 hp2 (fun x hx => (f2 x hx).2.2)
  obtain rfl := hr.length Bk.cs_len (by omega)
  have hle := hr.le
  have Hr := K.H.mk hr
  have GC := K.H.mk (fun (W : World) (hb : Below w.heap.size w W) => Check_c l A l.length c W (hr.below hb))
  rw [h] at GC
  have d1 : decide (p < 1) = false := decide_eq_false (by omega)
  have d2 : decide (64 < p) = false := decide_eq_false (by omega)
  have HS := K.H.mk hS
  have HI := K.H.mk hI
  have HF := K.H.mk f2
  have Hh := K.H.mk h
  clear hr hS hI f2 f3 h
  obtain ⟨er, her⟩ : ∃ er, er = eBuild p l := ⟨_, rfl⟩
  obtain ⟨LL, hLL⟩ : ∃ LL, LL = oBuild p l := ⟨_, rfl⟩
  rw [← her, ← hLL]
  have HE := K.H.mk her
  have HL := K.H.mk hLL
  clear her hLL
  go_enter Try.func10, Try.ntmps10
  go_wp2_with (first | (go_at_call 23; (with_reducible refine (GC.out _ (by repeat (first | (with_reducible exact Below.refl _ _) | (with_reducible refine K.b_bel ?_ (by assumption)) | (with_reducible refine K.b_alloc ?_ _) | (with_reducible refine K.b_drewN ?_ _) | (with_reducible refine K.b_drew ?_) | (with_reducible refine K.b_set ?_ (by first | omega | (simp <;> omega)) _) | (with_reducible refine K.b_only ?_ (by assumption) (by first | omega | (simp <;> omega)))))).mono ?_); rintro e W1 ⟨rfl, hb1⟩; obtain ⟨hB1, hC1, hF1, hZ1⟩ := K.bel_facts hb1; clear hb1))
  have Hw1 := K.H.mk (show Below w.heap.size w W1 from (by repeat (first | (with_reducible exact Below.refl _ _) | (with_reducible refine K.b_bel ?_ (by assumption)) | (with_reducible refine K.b_alloc ?_ _) | (with_reducible refine K.b_drewN ?_ _) | (with_reducible refine K.b_drew ?_) | (with_reducible refine K.b_set ?_ (by first | omega | (simp <;> omega)) _) | (with_reducible refine K.b_only ?_ (by assumption) (by first | omega | (simp <;> omega))))))
  clear GC d1 d2
  ((try clear hC1); (try clear hF1); (try clear hZ1); (try clear hc1); (try clear hf1); (try clear hl1); (try clear hB1); (try clear hO1); (try clear hA1); (try clear hz1_0); (try clear hz1_1); (try clear hz1_2); (try clear hz1_3))
  go_loopw [7, 24] (fun v i wr => ∃ k m : Nat, k ≤ l.length ∧ K.H (m = (rawTo p (l.take k)).length) ∧ m ≤ 1024 * k ∧ i = .int .i64 k ∧ wr.ownsRow w.heap.size 31 2 v m ((rawTo p (l.take k)).flatMap Pt.cs) ∧ K.H (Below w.heap.size w wr)) (fun _ i _ => l.length - (intOf i).toNat)
  case atStart => exact ⟨0, 0, by omega, ⟨rfl⟩, by omega, rfl, World.ownsRow_nil _ _ _ _, Hw1⟩
  case round =>
    clear Hw1
    obtain ⟨k, m, hk, HM, hmk, rfl, hown, Hb⟩ := hrel
    have hsz := Hb.out.size
    by_cases hlt : k < l.length
    · obtain ⟨x, hx⟩ : ∃ x, l[k]? = some x := ⟨_, List.getElem?_eq_getElem hlt⟩
      obtain ⟨f3, f4, f5, f6⟩ := HF.out x (List.mem_of_getElem? hx)
      obtain ⟨c1, c2⟩ := cnt_le (x := x) hp1 hp2 f5 f6
      have HT := K.H.mk (rawTo_take (p := p) hx)
      obtain ⟨b, off, rfl, hbl, hbc⟩ := Sl.Rds.elem Hr.out Bk.cs_len (by omega) hx
      have q_0 : wr.cell? ⟨b, off + k * 2, none⟩ = some (.int .i64 x.id) := (Hb.out.cell (p := ⟨b, off + k * 2 + 0, none⟩) hbl).trans (hbc 0 (by omega))
      have q_1 : wr.cell? ⟨b, off + k * 2 + 1, none⟩ = some (.int .i64 x.wt) := (Hb.out.cell (p := ⟨b, off + k * 2 + 1, none⟩) hbl).trans (hbc 1 (by omega))
      clear hbc
      have hbw : b < wr.heap.size := Nat.lt_of_lt_of_le hbl Hb.out.size
      have hkl : (k : Int) < (l.length : Int) := by omega
      generalize rawTo p (l.take k) = X at *
      have m1 : IntKind.i64.wrap (p * x.wt) = ((cnt p x : Nat) : Int) := by rw [← c1, K.i64_in (by omega) (by omega)]
      generalize cnt p x = N at *
      obtain ⟨A1, d1, rfl, hnc, hcm, hR1⟩ := Sl.Rds.of_own2 hown
      clear hnc hcm hR1
      have hne : (Value.slice A1 m d1).ownBlock ≠ some wr.heap.size := fun e => by have := (hown.lt _ e).2; omega
      clear hx c1
      go_wp2
      refine K.wp_gen (fun W => K.At W wr.heap.size 33 #[.int .i64 x.id, .int .i64 x.wt] ∧ W.ownsRow w.heap.size 31 2 (.slice A1 m d1) m (X.flatMap Pt.cs) ∧ Below w.heap.size w W) ⟨(by refine K.At.cast (by repeat (first | (with_reducible refine K.At.new' _ _ _ _ (by first | rfl | (simp; done) | omega)) | (with_reducible apply K.At.set) | (with_reducible apply K.At.alloc) | (with_reducible apply K.At.drewN) | (with_reducible apply K.At.drew) | (with_reducible apply K.At.far) | omega | (simp <;> omega))) ?_; rfl), (by repeat (first | (with_reducible exact hown) | (with_reducible refine Sl.own_set ?_ hne _) | (with_reducible refine World.ownsRow.alloc ?_ _))), (by repeat (first | (with_reducible exact Below.refl _ _) | (with_reducible exact Hb.out) | (with_reducible refine K.b_bel ?_ (by assumption)) | (with_reducible refine K.b_alloc ?_ _) | (with_reducible refine K.b_drewN ?_ _) | (with_reducible refine K.b_drew ?_) | (with_reducible refine K.b_set ?_ (by first | omega | (simp <;> omega)) _) | (with_reducible refine K.b_only ?_ (by assumption) (by first | omega | (simp <;> omega)))))⟩ ?_
      rintro W2 ⟨hG, o2, hb2⟩
      have Hb2 := K.H.mk hb2
      have hgl := hG.lt
      generalize wr.heap.size = gb at *
      clear hown hb2 hbl hbw hsz hne Hb q_0 q_1 m1
      go_loopw [7, 32] (fun v i wr => ∃ j : Nat, j ≤ N ∧ i = .int .i64 j ∧ K.At wr gb 33 #[.int .i64 x.id, .int .i64 x.wt] ∧ wr.ownsRow w.heap.size 31 2 v (m + j) ((X ++ rowOf x j).flatMap Pt.cs) ∧ K.H (Below w.heap.size w wr)) (fun _ i _ => N - (intOf i).toNat)
      case atStart => exact ⟨0, by omega, rfl, hG, by simpa [rowOf] using o2, Hb2⟩
      case round =>
        clear hG o2 Hb2
        obtain ⟨j, hj, rfl, hG, hown, Hb⟩ := hrel
        have hsz := Hb.out.size
        by_cases hjn : j < N
        · obtain ⟨ph, hph⟩ : ∃ ph, ph = (ptAt x j).h := ⟨_, rfl⟩
          have hpt : ptAt x j = ⟨ph, x.id⟩ := by rw [hph]; rfl
          have hrow : X ++ rowOf x (j + 1) = X ++ rowOf x j ++ [⟨ph, x.id⟩] := by rw [rowOf_succ, hpt, List.append_assoc]
          have HI2 := K.H.mk (fun (g : Nat) (W : World) (hW : K.At W g 3 #[.int .i64 x.id, .int .i64 j]) => hph ▸ HI.out x j g W hW)
          have hgl := hG.lt
          obtain ⟨A2, d2, rfl, hnc, hcm, hR2⟩ := Sl.Rds.of_own2 hown
          have hqg := Sl.own_ne hown hG (by decide)
          obtain ⟨r0, hr0⟩ : ∃ r0, r0 = (Value.slice A2 (m + j) d2).ownBlock := ⟨_, rfl⟩
          have hrg : r0 ≠ some gb := hr0 ▸ hqg
          have Hr0 := K.H.mk hr0
          have hl9 : (X ++ rowOf x j).flatMap Pt.cs ++ [.int .u64 ph, .int .i64 x.id] = (X ++ rowOf x (j + 1)).flatMap Pt.cs := by rw [hrow]; simp [List.flatMap_append, Pt.cs]
          have Hl9 := K.H.mk hl9
          have hjm : m + j ≤ 32768 := by omega
          obtain ⟨hc3, hf3, hl3⟩ := K.At.facts hG
          clear hph hpt hrow hr0 hl9 hqg hnc hcm hR2
          go_wp2
          refine K.wp_region_row r0 (by kernel_rfl) (by kernel_rfl) ?_
          intro W9 hB9
          have hR9 := K.InR.of_bel r0 hB9
          have hZ9 := K.inr_size hR9
          repeat (any_goals (first | refine K.wpMix_skip2 (by rfl) (by rfl) ?_ | (refine K.wpMix_skip (by rfl) ?_; go_simp) | (refine K.wpMix_want (by rfl) (by rfl) (fun Kq hK => ?_); go_simp; refine hK _ _ ?_; clear hK Kq) | (refine K.wpMix_ser (by rfl) (by rfl) (fun Kq hK => ?_); first | ((refine K.ser_app1 (news := [.int .u64 ph, .int .i64 x.id]) _ _ 24 31 (.agg #[.int .u64 0, .int .i64 0]) rfl Try.underlying24 (by kernel_rfl : (Try.prog.info? 31).map (fun i => (i.zero, i.size, i.bytes)) = some (some (.agg #[.int .u64 0, .int .i64 0]), 2, 16)) rfl (by decide) (by decide) rfl ((((Sl.own_over hown hB9).alloc _)).alloc _) rfl rfl (Sl.new_cells _ _ _ _ (by first | rfl | simp)) (by simp [Value.oneCell']) (by omega) (by simp; omega) ?_; intro v8 W8 hown8 hgr8; have hgr8 : World.grownBy _ W8 r0 := (by rw [Hr0.out]; exact hgr8); have hI8 : K.InR wr r0 W8 := (by repeat (first | (with_reducible exact hR9) | (with_reducible refine K.inr_bel ?_ (by assumption)) | (with_reducible refine K.inr_alloc ?_ _) | (with_reducible refine K.inr_row ?_ (by assumption)) | (with_reducible refine K.inr_new ?_ (by first | omega | (simp <;> omega)) _))); rw [Hl9.out] at hown8); refine ⟨(by repeat (first | (with_reducible exact hR9) | (with_reducible refine K.inr_bel ?_ (by assumption)) | (with_reducible refine K.inr_alloc ?_ _) | (with_reducible refine K.inr_row ?_ (by assumption)) | (with_reducible refine K.inr_new ?_ (by first | omega | (simp <;> omega)) _))), hK _ _ ?_⟩; clear hK Kq) | (go_simp; first | (refine ⟨(by repeat (first | (with_reducible exact hR9) | (with_reducible refine K.inr_bel ?_ (by assumption)) | (with_reducible refine K.inr_alloc ?_ _) | (with_reducible refine K.inr_row ?_ (by assumption)) | (with_reducible refine K.inr_new ?_ (by first | omega | (simp <;> omega)) _))), hK _ _ ?_⟩; clear hK Kq) | ((go_at_call 27; (with_reducible refine (HI2.out _ _ (K.At.new' _ _ _ _ (by simp))).mono ?_); rintro e w' ⟨rfl, hw'⟩; have hw'2 := Eq.symm hw'; clear hw'; subst hw'2); refine ⟨_, rfl, (by repeat (first | (with_reducible exact hR9) | (with_reducible refine K.inr_bel ?_ (by assumption)) | (with_reducible refine K.inr_alloc ?_ _) | (with_reducible refine K.inr_row ?_ (by assumption)) | (with_reducible refine K.inr_new ?_ (by first | omega | (simp <;> omega)) _))), hK _ _ ?_⟩; clear hK Kq)))))
          all_goals refine K.wpMix_nil ?_
          have hb8 : Below w.heap.size w W8 := Sl.below_grown Hb.out hI8.out (fun k hk => (Sl.own_base hown k (Hr0.out ▸ hk)))
          have HB8 := K.H.mk hb8
          have hG8 := K.at_inr hG hI8 hrg
          clear hb8 hI8 hgr8 hR9 hB9 hZ9 hown hG hc3 hf3 hl3
          go_wp2
          go_roundw
          case rel => exact ⟨j + 1, by omega, by go_num, hG8, hown8, HB8⟩
          case measure => simp [intOf]; omega
        · obtain rfl : j = N := by omega
          go_wp2
          go_roundw
          case rel => exact ⟨k + 1, m + j, by omega, ⟨by rw [HT.out, List.length_append, rowOf_len, ← HM.out]⟩, by omega, by go_num, by rw [HT.out]; exact hown, Hb⟩
          case measure => simp [intOf]; omega
    · obtain rfl : k = l.length := by omega
      rw [List.take_length] at HM hown
      have hm3 : m ≤ 32768 := by omega
      by_cases hd : 1024 < m
      · have hE : er = 5 := by
          rw [HE.out]; unfold eBuild
          rw [if_pos Hh.out, if_neg (by omega), if_pos (by rw [← HM.out]; exact hd)]
        have hL : LL = [] := by rw [HL.out]; unfold oBuild; rw [if_neg]; rw [← HE.out]; omega
        have hdt : decide (1024 < (m : Int)) = true := decide_eq_true (by omega)
        clear HE HL HM
        subst hE; subst hL
        obtain ⟨A2, d2, rfl, hnc, hcm, hR2⟩ := Sl.Rds.of_own2 hown
        clear hnc hcm hR2
        go_wp2
        go_ret2
        exact ⟨_, rfl, World.ownsRow_nil _ _ _ _, (by repeat (first | (with_reducible exact Below.refl _ _) | (with_reducible exact Hb.out) | (with_reducible refine K.b_bel ?_ (by assumption)) | (with_reducible refine K.b_alloc ?_ _) | (with_reducible refine K.b_drewN ?_ _) | (with_reducible refine K.b_drew ?_) | (with_reducible refine K.b_set ?_ (by first | omega | (simp <;> omega)) _) | (with_reducible refine K.b_only ?_ (by assumption) (by first | omega | (simp <;> omega)))))⟩
      · have hE : er = 0 := by
          rw [HE.out]; unfold eBuild
          rw [if_pos Hh.out, if_neg (by omega), if_neg (by rw [← HM.out]; exact hd)]
        have hL : LL = sortP (rawTo p l) := by rw [HL.out]; unfold oBuild; rw [if_pos]; rw [← HE.out]; exact hE
        have hdt : decide (1024 < (m : Int)) = false := decide_eq_false (by omega)
        have HLL : K.H (LL.length = m) := ⟨by rw [hL, sortP_len, HM.out]⟩
        have hL2 := K.H.mk hL
        clear HE HL HM hL
        subst hE
        obtain ⟨A2, d2, rfl, hnc, hcm, hR2⟩ := Sl.Rds.of_own2 hown
        clear hnc hcm hR2
        have GS := K.H.mk (fun (W : World) (hW : Below wr.heap.size wr W) => HS.out (rawTo p l) _ m w.heap.size W (Sl.own_over hown ⟨hW⟩) (by omega))
        have Hown := K.H.mk hown
        clear hown
        go_wp2_with (first | (go_at_call 28; (with_reducible refine (GS.out _ (Below.refl _ _)).mono ?_); rintro e W8 ⟨rfl, hown8, hgr8⟩))
        go_ret2
        exact ⟨_, rfl, by rw [HLL.out, hL2.out]; exact hown8, Sl.below_grown Hb.out hgr8 (fun k hk => (Sl.own_base Hown.out k hk))⟩
end Go.Proofs.Ytkalbiihehcjkaa.Rg
