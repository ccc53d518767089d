/- Ring: the reference's Walk, Lookup; a copy of points. -/
import Derived.Test.YtkalbiihehcjkaaRg35
import Derived.Test.YtkalbiihehcjkaaRg24
import Derived.Test.YtkalbiihehcjkaaCp
import Derived.Deep.CutRange
set_option linter.unusedVariables false
namespace Go.Proofs.Ytkalbiihehcjkaa.Rg
open Go.RowKit Go.Shelf Go.Proofs.Ytkalbiihehcjkaa
set_option linter.unusedSimpArgs false
theorem one_pt {l : List Pt} : ∀ u ∈ l.flatMap Pt.cs, u.oneCell' = true := by
  intro u hu
  obtain ⟨x, _, hx⟩ := List.mem_flatMap.1 hu
  simp [Pt.cs] at hx
  rcases hx with rfl | rfl <;> rfl
theorem own_c (l : List Pt) (A : Option Addr) (n c : Nat) (w : World) (hr : Sl.Rds w 2 A n (l.flatMap Pt.cs)) (hn : n * 16 ≤ 140737488355328) :
    Calls Try.prog 17 #[.slice A n c] w fun e w' => (∃ v, e = .returned v ∧ w'.ownsRow w.heap.size 31 2 v n (l.flatMap Pt.cs)) ∧ Below w.heap.size w w' := by
  have h1 := one_pt (l := l)
  have Hr := K.H.mk hr
  have H1 := K.H.mk h1
  have Hn := K.H.mk hn
  clear hr h1 hn
  generalize l.flatMap Pt.cs = cs at *
  go_enter Try.func17, Try.ntmps17
  go_wp2_with (at_builtin; refine Sl.app_all rfl _ _ 24 31 (.agg #[.int .u64 0, .int .i64 0]) 2 16 rfl Try.underlying24 (by kernel_rfl) rfl (by decide) A n c cs rfl rfl Hr.out H1.out Hn.out ?_; intro v W1 hown hb; have Hown := K.H.mk hown; have HB := K.H.mk hb; clear hown hb)
  go_ret
  exact ⟨⟨v, rfl, Hown.out⟩, HB.out⟩
theorem walkN_succ (l : List Pt) (a i : Nat) : walkN l a (i + 1) = addN (walkN l a i) (idAt l a i) := by
  unfold walkN; rw [List.range_succ, List.map_append, List.map_cons, List.map_nil, once_snoc]
theorem walkN_len (l : List Pt) (a i : Nat) : (walkN l a i).length ≤ i := by
  unfold walkN; have := once_len ((List.range i).map (idAt l a)); simpa using this
set_option maxRecDepth 100000 in
set_option maxHeartbeats 8000000 in
theorem rWalk_ok (l : List Pt) (h : Int) (A : Option Addr) (n c : Nat) (w : World) (hr : Sl.Rds w 2 A n (l.flatMap Pt.cs)) (he : eAsk l = 0) :
    Calls Try.prog 19 #[.slice A n c, .int .u64 h] w (IPost w (walkN l (ahead l h) l.length) 0) := by
  obtain rfl := hr.length Pt.cs_len (by omega)
  obtain ⟨h1, h2, h3, _⟩ := eAsk_ok he
  have hw0 : wChk l = 0 := by unfold eAsk at he; by_cases h0 : wChk l = 0; exact h0; rw [if_neg h0] at he; exact he
  have GW := K.H.mk (fun (W : World) (hb : Below w.heap.size w W) => hw0 ▸ rWhole_c l A l.length c W (hr.below hb))
  have Hr := K.H.mk hr
  have Ho := K.H.mk h1
  have hz2 : ((l.length : Int) == 0) = false := beq_eq_false_iff_ne.2 (by omega)
  have hz : (l.length : Int) ≠ 0 := by omega
  have hzn : l.length ≠ 0 := by omega
  obtain ⟨ah, hahe⟩ : ∃ ah, ah = ahead l h := ⟨_, rfl⟩
  rw [← hahe]
  have HAH := K.H.mk hahe
  clear hr he h1 hw0 hahe
  go_enter Try.func19, Try.ntmps19
  go_wp2_with (first | (go_at_call 25; (with_reducible refine (GW.out _ (by repeat (first | (with_reducible exact Below.refl _ _) | (with_reducible refine K.b_bel ?_ (by assumption)) | (with_reducible refine K.b_alloc ?_ _) | (with_reducible refine K.b_drewN ?_ _) | (with_reducible refine K.b_drew ?_) | (with_reducible refine K.b_set ?_ (by first | omega | (simp <;> omega)) _) | (with_reducible refine K.b_only ?_ (by assumption) (by first | omega | (simp <;> omega)))))).mono ?_); rintro e W1 ⟨rfl, hb1⟩; obtain ⟨hB1, hC1, hF1, hZ1⟩ := K.bel_facts hb1; clear hb1))
  have Hb1 := K.H.mk (show Below w.heap.size w W1 from (by repeat (first | (with_reducible exact Below.refl _ _) | (with_reducible refine K.b_bel ?_ (by assumption)) | (with_reducible refine K.b_alloc ?_ _) | (with_reducible refine K.b_drewN ?_ _) | (with_reducible refine K.b_drew ?_) | (with_reducible refine K.b_set ?_ (by first | omega | (simp <;> omega)) _) | (with_reducible refine K.b_only ?_ (by assumption) (by first | omega | (simp <;> omega))))))
  clear GW hz2
  ((try clear hC1); (try clear hF1); (try clear hZ1); (try clear hc1); (try clear hf1); (try clear hl1); (try clear hB1); (try clear hO1); (try clear hA1); (try clear hz1_0); (try clear hz1_1); (try clear hz1_2); (try clear hz1_3))
  go_loopw [7] (fun i wr => ∃ a : Nat, a ≤ l.length ∧ i = .int .i64 a ∧ K.H (∀ (j : Nat) (y : Pt), j < a → l[j]? = some y → y.h < h) ∧ K.H (Below w.heap.size w wr)) (fun i _ => l.length - (intOf i).toNat)
  case atStart => exact ⟨0, by omega, rfl, ⟨fun j y hj => by omega⟩, Hb1⟩
  case round =>
    clear Hb1
    obtain ⟨a, ha, rfl, Hf, Hb⟩ := hrel
    have hsz := Hb.out.size
    obtain ⟨go, hgo⟩ : ∃ go, go = (decide (a < l.length) && decide ((l.getD a ⟨0, 0⟩).h < h)) := ⟨_, rfl⟩
    have HG := K.H.mk hgo
    go_upto_region 7 with fail
    go_cut [35] from 23 to 37 (fun c wx => c = .bool go ∧ Below w.heap.size w wx)
    case first =>
      clear hgo
      by_cases hlt : a < l.length
      · obtain ⟨x, hx⟩ : ∃ x, l[a]? = some x := ⟨_, List.getElem?_eq_getElem hlt⟩
        have hg2 : go = decide (x.h < h) := by rw [HG.out, List.getD_eq_getElem?_getD, hx, decide_eq_true hlt]; rfl
        obtain ⟨b, off, rfl, hbl, hbc⟩ := Sl.Rds.elem Hr.out Pt.cs_len (by omega) hx
        have q_0 : wr.cell? ⟨b, off + a * 2, none⟩ = some (.int .u64 x.h) := (Hb.out.cell (p := ⟨b, off + a * 2 + 0, none⟩) hbl).trans (hbc 0 (by omega))
        have q_1 : wr.cell? ⟨b, off + a * 2 + 1, none⟩ = some (.int .i64 x.i) := (Hb.out.cell (p := ⟨b, off + a * 2 + 1, none⟩) hbl).trans (hbc 1 (by omega))
        clear hbc
        have hal : (a : Int) < (l.length : Int) := by omega
        have hbw : b < wr.heap.size := Nat.lt_of_lt_of_le hbl hsz
        have HG2 := K.H.mk hg2
        clear hx hg2 HG
        go_wp2_with fail
        go_meet
        exact ⟨by rw [HG2.out], (by repeat (first | (with_reducible exact Below.refl _ _) | (with_reducible exact Hb.out) | (with_reducible refine K.b_bel ?_ (by assumption)) | (with_reducible refine K.b_alloc ?_ _) | (with_reducible refine K.b_drewN ?_ _) | (with_reducible refine K.b_drew ?_) | (with_reducible refine K.b_set ?_ (by first | omega | (simp <;> omega)) _) | (with_reducible refine K.b_only ?_ (by assumption) (by first | omega | (simp <;> omega)))))⟩
      · have hg2 : go = false := by rw [HG.out, decide_eq_false hlt]; rfl
        obtain rfl : a = l.length := by omega
        have HG2 := K.H.mk hg2
        clear hg2 HG
        go_wp2_with fail
        go_meet
        exact ⟨by rw [HG2.out], (by repeat (first | (with_reducible exact Below.refl _ _) | (with_reducible exact Hb.out) | (with_reducible refine K.b_bel ?_ (by assumption)) | (with_reducible refine K.b_alloc ?_ _) | (with_reducible refine K.b_drewN ?_ _) | (with_reducible refine K.b_drew ?_) | (with_reducible refine K.b_set ?_ (by first | omega | (simp <;> omega)) _) | (with_reducible refine K.b_only ?_ (by assumption) (by first | omega | (simp <;> omega)))))⟩
    case rest =>
    obtain ⟨rfl, hb2⟩ := hcut
    have Hb2 := K.H.mk hb2
    clear Hb hb2 hgo hsz
    cases go
    · have hah : ahead l h = a := by
        refine ahead_at ha Hf.out (fun j y hj hy => ?_)
        have hal : a < l.length := Nat.lt_of_le_of_lt hj (List.getElem?_eq_some_iff.1 hy).1
        have h4 := HG.out
        rw [List.getD_eq_getElem?_getD, List.getElem?_eq_getElem hal, decide_eq_true hal] at h4
        have h5 := of_decide_eq_false (by simpa using h4.symm : decide (l[a].h < h) = false)
        have h6 := ord_pair Ho.out hj (List.getElem?_eq_getElem hal) hy
        omega
      obtain rfl : a = ah := by rw [HAH.out]; exact hah.symm
      clear HG Hf hah HAH
      go_wp2
      go_loopw [8, 9] (fun v i wr => ∃ k : Nat, k ≤ l.length ∧ i = .int .i64 k ∧ wr.ownsRow w.heap.size 3 1 v (walkN l a k).length ((walkN l a k).map iv) ∧ K.H (Below w.heap.size w wr)) (fun _ i _ => l.length - (intOf i).toNat)
      case atStart => exact ⟨0, by omega, rfl, World.ownsRow_nil _ _ _ _, Hb2⟩
      case round =>
        clear Hb2
        obtain ⟨k, hk, rfl, hown, Hb⟩ := hrel
        have hsz := Hb.out.size
        by_cases hlt : k < l.length
        · have hm := Nat.mod_lt (a + k) (show 0 < l.length by omega)
          obtain ⟨x, hx⟩ : ∃ x, l[(a + k) % l.length]? = some x := ⟨_, List.getElem?_eq_getElem hm⟩
          have hid : idAt l a k = x.i := by unfold idAt; rw [hx]; rfl
          have hmo : ((a + k : Nat) : Int).tmod (l.length : Int) = (((a + k) % l.length : Nat) : Int) := by rw [Int.natCast_emod]; exact Int.tmod_eq_emod_of_nonneg (by omega)
          have hmo2 : ((a : Int) + (k : Int)).tmod (l.length : Int) = (((a + k) % l.length : Nat) : Int) := by rw [← hmo, Int.natCast_add]
          obtain ⟨b, off, rfl, hbl, hbc⟩ := Sl.Rds.elem Hr.out Pt.cs_len (by omega) hx
          have q_0 : wr.cell? ⟨b, off + ((a + k) % l.length) * 2, none⟩ = some (.int .u64 x.h) := (Hb.out.cell (p := ⟨b, off + ((a + k) % l.length) * 2 + 0, none⟩) hbl).trans (hbc 0 (by omega))
          have q_1 : wr.cell? ⟨b, off + ((a + k) % l.length) * 2 + 1, none⟩ = some (.int .i64 x.i) := (Hb.out.cell (p := ⟨b, off + ((a + k) % l.length) * 2 + 1, none⟩) hbl).trans (hbc 1 (by omega))
          clear hbc
          have hml : (((a + k) % l.length : Nat) : Int) < (l.length : Int) := by omega
          have hm0 : (0 : Int) ≤ (((a + k) % l.length : Nat) : Int) := by omega
          have hbw : b < wr.heap.size := Nat.lt_of_lt_of_le hbl hsz
          have HW := K.H.mk (show walkN l a (k + 1) = addN (walkN l a k) x.i by rw [walkN_succ, hid])
          have hSl := walkN_len l a k
          generalize hSe : walkN l a k = S at *
          generalize hme : (a + k) % l.length = m at *
          clear hx hid hme hSe hmo
          obtain ⟨A1, d1, rfl, hnc, hcm, hR1⟩ := Sl.Rds.of_own2 hown
          have HS := K.H.mk (flat_iv S ▸ hR1 : Sl.Rds wr 1 A1 S.length (S.flatMap fun n => [.int .i64 n]))
          clear hnc hcm hR1
          have Hown := K.H.mk hown
          clear hown
          go_wp2
          go_loopw [11, 12] (fun f i wr2 => ∃ (j : Nat) (fd : Bool), j ≤ S.length ∧ f = .bool fd ∧ i = .int .i64 j ∧ K.H (fd = decide (x.i ∈ S.take j)) ∧ K.H (Below wr.heap.size wr wr2)) (fun _ i _ => S.length - (intOf i).toNat)
          case atStart => exact ⟨0, false, by omega, rfl, rfl, ⟨by simp⟩, ⟨Below.refl _ _⟩⟩
          case round =>
            obtain ⟨j, fd, hj, rfl, rfl, HF, Hb2⟩ := hrel
            have hsz2 := Hb2.out.size
            by_cases hki : j < S.length
            · obtain ⟨y, hy⟩ : ∃ y, S[j]? = some y := ⟨_, List.getElem?_eq_getElem hki⟩
              have HF2 := K.H.mk (show (fd || (y == x.i)) = decide (x.i ∈ S.take (j + 1)) by
                rw [HF.out, List.take_add_one, hy, Bool.eq_iff_iff]
                simp only [Bool.or_eq_true, decide_eq_true_eq, beq_iff_eq, List.mem_append, Option.toList_some, List.mem_singleton]
                exact ⟨fun h => h.elim .inl (fun h => .inr h.symm), fun h => h.elim .inl (fun h => .inr h.symm)⟩)
              obtain ⟨b5, off5, rfl, hbl5, hbc5⟩ := Sl.Rds.elem HS.out (enc := fun n => [.int .i64 n]) (fun _ => rfl) (by omega) hy
              have q5_0 : wr.cell? ⟨b5, off5 + j, none⟩ = some (.int .i64 y) := by
                have := (Hb2.out.cell (p := ⟨b5, off5 + j * 1 + 0, none⟩) hbl5).trans (hbc5 0 (by omega))
                simpa using this
              have hkl : (j : Int) < (S.length : Int) := by omega
              have hbw5 : b5 < wr.heap.size := Nat.lt_of_lt_of_le hbl5 hsz2
              have hk0 : (0 : Int) ≤ (j : Int) := by omega
              clear hbc5 hy HF
              cases fd
              · have HE := K.H.mk (Bool.false_or (y == x.i))
                rw [HE.out] at HF2
                go_wp2
                go_roundw
                case rel => exact ⟨j + 1, _, by omega, rfl, by go_num, HF2, ⟨(by repeat (first | (with_reducible exact Below.refl _ _) | (with_reducible exact Hb2.out) | (with_reducible refine K.b_bel ?_ (by assumption)) | (with_reducible refine K.b_alloc ?_ _) | (with_reducible refine K.b_drewN ?_ _) | (with_reducible refine K.b_drew ?_) | (with_reducible refine K.b_set ?_ (by first | omega | (simp <;> omega)) _) | (with_reducible refine K.b_only ?_ (by assumption) (by first | omega | (simp <;> omega)))))⟩⟩
                case measure => simp [intOf]; omega
              · have HE := K.H.mk (Bool.true_or (y == x.i))
                rw [HE.out] at HF2
                go_wp2
                go_roundw
                case rel => exact ⟨j + 1, _, by omega, rfl, by go_num, HF2, ⟨(by repeat (first | (with_reducible exact Below.refl _ _) | (with_reducible exact Hb2.out) | (with_reducible refine K.b_bel ?_ (by assumption)) | (with_reducible refine K.b_alloc ?_ _) | (with_reducible refine K.b_drewN ?_ _) | (with_reducible refine K.b_drew ?_) | (with_reducible refine K.b_set ?_ (by first | omega | (simp <;> omega)) _) | (with_reducible refine K.b_only ?_ (by assumption) (by first | omega | (simp <;> omega)))))⟩⟩
                case measure => simp [intOf]; omega
            · obtain rfl : j = S.length := by omega
              have hfd := HF.out
              rw [List.take_length] at hfd
              have hown2 := Sl.own_over Hown.out ⟨Hb2.out⟩
              have Hb3 := K.H.mk (Hb.out.trans (Hb2.out.mono hsz))
              clear HF
              cases fd
              · have hni : ¬ x.i ∈ S := of_decide_eq_false hfd.symm
                have HA := K.H.mk (show addN S x.i = S ++ [x.i] by unfold addN; rw [if_neg hni])
                clear hfd hni
                go_wp2_with (first | (at_builtin; refine Sl.app1 (news := [iv x.i]) rfl _ _ 41 3 (.int .i64 0) rfl Try.underlying41 (by kernel_rfl : (Try.prog.info? 3).map (fun i => (i.zero, i.size, i.bytes)) = some (some (.int .i64 0), 1, 8)) rfl (by decide) (by decide) rfl ((hown2).alloc _) rfl rfl (Sl.new_cells _ _ _ _ (by first | rfl | simp)) (by simp [Value.oneCell']) (by omega) (by simp <;> omega) ?_; intro v8 W8 hown8 hgr8))
                have hb8 := Sl.below_grown (K.b_alloc Hb3.out _) hgr8 (fun k hk => Sl.own_base hown2 k hk)
                have HB8 := K.H.mk hb8
                clear hb8 hgr8
                go_roundw
                case rel => exact ⟨k + 1, by omega, by go_num, by rw [HW.out, HA.out]; simpa using hown8, HB8⟩
                case measure => simp [intOf]; omega
              · have hni : x.i ∈ S := of_decide_eq_true hfd.symm
                have HA := K.H.mk (show addN S x.i = S by unfold addN; rw [if_pos hni])
                clear hfd hni
                go_wp2
                go_roundw
                case rel => exact ⟨k + 1, by omega, by go_num, by rw [HW.out, HA.out]; exact hown2, Hb3⟩
                case measure => simp [intOf]; omega
        · obtain rfl : k = l.length := by omega
          obtain ⟨A1, d1, rfl, hnc, hcm, hR1⟩ := Sl.Rds.of_own2 hown
          clear hnc hcm hR1
          go_wp2
          go_ret2
          exact ⟨_, rfl, hown, Hb.out⟩
    · have hgo := HG.out
      have hlt : a < l.length := by
        by_cases h0 : a < l.length
        · exact h0
        · rw [decide_eq_false h0] at hgo; cases hgo
      have Hf2 := K.H.mk (show ∀ (j : Nat) (y : Pt), j < a + 1 → l[j]? = some y → y.h < h from fun j y hj hy => by
        by_cases hja : j = a
        · subst hja
          rw [List.getD_eq_getElem?_getD, hy, decide_eq_true hlt] at hgo
          simpa using hgo.symm
        · exact Hf.out j y (by omega) hy)
      clear HG Hf hgo
      go_wp2
      go_roundw
      case rel => exact ⟨a + 1, by omega, by go_num, Hf2, Hb2⟩
      case measure => simp [intOf]; omega
set_option maxRecDepth 100000 in
set_option maxHeartbeats 4000000 in
theorem rWalk_bad (l : List Pt) (h : Int) (A : Option Addr) (n c : Nat) (w : World) (hr : Sl.Rds w 2 A n (l.flatMap Pt.cs)) (he : eAsk l ≠ 0) :
    Calls Try.prog 19 #[.slice A n c, .int .u64 h] w (IPost w [] (eAsk l)) := by
  obtain rfl := hr.length Pt.cs_len (by omega)
  have GW := K.H.mk (fun (W : World) (hb : Below w.heap.size w W) => rWhole_c l A l.length c W (hr.below hb))
  by_cases h0 : wChk l = 0
  · have hl : l.length = 0 := by
      by_cases hl : l.length = 0
      · exact hl
      · exact absurd (by unfold eAsk; rw [if_pos h0, if_neg hl]) he
    rw [show eAsk l = 71 by unfold eAsk; rw [if_pos h0, if_pos hl]]
    rw [h0] at GW
    have hz2 : ((l.length : Int) == 0) = true := by simp [hl]
    clear hr he h0 hl
    go_enter Try.func19, Try.ntmps19
    go_wp2_with (first | (go_at_call 25; (with_reducible refine (GW.out _ (by repeat (first | (with_reducible exact Below.refl _ _) | (with_reducible refine K.b_bel ?_ (by assumption)) | (with_reducible refine K.b_alloc ?_ _) | (with_reducible refine K.b_drewN ?_ _) | (with_reducible refine K.b_drew ?_) | (with_reducible refine K.b_set ?_ (by first | omega | (simp <;> omega)) _) | (with_reducible refine K.b_only ?_ (by assumption) (by first | omega | (simp <;> omega)))))).mono ?_); rintro e W1 ⟨rfl, hb1⟩; obtain ⟨hB1, hC1, hF1, hZ1⟩ := K.bel_facts hb1; clear hb1))
    go_ret2
    exact ⟨_, rfl, World.ownsRow_nil _ _ _ _, (by repeat (first | (with_reducible exact Below.refl _ _) | (with_reducible refine K.b_bel ?_ (by assumption)) | (with_reducible refine K.b_alloc ?_ _) | (with_reducible refine K.b_drewN ?_ _) | (with_reducible refine K.b_drew ?_) | (with_reducible refine K.b_set ?_ (by first | omega | (simp <;> omega)) _) | (with_reducible refine K.b_only ?_ (by assumption) (by first | omega | (simp <;> omega)))))⟩
  · rw [show eAsk l = wChk l by unfold eAsk; rw [if_neg h0]]
    have hd : (wChk l != 0) = true := by simpa using h0
    generalize wChk l = er at *
    clear hr he h0
    go_enter Try.func19, Try.ntmps19
    go_wp2_with (first | (go_at_call 25; (with_reducible refine (GW.out _ (by repeat (first | (with_reducible exact Below.refl _ _) | (with_reducible refine K.b_bel ?_ (by assumption)) | (with_reducible refine K.b_alloc ?_ _) | (with_reducible refine K.b_drewN ?_ _) | (with_reducible refine K.b_drew ?_) | (with_reducible refine K.b_set ?_ (by first | omega | (simp <;> omega)) _) | (with_reducible refine K.b_only ?_ (by assumption) (by first | omega | (simp <;> omega)))))).mono ?_); rintro e W1 ⟨rfl, hb1⟩; obtain ⟨hB1, hC1, hF1, hZ1⟩ := K.bel_facts hb1; clear hb1))
    go_ret2
    exact ⟨_, rfl, World.ownsRow_nil _ _ _ _, (by repeat (first | (with_reducible exact Below.refl _ _) | (with_reducible refine K.b_bel ?_ (by assumption)) | (with_reducible refine K.b_alloc ?_ _) | (with_reducible refine K.b_drewN ?_ _) | (with_reducible refine K.b_drew ?_) | (with_reducible refine K.b_set ?_ (by first | omega | (simp <;> omega)) _) | (with_reducible refine K.b_only ?_ (by assumption) (by first | omega | (simp <;> omega)))))⟩
theorem rWalk_c (l : List Pt) (h : Int) (A : Option Addr) (n c : Nat) (w : World) (hr : Sl.Rds w 2 A n (l.flatMap Pt.cs)) :
    Calls Try.prog 19 #[.slice A n c, .int .u64 h] w (IPost w (oWalk l h) (eAsk l)) := by
  unfold oWalk
  by_cases he : eAsk l = 0
  · rw [if_pos he]
    have := rWalk_ok l h A n c w hr he
    rw [he]; exact this
  · rw [if_neg he]; exact rWalk_bad l h A n c w hr he
set_option maxRecDepth 100000 in
set_option maxHeartbeats 4000000 in
theorem rLook_c (l : List Pt) (h : Int) (A : Option Addr) (n c : Nat) (w : World) (hr : Sl.Rds w 2 A n (l.flatMap Pt.cs)) :
    Calls Try.prog 18 #[.slice A n c, .int .u64 h] w fun e w' => e = .returned (.tuple #[.int .i64 (oLook l h), .int .i64 (eAsk l)]) ∧ Below w.heap.size w w' := by
  have GW := K.H.mk (fun (W : World) (hb : Below w.heap.size w W) => rWalk_c l h A n c W (hr.below hb))
  by_cases he : eAsk l = 0
  · have HH := K.H.mk (walk_head (h := h) he)
    have hL0 : 0 < (oWalk l h).length := (List.getElem?_eq_some_iff.1 (walk_head (h := h) he)).1
    rw [he] at GW ⊢
    generalize oWalk l h = L at *
    generalize oLook l h = id at *
    have hL1 : (0 : Int) < (L.length : Int) := by omega
    clear hr he
    go_enter Try.func18, Try.ntmps18
    go_wp2_with (first
      | (go_at_call 19; (with_reducible refine (GW.out _ (by repeat (first | (with_reducible exact Below.refl _ _) | (with_reducible refine K.b_bel ?_ (by assumption)) | (with_reducible refine K.b_alloc ?_ _) | (with_reducible refine K.b_drewN ?_ _) | (with_reducible refine K.b_drew ?_) | (with_reducible refine K.b_set ?_ (by first | omega | (simp <;> omega)) _) | (with_reducible refine K.b_only ?_ (by assumption) (by first | omega | (simp <;> omega)))))).mono ?_); rintro e W1 ⟨v1, rfl, hown1, hb1⟩; obtain ⟨hB1, hC1, hF1, hZ1⟩ := K.bel_facts hb1; clear hb1; obtain ⟨B1, d1, rfl, hR1⟩ := Sl.Rds.of_own hown1; rw [← flat_iv] at hR1; obtain ⟨b5, off5, rfl, hbl5, hbc5⟩ := Sl.Rds.elem hR1 (enc := fun n => [.int .i64 n]) (fun _ => rfl) (by omega) HH.out; have q5_0 : W1.cell? ⟨b5, off5, none⟩ = some (.int .i64 id) := (by have := hbc5 0 (by omega); simpa using this); clear hbc5 hown1))
    go_ret2
    exact ⟨rfl, (by repeat (first | (with_reducible exact Below.refl _ _) | (with_reducible refine K.b_bel ?_ (by assumption)) | (with_reducible refine K.b_alloc ?_ _) | (with_reducible refine K.b_drewN ?_ _) | (with_reducible refine K.b_drew ?_) | (with_reducible refine K.b_set ?_ (by first | omega | (simp <;> omega)) _) | (with_reducible refine K.b_only ?_ (by assumption) (by first | omega | (simp <;> omega)))))⟩
  · have hd : (eAsk l != 0) = true := by simpa using he
    rw [show oLook l h = 0 by unfold oLook; rw [if_neg he]]
    rw [walk_nil he] at GW
    generalize eAsk l = er at *
    clear hr he
    go_enter Try.func18, Try.ntmps18
    go_wp2_with (first
      | (go_at_call 19; (with_reducible refine (GW.out _ (by repeat (first | (with_reducible exact Below.refl _ _) | (with_reducible refine K.b_bel ?_ (by assumption)) | (with_reducible refine K.b_alloc ?_ _) | (with_reducible refine K.b_drewN ?_ _) | (with_reducible refine K.b_drew ?_) | (with_reducible refine K.b_set ?_ (by first | omega | (simp <;> omega)) _) | (with_reducible refine K.b_only ?_ (by assumption) (by first | omega | (simp <;> omega)))))).mono ?_); rintro e W1 ⟨v1, rfl, hown1, hb1⟩; obtain ⟨hB1, hC1, hF1, hZ1⟩ := K.bel_facts hb1; clear hb1; obtain ⟨B1, d1, rfl, hR1⟩ := Sl.Rds.of_own hown1; clear hown1))
    go_ret2
    exact ⟨rfl, (by repeat (first | (with_reducible exact Below.refl _ _) | (with_reducible refine K.b_bel ?_ (by assumption)) | (with_reducible refine K.b_alloc ?_ _) | (with_reducible refine K.b_drewN ?_ _) | (with_reducible refine K.b_drew ?_) | (with_reducible refine K.b_set ?_ (by first | omega | (simp <;> omega)) _) | (with_reducible refine K.b_only ?_ (by assumption) (by first | omega | (simp <;> omega)))))⟩
end Go.Proofs.Ytkalbiihehcjkaa.Rg
