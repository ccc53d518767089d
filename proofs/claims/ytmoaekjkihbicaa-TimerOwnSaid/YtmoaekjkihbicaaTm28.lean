/- Timer: the reference's Order (an insertion sort). -/
import Derived.Test.YtmoaekjkihbicaaTm17
import Derived.Test.YtmoaekjkihbicaaTm22
import Derived.Deep.CutRange
import Derived.Deep.RegionWith
set_option linter.unusedVariables false
namespace Go.Proofs.Ytmoaekjkihbicaa.Tm
open Go.RowKit Go.Proofs.Ytmoaekjkihbicaa
set_option linter.unusedSimpArgs false
/-- A timer put in at a place. -/
def mid {α : Type} (S : List α) (a : Nat) (y : α) : List α := S.take a ++ y :: S.drop a
theorem mid_len {α : Type} (S : List α) (a : Nat) (y : α) : (mid S a y).length = S.length + 1 := by
  simp [mid]; omega
theorem mid_set {α : Type} {S : List α} {a : Nat} (h : a ≤ S.length) (y x : α) : (mid S a y).set a x = mid S a x := by
  unfold mid; rw [List.set_append]; simp [Nat.min_eq_left h]
theorem mid_end {α : Type} (S : List α) (y : α) : mid S S.length y = S ++ [y] := by simp [mid]
theorem mid_step {α : Type} {S : List α} {a : Nat} {z : α} (h : S[a]? = some z) (y : α) : (mid S (a + 1) y).set (a + 1) z = mid S a z := by
  have hl : a < S.length := (List.getElem?_eq_some_iff.1 h).1
  rw [mid_set (by omega)]
  unfold mid
  rw [List.take_add_one, h, List.drop_eq_getElem_cons hl, (List.getElem?_eq_some_iff.1 h).2]
  simp
theorem mid_get {α : Type} {S : List α} {a p : Nat} (hp : p < a) (h : a ≤ S.length) (y : α) : (mid S a y)[p]? = S[p]? := by
  unfold mid; rw [List.getElem?_append_left (by rw [List.length_take]; omega), List.getElem?_take_of_lt hp]
theorem mid_at {α : Type} {S : List α} {a : Nat} (h : a ≤ S.length) (y : α) : (mid S a y)[a]? = some y := by
  unfold mid; rw [List.getElem?_append_right (by rw [List.length_take]; omega)]; simp [Nat.min_eq_left h]
theorem mid_perm {α : Type} (S : List α) (a : Nat) (y : α) : (mid S a y).Perm (S ++ [y]) := by
  have h1 : (mid S a y).Perm (y :: (S.take a ++ S.drop a)) := List.perm_middle
  rw [List.take_append_drop] at h1
  exact h1.trans (List.perm_append_singleton y S).symm
/-- A timer put in where none before it stands behind it, and all that come stand behind it. -/
theorem mid_sort {L S : List Tm} {a : Nat} {x : Tm} (hS : S = sortT L) (h1 : a = 0 ∨ ∃ z, S[a - 1]? = some z ∧ z.le x = true) (ha : a ≤ S.length) (h2 : ∀ z ∈ S.drop a, x.le z = true) : sortT (L ++ [x]) = mid S a x := by
  subst hS
  have hs := sortT_le L
  apply sortT_eq
  · exact (mid_perm _ _ _).trans ((sortT_perm L).append_right [x])
  · have hd : (List.take a (sortT L) ++ List.drop a (sortT L)).Pairwise (fun a b => a.le b = true) := by rw [List.take_append_drop]; exact hs
    rw [List.pairwise_append] at hd
    have hle : ∀ z ∈ (sortT L).take a, z.le x = true := by
      intro z hz
      rcases h1 with h0 | ⟨u, hu, hux⟩
      · subst h0; simp at hz
      · obtain ⟨i, hi, rfl⟩ := List.mem_iff_getElem.1 hz
        simp at hi
        rw [List.getElem_take]
        by_cases he : i = a - 1
        · subst he
          rw [(List.getElem?_eq_some_iff.1 hu).2]; exact hux
        · have h3 := List.pairwise_iff_getElem.1 hs i (a - 1) (by omega) (by omega) (by omega)
          rw [(List.getElem?_eq_some_iff.1 hu).2] at h3
          exact le_trans h3 hux
    unfold mid
    rw [List.pairwise_append, List.pairwise_cons]
    refine ⟨hd.1, ⟨h2, hd.2.1⟩, ?_⟩
    intro u hu v hv
    rcases List.mem_cons.1 hv with rfl | hv
    · exact hle u hu
    · exact hd.2.2 u hu v hv
theorem lt_le {a b : Tm} (h : a.lt b = true) : a.le b = true := by rw [lt_iff] at h; rw [le_iff]; omega
set_option maxRecDepth 100000 in
set_option maxHeartbeats 8000000 in
theorem rOrder_c (l : List Tm) (A : Option Addr) (n c : Nat) (w : World) (hr : Sl.Rds w 2 A n (l.flatMap Tm.cs)) : Calls Try.prog 22 #[.slice A n c] w (TPost w (rOrd l)) := by
  obtain rfl := hr.length Tm.cs_len (by omega)
  have GC := K.H.mk (fun (W : World) (hb : Below w.heap.size w W) => rCheck_c l A l.length c W (hr.below hb))
  by_cases h : eChk l = 0
  · have hl := (eChk_of h).1
    rw [h] at GC
    rw [show rOrd l = (0, sortT l) by unfold rOrd; rw [if_pos h]]
    have Hr := K.H.mk hr
    clear hr h
    go_enter Try.func22, Try.ntmps22
    go_wp2_with (first | (go_at_call 26; (with_reducible refine (GC.out _ (by repeat (first | (with_reducible exact Below.refl _ _) | (with_reducible refine K.b_bel ?_ (by assumption)) | (with_reducible refine K.b_alloc ?_ _) | (with_reducible refine K.b_drewN ?_ _) | (with_reducible refine K.b_drew ?_) | (with_reducible refine K.b_set ?_ (by first | omega | (simp <;> omega)) _) | (with_reducible refine K.b_only ?_ (by assumption) (by first | omega | (simp <;> omega)))))).mono ?_); rintro e W1 ⟨rfl, hb1⟩; obtain ⟨hB1, hC1, hF1, hZ1⟩ := K.bel_facts hb1; clear hb1))
    have Hb1 : K.H (Below w.heap.size w W1) := ⟨(by repeat (first | (with_reducible exact Below.refl _ _) | (with_reducible refine K.b_bel ?_ (by assumption)) | (with_reducible refine K.b_alloc ?_ _) | (with_reducible refine K.b_drewN ?_ _) | (with_reducible refine K.b_drew ?_) | (with_reducible refine K.b_set ?_ (by first | omega | (simp <;> omega)) _) | (with_reducible refine K.b_only ?_ (by assumption) (by first | omega | (simp <;> omega)))))⟩
    have hgb := hB1.out.size
    ((try clear hC1); (try clear hF1); (try clear hZ1); (try clear hc1); (try clear hf1); (try clear hl1); (try clear hB1); (try clear hO1); (try clear hA1); (try clear hz1_0); (try clear hz1_1); (try clear hz1_2); (try clear hz1_3))
    clear GC
    go_loopw [5, 6] (fun v5 i wr => ∃ (k : Nat) (S : List Tm) (B : Option Addr) (d : Nat), k ≤ l.length ∧ i = .int .i64 k ∧ v5 = .slice B k d ∧ S.length = k ∧ K.H (S = sortT (l.take k)) ∧ wr.ownsRow w.heap.size 25 2 (.slice B k d) k (S.flatMap Tm.cs) ∧ K.H (Below w.heap.size w wr)) (fun _ i _ => l.length - (intOf i).toNat)
    case atStart => exact ⟨0, [], none, 0, by omega, rfl, rfl, rfl, ⟨by simp [sortT]⟩, World.ownsRow_nil _ _ _ _, Hb1⟩
    case round =>
      clear Hb1
      obtain ⟨k, S, B, d, hk, rfl, rfl, hSl, HS, hown, Hb⟩ := hrel
      have hsz := Hb.out.size
      by_cases hlt : k < l.length
      · obtain ⟨x, hx⟩ : ∃ x, l[k]? = some x := ⟨_, List.getElem?_eq_getElem hlt⟩
        obtain ⟨b, off, rfl, hbl, hbc⟩ := Sl.Rds.elem Hr.out Tm.cs_len (by omega) hx
        have HBC := K.H.mk hbc
        have HX := K.H.mk (show l.take (k + 1) = l.take k ++ [x] by rw [List.take_add_one, hx]; rfl)
        have hkl : (k : Int) < (l.length : Int) := by omega
        have q_0 : wr.cell? ⟨b, off + k * 2, none⟩ = some (.int .i64 x.t) := (Hb.out.cell (p := ⟨b, off + k * 2 + 0, none⟩) hbl).trans (HBC.out 0 (by omega))
        have q_1 : wr.cell? ⟨b, off + k * 2 + 1, none⟩ = some (.int .i64 x.id) := (Hb.out.cell (p := ⟨b, off + k * 2 + 1, none⟩) hbl).trans (HBC.out 1 (by omega))
        have hbw : b < wr.heap.size := Nat.lt_of_lt_of_le hbl hsz
        have hnews : S.flatMap Tm.cs ++ [.int .i64 x.t, .int .i64 x.id] = (mid S k x).flatMap Tm.cs := by rw [← hSl, mid_end, List.flatMap_append]; simp [Tm.cs]
        have Hn := K.H.mk hnews
        have HSl := K.H.mk hSl
        have hbase := Sl.own_base hown
        have Hbase := K.H.mk hbase
        clear hbc hx hnews hSl hbase
        go_wp2_with (first | (at_builtin; refine Sl.app1 (news := [.int .i64 x.t, .int .i64 x.id]) rfl _ _ 22 25 (.agg #[.int .i64 0, .int .i64 0]) rfl Try.underlying22 (by kernel_rfl : (Try.prog.info? 25).map (fun i => (i.zero, i.size, i.bytes)) = some (some (.agg #[.int .i64 0, .int .i64 0]), 2, 16)) rfl (by decide) (by decide) rfl ((hown).alloc _) rfl rfl (Sl.new_cells _ _ _ _ (by first | rfl | simp)) (by simp [Value.oneCell']) (by omega) (by simp; omega) ?_; intro v6 W6 hown6 hgr6; rw [Hn.out] at hown6; obtain ⟨g, cap, rfl, hgb6, hgl6⟩ := form_t hown6 (by omega)))
        have Hb6 := K.H.mk (Sl.below_grown (K.b_alloc Hb.out _) hgr6 Hbase.out)
        clear hgr6 Hbase hown Hn q_0 q_1 hbw Hb hsz hgl6
        go_loopw [7] (fun v7 wr => ∃ (a : Nat) (y : Tm), v7 = .int .i64 a ∧ a ≤ k ∧ wr.ownsRow w.heap.size 25 2 (.slice (some ⟨g, 0, none⟩) (k + 1) cap) (k + 1) ((mid S a y).flatMap Tm.cs) ∧ K.H (∀ z ∈ S.drop a, x.lt z = true) ∧ K.H (Below w.heap.size w wr)) (fun v7 _ => (intOf v7).toNat)
        case atStart => exact ⟨k, x, rfl, by omega, hown6, ⟨by rw [List.drop_eq_nil_of_le (by have := HSl.out; omega)]; simp⟩, Hb6⟩
        case round =>
          clear hown6 Hb6
          obtain ⟨a, y, rfl, hak, hown, HD, Hb⟩ := hrel
          have hsz := Hb.out.size
          have hgl := (hown.lt g rfl).2
          have HDZ : ∃ gq : Bool, ((gq = true ∧ ∃ p z, a = p + 1 ∧ S[p]? = some z ∧ x.lt z = true) ∨ (gq = false ∧ (a = 0 ∨ ∃ p z, a = p + 1 ∧ S[p]? = some z ∧ x.lt z = false))) := by
            cases a with
            | zero => exact ⟨false, .inr ⟨rfl, .inl rfl⟩⟩
            | succ p =>
              obtain ⟨z, hz⟩ : ∃ z, S[p]? = some z := ⟨_, List.getElem?_eq_getElem (by have := HSl.out; omega)⟩
              cases hq : x.lt z
              · exact ⟨false, .inr ⟨rfl, .inr ⟨p, _, rfl, hz, hq⟩⟩⟩
              · exact ⟨true, .inl ⟨rfl, p, _, rfl, hz, hq⟩⟩
          obtain ⟨gq, hgq⟩ := HDZ
          have HGQ := K.H.mk hgq
          have hown0 := hown
          go_upto_region 10 with fail
          go_cut [41] from 28 to 51 (fun v wx => v = .bool gq ∧ K.Bel wr wx)
          case first =>
            have q_0 : wr.cell? ⟨b, off + k * 2, none⟩ = some (.int .i64 x.t) := (Hb.out.cell (p := ⟨b, off + k * 2 + 0, none⟩) hbl).trans (HBC.out 0 (by omega))
            have q_1 : wr.cell? ⟨b, off + k * 2 + 1, none⟩ = some (.int .i64 x.id) := (Hb.out.cell (p := ⟨b, off + k * 2 + 1, none⟩) hbl).trans (HBC.out 1 (by omega))
            have hbw : b < wr.heap.size := Nat.lt_of_lt_of_le hbl hsz
            have hz : a = 0 ∨ ∃ p z, a = p + 1 ∧ S[p]? = some z ∧ x.lt z = gq := by
              rcases hgq with ⟨rfl, p, z, h1, h2, h3⟩ | ⟨rfl, h1 | ⟨p, z, h1, h2, h3⟩⟩
              · exact .inr ⟨p, z, h1, h2, h3⟩
              · exact .inl h1
              · exact .inr ⟨p, z, h1, h2, h3⟩
            rcases hz with h0 | ⟨p, z, rfl, hz, hxz⟩
            · have hg : gq = false := by
                rcases hgq with ⟨_, p, z, h1, _⟩ | ⟨h1, _⟩
                · omega
                · exact h1
              subst hg
              have d0 : decide ((0 : Int) < (a : Int)) = false := decide_eq_false (by omega)
              have d0n : decide (0 < a) = false := decide_eq_false (by omega)
              clear hgq h0 hak hown
              refine K.wp_region_ext_lit (by kernel_rfl) (by kernel_rfl) ?_
              repeat (any_goals (first | go_big_quiet_skip | quiet_step (fail) | (refine wpQuiet_step (fun K hK => ?_); go_simp; split <;> (refine hK _ ?_; clear hK K))))
              all_goals (refine wpQuiet_nil ?_; intro W9 hW9; obtain ⟨hB9, hC9, hF9, hZ9⟩ := K.ext_facts hW9; clear hW9)
              go_wp2_with fail
              go_meet
              exact ⟨rfl, hB9⟩
            · have hml := mid_len S (p + 1) y
              have hmz : (mid S (p + 1) y)[p]? = some z := by rw [mid_get (by omega) (by have := HSl.out; omega)]; exact hz
              have hc0 : wr.cell? ⟨g, p * 2, none⟩ = some (.int .i64 z.t) := by
                rw [hown.cellAt _ (by omega)]; have := Sl.flat_get Tm.cs_len _ p 0 z hmz (by omega); simpa [Tm.cs] using this
              have hc1 : wr.cell? ⟨g, p * 2 + 1, none⟩ = some (.int .i64 z.id) := by
                rw [hown.cellAt _ (by omega)]; have := Sl.flat_get Tm.cs_len _ p 1 z hmz (by omega); simpa [Tm.cs] using this
              have GH := K.H.mk (fun (W : World) => rAhead_c x z W)
              rw [hxz] at GH
              have d0 : decide ((0 : Int) < ((p + 1 : Nat) : Int)) = true := decide_eq_true (by omega)
              have d0n : decide (0 < p + 1) = true := decide_eq_true (by omega)
              have hpl : (p : Int) < ((k + 1 : Nat) : Int) := by omega
              have hp0 : (0 : Int) ≤ (p : Int) := by omega
              have hkl1 : (k : Int) < (l.length : Int) := by omega
              have hpl2 : (p : Int) < (k : Int) + 1 := by omega
              have hpl3 : p < k + 1 := by omega
              have hw1 : IntKind.i64.wrap (((p + 1 : Nat) : Int) - 1) = (p : Int) := by rw [K.i64_in (by omega) (by omega)]; omega
              have hw2 : IntKind.i64.wrap ((p : Int) + 1 - 1) = (p : Int) := by clear hw1; rw [K.i64_in (by omega) (by omega)]; omega
              have hw3 : IntKind.i64.wrap (p : Int) = (p : Int) := by clear hw1 hw2; exact K.i64_in (by omega) (by omega)
              clear hgq hz hxz hmz hml hak hown
              refine K.wp_region_ext_lit (by kernel_rfl) (by kernel_rfl) ?_
              repeat (any_goals (first | go_big_quiet_skip | quiet_step ((go_at_call 12; first | (with_reducible exact K.q_below (GH.out _)))) | (refine wpQuiet_step (fun K hK => ?_); go_simp; split <;> (refine hK _ ?_; clear hK K))))
              all_goals (refine wpQuiet_nil ?_; intro W9 hW9; obtain ⟨hB9, hC9, hF9, hZ9⟩ := K.ext_facts hW9; clear hW9)
              go_wp2_with fail
              go_meet
              exact ⟨rfl, hB9⟩
          case rest =>
          obtain ⟨rfl, hBc⟩ := hcut
          have Hbc := K.H.mk (Hb.out.trans (hBc.out.mono hsz))
          have q_0 : wc.cell? ⟨b, off + k * 2, none⟩ = some (.int .i64 x.t) := (Hbc.out.cell (p := ⟨b, off + k * 2 + 0, none⟩) hbl).trans (HBC.out 0 (by omega))
          have q_1 : wc.cell? ⟨b, off + k * 2 + 1, none⟩ = some (.int .i64 x.id) := (Hbc.out.cell (p := ⟨b, off + k * 2 + 1, none⟩) hbl).trans (HBC.out 1 (by omega))
          have hbw : b < wc.heap.size := Nat.lt_of_lt_of_le hbl Hbc.out.size
          have hownc := Sl.own_over hown0 hBc
          have hgl2 : g < wc.heap.size := (hownc.lt g rfl).2
          have hml := mid_len S a y
          have hf0 := hownc.frozenAt (a * 2)
          have hf1 := hownc.frozenAt (a * 2 + 1)
          have hme : (mid S a y)[a]? = some y := mid_at (by have := HSl.out; omega) y
          have hu0 : wc.cell? ⟨g, a * 2, none⟩ = some (.int .i64 y.t) := by
            rw [hownc.cellAt _ (by have := HSl.out; omega)]; have := Sl.flat_get Tm.cs_len _ a 0 y hme (by omega); simpa [Tm.cs] using this
          have hu1 : wc.cell? ⟨g, a * 2 + 1, none⟩ = some (.int .i64 y.id) := by
            rw [hownc.cellAt _ (by have := HSl.out; omega)]; have := Sl.flat_get Tm.cs_len _ a 1 y hme (by omega); simpa [Tm.cs] using this
          have haI : (a : Int) < ((k + 1 : Nat) : Int) := by omega
          have ha0 : (0 : Int) ≤ (a : Int) := by omega
          clear hown hown0 hgl Hb hsz
          cases gq
          · have hle9 : a = 0 ∨ ∃ z, S[a - 1]? = some z ∧ z.le x = true := by
              rcases HGQ.out with ⟨h1, _⟩ | ⟨_, h1 | ⟨p, z, rfl, h2, h3⟩⟩
              · cases h1
              · exact .inl h1
              · exact .inr ⟨z, h2, (le_lt _ _).2 h3⟩
            have HM := K.H.mk (show sortT (l.take (k + 1)) = mid S a x by
              rw [HX.out]; exact mid_sort HS.out hle9 (by have := HSl.out; omega) (fun z hz => lt_le (HD.out z hz)))
            have HO := K.H.mk (own_put (k := a) x hownc)
            rw [mid_set (by have := HSl.out; omega)] at HO
            have hmx := K.H.mk (mid_len S a x)
            clear hgq hle9 hml hme hownc
            go_wp2
            go_roundw
            case rel =>
              have h9 := HSl.out
              exact ⟨k + 1, mid S a x, some ⟨g, 0, none⟩, cap, by omega, by go_num, rfl, by rw [hmx.out]; omega, ⟨HM.out.symm⟩, HO.out, ⟨(Hbc.out.setCell (p := ⟨g, a * 2, none⟩) hgb6 _).setCell (p := ⟨g, a * 2 + 1, none⟩) hgb6 _⟩⟩
            case measure => simp [intOf]; omega
          · have hpz : ∃ p z, a = p + 1 ∧ S[p]? = some z ∧ x.lt z = true := by
              rcases HGQ.out with ⟨_, h1⟩ | ⟨h1, _⟩
              · exact h1
              · cases h1
            obtain ⟨p, z, rfl, hz, hxz⟩ := hpz
            have hmz : (mid S (p + 1) y)[p]? = some z := by rw [mid_get (by omega) (by have := HSl.out; omega)]; exact hz
            have hc0 : wc.cell? ⟨g, p * 2, none⟩ = some (.int .i64 z.t) := by
              rw [hownc.cellAt _ (by omega)]; have := Sl.flat_get Tm.cs_len _ p 0 z hmz (by omega); simpa [Tm.cs] using this
            have hc1 : wc.cell? ⟨g, p * 2 + 1, none⟩ = some (.int .i64 z.id) := by
              rw [hownc.cellAt _ (by omega)]; have := Sl.flat_get Tm.cs_len _ p 1 z hmz (by omega); simpa [Tm.cs] using this
            have HD2 := K.H.mk (show ∀ u ∈ S.drop p, x.lt u = true by
              rw [drop_at hz]
              intro u hu
              rcases List.mem_cons.1 hu with rfl | hu
              · exact hxz
              · exact HD.out u hu)
            have HO := K.H.mk (own_put (k := p + 1) z hownc)
            rw [mid_step hz y] at HO
            have hpl : (p : Int) < ((k + 1 : Nat) : Int) := by omega
            have hp0 : (0 : Int) ≤ (p : Int) := by omega
            have HAK := K.H.mk hak
            have hw1 : IntKind.i64.wrap (((p + 1 : Nat) : Int) - 1) = (p : Int) := by rw [K.i64_in (by omega) (by omega)]; omega
            have hw2 : IntKind.i64.wrap ((p : Int) + 1 - 1) = (p : Int) := by clear hw1; rw [K.i64_in (by omega) (by omega)]; omega
            have hw3 : IntKind.i64.wrap (p : Int) = (p : Int) := by clear hw1 hw2; exact K.i64_in (by omega) (by omega)
            clear hgq hz hxz hmz hml hme hownc hak
            go_wp2
            go_roundw
            case rel =>
              clear hw1 hw2 hw3
              exact ⟨p, z, by simp, by have := HAK.out; omega, HO.out, HD2, ⟨(Hbc.out.setCell (p := ⟨g, (p + 1) * 2, none⟩) hgb6 _).setCell (p := ⟨g, (p + 1) * 2 + 1, none⟩) hgb6 _⟩⟩
            case measure => clear hw1 hw2 hw3; simp [intOf]
      · obtain rfl : k = l.length := by omega
        have hRe : S = sortT l := by rw [HS.out, List.take_length]
        go_wp2
        go_ret2
        exact ⟨_, rfl, by rw [← hRe, hSl]; exact hown, Hb.out⟩
  · have hd : (eChk l != 0) = true := by simpa using h
    rw [show rOrd l = (eChk l, []) by unfold rOrd; rw [if_neg h]]
    generalize eChk l = er at *
    clear hr h
    go_enter Try.func22, Try.ntmps22
    go_wp2_with (first | (go_at_call 26; (with_reducible refine (GC.out _ (by repeat (first | (with_reducible exact Below.refl _ _) | (with_reducible refine K.b_bel ?_ (by assumption)) | (with_reducible refine K.b_alloc ?_ _) | (with_reducible refine K.b_drewN ?_ _) | (with_reducible refine K.b_drew ?_) | (with_reducible refine K.b_set ?_ (by first | omega | (simp <;> omega)) _) | (with_reducible refine K.b_only ?_ (by assumption) (by first | omega | (simp <;> omega)))))).mono ?_); rintro e W1 ⟨rfl, hb1⟩; obtain ⟨hB1, hC1, hF1, hZ1⟩ := K.bel_facts hb1; clear hb1))
    go_ret2
    exact TPost.bad (by repeat (first | (with_reducible exact Below.refl _ _) | (with_reducible refine K.b_bel ?_ (by assumption)) | (with_reducible refine K.b_alloc ?_ _) | (with_reducible refine K.b_drewN ?_ _) | (with_reducible refine K.b_drew ?_) | (with_reducible refine K.b_set ?_ (by first | omega | (simp <;> omega)) _) | (with_reducible refine K.b_only ?_ (by assumption) (by first | omega | (simp <;> omega)))))
end Go.Proofs.Ytmoaekjkihbicaa.Tm
