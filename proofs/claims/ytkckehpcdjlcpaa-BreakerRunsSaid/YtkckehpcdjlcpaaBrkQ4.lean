/- The reference's Run, where nothing is refused. -/
import Derived.Test.YtkckehpcdjlcpaaBrkQ3
import Derived.Test.YtkckehpcdjlcpaaKs
import Derived.Deep.CutBlock
import Derived.Deep.RegionWith
namespace Go.Proofs.Ytkckehpcdjlcpaa.Brk
open Go.RowKit Go.Proofs.Ytkckehpcdjlcpaa
attribute [local go_sem] K.max2_int K.min2_int K.max_two K.min_two K.max_three K.min_three
set_option linter.unusedVariables false
set_option linter.unusedSimpArgs false
theorem ticks_rise {xs : List Act} (h : srt xs = true) (h2 : Sl.anyOf badTick xs = false) {k : Nat} {x : Act} (hx : xs[k]? = some x) : ∀ t, (k = 0 → t = 0) → (∀ y, 0 < k → xs[k - 1]? = some y → t = y.tick) → t ≤ x.tick := by
  intro t h0 h1
  cases k with
  | zero =>
    have := Sl.anyOf_false h2 x (List.mem_of_getElem? hx)
    simp [badTick, inB] at this
    rw [h0 rfl]; omega
  | succ k =>
    have hk := (List.getElem?_eq_some_iff.1 hx).1
    obtain ⟨y, hy⟩ : ∃ y, xs[k]? = some y := ⟨_, List.getElem?_eq_getElem (by omega)⟩
    rw [h1 y (by omega) (by simpa using hy)]
    exact (srt_iff xs).1 h k y x hy hx
set_option maxRecDepth 100000 in
set_option maxHeartbeats 8000000 in
theorem rRun_ok (s : S) (xs : List Act) (A : Option Addr) (n c : Nat) (w : World) (hr : Sl.Rds w 4 A n (xs.flatMap Act.cs)) (he : eRun s xs = 0) :
    Calls Try.prog 17 #[s.a, .slice A n c] w (RunPost w (runs s xs).1 (runs s xs).2 0) := by
  obtain rfl := hr.length (fun _ => rfl) (by omega)
  have hle := hr.le
  have Hr := K.H.mk hr
  have He := K.H.mk he
  have hz := eRun_0 he
  have Hs := K.H.mk hz.2.2.1
  have HC : ∀ W, Calls Try.prog 25 #[s.a] W fun e w' => e = .returned (.bool true) ∧ Below W.heap.size W w' := fun W => by
    have h2 := rsets_c s W
    rw [hz.2.2.1] at h2; exact h2
  have GC := K.H.mk HC
  have hc5 : (xs.length : Int) ≤ 512 := by omega
  clear hr he hz HC
  go_enter Try.func17, Try.ntmps17
  go_wp2
  refine K.wp_gen (fun W => K.At W w.heap.size 25 #[.int .i64 s.fails, .int .i64 s.opn, .int .i64 s.probes] ∧ K.At W (w.heap.size + 1) 23 #[.int .i64 0, .int .i64 0, .int .i64 0, .int .i64 0, .int .i64 0] ∧ Below w.heap.size w W) ⟨(by refine K.At.cast (by repeat (first | (with_reducible refine K.At.new' _ _ _ _ (by first | rfl | (simp; done) | omega)) | (with_reducible apply K.At.set) | (with_reducible apply K.At.alloc) | (with_reducible apply K.At.drewN) | (with_reducible apply K.At.drew) | (with_reducible apply K.At.far) | omega | (simp <;> omega))) ?_; rfl), (by refine K.At.cast (by repeat (first | (with_reducible refine K.At.new' _ _ _ _ (by first | rfl | (simp; done) | omega)) | (with_reducible apply K.At.set) | (with_reducible apply K.At.alloc) | (with_reducible apply K.At.drewN) | (with_reducible apply K.At.drew) | (with_reducible apply K.At.far) | omega | (simp <;> omega))) ?_; rfl), (by repeat (first | (with_reducible exact Below.refl _ _) | (with_reducible refine K.b_bel ?_ (by assumption)) | (with_reducible refine K.b_alloc ?_ _) | (with_reducible refine K.b_drewN ?_ _) | (with_reducible refine K.b_drew ?_) | (with_reducible refine K.b_set ?_ (by first | omega | (simp <;> omega)) _) | (with_reducible refine K.b_only ?_ (by assumption) (by first | omega | (simp <;> omega)))))⟩ ?_
  rintro W1 ⟨hS, hP, hb1⟩
  have Hb1 := K.H.mk hb1
  clear hb1
  go_loop [7] (fun i => ∃ k : Nat, k ≤ xs.length ∧ i = .int .i64 k) (fun i => xs.length - (intOf i).toNat)
  case atStart => exact ⟨0, by omega, rfl⟩
  case round =>
    obtain ⟨k, hk, rfl⟩ := hrel
    by_cases hlt : k < xs.length
    · obtain ⟨x, hx⟩ : ∃ x, xs[k]? = some x := ⟨_, List.getElem?_eq_getElem hlt⟩
      obtain ⟨b, off, rfl, hbl, hbc⟩ := Sl.Rds.elem Hr.out Act.cs_len (by omega) hx
      have q_0 : W1.cell? ⟨b, off + k * 4, none⟩ = some (.int .i64 x.what) := (Hb1.out.cell (p := ⟨b, off + k * 4 + 0, none⟩) hbl).trans (hbc 0 (by omega))
      have q_1 : W1.cell? ⟨b, off + k * 4 + 1, none⟩ = some (.int .i64 x.tick) := (Hb1.out.cell (p := ⟨b, off + k * 4 + 1, none⟩) hbl).trans (hbc 1 (by omega))
      have q_2 : W1.cell? ⟨b, off + k * 4 + 2, none⟩ = some (.bool x.probe) := (Hb1.out.cell (p := ⟨b, off + k * 4 + 2, none⟩) hbl).trans (hbc 2 (by omega))
      have q_3 : W1.cell? ⟨b, off + k * 4 + 3, none⟩ = some (.bool x.good) := (Hb1.out.cell (p := ⟨b, off + k * 4 + 3, none⟩) hbl).trans (hbc 3 (by omega))
      clear hbc
      have hbw : b < W1.heap.size := Nat.lt_of_lt_of_le hbl Hb1.out.size
      have hkx : badKind x = false := Sl.anyOf_false (eRun_0 He.out).1 x (List.mem_of_getElem? hx)
      have hk1 : decide (x.what < 1) = false := by simp [badKind, inB] at hkx; simp; omega
      have hk3 : decide (3 < x.what) = false := by simp [badKind, inB] at hkx; simp; omega
      clear hx hkx
      go_wp2
      go_round
      case rel => exact ⟨k + 1, by omega, by go_num⟩
      case measure => simp [intOf]; omega
    · obtain rfl : k = xs.length := by omega
      have hcd : decide ((512 : Int) < (xs.length : Int)) = false := by simp; omega
      go_wp2
      clear hcd
      go_loop [8, 9] (fun last i => ∃ (k : Nat) (t : Int), k ≤ xs.length ∧ i = .int .i64 k ∧ last = .int .i64 t ∧ K.H ((k = 0 → t = 0) ∧ (∀ y, 0 < k → xs[k - 1]? = some y → t = y.tick))) (fun _ i => xs.length - (intOf i).toNat)
      case atStart => exact ⟨0, 0, by omega, rfl, rfl, ⟨fun _ => rfl, fun _ h => by omega⟩⟩
      case round =>
        obtain ⟨k, t, hk, rfl, rfl, Ho⟩ := hrel
        by_cases hlt : k < xs.length
        · obtain ⟨x, hx⟩ : ∃ x, xs[k]? = some x := ⟨_, List.getElem?_eq_getElem hlt⟩
          obtain ⟨b, off, rfl, hbl, hbc⟩ := Sl.Rds.elem Hr.out Act.cs_len (by omega) hx
          have q_0 : W1.cell? ⟨b, off + k * 4, none⟩ = some (.int .i64 x.what) := (Hb1.out.cell (p := ⟨b, off + k * 4 + 0, none⟩) hbl).trans (hbc 0 (by omega))
          have q_1 : W1.cell? ⟨b, off + k * 4 + 1, none⟩ = some (.int .i64 x.tick) := (Hb1.out.cell (p := ⟨b, off + k * 4 + 1, none⟩) hbl).trans (hbc 1 (by omega))
          have q_2 : W1.cell? ⟨b, off + k * 4 + 2, none⟩ = some (.bool x.probe) := (Hb1.out.cell (p := ⟨b, off + k * 4 + 2, none⟩) hbl).trans (hbc 2 (by omega))
          have q_3 : W1.cell? ⟨b, off + k * 4 + 3, none⟩ = some (.bool x.good) := (Hb1.out.cell (p := ⟨b, off + k * 4 + 3, none⟩) hbl).trans (hbc 3 (by omega))
          clear hbc
          have hbw : b < W1.heap.size := Nat.lt_of_lt_of_le hbl Hb1.out.size
          have hz := eRun_0 He.out
          have ht := ticks_rise hz.2.2.2.2 hz.2.2.2.1 hx t Ho.out.1 Ho.out.2
          have htx := Sl.anyOf_false hz.2.2.2.1 x (List.mem_of_getElem? hx)
          have hd1 : decide (x.tick < t) = false := by simp; omega
          have hd3 : decide (536870912 < x.tick) = false := by simp [badTick, inB] at htx; simp; omega
          have Hx := K.H.mk hx
          clear hx htx hz ht
          go_wp2
          go_round
          case rel =>
            refine ⟨k + 1, x.tick, by omega, by go_num, rfl, ⟨fun h => by omega, fun y _ hy => ?_⟩⟩
            have h1 := Hx.out
            rw [show k + 1 - 1 = k by omega, h1] at hy
            cases hy; rfl
          case measure => simp [intOf]; omega
        · obtain rfl : k = xs.length := by omega
          clear Ho
          obtain ⟨hc7, hf7, hl7⟩ := K.At.facts hS
          go_wp2_with (first | (go_at_call 25; (with_reducible refine (GC.out _).mono ?_); rintro e W2 ⟨rfl, hb2⟩; obtain ⟨hB2, hC2, hF2, hZ2⟩ := K.bel_facts hb2; clear hb2))
          refine K.wp_gen (fun W => ∃ g, w.heap.size + 1 < g ∧ g = W2.heap.size ∧ K.At W g 23 #[.int .i64 0, .int .i64 0, .int .i64 0, .int .i64 0, .int .i64 0] ∧ K.At W (w.heap.size + 1) 23 #[.int .i64 0, .int .i64 0, .int .i64 0, .int .i64 0, .int .i64 0] ∧ K.At W w.heap.size 25 #[.int .i64 s.fails, .int .i64 s.opn, .int .i64 s.probes] ∧ Below w.heap.size w W) ⟨W2.heap.size, by have := hP.lt; omega, rfl, K.At.new _ _ _, (K.At.over hB2 hP).alloc _, (K.At.over hB2 hS).alloc _, (by repeat (first | (with_reducible exact Below.refl _ _) | (with_reducible exact Hb1.out) | (with_reducible refine K.b_bel ?_ (by assumption)) | (with_reducible refine K.b_alloc ?_ _) | (with_reducible refine K.b_drewN ?_ _) | (with_reducible refine K.b_drew ?_) | (with_reducible refine K.b_set ?_ (by first | omega | (simp <;> omega)) _) | (with_reducible refine K.b_only ?_ (by assumption) (by first | omega | (simp <;> omega)))))⟩ ?_
          rintro W3 ⟨g, hg, hge, hG, hP3, hS3, hb3⟩
          rw [← hge]
          have Hb3 := K.H.mk hb3
          clear hge hb3 GC hP hS hB2 hC2 hF2 hZ2 hc7 hf7 hl7
          go_loopw [11, 12] (fun v i wr => ∃ k : Nat, k ≤ xs.length ∧ i = .int .i64 k ∧ wr.ownsRow w.heap.size 3 1 v k ((runs s (xs.take k)).2.map (Value.int .i64)) ∧ K.At wr g 23 #[.int .i64 (runs s (xs.take k)).1.mode, .int .i64 (runs s (xs.take k)).1.fails, .int .i64 (runs s (xs.take k)).1.til, .int .i64 (runs s (xs.take k)).1.probes, .int .i64 (runs s (xs.take k)).1.wins] ∧ K.At wr (w.heap.size + 1) 23 #[.int .i64 0, .int .i64 0, .int .i64 0, .int .i64 0, .int .i64 0] ∧ K.At wr w.heap.size 25 #[.int .i64 s.fails, .int .i64 s.opn, .int .i64 s.probes] ∧ K.H (Below w.heap.size w wr)) (fun _ i _ => xs.length - (intOf i).toNat)
          case atStart => exact ⟨0, by omega, rfl, World.ownsRow_nil _ _ _ _, hG, hP3, hS3, Hb3⟩
          case round =>
            clear hG hP3 hS3 Hb3 Hb1
            obtain ⟨k, hk, rfl, hown, hG, hP, hS, Hb⟩ := hrel
            by_cases hlt : k < xs.length
            · obtain ⟨x, hx⟩ : ∃ x, xs[k]? = some x := ⟨_, List.getElem?_eq_getElem hlt⟩
              have hz := eRun_0 He.out
              have hkx : badKind x = false := Sl.anyOf_false hz.1 x (List.mem_of_getElem? hx)
              have hall : ∀ x ∈ xs, 0 ≤ x.tick ∧ x.tick ≤ 536870912 := fun y hy => by have := Sl.anyOf_false hz.2.2.2.1 y hy; simp [badTick, inB] at this; omega
              have htx := hall x (List.mem_of_getElem? hx)
              have Hsn := K.H.mk (runs_take (s := s) hx)
              have hi := runs_inv Hs.out hall k
              have hch : chk (runs s (xs.take k)).1 s x.tick = 0 := chk_zero.2 ⟨Hs.out, htx, inv_state Hs.out hi⟩
              clear hi hall hz
              generalize runs s (xs.take k) = r at hown hG Hsn hch
              obtain ⟨b, off, rfl, hbl, hbc⟩ := Sl.Rds.elem Hr.out Act.cs_len (by omega) hx
              have q_0 : wr.cell? ⟨b, off + k * 4, none⟩ = some (.int .i64 x.what) := (Hb.out.cell (p := ⟨b, off + k * 4 + 0, none⟩) hbl).trans (hbc 0 (by omega))
              have q_1 : wr.cell? ⟨b, off + k * 4 + 1, none⟩ = some (.int .i64 x.tick) := (Hb.out.cell (p := ⟨b, off + k * 4 + 1, none⟩) hbl).trans (hbc 1 (by omega))
              have q_2 : wr.cell? ⟨b, off + k * 4 + 2, none⟩ = some (.bool x.probe) := (Hb.out.cell (p := ⟨b, off + k * 4 + 2, none⟩) hbl).trans (hbc 2 (by omega))
              have q_3 : wr.cell? ⟨b, off + k * 4 + 3, none⟩ = some (.bool x.good) := (Hb.out.cell (p := ⟨b, off + k * 4 + 3, none⟩) hbl).trans (hbc 3 (by omega))
              clear hbc
              have hbw : b < wr.heap.size := Nat.lt_of_lt_of_le hbl Hb.out.size
              have hbw1 := hP.lt
              obtain ⟨hc5, hf5, hl5⟩ := K.At.facts hG
              obtain ⟨hc6, hf6, hl6⟩ := K.At.facts hP
              obtain ⟨hc4, hf4, hl4⟩ := K.At.facts hS
              clear hx
              have hq := Sl.own_ne hown hG (by decide)
              have hqp := Sl.own_ne hown hP (by decide)
              have hqs := Sl.own_ne hown hS (by decide)
              have hgl := hG.lt
              have hzw := Hb.out.size
              have hk3 : x.what = 1 ∨ x.what = 2 ∨ x.what = 3 := by simp [badKind, inB] at hkx; omega
              have Hch := K.H.mk hch
              clear hkx hch
              have hki : (k : Int) < (xs.length : Int) := by omega
              go_upto_region 22 with fail
              go_cut [13, 14] from 74 to 130 (fun s13 s14 wx => s13 = .pointer (some ⟨wr.heap.size, 0, none⟩) ∧ s14 = .int .i64 0 ∧ K.At wx wr.heap.size 49 #[.int .i64 x.what, .int .i64 x.tick, .bool x.probe, .bool x.good] ∧ K.At wx g 23 #[.int .i64 r.1.mode, .int .i64 r.1.fails, .int .i64 r.1.til, .int .i64 r.1.probes, .int .i64 r.1.wins] ∧ K.At wx (w.heap.size + 1) 23 #[.int .i64 0, .int .i64 0, .int .i64 0, .int .i64 0, .int .i64 0] ∧ K.At wx w.heap.size 25 #[.int .i64 s.fails, .int .i64 s.opn, .int .i64 s.probes] ∧ wx.ownsRow w.heap.size 3 1 u11 k (r.2.map (Value.int .i64)) ∧ Below w.heap.size w wx)
              case first =>
                go_wp2_with fail
                go_meet
                exact ⟨rfl, rfl, K.At.new _ _ _, hG.alloc _, hP.alloc _, hS.alloc _, hown.alloc _, (by repeat (first | (with_reducible exact Below.refl _ _) | (with_reducible exact Hb.out) | (with_reducible refine K.b_bel ?_ (by assumption)) | (with_reducible refine K.b_alloc ?_ _) | (with_reducible refine K.b_drewN ?_ _) | (with_reducible refine K.b_drew ?_) | (with_reducible refine K.b_set ?_ (by first | omega | (simp <;> omega)) _) | (with_reducible refine K.b_only ?_ (by assumption) (by first | omega | (simp <;> omega)))))⟩
              case rest =>
              obtain ⟨rfl, rfl, hT6, hG6, hP6, hS6, hown6, hb6⟩ := hcut
              have hB6 := K.H.mk hb6
              have hz6 := hb6.size
              have hgw : w.heap.size + 1 < g := hg
              have htg : wr.heap.size ≠ g := by omega
              have hpg : w.heap.size + 1 ≠ g := by omega
              have hsg : w.heap.size ≠ g := by omega
              have hgn : g ≠ wr.heap.size := by omega
              clear hown hG hP hS Hb hb6 q_0 q_1 q_2 q_3 hc5 hf5 hl5 hc6 hf6 hl6 hc4 hf4 hl4 hbl hbw hbw1
              obtain ⟨b2, o, hE⟩ : ∃ (b2 : B) (o : Int), act r.1 s x = (b2, o) := ⟨_, _, rfl⟩
              have E := K.H.mk hE
              obtain ⟨hc1, hf1, hl1⟩ := K.At.facts hT6
              obtain ⟨hc2, hf2, hl2⟩ := K.At.facts hG6
              obtain ⟨hc3, hf3, hl3⟩ := K.At.facts hS6
              clear hE
              go_upto_block 6 with fail
              go_cut [14] from 74 to 130 (fun s14 wx => s14 = .int .i64 o ∧ K.At wx g 23 #[.int .i64 b2.mode, .int .i64 b2.fails, .int .i64 b2.til, .int .i64 b2.probes, .int .i64 b2.wins] ∧ K.At wx (w.heap.size + 1) 23 #[.int .i64 0, .int .i64 0, .int .i64 0, .int .i64 0, .int .i64 0] ∧ K.At wx w.heap.size 25 #[.int .i64 s.fails, .int .i64 s.opn, .int .i64 s.probes] ∧ wx.ownsRow w.heap.size 3 1 u11 k (r.2.map (Value.int .i64)) ∧ Below w.heap.size w wx)
              case first =>
                clear Hsn
                rcases hk3 with h1 | h2 | h3
                · have hb1 : (x.what == 1) = true := by simpa using h1
                  have e0 := E.out
                  rw [act_1 h1] at e0
                  have HC : ∀ W, Calls Try.prog 32 #[r.1.a, s.a, .int .i64 x.tick] W fun e w' => e = .returned (.tuple #[b2.a, .int .i64 0]) ∧ Below W.heap.size W w' := fun W => by
                    rw [← (Prod.mk.inj e0).1]; exact rtick_c r.1 s x.tick W Hch.out
                  have ho := K.H.mk (Prod.mk.inj e0).2
                  have GC := K.H.mk HC
                  clear HC h1 e0 E
                  go_wp2_with (first | (go_at_call 32; (with_reducible refine (GC.out _).mono ?_); rintro e W7 ⟨rfl, hb7⟩; obtain ⟨hB7, hC7, hF7, hZ7⟩ := K.bel_facts hb7; clear hb7))
                  go_meet
                  exact ⟨by rw [ho.out], (by refine K.At.cast (by repeat (first | (with_reducible exact hG6) | (with_reducible refine K.At.new' _ _ _ _ (by first | rfl | (simp; done) | omega)) | (with_reducible apply K.At.over hB7) | (with_reducible apply K.At.set) | (with_reducible apply K.At.alloc) | (with_reducible apply K.At.drewN) | (with_reducible apply K.At.drew) | (with_reducible apply K.At.far) | omega | (simp <;> omega))) ?_; rfl), (by refine K.At.cast (by repeat (first | (with_reducible exact hP6) | (with_reducible refine K.At.new' _ _ _ _ (by first | rfl | (simp; done) | omega)) | (with_reducible apply K.At.over hB7) | (with_reducible apply K.At.set) | (with_reducible apply K.At.alloc) | (with_reducible apply K.At.drewN) | (with_reducible apply K.At.drew) | (with_reducible apply K.At.far) | omega | (simp <;> omega))) ?_; rfl), (by refine K.At.cast (by repeat (first | (with_reducible exact hS6) | (with_reducible refine K.At.new' _ _ _ _ (by first | rfl | (simp; done) | omega)) | (with_reducible apply K.At.over hB7) | (with_reducible apply K.At.set) | (with_reducible apply K.At.alloc) | (with_reducible apply K.At.drewN) | (with_reducible apply K.At.drew) | (with_reducible apply K.At.far) | omega | (simp <;> omega))) ?_; rfl), (by repeat (first | (with_reducible exact hown6) | (with_reducible refine Sl.own_over ?_ hB7) | (with_reducible refine Sl.own_set ?_ hq _) | (with_reducible refine World.ownsRow.alloc ?_ _))), (by repeat (first | (with_reducible exact Below.refl _ _) | (with_reducible exact hB6.out) | (with_reducible refine K.b_bel ?_ (by assumption)) | (with_reducible refine K.b_alloc ?_ _) | (with_reducible refine K.b_drewN ?_ _) | (with_reducible refine K.b_drew ?_) | (with_reducible refine K.b_set ?_ (by first | omega | (simp <;> omega)) _) | (with_reducible refine K.b_only ?_ (by assumption) (by first | omega | (simp <;> omega)))))⟩
                · have hb1 : (x.what == 1) = false := by simp [h2]
                  have hb2 : (x.what == 2) = true := by simpa using h2
                  have e0 := E.out
                  have hc := Hch.out
                  cases ha : allows r.1 s
                  · rw [act_no (by omega) (by omega) ha] at e0
                    have ho := K.H.mk (Prod.mk.inj e0).2
                    have hbb := (Prod.mk.inj e0).1
                    have GC := K.H.mk (show ∀ W, Calls Try.prog 33 #[r.1.a, s.a, .int .i64 x.tick] W fun e w' => e = .returned (.tuple #[.agg #[.int .i64 0, .int .i64 0, .int .i64 0, .int .i64 0, .int .i64 0], .bool false, .int .i64 9]) ∧ Below W.heap.size W w' from fun W => by
                      have := rbegin_c r.1 s x.tick W hc
                      rw [← begin_no hc ha] at this; exact this)
                    subst hbb
                    clear h2 e0 E hc ha
                    go_wp2_with (first | (go_at_call 33; (with_reducible refine (GC.out _).mono ?_); rintro e W7 ⟨rfl, hb7⟩; obtain ⟨hB7, hC7, hF7, hZ7⟩ := K.bel_facts hb7; clear hb7; have hg7 : g ≠ W7.heap.size := (by have := hG6.lt; omega); have hg7b : W7.heap.size ≠ g := (by omega); have hG7 := K.At.over hB7 hG6; obtain ⟨hc8, hf8, hl8⟩ := K.At.facts hG7))
                    go_meet
                    exact ⟨by rw [ho.out], (by refine K.At.cast (by repeat (first | (with_reducible exact hG6) | (with_reducible refine K.At.new' _ _ _ _ (by first | rfl | (simp; done) | omega)) | (with_reducible apply K.At.over hB7) | (with_reducible apply K.At.set) | (with_reducible apply K.At.alloc) | (with_reducible apply K.At.drewN) | (with_reducible apply K.At.drew) | (with_reducible apply K.At.far) | omega | (simp <;> omega))) ?_; rfl), (by refine K.At.cast (by repeat (first | (with_reducible exact hP6) | (with_reducible refine K.At.new' _ _ _ _ (by first | rfl | (simp; done) | omega)) | (with_reducible apply K.At.over hB7) | (with_reducible apply K.At.set) | (with_reducible apply K.At.alloc) | (with_reducible apply K.At.drewN) | (with_reducible apply K.At.drew) | (with_reducible apply K.At.far) | omega | (simp <;> omega))) ?_; rfl), (by refine K.At.cast (by repeat (first | (with_reducible exact hS6) | (with_reducible refine K.At.new' _ _ _ _ (by first | rfl | (simp; done) | omega)) | (with_reducible apply K.At.over hB7) | (with_reducible apply K.At.set) | (with_reducible apply K.At.alloc) | (with_reducible apply K.At.drewN) | (with_reducible apply K.At.drew) | (with_reducible apply K.At.far) | omega | (simp <;> omega))) ?_; rfl), (by repeat (first | (with_reducible exact hown6) | (with_reducible refine Sl.own_over ?_ hB7) | (with_reducible refine Sl.own_set ?_ hq _) | (with_reducible refine World.ownsRow.alloc ?_ _))), (by repeat (first | (with_reducible exact Below.refl _ _) | (with_reducible exact hB6.out) | (with_reducible refine K.b_bel ?_ (by assumption)) | (with_reducible refine K.b_alloc ?_ _) | (with_reducible refine K.b_drewN ?_ _) | (with_reducible refine K.b_drew ?_) | (with_reducible refine K.b_set ?_ (by first | omega | (simp <;> omega)) _) | (with_reducible refine K.b_only ?_ (by assumption) (by first | omega | (simp <;> omega)))))⟩
                  · by_cases hm : r.1.mode = 2
                    · rw [act_half (by omega) (by omega) ha hm] at e0
                      have ho := K.H.mk (Prod.mk.inj e0).2
                      have hbb := (Prod.mk.inj e0).1
                      have GC := K.H.mk (show ∀ W, Calls Try.prog 33 #[r.1.a, s.a, .int .i64 x.tick] W fun e w' => e = .returned (.tuple #[.agg #[.int .i64 r.1.mode, .int .i64 r.1.fails, .int .i64 r.1.til, .int .i64 (r.1.probes + 1), .int .i64 r.1.wins], .bool true, .int .i64 0]) ∧ Below W.heap.size W w' from fun W => by
                        have := rbegin_c r.1 s x.tick W hc
                        rw [← begin_half hc ha hm] at this; exact this)
                      subst hbb
                      clear h2 e0 E hc ha hm
                      go_wp2_with (first | (go_at_call 33; (with_reducible refine (GC.out _).mono ?_); rintro e W7 ⟨rfl, hb7⟩; obtain ⟨hB7, hC7, hF7, hZ7⟩ := K.bel_facts hb7; clear hb7; have hg7 : g ≠ W7.heap.size := (by have := hG6.lt; omega); have hg7b : W7.heap.size ≠ g := (by omega); have hG7 := K.At.over hB7 hG6; obtain ⟨hc8, hf8, hl8⟩ := K.At.facts hG7))
                      go_meet
                      exact ⟨by rw [ho.out], (by refine K.At.cast (by repeat (first | (with_reducible exact hG6) | (with_reducible refine K.At.new' _ _ _ _ (by first | rfl | (simp; done) | omega)) | (with_reducible apply K.At.over hB7) | (with_reducible apply K.At.set) | (with_reducible apply K.At.alloc) | (with_reducible apply K.At.drewN) | (with_reducible apply K.At.drew) | (with_reducible apply K.At.far) | omega | (simp <;> omega))) ?_; rfl), (by refine K.At.cast (by repeat (first | (with_reducible exact hP6) | (with_reducible refine K.At.new' _ _ _ _ (by first | rfl | (simp; done) | omega)) | (with_reducible apply K.At.over hB7) | (with_reducible apply K.At.set) | (with_reducible apply K.At.alloc) | (with_reducible apply K.At.drewN) | (with_reducible apply K.At.drew) | (with_reducible apply K.At.far) | omega | (simp <;> omega))) ?_; rfl), (by refine K.At.cast (by repeat (first | (with_reducible exact hS6) | (with_reducible refine K.At.new' _ _ _ _ (by first | rfl | (simp; done) | omega)) | (with_reducible apply K.At.over hB7) | (with_reducible apply K.At.set) | (with_reducible apply K.At.alloc) | (with_reducible apply K.At.drewN) | (with_reducible apply K.At.drew) | (with_reducible apply K.At.far) | omega | (simp <;> omega))) ?_; rfl), (by repeat (first | (with_reducible exact hown6) | (with_reducible refine Sl.own_over ?_ hB7) | (with_reducible refine Sl.own_set ?_ hq _) | (with_reducible refine World.ownsRow.alloc ?_ _))), (by repeat (first | (with_reducible exact Below.refl _ _) | (with_reducible exact hB6.out) | (with_reducible refine K.b_bel ?_ (by assumption)) | (with_reducible refine K.b_alloc ?_ _) | (with_reducible refine K.b_drewN ?_ _) | (with_reducible refine K.b_drew ?_) | (with_reducible refine K.b_set ?_ (by first | omega | (simp <;> omega)) _) | (with_reducible refine K.b_only ?_ (by assumption) (by first | omega | (simp <;> omega)))))⟩
                    · rw [act_shut (by omega) (by omega) ha hm] at e0
                      have ho := K.H.mk (Prod.mk.inj e0).2
                      have hbb := (Prod.mk.inj e0).1
                      have GC := K.H.mk (show ∀ W, Calls Try.prog 33 #[r.1.a, s.a, .int .i64 x.tick] W fun e w' => e = .returned (.tuple #[r.1.a, .bool false, .int .i64 0]) ∧ Below W.heap.size W w' from fun W => by
                        have := rbegin_c r.1 s x.tick W hc
                        rw [← begin_shut hc ha hm] at this; exact this)
                      subst hbb
                      clear h2 e0 E hc ha hm
                      go_wp2_with (first | (go_at_call 33; (with_reducible refine (GC.out _).mono ?_); rintro e W7 ⟨rfl, hb7⟩; obtain ⟨hB7, hC7, hF7, hZ7⟩ := K.bel_facts hb7; clear hb7; have hg7 : g ≠ W7.heap.size := (by have := hG6.lt; omega); have hg7b : W7.heap.size ≠ g := (by omega); have hG7 := K.At.over hB7 hG6; obtain ⟨hc8, hf8, hl8⟩ := K.At.facts hG7))
                      go_meet
                      exact ⟨by rw [ho.out], (by refine K.At.cast (by repeat (first | (with_reducible exact hG6) | (with_reducible refine K.At.new' _ _ _ _ (by first | rfl | (simp; done) | omega)) | (with_reducible apply K.At.over hB7) | (with_reducible apply K.At.set) | (with_reducible apply K.At.alloc) | (with_reducible apply K.At.drewN) | (with_reducible apply K.At.drew) | (with_reducible apply K.At.far) | omega | (simp <;> omega))) ?_; rfl), (by refine K.At.cast (by repeat (first | (with_reducible exact hP6) | (with_reducible refine K.At.new' _ _ _ _ (by first | rfl | (simp; done) | omega)) | (with_reducible apply K.At.over hB7) | (with_reducible apply K.At.set) | (with_reducible apply K.At.alloc) | (with_reducible apply K.At.drewN) | (with_reducible apply K.At.drew) | (with_reducible apply K.At.far) | omega | (simp <;> omega))) ?_; rfl), (by refine K.At.cast (by repeat (first | (with_reducible exact hS6) | (with_reducible refine K.At.new' _ _ _ _ (by first | rfl | (simp; done) | omega)) | (with_reducible apply K.At.over hB7) | (with_reducible apply K.At.set) | (with_reducible apply K.At.alloc) | (with_reducible apply K.At.drewN) | (with_reducible apply K.At.drew) | (with_reducible apply K.At.far) | omega | (simp <;> omega))) ?_; rfl), (by repeat (first | (with_reducible exact hown6) | (with_reducible refine Sl.own_over ?_ hB7) | (with_reducible refine Sl.own_set ?_ hq _) | (with_reducible refine World.ownsRow.alloc ?_ _))), (by repeat (first | (with_reducible exact Below.refl _ _) | (with_reducible exact hB6.out) | (with_reducible refine K.b_bel ?_ (by assumption)) | (with_reducible refine K.b_alloc ?_ _) | (with_reducible refine K.b_drewN ?_ _) | (with_reducible refine K.b_drew ?_) | (with_reducible refine K.b_set ?_ (by first | omega | (simp <;> omega)) _) | (with_reducible refine K.b_only ?_ (by assumption) (by first | omega | (simp <;> omega)))))⟩
                · have hb1 : (x.what == 1) = false := by simp [h3]
                  have hb2 : (x.what == 2) = false := by simp [h3]
                  have hb3 : (x.what == 3) = true := by simpa using h3
                  have e0 := E.out
                  rw [act_3 (by omega) h3] at e0
                  have HC : ∀ W, Calls Try.prog 34 #[r.1.a, s.a, .int .i64 x.tick, .bool x.probe, .bool x.good] W fun e w' => e = .returned (.tuple #[b2.a, .int .i64 0]) ∧ Below W.heap.size W w' := fun W => by
                    rw [← (Prod.mk.inj e0).1]; exact rend_c r.1 s x.tick x.probe x.good W Hch.out
                  have ho := K.H.mk (Prod.mk.inj e0).2
                  have GC := K.H.mk HC
                  clear HC h3 e0 E
                  go_wp2_with (first | (go_at_call 34; (with_reducible refine (GC.out _).mono ?_); rintro e W7 ⟨rfl, hb7⟩; obtain ⟨hB7, hC7, hF7, hZ7⟩ := K.bel_facts hb7; clear hb7))
                  go_meet
                  exact ⟨by rw [ho.out], (by refine K.At.cast (by repeat (first | (with_reducible exact hG6) | (with_reducible refine K.At.new' _ _ _ _ (by first | rfl | (simp; done) | omega)) | (with_reducible apply K.At.over hB7) | (with_reducible apply K.At.set) | (with_reducible apply K.At.alloc) | (with_reducible apply K.At.drewN) | (with_reducible apply K.At.drew) | (with_reducible apply K.At.far) | omega | (simp <;> omega))) ?_; rfl), (by refine K.At.cast (by repeat (first | (with_reducible exact hP6) | (with_reducible refine K.At.new' _ _ _ _ (by first | rfl | (simp; done) | omega)) | (with_reducible apply K.At.over hB7) | (with_reducible apply K.At.set) | (with_reducible apply K.At.alloc) | (with_reducible apply K.At.drewN) | (with_reducible apply K.At.drew) | (with_reducible apply K.At.far) | omega | (simp <;> omega))) ?_; rfl), (by refine K.At.cast (by repeat (first | (with_reducible exact hS6) | (with_reducible refine K.At.new' _ _ _ _ (by first | rfl | (simp; done) | omega)) | (with_reducible apply K.At.over hB7) | (with_reducible apply K.At.set) | (with_reducible apply K.At.alloc) | (with_reducible apply K.At.drewN) | (with_reducible apply K.At.drew) | (with_reducible apply K.At.far) | omega | (simp <;> omega))) ?_; rfl), (by repeat (first | (with_reducible exact hown6) | (with_reducible refine Sl.own_over ?_ hB7) | (with_reducible refine Sl.own_set ?_ hq _) | (with_reducible refine World.ownsRow.alloc ?_ _))), (by repeat (first | (with_reducible exact Below.refl _ _) | (with_reducible exact hB6.out) | (with_reducible refine K.b_bel ?_ (by assumption)) | (with_reducible refine K.b_alloc ?_ _) | (with_reducible refine K.b_drewN ?_ _) | (with_reducible refine K.b_drew ?_) | (with_reducible refine K.b_set ?_ (by first | omega | (simp <;> omega)) _) | (with_reducible refine K.b_only ?_ (by assumption) (by first | omega | (simp <;> omega)))))⟩
              case rest =>
              obtain ⟨rfl, hG8, hP8, hS8, hown8, hb8⟩ := hcut
              have HB8 := K.H.mk hb8
              have hz8 := hb8.size
              have hq8 := Sl.own_ne hown8 hG8 (by decide)
              have hqp8 := Sl.own_ne hown8 hP8 (by decide)
              have hqs8 := Sl.own_ne hown8 hS8 (by decide)
              clear hT6 hG6 hP6 hS6 hown6 hB6 hc1 hf1 hl1 hc2 hf2 hl2 hc3 hf3 hl3 hb8
              go_wp2_with (first | (at_builtin; refine Sl.app1 (news := [.int .i64 o]) rfl _ _ 41 3 (.int .i64 0) rfl Try.underlying41 (by kernel_rfl : (Try.prog.info? 3).map (fun i => (i.zero, i.size, i.bytes)) = some (some (.int .i64 0), 1, 8)) rfl (by decide) (by decide) rfl ((hown8).alloc _) rfl rfl (Sl.new_cells _ _ _ _ (by first | rfl | simp)) (by simp [Value.oneCell']) (by omega) (by simp <;> omega) ?_; intro v9 W9 hown9 hgr9))
              go_roundw
              case rel =>
                refine ⟨k + 1, by omega, by go_num, ?_, ?_, ?_, ?_, ⟨?_⟩⟩
                · rw [Hsn.out, E.out]; simpa using hown9
                · rw [Hsn.out, E.out]; exact Sl.at_grown (hG8.alloc _) hgr9 hq8
                · exact Sl.at_grown (hP8.alloc _) hgr9 hqp8
                · exact Sl.at_grown (hS8.alloc _) hgr9 hqs8
                · exact Sl.below_grown (K.b_alloc HB8.out _) hgr9 (Sl.own_base hown8)
              case measure => simp [intOf]; omega
            · obtain rfl : k = xs.length := by omega
              rw [List.take_length] at hown hG
              have hrl := runs_len s xs
              generalize runs s xs = r at *
              obtain ⟨hc5, hf5, hl5⟩ := K.At.facts hG
              obtain ⟨hc6, hf6, hl6⟩ := K.At.facts hP
              have hgp : w.heap.size + 1 ≠ g := by omega
              have hgp2 : g ≠ w.heap.size + 1 := by omega
              obtain ⟨A9, d9, rfl, hnc, hcm, hR9⟩ := Sl.Rds.of_own2 hown
              clear hnc hcm hR9
              have hqp9 := Sl.own_ne hown hP (by decide)
              have hrl2 := K.H.mk hrl
              clear hrl
              go_wp2
              ((try simp only [Exit.inBlock, Exit.then]); refine bodyPost_ret (v := .tuple #[.agg #[.int .i64 r.1.mode, .int .i64 r.1.fails, .int .i64 r.1.til, .int .i64 r.1.probes, .int .i64 r.1.wins], .slice A9 xs.length d9, .int .i64 0]) (by simp only [results, Try.results17]; go_simp) rfl ?_)
              exact ⟨_, rfl, by rw [hrl2.out]; exact (by repeat (first | (with_reducible exact hown) | (with_reducible refine Sl.own_set ?_ hqp9 _) | (with_reducible refine World.ownsRow.alloc ?_ _))), (by repeat (first | (with_reducible exact Below.refl _ _) | (with_reducible exact Hb.out) | (with_reducible refine K.b_bel ?_ (by assumption)) | (with_reducible refine K.b_alloc ?_ _) | (with_reducible refine K.b_drewN ?_ _) | (with_reducible refine K.b_drew ?_) | (with_reducible refine K.b_set ?_ (by first | omega | (simp <;> omega)) _) | (with_reducible refine K.b_only ?_ (by assumption) (by first | omega | (simp <;> omega)))))⟩
end Go.Proofs.Ytkckehpcdjlcpaa.Brk
