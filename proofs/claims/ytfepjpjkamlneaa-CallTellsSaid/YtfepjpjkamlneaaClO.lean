/- Calls: attempts more. -/
import Derived.Test.YtfepjpjkamlneaaClM
import Derived.Test.YtfepjpjkamlneaaMy
set_option linter.unusedVariables false
namespace Go.Proofs.Ytfepjpjkamlneaa.Cl
open Go.RowKit Go.Proofs.Ytfepjpjkamlneaa
attribute [local go_sem] K.max2_int K.min2_int K.max_two K.min_two K.max_three K.min_three
set_option linter.unusedSimpArgs false
def addA (x : Cal) (a : Att) : Cal := { x with l := x.l ++ [a] }
/-- What 'Send' makes of a call that may be. -/
def sendF (s : Set) : Cal → List Att → Cal × Int
  | x, [] => (x, 0)
  | x, a :: r => if s.att ≤ (x.l.length : Int) then (Cal.zero, 72) else if (a.over || !fineB (addA x a) s) = true then (Cal.zero, 9) else sendF s (addA x a) r
def oSend (x : Cal) (s : Set) (ms : List Att) : Cal × Int := if eCall x s = 0 then sendF s x ms else (Cal.zero, eCall x s)
/-- What hands back a call: it lies in memory of its own. -/
def CalPost (w : World) (y : Cal) (er : Int) (e : Ending) (w' : World) : Prop := ∃ B n d, e = .returned (.tuple #[y.a B n d, .int .i64 er]) ∧ w'.ownsRow w.heap.size 37 8 (.slice B n d) n (y.l.flatMap Att.cs) ∧ Below w.heap.size w w'
theorem zero_post {w w' : World} {er : Int} (hb : Below w.heap.size w w') : CalPost w Cal.zero er (.returned (.tuple #[.agg #[.int .i64 0, .int .i64 0, .int .i64 0, .int .i64 0, .int .i64 0, .bool false, .int .i64 0, .int .i64 0, .int .i64 0, .slice none 0 0], .int .i64 er])) w' := ⟨none, 0, 0, rfl, World.ownsRow_nil _ _ _ _, hb⟩
set_option maxRecDepth 100000 in
set_option maxHeartbeats 4000000 in
theorem send_bad (x : Cal) (s : Set) (v : Value) (A : Option Addr) (n c : Nat) (w : World) (hr : Sl.Rds w 8 A n (x.l.flatMap Att.cs)) (h : eCall x s ≠ 0) : Calls Try.prog 20 #[x.a A n c, s.a, v] w (CalPost w Cal.zero (eCall x s)) := by
  have GA := K.H.mk (fun (W : World) (hb : Below w.heap.size w W) => ask_bad x s A n c W (hr.below hb) h)
  have hd : (eCall x s != 0) = true := by simpa using h
  generalize eCall x s = y at *
  clear hr h
  
  
  go_enter Try.func20, Try.ntmps20
  go_wp2_with (first
    | (go_at_call 34; (with_reducible refine (GA.out _ (by repeat (first | (with_reducible exact Below.refl _ _) | (with_reducible refine K.b_bel ?_ (by assumption)) | (with_reducible refine K.b_alloc ?_ _) | (with_reducible refine K.b_drewN ?_ _) | (with_reducible refine K.b_drew ?_) | (with_reducible refine K.b_set ?_ (by first | omega | (simp <;> omega)) _) | (with_reducible refine K.b_only ?_ (by assumption) (by first | omega | (simp <;> omega)))))).mono ?_); rintro e W1 ⟨g1, rfl, hb1⟩; obtain ⟨hB1, hC1, hF1, hZ1⟩ := K.bel_facts hb1; clear hb1; have kR1 : K.At W1 (w.heap.size + 1 + 1) 26 #[.int .i64 0, .int .i64 0, .int .i64 0, .int .i64 0, .int .i64 0, .bool false, .int .i64 0, .int .i64 0, .int .i64 0, .slice none 0 0] := (by refine K.At.cast (by repeat (first | (with_reducible refine K.At.new' _ _ _ _ (by first | rfl | (simp; done) | omega)) | (with_reducible apply K.At.over hB1) | (with_reducible apply K.At.set) | (with_reducible apply K.At.alloc) | (with_reducible apply K.At.drewN) | (with_reducible apply K.At.drew) | (with_reducible apply K.At.far) | omega | (simp <;> omega))) ?_; rfl); obtain ⟨hc_kR1, hf_kR1, hl_kR1⟩ := K.At.facts kR1))
  ((try simp only [Exit.inBlock, Exit.then]); refine bodyPost_ret (v := .tuple #[.agg #[.int .i64 0, .int .i64 0, .int .i64 0, .int .i64 0, .int .i64 0, .bool false, .int .i64 0, .int .i64 0, .int .i64 0, .slice none 0 0], .int .i64 y]) (by simp only [results, Try.results20]; go_simp) rfl ?_)
  exact zero_post (by repeat (first | (with_reducible exact Below.refl _ _) | (with_reducible refine K.b_bel ?_ (by assumption)) | (with_reducible refine K.b_alloc ?_ _) | (with_reducible refine K.b_drewN ?_ _) | (with_reducible refine K.b_drew ?_) | (with_reducible refine K.b_set ?_ (by first | omega | (simp <;> omega)) _) | (with_reducible refine K.b_only ?_ (by assumption) (by first | omega | (simp <;> omega)))))
theorem send_step {s : Set} {y : Cal} {a : Att} {r : List Att} {p : Cal × Int} (h : p = sendF s y (a :: r)) :
    (s.att ≤ (y.l.length : Int) → p = (Cal.zero, 72)) ∧ (¬ s.att ≤ (y.l.length : Int) → a.over = true → p = (Cal.zero, 9)) ∧ (¬ s.att ≤ (y.l.length : Int) → a.over = false → fineB (addA y a) s = false → p = (Cal.zero, 9)) ∧ (¬ s.att ≤ (y.l.length : Int) → a.over = false → fineB (addA y a) s = true → p = sendF s (addA y a) r) := by
  subst h
  refine ⟨fun h => ?_, fun h h2 => ?_, fun h h2 h3 => ?_, fun h h2 h3 => ?_⟩ <;> simp [sendF, *]
set_option maxRecDepth 100000 in
set_option maxHeartbeats 8000000 in
theorem send_ok (x : Cal) (s : Set) (ms : List Att) (A : Option Addr) (n c : Nat) (A2 : Option Addr) (n2 c2 : Nat) (w : World) (hr : Sl.Rds w 8 A n (x.l.flatMap Att.cs)) (hr2 : Sl.Rds w 8 A2 n2 (ms.flatMap Att.cs)) (h : eCall x s = 0) :
    Calls Try.prog 20 #[x.a A n c, s.a, .slice A2 n2 c2] w (CalPost w (sendF s x ms).1 (sendF s x ms).2) := by
  obtain rfl := hr.length Att.cs_len (by omega)
  obtain rfl := hr2.length Att.cs_len (by omega)
  have hle := hr2.le
  have h16 := ok_len h
  have ha16 : s.att ≤ 16 := by have := (eCall_ok h).1; unfold Set.ok at this; omega
  have GA := K.H.mk (fun (W : World) (hb : Below w.heap.size w W) => ask_ok x s A x.l.length c W (hr.below hb) h)
  have Hr := K.H.mk hr2
  obtain ⟨p, hp⟩ : ∃ p, p = sendF s x ms := ⟨_, rfl⟩
  rw [← hp]
  have Hp := K.H.mk hp
  clear hr hr2 h hp
  
  
  
  go_enter Try.func20, Try.ntmps20
  go_wp2_with (first
    | (go_at_call 34; (with_reducible refine (GA.out _ (by repeat (first | (with_reducible exact Below.refl _ _) | (with_reducible refine K.b_bel ?_ (by assumption)) | (with_reducible refine K.b_alloc ?_ _) | (with_reducible refine K.b_drewN ?_ _) | (with_reducible refine K.b_drew ?_) | (with_reducible refine K.b_set ?_ (by first | omega | (simp <;> omega)) _) | (with_reducible refine K.b_only ?_ (by assumption) (by first | omega | (simp <;> omega)))))).mono ?_); rintro e W1 ⟨g, B1, d1, rfl, hg1, hA1, hown1, hb1⟩; obtain ⟨hB1, hC1, hF1, hZ1⟩ := K.bel_facts hb1; clear hb1; have kS1 : K.At W1 (w.heap.size + 1) 30 s.c := (by refine K.At.cast (by repeat (first | (with_reducible refine K.At.new' _ _ _ _ (by first | rfl | (simp; done) | omega)) | (with_reducible apply K.At.over hB1) | (with_reducible apply K.At.set) | (with_reducible apply K.At.alloc) | (with_reducible apply K.At.drewN) | (with_reducible apply K.At.drew) | (with_reducible apply K.At.far) | omega | (simp <;> omega))) ?_; rfl); obtain ⟨hc_kS1, hf_kS1, hl_kS1⟩ := K.At.facts kS1; have kR1 : K.At W1 (w.heap.size + 1 + 1) 26 #[.int .i64 0, .int .i64 0, .int .i64 0, .int .i64 0, .int .i64 0, .bool false, .int .i64 0, .int .i64 0, .int .i64 0, .slice none 0 0] := (by refine K.At.cast (by repeat (first | (with_reducible refine K.At.new' _ _ _ _ (by first | rfl | (simp; done) | omega)) | (with_reducible apply K.At.over hB1) | (with_reducible apply K.At.set) | (with_reducible apply K.At.alloc) | (with_reducible apply K.At.drewN) | (with_reducible apply K.At.drew) | (with_reducible apply K.At.far) | omega | (simp <;> omega))) ?_; rfl); obtain ⟨hc_kR1, hf_kR1, hl_kR1⟩ := K.At.facts kR1))
  have hbw1 : Below w.heap.size w W1 := (by repeat (first | (with_reducible exact Below.refl _ _) | (with_reducible refine K.b_bel ?_ (by assumption)) | (with_reducible refine K.b_alloc ?_ _) | (with_reducible refine K.b_drewN ?_ _) | (with_reducible refine K.b_drew ?_) | (with_reducible refine K.b_set ?_ (by first | omega | (simp <;> omega)) _) | (with_reducible refine K.b_only ?_ (by assumption) (by first | omega | (simp <;> omega)))))
  have hg2 : w.heap.size + 2 < g := by simp at hg1; omega
  have hownl : W1.ownsRow w.heap.size 37 8 (.slice B1 x.l.length d1) x.l.length (x.l.flatMap Att.cs) := Sl.own_low hown1 (by simp; omega)
  have Hb1 := K.H.mk hbw1
  clear hown1 hbw1 hg1 GA
  go_loopw [24] (fun i wr => ∃ (k : Nat) (y : Cal) (B : Option Addr) (d : Nat), k ≤ ms.length ∧ i = .int .i64 k ∧ K.At wr (w.heap.size + 1) 30 s.c ∧ K.At wr (w.heap.size + 1 + 1) 26 #[.int .i64 0, .int .i64 0, .int .i64 0, .int .i64 0, .int .i64 0, .bool false, .int .i64 0, .int .i64 0, .int .i64 0, .slice none 0 0] ∧ K.At wr g 91 (akc y s B y.l.length d) ∧ wr.ownsRow w.heap.size 37 8 (.slice B y.l.length d) y.l.length (y.l.flatMap Att.cs) ∧ K.H (Below w.heap.size w wr) ∧ K.H (y.l.length ≤ 16 ∧ p = sendF s y (ms.drop k))) (fun i _ => ms.length - (intOf i).toNat)
  case atStart => exact ⟨0, x, B1, d1, by omega, rfl, kS1, kR1, hA1, hownl, Hb1, ⟨h16, by simpa using Hp.out⟩⟩
  case round =>
    clear hownl hA1 kS1 kR1 Hb1 Hp hc_kS1 hf_kS1 hl_kS1 hc_kR1 hf_kR1 hl_kR1 hB1 hC1 hF1 hZ1
    obtain ⟨k, y, B, d, hk, rfl, hS, hR, hG, hown, Hb, Hy⟩ := hrel
    have hgl := hG.lt
    by_cases hlt : k < ms.length
    · obtain ⟨a, hx⟩ : ∃ a, ms[k]? = some a := ⟨_, List.getElem?_eq_getElem hlt⟩
      have hdr : ms.drop k = a :: ms.drop (k + 1) := by rw [List.drop_eq_getElem_cons hlt]; congr 1; exact (List.getElem?_eq_some_iff.1 hx).2
      have hy16 := Hy.out.1
      have HS := K.H.mk (send_step (hdr ▸ Hy.out.2))
      obtain ⟨b, off, rfl, hbl, hbc⟩ := Sl.Rds.elem Hr.out Att.cs_len (by omega) hx
      have q_0 : wr.cell? ⟨b, off + k * 8, none⟩ = some (.int .i64 a.b) := (Hb.out.cell (p := ⟨b, off + k * 8 + 0, none⟩) hbl).trans (hbc 0 (by omega))
      have q_1 : wr.cell? ⟨b, off + k * 8 + 1, none⟩ = some (.int .i64 a.i) := (Hb.out.cell (p := ⟨b, off + k * 8 + 1, none⟩) hbl).trans (hbc 1 (by omega))
      have q_2 : wr.cell? ⟨b, off + k * 8 + 2, none⟩ = some (.int .i64 a.s) := (Hb.out.cell (p := ⟨b, off + k * 8 + 2, none⟩) hbl).trans (hbc 2 (by omega))
      have q_3 : wr.cell? ⟨b, off + k * 8 + 3, none⟩ = some (.int .i64 a.q) := (Hb.out.cell (p := ⟨b, off + k * 8 + 3, none⟩) hbl).trans (hbc 3 (by omega))
      have q_4 : wr.cell? ⟨b, off + k * 8 + 4, none⟩ = some (.int .i64 a.t) := (Hb.out.cell (p := ⟨b, off + k * 8 + 4, none⟩) hbl).trans (hbc 4 (by omega))
      have q_5 : wr.cell? ⟨b, off + k * 8 + 5, none⟩ = some (.bool a.hedge) := (Hb.out.cell (p := ⟨b, off + k * 8 + 5, none⟩) hbl).trans (hbc 5 (by omega))
      have q_6 : wr.cell? ⟨b, off + k * 8 + 6, none⟩ = some (.bool a.probe) := (Hb.out.cell (p := ⟨b, off + k * 8 + 6, none⟩) hbl).trans (hbc 6 (by omega))
      have q_7 : wr.cell? ⟨b, off + k * 8 + 7, none⟩ = some (.bool a.over) := (Hb.out.cell (p := ⟨b, off + k * 8 + 7, none⟩) hbl).trans (hbc 7 (by omega))
      clear hbc
      have hbw : b < wr.heap.size := Nat.lt_of_lt_of_le hbl Hb.out.size
      have hqg := Sl.own_ne hown hG (by decide)
      have hqs := Sl.own_ne hown hS (by decide)
      have hqr := Sl.own_ne hown hR (by decide)
      have hqt : (Value.slice B y.l.length d).ownBlock ≠ some wr.heap.size := fun e => by have := (hown.lt _ e).2; omega
      clear hx hdr Hy
      go_wp2
      refine K.wp_gen (fun W => K.At W (w.heap.size + 1) 30 s.c ∧ K.At W (w.heap.size + 1 + 1) 26 #[.int .i64 0, .int .i64 0, .int .i64 0, .int .i64 0, .int .i64 0, .bool false, .int .i64 0, .int .i64 0, .int .i64 0, .slice none 0 0] ∧ K.At W g 91 (akc y s B y.l.length d) ∧ K.At W wr.heap.size 37 #[.int .i64 a.b, .int .i64 a.i, .int .i64 a.s, .int .i64 a.q, .int .i64 a.t, .bool a.hedge, .bool a.probe, .bool a.over] ∧ W.ownsRow w.heap.size 37 8 (.slice B y.l.length d) y.l.length (y.l.flatMap Att.cs) ∧ Below w.heap.size w W) ⟨(by refine K.At.cast (by repeat (first | (with_reducible exact hS) | (with_reducible refine K.At.new' _ _ _ _ (by first | rfl | (simp; done) | omega)) | (with_reducible apply K.At.set) | (with_reducible apply K.At.alloc) | (with_reducible apply K.At.drewN) | (with_reducible apply K.At.drew) | (with_reducible apply K.At.far) | omega | (simp <;> omega))) ?_; rfl), (by refine K.At.cast (by repeat (first | (with_reducible exact hR) | (with_reducible refine K.At.new' _ _ _ _ (by first | rfl | (simp; done) | omega)) | (with_reducible apply K.At.set) | (with_reducible apply K.At.alloc) | (with_reducible apply K.At.drewN) | (with_reducible apply K.At.drew) | (with_reducible apply K.At.far) | omega | (simp <;> omega))) ?_; rfl), (by refine K.At.cast (by repeat (first | (with_reducible exact hG) | (with_reducible refine K.At.new' _ _ _ _ (by first | rfl | (simp; done) | omega)) | (with_reducible apply K.At.set) | (with_reducible apply K.At.alloc) | (with_reducible apply K.At.drewN) | (with_reducible apply K.At.drew) | (with_reducible apply K.At.far) | omega | (simp <;> omega))) ?_; rfl), (by refine K.At.cast (by repeat (first | (with_reducible refine K.At.new' _ _ _ _ (by first | rfl | (simp; done) | omega)) | (with_reducible apply K.At.set) | (with_reducible apply K.At.alloc) | (with_reducible apply K.At.drewN) | (with_reducible apply K.At.drew) | (with_reducible apply K.At.far) | omega | (simp <;> omega))) ?_; rfl), hown.alloc _, (by repeat (first | (with_reducible exact Below.refl _ _) | (with_reducible exact Hb.out) | (with_reducible refine K.b_bel ?_ (by assumption)) | (with_reducible refine K.b_alloc ?_ _) | (with_reducible refine K.b_drewN ?_ _) | (with_reducible refine K.b_drew ?_) | (with_reducible refine K.b_set ?_ (by first | omega | (simp <;> omega)) _) | (with_reducible refine K.b_only ?_ (by assumption) (by first | omega | (simp <;> omega)))))⟩ ?_
      rintro W2 ⟨hS2, hR2, hG2, hT2, hown2, hb2⟩
      have HB2 := K.H.mk hb2
      clear hS hR hG hown Hb q_0 q_1 q_2 q_3 q_4 q_5 q_6 q_7
      have hgt : g ≠ wr.heap.size := by omega
      clear hb2
      obtain ⟨hc2, hf2, hl2⟩ := K.At.facts hS2
      obtain ⟨hc3, hf3, hl3⟩ := K.At.facts hG2
      refine K.wp_region_ext_lit (by kernel_rfl) (by kernel_rfl) ?_
      repeat (any_goals (first | go_big_quiet_skip | quiet_step (fail) | (refine wpQuiet_step (fun K hK => ?_); go_simp; split <;> (refine hK _ ?_; clear hK K))))
      all_goals (refine wpQuiet_nil ?_; intro W7 hW7; obtain ⟨hB7, hC7, hF7, hZ7⟩ := K.ext_facts hW7; clear hW7; have hS2_7 := K.At.bel hS2 hB7; have hR2_7 := K.At.bel hR2 hB7; have hG2_7 := K.At.bel hG2 hB7; have hT2_7 := K.At.bel hT2 hB7)
      clear hS2 hR2 hG2 hT2 hc2 hf2 hl2 hc3 hf3 hl3
      cases hf : decide (s.att ≤ (y.l.length : Int))
      · have hdf := of_decide_eq_false hf
        have hb48 : (y.l.length + 1) * 48 ≤ 140737488355328 := by omega
        have hown7 := Sl.own_over hown2 hB7
        have hz7 : w.heap.size ≤ W7.heap.size := by have := HB2.out.size; omega
        obtain ⟨r0, hr0⟩ : ∃ r0, r0 = (Value.slice B y.l.length d).ownBlock := ⟨_, rfl⟩
        have hrg : r0 ≠ some g := hr0 ▸ hqg
        have hrs : r0 ≠ some (w.heap.size + 1) := hr0 ▸ hqs
        have hrr : r0 ≠ some (w.heap.size + 1 + 1) := hr0 ▸ hqr
        have hrt : r0 ≠ some wr.heap.size := hr0 ▸ hqt
        have Hr0 := K.H.mk hr0
        have hl9 : y.l.flatMap Att.cs ++ a.cs = (addA y a).l.flatMap Att.cs := by simp [addA, List.flatMap_append]
        have Hl9 := K.H.mk hl9
        clear hr0 hl9 hqg hqs hqr hqt
        obtain ⟨hc8, hf8, hl8⟩ := K.At.facts hG2_7
        obtain ⟨hc9, hf9, hl9⟩ := K.At.facts hT2_7
        go_wp2
        refine K.wp_region_row_tail r0 12 (by kernel_rfl) (by kernel_rfl) (by kernel_rfl) ?_
        simp only [List.take_succ_cons, List.take_zero, List.drop_succ_cons, List.drop_zero]
        intro W9 hB9
        have hR9 := K.InR.of_bel r0 hB9
        have hZ9 := K.inr_size hR9
        repeat (any_goals (first | refine K.wpMix_skip2 (by rfl) (by rfl) ?_ | (refine K.wpMix_skip (by rfl) ?_; go_simp) | (refine K.wpMix_want (by rfl) (by rfl) (fun Kq hK => ?_); go_simp; refine hK _ _ ?_; clear hK Kq) | (refine K.wpMix_ser (by rfl) (by rfl) (fun Kq hK => ?_); first | ((refine K.ser_app1 (news := a.cs) _ _ 24 37 (.agg #[.int .i64 0, .int .i64 0, .int .i64 0, .int .i64 0, .int .i64 0, .bool false, .bool false, .bool false]) rfl Try.underlying24 (by kernel_rfl : (Try.prog.info? 37).map (fun i => (i.zero, i.size, i.bytes)) = some (some (.agg #[.int .i64 0, .int .i64 0, .int .i64 0, .int .i64 0, .int .i64 0, .bool false, .bool false, .bool false]), 8, 48)) rfl (by decide) (by decide) rfl ((Sl.own_over hown7 hB9).alloc _) rfl rfl (Sl.new_cells _ _ _ _ (by first | rfl | simp)) (by simp [Value.oneCell', Att.cs]) hb48 (by simp; omega) ?_; intro v8 W8 hown8 hgr8; have hgr8 : World.grownBy _ W8 r0 := (by rw [Hr0.out]; exact hgr8); have hI8 : K.InR W7 r0 W8 := (by repeat (first | (with_reducible exact hR9) | (with_reducible refine K.inr_bel ?_ (by assumption)) | (with_reducible refine K.inr_alloc ?_ _) | (with_reducible refine K.inr_row ?_ (by assumption)) | (with_reducible refine K.inr_new ?_ (by first | omega | (simp <;> omega)) _))); rw [Hl9.out] at hown8; obtain ⟨B2, d2, rfl, hRd8⟩ := Sl.Rds.of_own hown8; have hG8 := K.at_inr hG2_7 hI8 hrg; have hS8 := K.at_inr hS2_7 hI8 hrs; have hR8 := K.at_inr hR2_7 hI8 hrr; have hT8 := K.at_inr hT2_7 hI8 hrt); refine ⟨(by repeat (first | (with_reducible exact hR9) | (with_reducible refine K.inr_bel ?_ (by assumption)) | (with_reducible refine K.inr_alloc ?_ _) | (with_reducible refine K.inr_row ?_ (by assumption)) | (with_reducible refine K.inr_new ?_ (by first | omega | (simp <;> omega)) _))), hK _ _ ?_⟩; clear hK Kq) | (go_simp; first | (refine ⟨(by repeat (first | (with_reducible exact hR9) | (with_reducible refine K.inr_bel ?_ (by assumption)) | (with_reducible refine K.inr_alloc ?_ _) | (with_reducible refine K.inr_row ?_ (by assumption)) | (with_reducible refine K.inr_new ?_ (by first | omega | (simp <;> omega)) _))), hK _ _ ?_⟩; clear hK Kq) | (fail; refine ⟨_, rfl, (by repeat (first | (with_reducible exact hR9) | (with_reducible refine K.inr_bel ?_ (by assumption)) | (with_reducible refine K.inr_alloc ?_ _) | (with_reducible refine K.inr_row ?_ (by assumption)) | (with_reducible refine K.inr_new ?_ (by first | omega | (simp <;> omega)) _))), hK _ _ ?_⟩; clear hK Kq)))))
        all_goals refine K.wpMix_nil ?_
        have hln : (addA y a).l.length = y.l.length + 1 := by simp [addA]
        have hz8 : W7.heap.size ≤ W8.heap.size := hI8.out.size
        have hb8 : Below w.heap.size w W8 := (Sl.below_grown (HB2.out.trans (hB7.out.mono HB2.out.size)) hI8.out (fun k hk => (Sl.own_base hown7 k (Hr0.out ▸ hk))))
        have HB8 := K.H.mk hb8
        clear hb8 hI8 hgr8 hR9 hB9 hZ9 hown7 hG2_7 hS2_7 hR2_7 hT2_7 hc8 hf8 hl8 hc9 hf9 hl9 hB7 hC7 hF7 hZ7 hown2 hRd8
        have hng8 := Sl.own_ne hown8 hG8 (by decide)
        obtain ⟨hc8, hf8, hl8⟩ := K.At.facts hG8
        have hgl8 := hG8.lt
        have hown9 := fun u => Sl.own_set (p := ⟨g, 9, none⟩) hown8 hng8 u
        have hy9 : K.At (W8.setCell ⟨g, 9, none⟩ (.slice B2 (y.l.length + 1) d2)) g 91 (akc (addA y a) s B2 (addA y a).l.length d2) := by
          rw [hln]; exact (by refine K.At.cast (by repeat (first | (with_reducible exact hG8) | (with_reducible refine K.At.new' _ _ _ _ (by first | rfl | (simp; done) | omega)) | (with_reducible apply K.At.set) | (with_reducible apply K.At.alloc) | (with_reducible apply K.At.drewN) | (with_reducible apply K.At.drew) | (with_reducible apply K.At.far) | omega | (simp <;> omega))) ?_; rfl)
        have hRd9 : Sl.Rds (W8.setCell ⟨g, 9, none⟩ (.slice B2 (y.l.length + 1) d2)) 8 B2 (addA y a).l.length ((addA y a).l.flatMap Att.cs) := by
          rw [hln]; obtain ⟨_, _, he, hR⟩ := Sl.Rds.of_own (hown9 (.slice B2 (y.l.length + 1) d2)); cases he; exact hR
        have GF := K.H.mk (fine_c (addA y a) s g B2 (addA y a).l.length d2 _ hy9 hRd9)
        have hb9 : Below w.heap.size w (W8.setCell ⟨g, 9, none⟩ (.slice B2 (y.l.length + 1) d2)) := (by repeat (first | (with_reducible exact Below.refl _ _) | (with_reducible exact HB8.out) | (with_reducible refine K.b_bel ?_ (by assumption)) | (with_reducible refine K.b_alloc ?_ _) | (with_reducible refine K.b_drewN ?_ _) | (with_reducible refine K.b_drew ?_) | (with_reducible refine K.b_set ?_ (by first | omega | (simp <;> omega)) _) | (with_reducible refine K.b_only ?_ (by assumption) (by first | omega | (simp <;> omega)))))
        have HB9 := K.H.mk hb9
        clear hb9
        cases ho : a.over
        · rw [ho] at hT8
          obtain ⟨hc9, hf9, hl9⟩ := K.At.facts hT8
          cases hfi : fineB (addA y a) s
          · rw [hfi] at GF
            go_wp2_with (first | (go_at_call 44; (with_reducible refine (GF.out).mono ?_); rintro e W11 ⟨rfl, hb11⟩; obtain ⟨hB11, hC11, hF11, hZ11⟩ := K.bel_facts hb11; clear hb11; have hR11 : K.At W11 (w.heap.size + 1 + 1) 26 #[.int .i64 0, .int .i64 0, .int .i64 0, .int .i64 0, .int .i64 0, .bool false, .int .i64 0, .int .i64 0, .int .i64 0, .slice none 0 0] := (by refine K.At.cast (by repeat (first | (with_reducible exact hR8) | (with_reducible refine K.At.new' _ _ _ _ (by first | rfl | (simp; done) | omega)) | (with_reducible apply K.At.over hB11) | (with_reducible apply K.At.set) | (with_reducible apply K.At.alloc) | (with_reducible apply K.At.drewN) | (with_reducible apply K.At.drew) | (with_reducible apply K.At.far) | omega | (simp <;> omega))) ?_; rfl); obtain ⟨hc_hR11, hf_hR11, hl_hR11⟩ := K.At.facts hR11))
            ((try simp only [Exit.inBlock, Exit.then]); refine bodyPost_ret (v := .tuple #[.agg #[.int .i64 0, .int .i64 0, .int .i64 0, .int .i64 0, .int .i64 0, .bool false, .int .i64 0, .int .i64 0, .int .i64 0, .slice none 0 0], .int .i64 9]) (by simp only [results, Try.results20]; go_simp) rfl ?_)
            rw [HS.out.2.2.1 hdf ho hfi]
            exact zero_post (by repeat (first | (with_reducible exact Below.refl _ _) | (with_reducible exact HB9.out) | (with_reducible refine K.b_bel ?_ (by assumption)) | (with_reducible refine K.b_alloc ?_ _) | (with_reducible refine K.b_drewN ?_ _) | (with_reducible refine K.b_drew ?_) | (with_reducible refine K.b_set ?_ (by first | omega | (simp <;> omega)) _) | (with_reducible refine K.b_only ?_ (by assumption) (by first | omega | (simp <;> omega)))))
          · rw [hfi] at GF
            have HSn := K.H.mk (HS.out.2.2.2 hdf ho hfi)
            go_wp2_with (first | (go_at_call 44; (with_reducible refine (GF.out).mono ?_); rintro e W11 ⟨rfl, hb11⟩; obtain ⟨hB11, hC11, hF11, hZ11⟩ := K.bel_facts hb11; clear hb11))
            go_roundw
            case rel => exact ⟨k + 1, addA y a, B2, d2, by omega, by go_num, (by refine K.At.cast (by repeat (first | (with_reducible exact hS8) | (with_reducible refine K.At.new' _ _ _ _ (by first | rfl | (simp; done) | omega)) | (with_reducible apply K.At.over hB11) | (with_reducible apply K.At.set) | (with_reducible apply K.At.alloc) | (with_reducible apply K.At.drewN) | (with_reducible apply K.At.drew) | (with_reducible apply K.At.far) | omega | (simp <;> omega))) ?_; rfl), (by refine K.At.cast (by repeat (first | (with_reducible exact hR8) | (with_reducible refine K.At.new' _ _ _ _ (by first | rfl | (simp; done) | omega)) | (with_reducible apply K.At.over hB11) | (with_reducible apply K.At.set) | (with_reducible apply K.At.alloc) | (with_reducible apply K.At.drewN) | (with_reducible apply K.At.drew) | (with_reducible apply K.At.far) | omega | (simp <;> omega))) ?_; rfl), K.At.over hB11 hy9, by rw [hln]; exact Sl.own_over (hown9 _) hB11, ⟨(by repeat (first | (with_reducible exact Below.refl _ _) | (with_reducible exact HB9.out) | (with_reducible refine K.b_bel ?_ (by assumption)) | (with_reducible refine K.b_alloc ?_ _) | (with_reducible refine K.b_drewN ?_ _) | (with_reducible refine K.b_drew ?_) | (with_reducible refine K.b_set ?_ (by first | omega | (simp <;> omega)) _) | (with_reducible refine K.b_only ?_ (by assumption) (by first | omega | (simp <;> omega)))))⟩, ⟨by omega, HSn.out⟩⟩
            case measure => simp [intOf]; omega
        · rw [ho] at hT8
          obtain ⟨hc9, hf9, hl9⟩ := K.At.facts hT8
          obtain ⟨hc10, hf10, hl10⟩ := K.At.facts hR8
          go_wp2
          ((try simp only [Exit.inBlock, Exit.then]); refine bodyPost_ret (v := .tuple #[.agg #[.int .i64 0, .int .i64 0, .int .i64 0, .int .i64 0, .int .i64 0, .bool false, .int .i64 0, .int .i64 0, .int .i64 0, .slice none 0 0], .int .i64 9]) (by simp only [results, Try.results20]; go_simp) rfl ?_)
          rw [HS.out.2.1 hdf ho]
          exact zero_post (by repeat (first | (with_reducible exact Below.refl _ _) | (with_reducible exact HB9.out) | (with_reducible refine K.b_bel ?_ (by assumption)) | (with_reducible refine K.b_alloc ?_ _) | (with_reducible refine K.b_drewN ?_ _) | (with_reducible refine K.b_drew ?_) | (with_reducible refine K.b_set ?_ (by first | omega | (simp <;> omega)) _) | (with_reducible refine K.b_only ?_ (by assumption) (by first | omega | (simp <;> omega)))))
      · obtain ⟨hc7, hf7, hl7⟩ := K.At.facts hR2_7
        obtain ⟨hc8, hf8, hl8⟩ := K.At.facts hG2_7
        go_wp2
        ((try simp only [Exit.inBlock, Exit.then]); refine bodyPost_ret (v := .tuple #[.agg #[.int .i64 0, .int .i64 0, .int .i64 0, .int .i64 0, .int .i64 0, .bool false, .int .i64 0, .int .i64 0, .int .i64 0, .slice none 0 0], .int .i64 72]) (by simp only [results, Try.results20]; go_simp) rfl ?_)
        rw [HS.out.1 (of_decide_eq_true hf)]
        exact zero_post (by repeat (first | (with_reducible exact Below.refl _ _) | (with_reducible exact HB2.out) | (with_reducible refine K.b_bel ?_ (by assumption)) | (with_reducible refine K.b_alloc ?_ _) | (with_reducible refine K.b_drewN ?_ _) | (with_reducible refine K.b_drew ?_) | (with_reducible refine K.b_set ?_ (by first | omega | (simp <;> omega)) _) | (with_reducible refine K.b_only ?_ (by assumption) (by first | omega | (simp <;> omega)))))
    · obtain rfl : k = ms.length := by omega
      obtain ⟨hc2, hf2, hl2⟩ := K.At.facts hR
      obtain ⟨hc3, hf3, hl3⟩ := K.At.facts hG
      have HP := K.H.mk (show p = (y, 0) by have h := Hy.out.2; rw [List.drop_length] at h; exact h)
      have hz2 := hR.lt
      have hn := Sl.own_ne hown hR (by decide)
      have hw2 := Hb.out
      clear Hy hk hlt
      go_wp2
      ((try simp only [Exit.inBlock, Exit.then]); refine bodyPost_ret (v := .tuple #[y.a B y.l.length d, .int .i64 0]) (by simp only [results, Try.results20]; go_simp) rfl ?_)
      rw [HP.out]
      refine ⟨_, _, _, rfl, ?_, (by repeat (first | (with_reducible exact Below.refl _ _) | (with_reducible exact hw2) | (with_reducible refine K.b_bel ?_ (by assumption)) | (with_reducible refine K.b_alloc ?_ _) | (with_reducible refine K.b_drewN ?_ _) | (with_reducible refine K.b_drew ?_) | (with_reducible refine K.b_set ?_ (by first | omega | (simp <;> omega)) _) | (with_reducible refine K.b_only ?_ (by assumption) (by first | omega | (simp <;> omega)))))⟩
      repeat (with_reducible refine Sl.own_set ?_ hn _)
      exact hown
theorem Send_c (x : Cal) (s : Set) (ms : List Att) (A : Option Addr) (n c : Nat) (A2 : Option Addr) (n2 c2 : Nat) (w : World) (hr : Sl.Rds w 8 A n (x.l.flatMap Att.cs)) (hr2 : Sl.Rds w 8 A2 n2 (ms.flatMap Att.cs)) :
    Calls Try.prog 20 #[x.a A n c, s.a, .slice A2 n2 c2] w (CalPost w (oSend x s ms).1 (oSend x s ms).2) := by
  unfold oSend
  split
  · exact send_ok x s ms A n c A2 n2 c2 w hr hr2 (by assumption)
  · exact send_bad x s _ A n c w hr (by assumption)
theorem sendF_bad (s : Set) : ∀ (ms : List Att) (x : Cal), (sendF s x ms).2 ≠ 0 → (sendF s x ms).1 = Cal.zero
  | [], x, h => absurd rfl h
  | a :: r, x, h => by
    unfold sendF at *
    split
    · rfl
    · rename_i h1
      rw [if_neg h1] at h
      split
      · rfl
      · rename_i h2
        rw [if_neg h2] at h
        exact sendF_bad s r _ h
theorem oSend_bad {x : Cal} {s : Set} {ms : List Att} (h : (oSend x s ms).2 ≠ 0) : (oSend x s ms).1 = Cal.zero := by
  unfold oSend at *
  split
  · rename_i h1
    rw [if_pos h1] at h
    exact sendF_bad s ms x h
  · rfl
theorem send1_ok {x : Cal} {s : Set} {a : Att} (h : (oSend x s [a]).2 = 0) : (oSend x s [a]).1 = addA x a ∧ eCall (addA x a) s = 0 ∧ (x.l.length : Int) < s.att := by
  unfold oSend at *
  by_cases h1 : eCall x s = 0
  · rw [if_pos h1] at *
    unfold sendF at *
    by_cases h2 : s.att ≤ (x.l.length : Int)
    · rw [if_pos h2] at h; exact absurd h (by decide)
    · rw [if_neg h2] at *
      by_cases h3 : (a.over || !fineB (addA x a) s) = true
      · rw [if_pos h3] at h; exact absurd h (by decide)
      · rw [if_neg h3] at *
        simp only [Bool.or_eq_true, Bool.not_eq_true', not_or, Bool.not_eq_false, Bool.not_eq_true] at h3
        exact ⟨rfl, eCall_0 (eCall_ok h1).1 h3.2, by omega⟩
  · rw [if_neg h1] at h
    exact absurd h h1
/-- A slice that lies in a block which is known whole. -/
theorem rds_new {w : World} {g n sz : Nat} {T : TypeId} {cs : List Value} (h : K.At w g T cs.toArray) (hl : cs.length = n * sz) (hn : n ≤ 1000) : Sl.Rds w sz (some ⟨g, 0, none⟩) n cs :=
  ⟨hl, by simp [maxLen]; omega, fun _ => ⟨g, 0, rfl, h.lt, fun j hj => by rw [Nat.zero_add, h.cell]; simp⟩⟩
end Go.Proofs.Ytfepjpjkamlneaa.Cl
