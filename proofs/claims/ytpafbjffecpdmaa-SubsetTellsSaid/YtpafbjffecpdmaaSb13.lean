/- Subset: how many clients each backend has. -/
import Derived.Test.YtpafbjffecpdmaaSb8
import Derived.Deep.OwnRows
set_option linter.unusedVariables false
namespace Go.Proofs.Ytpafbjffecpdmaa.Sb
open Go.RowKit Go.Proofs.Ytpafbjffecpdmaa
attribute [local go_sem] K.max2_int K.min2_int K.max_two K.min_two K.max_three K.min_three
set_option linter.unusedSimpArgs false
def below1 (ids : List Int) (x : Int) : Nat := ids.countP fun y => decide (y < x)
theorem below1_le (ids : List Int) (x : Int) : below1 ids x ≤ ids.length := List.countP_le_length
theorem below1_lt {ids : List Int} {x : Int} (h : x ∈ ids) : below1 ids x < ids.length := by
  unfold below1
  have h1 := List.countP_le_length (p := fun y => decide (y < x)) (l := ids)
  rcases Nat.lt_or_ge (ids.countP fun y => decide (y < x)) ids.length with h2 | h2
  · exact h2
  · have h3 : ids.countP (fun y => decide (y < x)) = ids.length := by omega
    rw [List.countP_eq_length] at h3
    have := h3 x h
    simp at this
theorem Search_c (ids : List Int) (x : Int) (A : Option Addr) (n c : Nat) (w : World) (hr : Sl.Rds w 1 A n (ids.flatMap fun n => [.int .i64 n])) (hs : ids.Pairwise (· < ·)) (h0 : 0 < n) (hn : n ≤ 32) :
    Calls Try.prog 27 #[.slice A n c, .int .i64 x] w fun e w' => e = .returned (.tuple #[.int .i64 (below1 ids x : Nat), .bool (ids.contains x)]) ∧ Below w.heap.size w w' := by
  obtain rfl := hr.length (fun _ => rfl) (by omega)
  obtain ⟨b, off, rfl, hb, hc⟩ := hr.at_ h0
  have h := AnyG.slices_BinarySearch_int Try.search b off ids.length c ids x w (by omega) (by omega) (fun j hj => by
    have := hc j (by rw [flat_iv, List.length_map]; exact hj)
    rw [this, flat_iv, List.getElem?_map, List.getElem?_eq_getElem hj, List.getD_eq_getElem?_getD, List.getElem?_eq_getElem hj]; rfl) (by rw [List.take_length]; exact hs.imp (fun h => by omega))
  rw [List.take_length] at h
  have h' : Calls Try.prog 27 #[.slice (some ⟨b, off, none⟩) ids.length c, .int .i64 x] w _ := h
  refine h'.mono ?_
  rintro e w' ⟨rfl, q, rfl⟩
  exact ⟨rfl, K.b_drewN (Below.refl _ _) q⟩
/-- One more at a place. -/
def bump (o : List Int) (i : Nat) : List Int := o.set i (o.getD i 0 + 1)
theorem bump_len (o : List Int) (i : Nat) : (bump o i).length = o.length := by simp [bump]
def addL (ids o l : List Int) : List Int := l.foldl (fun o x => bump o (below1 ids x)) o
theorem addL_len (ids : List Int) : ∀ (l o : List Int), (addL ids o l).length = o.length
  | [], o => rfl
  | x :: r, o => by unfold addL; rw [List.foldl_cons]; exact (addL_len ids r _).trans (bump_len _ _)
theorem addL_take {ids o l : List Int} {k : Nat} {x : Int} (h : l[k]? = some x) : addL ids o (l.take (k + 1)) = bump (addL ids o (l.take k)) (below1 ids x) := by
  unfold addL
  rw [List.take_add_one, h, Option.toList_some, List.foldl_append, List.foldl_cons, List.foldl_nil]
def cntG (of : Nat → List Int) (ids : List Int) : Nat → List Int
  | 0 => List.replicate ids.length 0
  | c + 1 => addL ids (cntG of ids c) (of c)
theorem cntG_len (of : Nat → List Int) (ids : List Int) : ∀ c, (cntG of ids c).length = ids.length
  | 0 => by simp [cntG]
  | c + 1 => by unfold cntG; rw [addL_len, cntG_len]
def inR (o : List Int) (B : Int) : Prop := ∀ x ∈ o, 0 ≤ x ∧ x ≤ B
theorem inR_bump {o : List Int} {B : Int} (h : inR o B) (hB : 0 ≤ B) (i : Nat) : inR (bump o i) (B + 1) := by
  intro x hx
  unfold bump at hx
  rcases List.mem_or_eq_of_mem_set hx with h1 | h1
  · have := h x h1; omega
  · by_cases hi : i < o.length
    · have := h (o.getD i 0) (by rw [List.getD_eq_getElem?_getD, List.getElem?_eq_getElem hi]; exact List.getElem_mem hi)
      omega
    · rw [h1, List.getD_eq_getElem?_getD, List.getElem?_eq_none (by omega)]
      simp; omega
theorem inR_addL (ids : List Int) : ∀ (l o : List Int) (B : Int), inR o B → 0 ≤ B → inR (addL ids o l) (B + l.length)
  | [], o, B, h, _ => by simpa [addL] using h
  | x :: r, o, B, h, hB => by
    unfold addL; rw [List.foldl_cons]
    have := inR_addL ids r _ _ (inR_bump h hB (below1 ids x)) (by omega)
    unfold addL at this
    simpa [Int.add_assoc, Int.add_comm 1] using this
theorem inR_getD {o : List Int} {B : Int} (h : inR o B) {i : Nat} (hi : i < o.length) : 0 ≤ o.getD i 0 ∧ o.getD i 0 ≤ B :=
  h _ (by rw [List.getD_eq_getElem?_getD, List.getElem?_eq_getElem hi]; exact List.getElem_mem hi)
theorem inR_mono {o : List Int} {B C : Int} (h : inR o B) (hBC : B ≤ C) : inR o C := fun x hx => by have := h x hx; omega
theorem inR_cntG {of : Nat → List Int} {ids : List Int} (hl : ∀ c, (of c).length ≤ 32) : ∀ c : Nat, inR (cntG of ids c) (32 * c)
  | 0 => fun x hx => by
    unfold cntG at hx
    have := (List.mem_replicate.1 hx).2
    omega
  | c + 1 => by
    have h1 := inR_addL ids (of c) _ _ (inR_cntG (ids := ids) hl c) (by omega)
    unfold cntG
    exact inR_mono h1 (by have := hl c; omega)
theorem info_int : (Try.prog.info? 3).map (fun i => (i.zero, i.size, i.bytes)) = some (some (.int .i64 0), 1, 8) := by kernel_rfl
theorem make_c (n : Nat) (h : n ≤ 32) (w : World) : (Instr.makeSlice 22 (.int .i64 n) (.int .i64 n)).run Try.prog w = .ok (.slice (some ⟨w.heap.size, 0, none⟩) n n) (w.alloc (.cells (madeCells #[.int .i64 0] n) 3)) :=
  run_make_row' 22 3 (.int .i64 0) 8 Try.underlying22 info_int rfl .i64 .i64 n (by omega) (by omega) w
theorem own_made (w : World) (n base : Nat) (h : n ≤ 32) (hb : base ≤ w.heap.size) : (w.alloc (.cells (madeCells #[.int .i64 0] n) 3)).ownsRow base 3 1 (.slice (some ⟨w.heap.size, 0, none⟩) n n) n ((List.replicate n (0 : Int)).map iv) := by
  have := World.ownsRow_lit (e := 3) w (madeCells #[.int .i64 0] n) n (base := base) (size := 1) hb (by simp [maxLen]; omega) (by rw [size_madeCells, Nat.mul_one])
  rw [toList_madeCells_one] at this
  simpa using this
def cntE (ids : List Int) (clients size : Int) : Int := if ofE ids 0 size = 0 then (if clients < 0 ∨ 256 < clients then 4 else 0) else ofE ids 0 size
def cntL (ids : List Int) (clients size : Int) (seed : Nat) : List Int := if cntE ids clients size = 0 then cntG (fun c => oOf ids c size seed) ids clients.toNat else []
set_option maxRecDepth 100000 in
set_option maxHeartbeats 8000000 in
theorem CountsG (of : Nat → List Int) (oe : Nat → Int) (ids : List Int) (C : Nat) (size seed : Int) (A : Option Addr) (n c : Nat) (w : World) (hr : Sl.Rds w 1 A n (ids.flatMap fun n => [.int .i64 n])) (hn : n ≤ 32) (hC : C ≤ 256) (hs : ids.Pairwise (· < ·))
    (h0 : oe 0 = 0) (hin : ∀ c, ∀ x ∈ of c, x ∈ ids) (hlen : ∀ c, (of c).length ≤ 32)
    (hO : ∀ (k : Nat) (W : World), Below w.heap.size w W → Calls Try.prog 22 #[.agg #[.slice A n c, .int .i64 size, .int .u64 seed], .int .i64 k] W (OfPost W (of k) (oe k))) :
    Calls Try.prog 17 #[.slice A n c, .int .i64 C, .int .i64 size, .int .u64 seed] w (OfPost w (cntG of ids C) 0) := by
  obtain rfl := hr.length (fun _ => rfl) (by omega)
  have Hr := K.H.mk hr
  have hmk := make_c ids.length hn
  have GO0 := K.H.mk (show ∀ W : World, Below w.heap.size w W → Calls Try.prog 22 #[.agg #[.slice A ids.length c, .int .i64 size, .int .u64 seed], .int .i64 0] W (OfPost W (of 0) 0) from fun W hb => by
    have h9 := hO 0 W hb; rw [h0] at h9; exact h9)
  have GO := K.H.mk hO
  have d1 : decide ((C : Int) < 0) = false := decide_eq_false (by omega)
  have d2 : decide ((256 : Int) < (C : Int)) = false := decide_eq_false (by omega)
  have d2n : decide (256 < C) = false := decide_eq_false (by omega)
  have Hs := K.H.mk hs
  have Hin := K.H.mk hin
  have hcl := cntG_len of ids
  have hR := inR_cntG (of := of) (ids := ids) hlen
  clear hr hO h0 hs hin
  
  
  go_enter Try.func17, Try.ntmps17
  go_wp2_with (first
    | (go_at_call 22; (with_reducible refine (GO0.out _ (by repeat (first | (with_reducible exact Below.refl _ _) | (with_reducible refine K.b_bel ?_ (by assumption)) | (with_reducible refine K.b_alloc ?_ _) | (with_reducible refine K.b_drewN ?_ _) | (with_reducible refine K.b_drew ?_) | (with_reducible refine K.b_set ?_ (by first | omega | (simp <;> omega)) _) | (with_reducible refine K.b_only ?_ (by assumption) (by first | omega | (simp <;> omega)))))).mono ?_); rintro e W1 ⟨v1, rfl, hown1, hb1⟩; obtain ⟨hB1, hC1, hF1, hZ1⟩ := K.bel_facts hb1; clear hb1 hown1; have kD1 : K.At W1 w.heap.size 46 #[.slice A ids.length c, .int .i64 size, .int .u64 seed] := (by refine K.At.cast (by repeat (first | (with_reducible refine K.At.new' _ _ _ _ (by first | rfl | (simp; done) | omega)) | (with_reducible apply K.At.over hB1) | (with_reducible apply K.At.set) | (with_reducible apply K.At.alloc) | (with_reducible apply K.At.drewN) | (with_reducible apply K.At.drew) | (with_reducible apply K.At.far) | omega | (simp <;> omega))) ?_; rfl); obtain ⟨hc_kD1, hf_kD1, hl_kD1⟩ := K.At.facts kD1))
  have hz1 := kD1.lt
  have o1 := own_made W1 ids.length w.heap.size hn (by omega)
  have kD2 : K.At (W1.alloc (.cells (madeCells #[.int .i64 0] ids.length) 3)) w.heap.size 46 #[.slice A ids.length c, .int .i64 size, .int .u64 seed] := kD1.alloc _
  have hb2 : Below w.heap.size w (W1.alloc (.cells (madeCells #[.int .i64 0] ids.length) 3)) := (by repeat (first | (with_reducible exact Below.refl _ _) | (with_reducible refine K.b_bel ?_ (by assumption)) | (with_reducible refine K.b_alloc ?_ _) | (with_reducible refine K.b_drewN ?_ _) | (with_reducible refine K.b_drew ?_) | (with_reducible refine K.b_set ?_ (by first | omega | (simp <;> omega)) _) | (with_reducible refine K.b_only ?_ (by assumption) (by first | omega | (simp <;> omega)))))
  have Hb2 := K.H.mk hb2
  obtain ⟨gO, hgO⟩ : ∃ g, g = W1.heap.size := ⟨_, rfl⟩
  rw [← hgO] at o1 ⊢
  have hgw : w.heap.size < gO := by omega
  clear hb2 hgO hmk GO0 d1 d2 d2n kD1 hc_kD1 hf_kD1 hl_kD1 hz1
  ((try clear hC1); (try clear hF1); (try clear hZ1); (try clear hc1); (try clear hf1); (try clear hl1); (try clear hB1); (try clear hO1); (try clear hA1); (try clear hz1_0); (try clear hz1_1); (try clear hz1_2); (try clear hz1_3))
  generalize (W1.alloc (.cells (madeCells #[.int .i64 0] ids.length) 3)) = W2 at *
  go_loopw [43] (fun i wr => ∃ k : Nat, k ≤ C ∧ i = .int .i64 k ∧ K.At wr w.heap.size 46 #[.slice A ids.length c, .int .i64 size, .int .u64 seed] ∧ wr.ownsRow w.heap.size 3 1 (.slice (some ⟨gO, 0, none⟩) ids.length ids.length) ids.length ((cntG of ids k).map iv) ∧ K.H (Below w.heap.size w wr)) (fun i _ => C - (intOf i).toNat)
  case atStart => exact ⟨0, by omega, rfl, kD2, o1, Hb2⟩
  case round =>
    clear kD2 o1 Hb2
    obtain ⟨k, hk, rfl, hD, hown, Hb⟩ := hrel
    obtain ⟨hc3, hf3, hl3⟩ := K.At.facts hD
    by_cases hlt : k < C
    · have hkc : (k : Int) < C := by omega
      have hRk := hR k
      have hstep : cntG of ids (k + 1) = addL ids (cntG of ids k) (of k) := rfl
      have Hst := K.H.mk hstep
      have GK := K.H.mk (GO.out k wr Hb.out)
      have hlk := hlen k
      have Hik := K.H.mk (Hin.out k)
      have hol := hcl k
      clear hstep hc3 hf3
      generalize cntG of ids k = O at *
      generalize of k = L at *
      have hD0 := hD
      obtain ⟨hc3, hf3, hl3⟩ := K.At.facts hD
      go_wp2_with (first
        | (go_at_call 22; (with_reducible refine (GK.out).mono ?_); rintro e W4 ⟨v4, rfl, hown4, hb4⟩; obtain ⟨hB4, hC4, hF4, hZ4⟩ := K.bel_facts hb4; clear hb4; obtain ⟨B4, d4, rfl, hR4⟩ := Sl.Rds.of_own hown4; clear hR4))
      have Hb4 := K.H.mk (show Below w.heap.size w W4 from (by repeat (first | (with_reducible exact Below.refl _ _) | (with_reducible exact Hb.out) | (with_reducible refine K.b_bel ?_ (by assumption)) | (with_reducible refine K.b_alloc ?_ _) | (with_reducible refine K.b_drewN ?_ _) | (with_reducible refine K.b_drew ?_) | (with_reducible refine K.b_set ?_ (by first | omega | (simp <;> omega)) _) | (with_reducible refine K.b_only ?_ (by assumption) (by first | omega | (simp <;> omega))))))
      have own4 := Sl.own_over hown hB4
      have hD4 := K.At.over hB4 hD0
      have hgl : gO < wr.heap.size := (hown.lt gO rfl).2
      have Ho4 := K.H.mk hown4
      clear hown hown4 GK Hb hD hD0 hB4 hC4 hF4 hc3 hf3 hl3
      go_loopw [54] (fun i wr => ∃ j : Nat, j ≤ L.length ∧ i = .int .i64 j ∧ K.At wr w.heap.size 46 #[.slice A ids.length c, .int .i64 size, .int .u64 seed] ∧ wr.ownsRow w.heap.size 3 1 (.slice (some ⟨gO, 0, none⟩) ids.length ids.length) ids.length ((addL ids O (L.take j)).map iv) ∧ K.Only W4 wr gO) (fun i _ => L.length - (intOf i).toNat)
      case atStart => exact ⟨0, by omega, rfl, hD4, own4, ⟨K.o_refl _ _⟩⟩
      case round =>
        clear own4 hD4
        obtain ⟨j, hj, rfl, hD, hown, hOn⟩ := hrel
        have HOn := K.H.mk hOn
        have Hw2 := K.H.mk (show Below w.heap.size w wr from K.b_only Hb4.out hOn (by omega))
        clear hOn
        by_cases hlt2 : j < L.length
        · obtain ⟨x, hx⟩ : ∃ x, L[j]? = some x := ⟨_, List.getElem?_eq_getElem hlt2⟩
          have hxi := Hik.out x (List.mem_of_getElem? hx)
          have hi := below1_lt hxi
          have htk := addL_take (ids := ids) (o := O) hx
          obtain ⟨b4, cap4, he4, hbg4, hbl4⟩ := own_form Ho4.out (by omega)
          cases he4
          have hcx : W4.cell? ⟨b4, j, none⟩ = some (.int .i64 x) := by
            rw [Ho4.out.cellAt j (by omega), List.getElem?_map, hx]; rfl
          have hb4g : b4 ≠ gO := by omega
          have q4 : wr.cell? ⟨b4, j, none⟩ = some (.int .i64 x) := (World.cell?_of_block (HOn.out.out.block b4 hbl4 (by simpa using hb4g))).trans hcx
          have hbl5 : b4 < wr.heap.size := Nat.lt_of_lt_of_le hbl4 HOn.out.out.size
          have hPR := inR_addL ids (L.take j) O _ hRk (by omega)
          have hlt8 : ((L.take j).length : Int) ≤ 32 := by rw [List.length_take]; omega
          have hPl : (addL ids O (L.take j)).length = ids.length := by rw [addL_len]; exact hol
          have GS := K.H.mk (fun (W : World) (hb : Below w.heap.size w W) => Search_c ids x A ids.length c W (Hr.out.below hb) Hs.out (by omega) hn)
          have Htk := K.H.mk htk
          clear hx htk hcx hxi
          generalize addL ids O (L.take j) = P at *
          obtain ⟨v0, v1⟩ := inR_getD hPR (i := below1 ids x) (by omega)
          have hbump : (P.map iv).set (below1 ids x) (iv (P.getD (below1 ids x) 0 + 1)) = (bump P (below1 ids x)).map iv := by unfold bump; rw [List.map_set]
          have hcv : (P.map iv)[below1 ids x]? = some (iv (P.getD (below1 ids x) 0)) := map_getD (by omega)
          generalize bump P (below1 ids x) = P2 at *
          generalize P.getD (below1 ids x) 0 = vi at *
          generalize below1 ids x = bi at *
          generalize ids.contains x = ct at *
          have hbi : (bi : Int) < (ids.length : Int) := by omega
          have hjl : (j : Int) < L.length := by omega
          have hv1 : vi + 1 ≤ 9223372036854775807 := by omega
          have hqd := Sl.own_ne hown hD (by decide)
          have hgd : gO ≠ w.heap.size := by omega
          have HD := K.H.mk hD
          have Ho := K.H.mk hown
          have Hcv := K.H.mk hcv
          have Hbump := K.H.mk hbump
          clear hD hown hcv hbump hPR hPl hqd
          go_wp2_with (first
            | (go_at_call 27; (with_reducible refine (GS.out _ (by repeat (first | (with_reducible exact Below.refl _ _) | (with_reducible exact Hw2.out) | (with_reducible refine K.b_bel ?_ (by assumption)) | (with_reducible refine K.b_alloc ?_ _) | (with_reducible refine K.b_drewN ?_ _) | (with_reducible refine K.b_drew ?_) | (with_reducible refine K.b_set ?_ (by first | omega | (simp <;> omega)) _) | (with_reducible refine K.b_only ?_ (by assumption) (by first | omega | (simp <;> omega)))))).mono ?_); rintro e W6 ⟨rfl, hb6⟩; obtain ⟨hB6, hC6, hF6, hZ6⟩ := K.bel_facts hb6; clear hb6; have own6 := Sl.own_over Ho.out hB6; have hc6 : W6.cell? ⟨gO, bi, none⟩ = some (.int .i64 vi) := (by rw [own6.cellAt bi (by omega)]; exact Hcv.out); have hf6 := own6.frozenAt bi; have hst6 := (own6.stored bi (iv (vi + 1))).1; rw [Hbump.out] at hst6; have Hst6 := K.H.mk hst6; clear own6 hst6 hC6 hF6))
          go_roundw
          case rel =>
            refine ⟨j + 1, by omega, by go_num, at_set_far (K.At.over hB6 HD.out) hgd, by rw [Htk.out]; exact Hst6.out, ⟨?_⟩⟩
            exact K.o_set (K.o_bel HOn.out.out hB6) bi _
          case measure => simp [intOf]; omega
        · obtain rfl : j = L.length := by omega
          rw [List.take_length] at hown
          go_wp2
          go_roundw
          case rel => exact ⟨k + 1, by omega, by go_num, hD, by rw [Hst.out]; exact hown, Hw2⟩
          case measure => simp [intOf]; omega
    · obtain rfl : k = C := by omega
      go_wp2
      go_ret2
      exact ⟨_, rfl, by rw [hcl]; exact hown, Hb.out⟩
end Go.Proofs.Ytpafbjffecpdmaa.Sb
