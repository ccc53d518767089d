/- HistoMerges: the walk where a list holds a negative number; all together. -/
import Derived.Test.YtimdfnhagjlkoaaHstV
set_option linter.unusedVariables false
namespace Go.Proofs.Ytimdfnhagjlkoaa.Hst
open Go.RowKit Go.Proofs.Ytimdfnhagjlkoaa
attribute [local go_sem] K.max2_int K.min2_int K.max_two K.min_two K.max_three K.min_three
set_option linter.unusedSimpArgs false
/-- Some histogram, and this error. -/
def AnyPost (w : World) (x : Int) (e : Ending) (w' : World) : Prop := ∃ A n c t, e = .returned (.tuple #[.agg #[.slice A n c, .int .i64 t], .int .i64 x]) ∧ Below w.heap.size w w'
theorem empty_ok : HOk [] 0 := ⟨.inl rfl, rfl, rfl, by omega⟩
theorem Add_zero (ns : List Int) (B : Option Addr) (m d : Nat) (w : World) (hs : Sl.Rds w 1 B m (ns.flatMap I1)) (hl : (ns.length : Int) ≤ 1073741824) :
    Calls Try.prog 33 #[.agg #[.slice none 0 0, .int .i64 0], .slice B m d] w (AnyPost w (if Sl.anyOf neg ns then 4 else 0)) := by
  cases hn : Sl.anyOf neg ns
  · refine (Add_list ns B m d w hs hn hl).mono fun e w' ⟨R, h1, _, _, h2⟩ => ⟨_, _, _, _, h1, h2⟩
  · have he := eAdd_4 empty_ok hn
    have := Add_bad [] 0 ns none B 0 0 m d w (Sl.Rds.nil _ _ _) hs (by rw [he]; decide)
    rw [he] at this
    exact this.mono fun e w' h => ⟨_, _, _, _, h.1, h.2⟩
theorem Add_neg (xs : List Int) (t : Int) (ns : List Int) (A B : Option Addr) (n c m d : Nat) (w : World) (hr : Sl.Rds w 1 A n (xs.flatMap I1)) (hs : Sl.Rds w 1 B m (ns.flatMap I1)) (h : HOk xs t) (hn : Sl.anyOf neg ns = true) :
    Calls Try.prog 33 #[.agg #[.slice A n c, .int .i64 t], .slice B m d] w fun e w' => e = .returned (.tuple #[.agg #[.slice none 0 0, .int .i64 0], .int .i64 4]) ∧ Below w.heap.size w w' := by
  have he := eAdd_4 h hn
  have := Add_bad xs t ns A B n c m d w hr hs (by rw [he]; decide)
  rwa [he] at this
set_option maxRecDepth 100000 in
set_option maxHeartbeats 8000000 in
theorem Merges_a (a b : List Int) (A B : Option Addr) (n c m d : Nat) (w : World) (hr : Sl.Rds w 1 A n (a.flatMap I1)) (hs : Sl.Rds w 1 B m (b.flatMap I1)) (hna : Sl.anyOf neg a = true) (hl : (a.length : Int) + b.length ≤ 1073741824) :
    Calls Try.prog 12 #[.slice A n c, .slice B m d] w fun e w' => e = .returned (.bool true) ∧ Below w.heap.size w w' := by
  have GA := K.H.mk (fun (W : World) (hb : Below w.heap.size w W) => Add_neg [] 0 a none A 0 0 n c W (Sl.Rds.nil _ _ _) (hr.below hb) empty_ok hna)
  have GB := K.H.mk (fun (W : World) (hb : Below w.heap.size w W) => Add_zero b B m d W (hs.below hb) (by omega))
  have GZ := GB
  generalize (if Sl.anyOf neg b then 4 else 0 : Int) = x at *
  clear hr hs hna
  go_enter Try.func12, Try.ntmps12
  go_wp2_with (first
    | (go_at_call 28; (with_reducible refine (alive_c _).mono ?_); rintro e W1 ⟨rfl, hb1⟩; obtain ⟨hB1, hC1, hF1, hZ1⟩ := K.bel_facts hb1; clear hb1) | (go_at_call 30; (with_reducible refine (num_c _ _).mono ?_); rintro e w' ⟨rfl, hw'⟩; have hw'2 := Eq.symm hw'; clear hw'; subst hw'2)
    | (go_at_call 33; first
      | ((with_reducible refine (GA.out _ (by repeat (first | (with_reducible exact Below.refl _ _) | (with_reducible refine K.b_bel ?_ (by assumption)) | (with_reducible refine K.b_alloc ?_ _) | (with_reducible refine K.b_drewN ?_ _) | (with_reducible refine K.b_drew ?_) | (with_reducible refine K.b_set ?_ (by first | omega | (simp <;> omega)) _) | (with_reducible refine K.b_only ?_ (by assumption) (by first | omega | (simp <;> omega)))))).mono ?_); rintro e W2 ⟨rfl, hb2⟩; obtain ⟨hB2, hC2, hF2, hZ2⟩ := K.bel_facts hb2; clear hb2 GA)
      | ((with_reducible refine (GB.out _ (by repeat (first | (with_reducible exact Below.refl _ _) | (with_reducible refine K.b_bel ?_ (by assumption)) | (with_reducible refine K.b_alloc ?_ _) | (with_reducible refine K.b_drewN ?_ _) | (with_reducible refine K.b_drew ?_) | (with_reducible refine K.b_set ?_ (by first | omega | (simp <;> omega)) _) | (with_reducible refine K.b_only ?_ (by assumption) (by first | omega | (simp <;> omega)))))).mono ?_); rintro e W3 ⟨A3, n3, c3, t3, rfl, hb3⟩; obtain ⟨hB3, hC3, hF3, hZ3⟩ := K.bel_facts hb3; clear hb3 GB; have hx3 : K.At W3 W2.heap.size 54 #[.slice none 0 0, .int .i64 0] := K.At.over hB3 (K.At.new' _ _ _ _ rfl); obtain ⟨hcx3, hfx3, hlx3⟩ := K.At.facts hx3)
      | ((with_reducible refine (GZ.out _ (by repeat (first | (with_reducible exact Below.refl _ _) | (with_reducible refine K.b_bel ?_ (by assumption)) | (with_reducible refine K.b_alloc ?_ _) | (with_reducible refine K.b_drewN ?_ _) | (with_reducible refine K.b_drew ?_) | (with_reducible refine K.b_set ?_ (by first | omega | (simp <;> omega)) _) | (with_reducible refine K.b_only ?_ (by assumption) (by first | omega | (simp <;> omega)))))).mono ?_); rintro e W4 ⟨A4, n4, c4, t4, rfl, hb4⟩; obtain ⟨hB4, hC4, hF4, hZ4⟩ := K.bel_facts hb4; clear hb4 GZ)))
  ((try simp only [Exit.inBlock, Exit.then]); refine bodyPost_ret (v := .bool true) (by simp only [results, Try.results12]; go_simp) rfl ?_)
  exact ⟨rfl, (by repeat (first | (with_reducible exact Below.refl _ _) | (with_reducible refine K.b_bel ?_ (by assumption)) | (with_reducible refine K.b_alloc ?_ _) | (with_reducible refine K.b_drewN ?_ _) | (with_reducible refine K.b_drew ?_) | (with_reducible refine K.b_set ?_ (by first | omega | (simp <;> omega)) _) | (with_reducible refine K.b_only ?_ (by assumption) (by first | omega | (simp <;> omega)))))⟩
set_option maxRecDepth 100000 in
set_option maxHeartbeats 8000000 in
theorem Merges_b (a b : List Int) (A B : Option Addr) (n c m d : Nat) (w : World) (hr : Sl.Rds w 1 A n (a.flatMap I1)) (hs : Sl.Rds w 1 B m (b.flatMap I1)) (hna : Sl.anyOf neg a = false) (hnb : Sl.anyOf neg b = true) (hl : (a.length : Int) + b.length ≤ 1073741824) :
    Calls Try.prog 12 #[.slice A n c, .slice B m d] w fun e w' => e = .returned (.bool true) ∧ Below w.heap.size w w' := by
  have hX := full_list hna (by omega)
  have GA := K.H.mk (fun (W : World) (hb : Below w.heap.size w W) => Add_list a A n c W (hr.below hb) hna (by omega))
  have GB := K.H.mk (fun (W : World) (hb : Below w.heap.size w W) => Add_neg [] 0 b none B 0 0 m d W (Sl.Rds.nil _ _ _) (hs.below hb) empty_ok hnb)
  have GZ := K.H.mk (fun (W : World) (R : Nat) (hb : Below w.heap.size w W) (hR : K.At W R 3 (vals (adds (pad []) a))) => Add_neg (adds (pad []) a) a.length b (some ⟨R, 0, none⟩) B 81 81 m d W (by have h1 := rds_vals hR (by rw [hX.2]; omega); rwa [hX.2] at h1) (hs.below hb) hX.1 hnb)
  generalize adds (pad []) a = X at *
  clear hr hs hna hnb hX
  go_enter Try.func12, Try.ntmps12
  go_wp2_with (first
    | (go_at_call 28; (with_reducible refine (alive_c _).mono ?_); rintro e W1 ⟨rfl, hb1⟩; obtain ⟨hB1, hC1, hF1, hZ1⟩ := K.bel_facts hb1; clear hb1) | (go_at_call 30; (with_reducible refine (num_c _ _).mono ?_); rintro e w' ⟨rfl, hw'⟩; have hw'2 := Eq.symm hw'; clear hw'; subst hw'2)
    | (go_at_call 33; first
      | ((with_reducible refine (GA.out _ (by repeat (first | (with_reducible exact Below.refl _ _) | (with_reducible refine K.b_bel ?_ (by assumption)) | (with_reducible refine K.b_alloc ?_ _) | (with_reducible refine K.b_drewN ?_ _) | (with_reducible refine K.b_drew ?_) | (with_reducible refine K.b_set ?_ (by first | omega | (simp <;> omega)) _) | (with_reducible refine K.b_only ?_ (by assumption) (by first | omega | (simp <;> omega)))))).mono ?_); rintro e W2 ⟨R2, rfl, hR2, hQ2, hb2⟩; obtain ⟨hB2, hC2, hF2, hZ2⟩ := K.bel_facts hb2; clear hb2 GA)
      | ((with_reducible refine (GB.out _ (by repeat (first | (with_reducible exact Below.refl _ _) | (with_reducible refine K.b_bel ?_ (by assumption)) | (with_reducible refine K.b_alloc ?_ _) | (with_reducible refine K.b_drewN ?_ _) | (with_reducible refine K.b_drew ?_) | (with_reducible refine K.b_set ?_ (by first | omega | (simp <;> omega)) _) | (with_reducible refine K.b_only ?_ (by assumption) (by first | omega | (simp <;> omega)))))).mono ?_); rintro e W3 ⟨rfl, hb3⟩; obtain ⟨hB3, hC3, hF3, hZ3⟩ := K.bel_facts hb3; clear hb3 GB; have hx3 : K.At W3 W2.heap.size 54 #[.slice (some ⟨R2, 0, none⟩) 81 81, .int .i64 a.length] := K.At.over hB3 (K.At.new' _ _ _ _ rfl); obtain ⟨hcx3, hfx3, hlx3⟩ := K.At.facts hx3)
      | ((with_reducible refine (GZ.out _ R2 (by repeat (first | (with_reducible exact Below.refl _ _) | (with_reducible refine K.b_bel ?_ (by assumption)) | (with_reducible refine K.b_alloc ?_ _) | (with_reducible refine K.b_drewN ?_ _) | (with_reducible refine K.b_drew ?_) | (with_reducible refine K.b_set ?_ (by first | omega | (simp <;> omega)) _) | (with_reducible refine K.b_only ?_ (by assumption) (by first | omega | (simp <;> omega))))) (by refine K.At.cast (by repeat (first | (with_reducible exact hQ2) | (with_reducible refine K.At.new' _ _ _ _ (by first | rfl | (simp; done) | omega)) | (with_reducible apply K.At.over hB3) | (with_reducible apply K.At.set) | (with_reducible apply K.At.alloc) | (with_reducible apply K.At.drewN) | (with_reducible apply K.At.drew) | (with_reducible apply K.At.far) | omega | (simp <;> omega))) ?_; rfl)).mono ?_); rintro e W4 ⟨rfl, hb4⟩; obtain ⟨hB4, hC4, hF4, hZ4⟩ := K.bel_facts hb4; clear hb4 GZ)))
  ((try simp only [Exit.inBlock, Exit.then]); refine bodyPost_ret (v := .bool true) (by simp only [results, Try.results12]; go_simp) rfl ?_)
  exact ⟨rfl, (by repeat (first | (with_reducible exact Below.refl _ _) | (with_reducible refine K.b_bel ?_ (by assumption)) | (with_reducible refine K.b_alloc ?_ _) | (with_reducible refine K.b_drewN ?_ _) | (with_reducible refine K.b_drew ?_) | (with_reducible refine K.b_set ?_ (by first | omega | (simp <;> omega)) _) | (with_reducible refine K.b_only ?_ (by assumption) (by first | omega | (simp <;> omega)))))⟩
theorem Merges_c (a b : List Int) (A B : Option Addr) (n c m d : Nat) (w : World) (hr : Sl.Rds w 1 A n (a.flatMap I1)) (hs : Sl.Rds w 1 B m (b.flatMap I1)) (hl : (a.length : Int) + b.length ≤ 1073741824) :
    Calls Try.prog 12 #[.slice A n c, .slice B m d] w fun e w' => e = .returned (.bool true) ∧ Below w.heap.size w w' := by
  cases hna : Sl.anyOf neg a
  · cases hnb : Sl.anyOf neg b
    · exact Merges_ok a b A B n c m d w hr hs hna hnb hl
    · exact Merges_b a b A B n c m d w hr hs hna hnb hl
  · exact Merges_a a b A B n c m d w hr hs hna hl
end Go.Proofs.Ytimdfnhagjlkoaa.Hst
