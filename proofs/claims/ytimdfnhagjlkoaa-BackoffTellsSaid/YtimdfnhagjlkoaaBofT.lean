/- Backoff: Total. -/
import Derived.Test.YtimdfnhagjlkoaaBofD
import Derived.Test.YtimdfnhagjlkoaaTl
set_option linter.unusedVariables false
namespace Go.Proofs.Ytimdfnhagjlkoaa.Bof
open Go.RowKit Go.Shelf Go.Proofs.Ytimdfnhagjlkoaa
attribute [local go_sem] Oper.semAt_some
attribute [local go_sem] K.max2_int K.min2_int K.max_two K.min_two K.max_three K.min_three
set_option linter.unusedSimpArgs false
/-- How long the first k retries wait in all. -/
def tsum (s : S) (ds : List Int) : Nat → Int
  | 0 => 0
  | k + 1 => tsum s ds k + less s (mst s k) (ds.getD k 0)
def U64 (ds : List Int) : Prop := ∀ d ∈ ds, 0 ≤ d ∧ d < 18446744073709551616
theorem U64.at {ds : List Int} (h : U64 ds) (k : Nat) : 0 ≤ ds.getD k 0 ∧ ds.getD k 0 < 18446744073709551616 := by
  rw [List.getD_eq_getElem?_getD]
  cases hk : ds[k]? with
  | none => simp
  | some d => exact h d (List.mem_of_getElem? hk)
theorem tsum_in {s : S} {ds : List Int} (h : Ok s) (hu : U64 ds) : ∀ k : Nat, (k : Int) ≤ tsum s ds k ∧ tsum s ds k ≤ k * 1048576
  | 0 => by simp [tsum]
  | k + 1 => by
    have h1 := tsum_in h hu k
    have hm := mst_in h k
    have h2 := less_in h hm.1 hm.2 (hu.at k).1 (hu.at k).2
    simp only [tsum]
    omega
def eTotal (s : S) (ds : List Int) : Int := if Ok s then (if ds.length ≤ 64 then 0 else 3) else 4
def oTotal (s : S) (ds : List Int) : Int := if eTotal s ds = 0 then tsum s ds ds.length else 0
theorem total_4 {s : S} {ds : List Int} (h : ¬ Ok s) : eTotal s ds = 4 ∧ oTotal s ds = 0 := by simp [eTotal, oTotal, h]
theorem total_3 {s : S} {ds : List Int} (h : Ok s) (h2 : 64 < ds.length) : eTotal s ds = 3 ∧ oTotal s ds = 0 := by
  have : ¬ ds.length ≤ 64 := by omega
  simp [eTotal, oTotal, h, this]
theorem total_0 {s : S} {ds : List Int} (h : Ok s) (h2 : ds.length ≤ 64) : eTotal s ds = 0 ∧ oTotal s ds = tsum s ds ds.length := by simp [eTotal, oTotal, h, h2]
/-- The same, of retries in a row. -/
def psum (s : S) (ds : List Int) (pre : List I) : Int := (pre.map fun x : I => less s (mst s x.1) (ds.getD x.1 0)).sum
theorem psum_snoc (s : S) (ds : List Int) (pre : List I) (x : I) : psum s ds (pre ++ [x]) = psum s ds pre + less s (mst s x.1) (ds.getD x.1 0) := by simp [psum]
theorem psum_ups (s : S) (ds : List Int) : ∀ k, k ≤ 64 → psum s ds (ups k) = tsum s ds k
  | 0, _ => rfl
  | k + 1, h => by rw [ups_succ (by omega), psum_snoc, psum_ups s ds k (by omega)]; rfl
theorem psum_in {s : S} {ds : List Int} (h : Ok s) (hu : U64 ds) : ∀ pre : List I, 0 ≤ psum s ds pre ∧ psum s ds pre ≤ pre.length * 1048576
  | [] => by simp [psum]
  | x :: pre => by
    have h1 := psum_in h hu pre
    have hm := mst_in h x.1
    have h2 := less_in h hm.1 hm.2 (hu.at x.1).1 (hu.at x.1).2
    have e : psum s ds (x :: pre) = less s (mst s x.1) (ds.getD x.1 0) + psum s ds pre := by simp [psum]
    rw [e]
    simp only [List.length_cons]
    omega
theorem keeps_bel {W W2 : World} (h : K.Bel W W2) : KeepsOthers W W2 := ⟨h.out.size, fun k o hk _ => (h.out.block k (Array.getElem?_eq_some_iff.1 hk).1).trans hk⟩
set_option maxRecDepth 100000 in
set_option maxHeartbeats 2000000 in
theorem Total_ok (s : S) (hs : Ok s) (ds : List Int) (hu : U64 ds) (hl : ds.length ≤ 64) (A : Option Addr) (c : Nat) (w : World) (hr : Sl.Rds w 1 A ds.length (ds.flatMap fun n => [.int .u64 n])) :
    Calls Try.prog 23 #[s.a, .slice A ds.length c] w fun e w' => e = .returned (.tuple #[.int .i64 (tsum s ds ds.length), .int .i64 0]) ∧ Below w.heap.size w w' := by
  have HC : ∀ W, Calls Try.prog 26 #[s.a] W fun e w' => e = .returned (.int .i64 0) ∧ Below W.heap.size W w' := fun W => by
    have h2 := chk_c s W
    rw [chk_0 hs] at h2; exact h2
  have GC := K.H.mk HC
  have Hs := K.H.mk hs
  have Hu := K.H.mk hu
  have Hr := K.H.mk hr
  have hd1 : decide ((64 : Int) < (ds.length : Int)) = false := by simp; omega
  clear HC hs hu hr
  refine (callsIn_wide (n := 3)).1 ?_
  refine callsIn_of_wp_marks Try.func23 rfl trivial ?_ rfl
  simp only [Try.ntmps23, List.size_toArray, List.length_cons, List.length_nil, Nat.reduceAdd, Nat.reduceSub, Array.replicate_succ, Array.replicate_zero, List.push_toArray, List.append_toArray, List.nil_append, List.cons_append]
  gi_wp2_with (first | (refine ⟨trivial, ?_⟩; gi_at_call 26; (with_reducible refine ((callsIn_wide.2 (GC.out _))).mono ?_); rintro e W1 ⟨rfl, hb1⟩; obtain ⟨hB1, hC1, hF1, hZ1⟩ := K.bel_facts hb1; clear hb1; have hZZ := hZ1; (try simp at hZZ); have hz1_0 : w.heap.size < W1.heap.size := (by omega); have hz1_1 : w.heap.size + 1 < W1.heap.size := (by omega); clear hZZ) | (refine ⟨trivial, ?_⟩; gi_at_call 45; refine (most_in Fence.wide 2 trivial rfl s _).mono ?_; rintro e w' ⟨rfl, rfl⟩))
  have hB0 : Below w.heap.size w (((W1.alloc (.cells s.c 74)).alloc (.cells #[.int .i64 0] 3)).alloc (.cells s.c 74)) := (by repeat (first | (with_reducible exact Below.refl _ _) | (with_reducible refine K.b_bel ?_ (by assumption)) | (with_reducible refine K.b_alloc ?_ _) | (with_reducible refine K.b_drewN ?_ _) | (with_reducible refine K.b_drew ?_) | (with_reducible refine K.b_set ?_ (by first | omega | (simp <;> omega)) _) | (with_reducible refine K.b_only ?_ (by assumption) (by first | omega | (simp <;> omega)))))
  have hN1 : K.At W1 (w.heap.size + 1) 39 #[.slice A ds.length c] := (by refine K.At.cast (by repeat (first | (with_reducible refine K.At.new' _ _ _ _ (by first | rfl | (simp; done) | omega)) | (with_reducible apply K.At.over hB1) | (with_reducible apply K.At.set) | (with_reducible apply K.At.alloc) | (with_reducible apply K.At.drewN) | (with_reducible apply K.At.drew) | (with_reducible apply K.At.far) | omega | (simp <;> omega))) ?_; rfl)
  refine wpIn_rangeFunc_ownF rfl (by omega) (gf := 61) (lb := #[.pointer (some ⟨W1.heap.size + 1 + 1, 0, none⟩)]) rfl trivial (enters_of Try.func61 (by kernel_rfl) rfl)
    (most_stops Fence.wide 2 trivial rfl (by omega) (W1.heap.size + 1 + 1) s Hs.out _ (by refine K.At.cast (by repeat (first | (with_reducible refine K.At.new' _ _ _ _ (by first | rfl | (simp; done) | omega)) | (with_reducible apply K.At.set) | (with_reducible apply K.At.alloc) | (with_reducible apply K.At.drewN) | (with_reducible apply K.At.drew) | (with_reducible apply K.At.far) | omega | (simp <;> omega))) ?_; rfl)) kps_t (kps_b (by simp)) (Below.refl _ _) (fun _ => rfl)
    (fun pre W => ((∀ y ∈ pre, ((y.1 : Int) + 1) ≤ ds.length) ∧ K.At W (w.heap.size + 1) 39 #[.slice A ds.length c] ∧ K.At W W1.heap.size 74 s.c ∧ K.At W (W1.heap.size + 1) 3 #[.int .i64 (psum s ds pre)] ∧ K.At W (W1.heap.size + 2) 74 s.c) ∧ Below w.heap.size w W)
    (fun c pre W => ((c = .exit 0 ∧ ∃ (q : List I) (x : I), pre = q ++ [x] ∧ (∀ y ∈ q, ((y.1 : Int) + 1) ≤ ds.length) ∧ (ds.length : Int) < (x.1 : Int) + 1) ∧ K.At W (W1.heap.size + 1) 3 #[.int .i64 (psum s ds pre.dropLast)]) ∧ Below w.heap.size w W)
    (OwnFrom.and (Own.from (fun q A B row hs hg hr => ⟨hs.1, at_kept hs.2.1 hg hr, at_kept hs.2.2.1 hg hr, at_kept hs.2.2.2.1 hg hr, at_kept hs.2.2.2.2 hg hr⟩) _) (ownFrom_below (Nat.le_refl _) (by simp; omega)))
    (fun c => OwnFrom.and (Own.from (fun q A B row hs hg hr => ⟨hs.1, at_kept hs.2 hg hr⟩) _) (ownFrom_below (Nat.le_refl _) (by simp; omega)))
    ⟨⟨by simp, ((hN1.alloc _).alloc _).alloc _, (by refine K.At.cast (by repeat (first | (with_reducible refine K.At.new' _ _ _ _ (by first | rfl | (simp; done) | omega)) | (with_reducible apply K.At.set) | (with_reducible apply K.At.alloc) | (with_reducible apply K.At.drewN) | (with_reducible apply K.At.drew) | (with_reducible apply K.At.far) | omega | (simp <;> omega))) ?_; rfl), (by refine K.At.cast (by repeat (first | (with_reducible refine K.At.new' _ _ _ _ (by first | rfl | (simp; done) | omega)) | (with_reducible apply K.At.set) | (with_reducible apply K.At.alloc) | (with_reducible apply K.At.drewN) | (with_reducible apply K.At.drew) | (with_reducible apply K.At.far) | omega | (simp <;> omega))) ?_; simp [psum]), (by refine K.At.cast (by repeat (first | (with_reducible refine K.At.new' _ _ _ _ (by first | rfl | (simp; done) | omega)) | (with_reducible apply K.At.set) | (with_reducible apply K.At.alloc) | (with_reducible apply K.At.drewN) | (with_reducible apply K.At.drew) | (with_reducible apply K.At.far) | omega | (simp <;> omega))) ?_; rfl)⟩, hB0⟩
    (fun x => { tmps := #[s.a, .slice A ds.length c, .pointer (some ⟨w.heap.size, 0, none⟩), .pointer (some ⟨w.heap.size + 1, 0, none⟩), .int .i64 0, .int .i64 0, .int .i64 0, .pointer (some ⟨W1.heap.size, 0, none⟩), .pointer (some ⟨W1.heap.size + 1, 0, none⟩), .int .i64 (x.1 + 1), .int .i64 (mst s x.1), s.a, .int .i64 0, .int .i64 0, .bool false, undef, .slice A ds.length c, .int .i64 ds.length, .bool false, s.a, s.a, s.a, .func (.func 61) #[] #[.pointer (some ⟨W1.heap.size + 1 + 1, 0, none⟩)], .int .i64 (x.1 + 1), .int .i64 (mst s x.1), undef, undef, undef, undef, undef, undef, undef, undef, undef, undef, undef, undef, undef, undef, undef], defers := [] }) ?assign ?body ?done ?stop
  case assign =>
    intro l x W K hK
    gi_wp2
    exact hK
  case body =>
    rintro l pre x W ⟨⟨hle, hN, hD, hS, hK⟩, hB⟩ hlen
    obtain ⟨hc7, hf7, hl7⟩ := K.At.facts hN
    obtain ⟨hc5, hf5, hl5⟩ := K.At.facts hD
    obtain ⟨hc4, hf4, hl4⟩ := K.At.facts hS
    have hBx := hB.size
    have hp := psum_in Hs.out Hu.out pre
    have hm := mst_in Hs.out x.1
    by_cases hx : (ds.length : Int) < (x.1 : Int) + 1
    · have hd : decide ((ds.length : Int) < (x.1 : Int) + 1) = true := by simpa using hx
      have Hx := K.H.mk hx
      have Hle := K.H.mk hle
      clear hle hx
      gi_wp2
      all_goals first
        | (exfalso; omega)
        | exact ⟨KeepsOthers.refl _, ⟨⟨rfl, pre, x, rfl, Hle.out, Hx.out⟩, by rw [List.dropLast_concat]; exact hS⟩, hB⟩
    · have hd : decide ((ds.length : Int) < (x.1 : Int) + 1) = false := by simpa using hx
      obtain ⟨d, hdx⟩ : ∃ d, ds[x.1]? = some d := ⟨_, List.getElem?_eq_getElem (by omega)⟩
      have hdd := Hu.out d (List.mem_of_getElem? hdx)
      have hdg : ds.getD x.1 0 = d := by rw [List.getD_eq_getElem?_getD, hdx]; rfl
      obtain ⟨b, off, rfl, hbl, hbc⟩ := Sl.Rds.elem Hr.out (enc := fun n => [.int .u64 n]) (fun _ => rfl) (by omega) hdx
      have q_0 : W.cell? ⟨b, off + x.1, none⟩ = some (.int .u64 d) := by
        have := (hB.cell (p := ⟨b, off + x.1 * 1 + 0, none⟩) hbl).trans (hbc 0 (by omega))
        simpa using this
      have hbw : b < W.heap.size := by omega
      have hl := less_in Hs.out hm.1 hm.2 hdd.1 hdd.2
      have GL := K.H.mk (fun W => less_c s (mst s x.1) d W Hs.out hm.1 hm.2 hdd.1 hdd.2)
      have e1 : psum s ds (pre ++ [x]) = psum s ds pre + less s (mst s x.1) d := by rw [psum_snoc, hdg]
      have E1 := K.H.mk e1
      have Hle := K.H.mk hle
      have Hx := K.H.mk hx
      have hxl : x.1 < ds.length := by omega
      generalize less s (mst s x.1) d = y at *
      generalize psum s ds pre = z at *
      clear hle hx hdx hdg hbc e1
      have hmx : Try.prog.follows .mixedOrders = true := by kernel_rfl
      have hn1 : 1 ≤ 1 := by omega
      have hxi : (x.1 : Int) < ds.length := by omega
      have hx64 := x.2
      obtain ⟨k, hk⟩ : ∃ k : Nat, x.1 = k := ⟨_, rfl⟩
      simp only [hk] at q_0 hxi hx64 hxl hm hl hd Hx ⊢
      have HL : ∀ W, Calls Try.prog 46 #[s.a, .int .i64 (mst s k), .int .u64 d] W fun e w' => e = .returned (.int .i64 y) ∧ Below W.heap.size W w' := fun W => by
        have h2 := GL.out W
        simp only [hk] at h2
        exact h2
      have GL := K.H.mk HL
      have Hk := K.H.mk hk
      clear hk HL
      have hw1 : IntKind.i64.wrap (k : Int) = k := K.i64_in (by omega) (by omega)
      have hw2 : IntKind.i64.wrap ((k : Int) + 1 - 1) = k := by rw [show (k : Int) + 1 - 1 = k by omega]; exact hw1
      have hw3 : IntKind.i64.wrap (z + y) = z + y := K.i64_in (by omega) (by omega)
      gi_wp2
      refine K.wpIn_region_ext_tail 10 (by kernel_rfl) (by kernel_rfl) (by kernel_rfl) ?_
      simp only [List.take_succ_cons, List.take_zero, List.drop_succ_cons, List.drop_zero]
      repeat (any_goals (refine wpQuietIn_step (fun _ _ _ _ => trivial) (fun Kq hK => ?_); go_simp; first | (refine hK _ ?_; clear hK Kq) | (apply Exists.intro; refine ⟨fun _ => ?_, hK _ ?_⟩; (gi_at_call 46; exact K.qi_below ((CallsIn.inRound l (callsIn_wide.2 (GL.out _))))); clear hK Kq) | (split <;> (refine hK _ ?_; clear hK Kq))))
      all_goals (refine wpQuietIn_nil ?_; intro W3 hW3; obtain ⟨hB3, hC3, hF3, hZ3⟩ := K.ext_facts hW3; clear hW3)
      have hS3 := (hS.bel hB3).set 0 (.int .i64 (z + y))
      have hB4 : K.Bel W W3 := hB3
      gi_wp2
      have hK3 := (hK.bel hB3).far (p := ⟨W1.heap.size + 1, 0, none⟩) (by simp) (.int .i64 (z + y))
      have hD3 := (hD.bel hB3).far (p := ⟨W1.heap.size + 1, 0, none⟩) (by simp) (.int .i64 (z + y))
      have hN3 := (hN.bel hB3).far (p := ⟨W1.heap.size + 1, 0, none⟩) (by simp; omega) (.int .i64 (z + y))
      refine ⟨(keeps_bel hB3).trans (KeepsOthers.setCell _ _ _), kps_at hK hK3, ⟨fun y hy => ?_, hN3, hD3, hS3.cast (by simp [E1.out]), hK3⟩, K.b_set (K.b_bel hB hB3) (by simp; omega) _⟩
      rcases List.mem_append.1 hy with hy | hy
      · exact Hle.out y hy
      · simp at hy; subst hy; have := Hx.out; have := Hk.out; omega
  case done =>
    rintro D ys W hD rfl ⟨⟨hle, hN, hD1, hS, _⟩, hB⟩ hK
    have h64 : ((63 : Nat) : Int) + 1 ≤ ds.length := hle ⟨63, by omega⟩ (mem_ups (show 63 < 64 by omega))
    have e : ds.length = 64 := by omega
    rw [psum_ups s ds 64 (by omega), ← e] at hS
    clear e
    obtain ⟨hc4, hf4, hl4⟩ := K.At.facts hS
    gi_wp2
    refine ⟨by simp, .inl ⟨_, _, rfl, run_takeDeferred hK, ?_⟩⟩
    refine ⟨.tuple #[.int .i64 (tsum s ds ds.length), .int .i64 0], ?_, rfl, hB.trans (belowK_b (w := w) (Nat.le_refl _) W D _ _ (by simp at hD; omega) hK rfl rfl)⟩
    simp [results, Try.f23, go_sem]
  case stop =>
    rintro D c pre W hD hpre ⟨⟨⟨rfl, q, x, rfl, hq, hx⟩, hS⟩, hB⟩ hK
    obtain ⟨k, hk, he⟩ := hpre
    obtain ⟨rfl, he2⟩ := ups_last hk he
    have e : ds.length = x.1 := by
      by_cases h0 : x.1 = 0
      · omega
      · have := x.2
        have : ((x.1 - 1 : Nat) : Int) + 1 ≤ ds.length := hq ⟨x.1 - 1, by omega⟩ (mem_ups (show x.1 - 1 < x.1 by omega))
        omega
    rw [List.dropLast_concat, psum_ups s ds x.1 (by omega), ← e] at hS
    clear e
    obtain ⟨hc4, hf4, hl4⟩ := K.At.facts hS
    gi_wp2
    refine ⟨by simp, .inl ⟨_, _, rfl, run_takeDeferred hK, ?_⟩⟩
    refine ⟨.tuple #[.int .i64 (tsum s ds ds.length), .int .i64 0], ?_, rfl, hB.trans (belowK_b (w := w) (Nat.le_refl _) W D _ _ (by simp at hD; omega) hK rfl rfl)⟩
    simp [results, Try.f23, go_sem]
end Go.Proofs.Ytimdfnhagjlkoaa.Bof
