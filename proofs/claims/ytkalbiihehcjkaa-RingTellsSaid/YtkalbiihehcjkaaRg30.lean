/- Ring: Walk. -/
import Derived.Test.YtkalbiihehcjkaaRg29
import Derived.Test.YtkalbiihehcjkaaBofR
import Derived.Carry
set_option linter.unusedVariables false
namespace Go.Proofs.Ytkalbiihehcjkaa.Rg
open Go.RowKit Go.Shelf Go.Proofs.Ytkalbiihehcjkaa
attribute [local go_sem] Oper.semAt_some
attribute [local go_sem] run_makeMap
set_option linter.unusedSimpArgs false
/-- The IDs of the first k from a on, each once. -/
def onceOf (L : List Int) : List Int := L.foldl addN []
def walkN (l : List Pt) (a k : Nat) : List Int := onceOf ((List.range k).map (idAt l a))
def oWalk (l : List Pt) (h : Int) : List Int := if eAsk l = 0 then walkN l (ahead l h) l.length else []
theorem once_snoc (L : List Int) (x : Int) : onceOf (L ++ [x]) = addN (onceOf L) x := by unfold onceOf; rw [List.foldl_append]; rfl
theorem addN_len (S : List Int) (x : Int) : (addN S x).length ≤ S.length + 1 := by
  unfold addN; split <;> simp
theorem fold_len (L : List Int) : ∀ S : List Int, (L.foldl addN S).length ≤ S.length + L.length := by
  induction L with
  | nil => intro S; simp
  | cons x r ih => intro S; rw [List.foldl_cons]; have h1 := ih (addN S x); have h2 := addN_len S x; simp at *; omega
theorem once_len (L : List Int) : (onceOf L).length ≤ L.length := by have := fold_len L []; simpa [onceOf] using this
theorem idAt_mem {l : List Pt} (h : 0 < l.length) (a i : Nat) : ∃ q ∈ l, idAt l a i = q.i := by
  have hm := Nat.mod_lt (a + i) h
  refine ⟨l[(a + i) % l.length], List.getElem_mem hm, ?_⟩
  unfold idAt
  rw [List.getElem?_eq_getElem hm]; rfl
theorem own_ne_met {W : World} {base sz m b n : Nat} {e : TypeId} {v : Value} {cs : List Value} {S : List Int} (h : W.ownsRow base e sz v m cs) (hm : Met W b n S) : v.ownBlock ≠ some b := by
  rcases h.2 with ⟨rfl, _⟩ | ⟨g, cap, cur, rfl, _, hg, _⟩
  · simp [Value.ownBlock]
  · simp only [Value.ownBlock, ne_eq, Option.some.injEq]
    rintro rfl
    obtain ⟨D, ⟨es, cl, hb, _⟩, _⟩ := hm
    rw [hg] at hb; cases hb
theorem at_ne_met {W : World} {g b n : Nat} {T : TypeId} {cs : Array Value} {S : List Int} (h : K.At W g T cs) (hm : Met W b n S) : g ≠ b := by
  rintro rfl
  obtain ⟨D, ⟨es, cl, hb, _⟩, _⟩ := hm
  rw [h.out] at hb; cases hb
def IPost (w : World) (L : List Int) (er : Int) (e : Ending) (w' : World) : Prop := ∃ v, e = .returned (.tuple #[v, .int .i64 er]) ∧ w'.ownsRow w.heap.size 3 1 v L.length (L.map (Value.int .i64)) ∧ Below w.heap.size w w'
theorem info_int : (Try.prog.info? 3).map (fun i => (i.zero, i.size, i.bytes)) = some (some (.int .i64 0), 1, 8) := by kernel_rfl
set_option maxRecDepth 100000 in
set_option maxHeartbeats 4000000 in
theorem Walk_ok (l : List Pt) (h : Int) (A : Option Addr) (n c : Nat) (w : World) (hr : Sl.Rds w 2 A n (l.flatMap Pt.cs)) (he : eAsk l = 0) (hwf : ∀ x ∈ l, (Lit.int .i64 x.i).wf = true) :
    Calls Try.prog 16 #[.slice A n c, .int .u64 h] w (IPost w (walkN l (ahead l h) l.length) 0) := by
  obtain rfl := hr.length Pt.cs_len (by omega)
  obtain ⟨i0, hi, hz0, hz1, hz2⟩ := info_parts info_int
  obtain ⟨h1, h2, h3, _⟩ := eAsk_ok he
  have ha : ahead l h ≤ l.length := List.countP_le_length
  have GA := K.H.mk (fun (W : World) (hb : Below w.heap.size w W) => ask_c l A l.length c W (hr.below hb))
  rw [he] at GA
  have GB := K.H.mk (fun (W : World) (hb : Below w.heap.size w W) => begins_c l h A l.length c W (hr.below hb) h1 h3)
  generalize ahead l h = k at *
  have Hr := K.H.mk hr
  have Hw := K.H.mk hwf
  clear hr he h1 hwf
  refine (callsIn_wide (n := 3)).1 ?_
  refine callsIn_of_wp_marks Try.func16 rfl trivial ?_ rfl
  simp only [Try.ntmps16, List.size_toArray, List.length_cons, List.length_nil, Nat.reduceAdd, Nat.reduceSub, Array.replicate_succ, Array.replicate_zero, List.push_toArray, List.append_toArray, List.nil_append, List.cons_append]
  gi_wp2_with (first | (refine ⟨trivial, ?_⟩; gi_at_call 34; (with_reducible refine ((callsIn_wide.2 (GA.out _ (by repeat (first | (with_reducible exact Below.refl _ _) | (with_reducible refine K.b_bel ?_ (by assumption)) | (with_reducible refine K.b_alloc ?_ _) | (with_reducible refine K.b_drewN ?_ _) | (with_reducible refine K.b_drew ?_) | (with_reducible refine K.b_set ?_ (by first | omega | (simp <;> omega)) _) | (with_reducible refine K.b_only ?_ (by assumption) (by first | omega | (simp <;> omega)))))))).mono ?_); rintro e W1 ⟨rfl, hb1⟩; obtain ⟨hB1, hC1, hF1, hZ1⟩ := K.bel_facts hb1; clear hb1) | (refine ⟨trivial, ?_⟩; gi_at_call 35; (with_reducible refine ((callsIn_wide.2 (GB.out _ (by repeat (first | (with_reducible exact Below.refl _ _) | (with_reducible refine K.b_bel ?_ (by assumption)) | (with_reducible refine K.b_alloc ?_ _) | (with_reducible refine K.b_drewN ?_ _) | (with_reducible refine K.b_drew ?_) | (with_reducible refine K.b_set ?_ (by first | omega | (simp <;> omega)) _) | (with_reducible refine K.b_only ?_ (by assumption) (by first | omega | (simp <;> omega)))))))).mono ?_); rintro e W2 ⟨rfl, hb2⟩; obtain ⟨hB2, hC2, hF2, hZ2⟩ := K.bel_facts hb2; clear hb2) | (refine ⟨trivial, ?_⟩; gi_at_call 37; refine (ids_in Fence.wide 2 trivial rfl A l.length c k _).mono ?_; rintro e w' ⟨rfl, rfl⟩))
  have hAl : 0 < l.length → ∀ a, A = some a → a.block < w.heap.size := fun h0 a e => by obtain ⟨b, off, e2, hb, _⟩ := Hr.out.at_ h0; rw [e] at e2; cases e2; exact hb
  have hw2 : Below w.heap.size w (W2.alloc (.cells #[.slice A l.length c, .int .i64 k] 68)) := (by repeat (first | (with_reducible exact Below.refl _ _) | (with_reducible refine K.b_bel ?_ (by assumption)) | (with_reducible refine K.b_alloc ?_ _) | (with_reducible refine K.b_drewN ?_ _) | (with_reducible refine K.b_drew ?_) | (with_reducible refine K.b_set ?_ (by first | omega | (simp <;> omega)) _) | (with_reducible refine K.b_only ?_ (by assumption) (by first | omega | (simp <;> omega)))))
  have hO2 : K.At W2 W1.heap.size 41 #[.slice none 0 0] := (by refine K.At.cast (by repeat (first | (with_reducible refine K.At.new' _ _ _ _ (by first | rfl | (simp; done) | omega)) | (with_reducible apply K.At.over hB2) | (with_reducible apply K.At.set) | (with_reducible apply K.At.alloc) | (with_reducible apply K.At.drewN) | (with_reducible apply K.At.drew) | (with_reducible apply K.At.far) | omega | (simp <;> omega))) ?_; rfl)
  have hM2 : K.At W2 (W1.heap.size + 1 + 1) 71 #[.map (some (W1.heap.size + 1))] := (by refine K.At.cast (by repeat (first | (with_reducible refine K.At.new' _ _ _ _ (by first | rfl | (simp; done) | omega)) | (with_reducible apply K.At.over hB2) | (with_reducible apply K.At.set) | (with_reducible apply K.At.alloc) | (with_reducible apply K.At.drewN) | (with_reducible apply K.At.drew) | (with_reducible apply K.At.far) | omega | (simp <;> omega))) ?_; rfl)
  have hS2 : Met W2 (W1.heap.size + 1) 0 [] := by
    have h1 : Met ((W1.alloc (.cells #[.slice none 0 0] 41)).alloc (.map #[] 0)) (W1.heap.size + 1) 0 [] := by have := met_made (W1.alloc (.cells #[.slice none 0 0] 41)); simpa using this
    have h2 := h1.alloc (.cells #[.map (some (W1.heap.size + 1))] 71)
    exact h2.kept (row := none) ⟨hB2.out.os, hB2.out.tape, hB2.out.output, hB2.out.size, fun i hi _ => hB2.out.block i hi⟩ (by simp)
  have hB2z : W1.heap.size + 1 + 1 + 1 ≤ W2.heap.size := by have := hB2.out.size; simp at this; omega
  have hW1z : w.heap.size ≤ W1.heap.size := hB1.out.size
  refine wpIn_rangeFunc_ownG rfl (by omega) (gf := 52) (lb := #[.pointer (some ⟨W2.heap.size, 0, none⟩)]) rfl trivial (enters_of Try.func52 (by kernel_rfl) rfl)
    (ids_stops 2 (by omega) W2.heap.size l k A c _ (by refine K.At.cast (by repeat (first | (with_reducible refine K.At.new' _ _ _ _ (by first | rfl | (simp; done) | omega)) | (with_reducible apply K.At.set) | (with_reducible apply K.At.alloc) | (with_reducible apply K.At.drewN) | (with_reducible apply K.At.drew) | (with_reducible apply K.At.far) | omega | (simp <;> omega))) ?_; rfl) (Hr.out.below hw2) h3 (by omega)) (fun h k => kpr_t h k) (kpr_b (by simp) (fun h0 a e => by have := hAl h0 a e; simp; omega)) (Below.refl _ _) (fun _ => rfl)
    (fun pre W => ((∃ v, Boxed W W1.heap.size 41 v ∧ W.ownsRow W1.heap.size 3 1 v (onceOf (pre.map (idAt l k))).length ((onceOf (pre.map (idAt l k))).map (Value.int .i64)) ∧ True) ∧ (K.At W (W1.heap.size + 1 + 1) 71 #[.map (some (W1.heap.size + 1))] ∧ K.At W W2.heap.size 68 #[.slice A l.length c, .int .i64 k])) ∧ (Met W (W1.heap.size + 1) pre.length (onceOf (pre.map (idAt l k))) ∧ Below w.heap.size w W))
    (fun c pre W => False ∧ Below w.heap.size w W)
    (OwnFrom.and (Own.from (fun q A B row hs hg hr => ⟨holdsRow_own W1.heap.size W1.heap.size 41 3 1 (fun pre : List Nat => (onceOf (pre.map (idAt l k))).length) (fun pre => (onceOf (pre.map (idAt l k))).map (Value.int .i64)) (fun _ _ => True) q A B row hs.1 hg hr, Bof.at_kept hs.2.1 hg hr, Bof.at_kept hs.2.2 hg hr⟩) _)
      (OwnFrom.and (fun q A B row hs hg hr => hs.kept hg (fun e => by have := (hr _ e.symm).1; simp at this; omega)) (ownFrom_below (Nat.le_refl _) (by simp; omega))))
    (fun c => OwnFrom.and (Own.from (fun q A B row hs hg hr => hs) _) (ownFrom_below (Nat.le_refl _) (by simp; omega)))
    ⟨⟨⟨_, (hO2.alloc _).out, World.ownsRow_nil _ _ _ _, trivial⟩, hM2.alloc _, (by refine K.At.cast (by repeat (first | (with_reducible refine K.At.new' _ _ _ _ (by first | rfl | (simp; done) | omega)) | (with_reducible apply K.At.set) | (with_reducible apply K.At.alloc) | (with_reducible apply K.At.drewN) | (with_reducible apply K.At.drew) | (with_reducible apply K.At.far) | omega | (simp <;> omega))) ?_; rfl)⟩, hS2.alloc _, hw2⟩
    (fun x => { tmps := #[.slice A l.length c, .int .u64 h, undef, undef, .slice none 0 0, .int .i64 0, .int .i64 0, .pointer (some ⟨W1.heap.size, 0, none⟩), .pointer (some ⟨W1.heap.size + 1 + 1, 0, none⟩), .int .i64 (idAt l k x), .slice A l.length c, .int .i64 0, .int .i64 0, .bool false, undef, .map (some (W1.heap.size + 1)), .slice A l.length c, .int .u64 h, .agg #[.slice A l.length c, .int .i64 k], .func (.func 52) #[] #[.pointer (some ⟨W2.heap.size, 0, none⟩)], .int .i64 (idAt l k x), undef, undef, undef, undef, undef, undef, undef, undef, undef, undef, undef], defers := [] }) ?assign ?body ?done ?stop
  case assign =>
    intro lo x W K hK
    gi_wp2
    exact hK
  case body =>
    rintro lo pre x W ⟨⟨⟨v, hv, hrow, -⟩, hM, hR⟩, hS, hB⟩ hlen
    obtain ⟨q, hq, hqe⟩ := idAt_mem h2 k x
    have hwf : (Lit.int .i64 (idAt l k x)).wf = true := by rw [hqe]; exact Hw.out q hq
    have hLs : (onceOf ((pre ++ [x]).map (idAt l k))) = addN (onceOf (pre.map (idAt l k))) (idAt l k x) := by rw [List.map_append, ← once_snoc]; rfl
    have hSl : (onceOf (pre.map (idAt l k))).length ≤ 1024 := by have := once_len (pre.map (idAt l k)); simp at this; omega
    have hlk := hS.lookup hwf
    have hc := hv.cell
    have hf := hv.frozen
    have hvl := hv.lt
    have hBx := hB.size
    have HLS := K.H.mk hLs
    have HS := K.H.mk hS
    clear hLs hqe hq
    generalize onceOf (pre.map (idAt l k)) = S at *
    generalize idAt l k x = y at *
    have HM := K.H.mk hM
    obtain ⟨hc5, hf5, hl5⟩ := K.At.facts hM
    by_cases hy : y ∈ S
    · rw [decide_eq_true hy] at hlk
      have HA := K.H.mk (show addN S y = S by unfold addN; rw [if_pos hy])
      clear hy hM
      gi_wp2_with (gi_at_mapUpdate; refine wpIn_met rfl _ _ _ rfl rfl HS.out (by omega) rfl rfl hwf ?_; intro w5 hM5 hg5)
      refine ⟨KeepsFrom.of_grownBy hg5 (fun j e => by cases e; simp; omega), ⟨hg5.block _ hR.lt (by simp; omega), fun h0 a e => hg5.block _ (by have := hAl h0 a e; omega) (by have := hAl h0 a e; simp; omega), hg5.size⟩,
        ⟨⟨v, hv.kept hg5 (by simp), by rw [HLS.out, HA.out]; exact hrow.kept hg5 (.inr (own_ne_met hrow HS.out)), trivial⟩, Sl.at_grown HM.out hg5 (by simp), Sl.at_grown hR hg5 (by simp; omega)⟩, by rw [HLS.out]; simpa using hM5, hB.grown hg5 hBx (fun j e => by cases e; omega)⟩
    · rw [decide_eq_false hy] at hlk
      have HA := K.H.mk (show addN S y = S ++ [y] by unfold addN; rw [if_neg hy])
      clear hy hM
      gi_wp2_with (first
        | (gi_at_mapUpdate; refine wpIn_met rfl _ _ _ rfl rfl hS2 (by omega) rfl rfl hwf ?_; intro w5 hM5 hg5)
        | (gi_at_builtin; refine wpListIn_append_own _ rfl _ _ 41 rfl W1.heap.size 3 i0 (.int .i64 0) 1 8 Try.underlying41 hi hz0 hz1 hz2 rfl (by decide) _ _ _ rfl (hrow.alloc _) ⟨W.heap.size, 0, none⟩ 1 1 [.int .i64 y] rfl rfl (cell_one_new _ _ _) (by simp [Value.oneCell']) (by simp only [maxLen]; omega) (by omega) (by simp; omega) ?_; intro v' w1 hown' hgrow _; obtain ⟨g', cap', rfl⟩ := ownsRow_succ hown'; obtain ⟨hv1, hv2, hr2, hk2, hb2⟩ := hv.appended (by decide) hrow (by omega) (by omega) hown' hgrow; have hc1 := hv1.cell; have hf1 := hv1.frozen; have hM1 := Sl.at_grown (HM.out.alloc _) hgrow (Sl.own_ne hrow HM.out (by decide)); have hS1 := (HS.out.alloc _).kept hgrow (Ne.symm (own_ne_met hrow HS.out)); have hS2 := hS1.kept (grownBy_setCell' w1 W1.heap.size (.slice (some ⟨g', 0, none⟩) (S.length + 1) cap')) (by simp); obtain ⟨hc6, hf6, hl6⟩ := K.At.facts hM1))
      have hR2 := (Sl.at_grown (hR.alloc (.cells #[.int .i64 y] 3)) hgrow (Sl.own_ne hrow hR (by decide))).far (p := ⟨W1.heap.size, 0, none⟩) (by simp; omega) (.slice (some ⟨g', 0, none⟩) (S.length + 1) cap')
      have hM2 := hM1.far (p := ⟨W1.heap.size, 0, none⟩) (by simp; omega) (.slice (some ⟨g', 0, none⟩) (S.length + 1) cap')
      have hz5 := hg5.size
      have hb5 : Below w.heap.size W _ := (hb2.mono hW1z).grown hg5 (by have := hb2.size; omega) (fun j e => by cases e; omega)
      refine ⟨(hk2.from _).trans (KeepsFrom.of_grownBy hg5 (fun j e => by cases e; simp; omega)), ⟨((hg5.block _ hR2.lt (by simp; omega)).trans hR2.out).trans hR.out.symm, fun h0 a e => hb5.block _ (hAl h0 a e), hb5.size⟩,
        ⟨⟨_, hv2.kept hg5 (by simp), by rw [HLS.out, HA.out]; simpa using hr2.kept hg5 (.inr (own_ne_met hr2 hS2)), trivial⟩, Sl.at_grown hM2 hg5 (by simp), Sl.at_grown hR2 hg5 (by simp; omega)⟩, by rw [HLS.out]; simpa using hM5, hB.trans hb5⟩
  case done =>
    rintro D ys W hD rfl ⟨⟨⟨v, hv, hrow, -⟩, hM, hR⟩, hS, hB⟩ hK
    have hc := hv.cell
    gi_wp2
    refine ⟨by simp, .inl ⟨_, _, rfl, run_takeDeferred hK, ?_⟩⟩
    refine ⟨.tuple #[v, .int .i64 0], ?_, v, rfl, Sl.own_low (ownsRow_putObj hrow _ hK rfl) hW1z, hB.trans (belowK_b (w := w) (Nat.le_refl _) W D _ _ (by simp at hD; omega) hK rfl rfl)⟩
    simp [results, Try.f16, go_sem]
  case stop =>
    rintro D c pre W hD hpre ⟨h, _⟩
    exact h.elim
end Go.Proofs.Ytkalbiihehcjkaa.Rg
