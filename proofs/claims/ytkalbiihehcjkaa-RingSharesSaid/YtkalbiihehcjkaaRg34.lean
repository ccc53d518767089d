/- Ring: the walk of RingLeaves. -/
import Derived.Test.YtkalbiihehcjkaaRg33
import Derived.Test.YtkalbiihehcjkaaRg32
import Derived.Deep.MidRow
import Derived.Test.YtkalbiihehcjkaaOpn
set_option linter.unusedVariables false
namespace Go
open Go.RowKit
namespace Proofs.Ytkalbiihehcjkaa.K
section
variable {P : Program}
theorem inr_fresh {w W W2 : World} {r : Option Nat} {g : Nat} (h : InR w r W) (k : W.grownBy W2 (some g)) (hg : w.heap.size ≤ g) : InR w r W2 :=
  ⟨⟨k.os.trans h.out.os, k.tape.trans h.out.tape, k.output.trans h.out.output, Nat.le_trans h.out.size k.size, fun i hi hn => (k.block i (Nat.lt_of_lt_of_le hi h.out.size) (fun e => by cases e; omega)).trans (h.out.block i hi hn)⟩⟩
theorem inr_grown {w W W2 : World} {r o : Option Nat} (h : InR w r W) (k : W.grownBy W2 o) (hg : ∀ g, o = some g → w.heap.size ≤ g) : InR w r W2 :=
  ⟨⟨k.os.trans h.out.os, k.tape.trans h.out.tape, k.output.trans h.out.output, Nat.le_trans h.out.size k.size, fun i hi hn => (k.block i (Nat.lt_of_lt_of_le hi h.out.size) (fun e => by have := hg i e.symm; omega)).trans (h.out.block i hi hn)⟩⟩
/-- append of a slice, in a region that draws. -/
theorem ser_appN {o : Oper} {a : Go.Act} {K : Go.Act → World → Prop} {W : World} {base n m sz bytes c : Nat} {v : Value} {cs news : List Value} (s x : Operand) (t e : TypeId) (z : Value) (ad : Addr)
    (ho : o.op = .call { callee := .builtin .append, args := #[s, x], argTypes := #[t, t] })
    (ht : P.underlying t = some (.slice e)) (hinfo : (P.info? e).map (fun i => (i.zero, i.size, i.bytes)) = some (some z, sz, bytes)) (hz : z.cells.size = sz) (hsz : 0 < sz) (hby : 0 < bytes)
    (hs : a.eval s = v) (hown : W.ownsRow base e sz v n cs) (hx : a.eval x = .slice (some ad) m c)
    (hl : news.length = m * sz) (hnews : ∀ j u, news[j]? = some u → W.cell? (ad.add j) = some u) (h1 : ∀ u ∈ news, u.oneCell' = true) (hb : (n + m) * bytes ≤ 140737488355328) (hbase : base ≤ W.heap.size)
    (h : ∀ v' w', w'.ownsRow base e sz v' (n + m) (cs ++ news) → W.grownBy w' v.ownBlock → K (a.put o.dst v') w') : SerAt P o a W K := by
  cases hi : P.info? e with
  | none => rw [hi] at hinfo; cases hinfo
  | some i =>
    rw [hi] at hinfo
    simp only [Option.map_some, Option.some.injEq, Prod.mk.injEq] at hinfo
    obtain ⟨hz0, hz1, hz2⟩ := hinfo
    have hmul : n + m ≤ (n + m) * bytes := Nat.le_mul_of_pos_right _ hby
    obtain ⟨v', w', hrun, h2, h3, _⟩ := run_append_own (P := P) W base t o.type e i z sz bytes ht hi hz0 hz1 hz2 hz hsz v n cs hown ad m c news hl hnews h1 (by simp only [maxLen]; omega) hb hbase
    unfold SerAt
    simp [execOp, ho, resolve, invoke, builtin, hs, hx, hrun, Result.andThen, serUpon]
    exact h v' w' h2 h3
end
end Proofs.Ytkalbiihehcjkaa.K
namespace Proofs.Ytkalbiihehcjkaa.Rg
open Go.RowKit Go.Proofs.Ytkalbiihehcjkaa
set_option linter.unusedSimpArgs false
theorem one_bk {l : List Bk} : ∀ u ∈ l.flatMap Bk.cs, u.oneCell' = true := by
  intro u hu
  obtain ⟨x, _, hx⟩ := List.mem_flatMap.1 hu
  simp [Bk.cs] at hx
  rcases hx with rfl | rfl <;> rfl
theorem wf_small {i : Int} (h0 : 0 ≤ i) (h1 : i ≤ 2147483647) : (Lit.int .i64 i).wf = true := by
  simp [Lit.wf, IntKind.min, IntKind.max, IntKind.bits, IntKind.signed]; omega
theorem build_wf {p : Int} {l : List Bk} (h : eBuild p l = 0) : ∀ q ∈ oBuild p l, (Lit.int .i64 q.i).wf = true := by
  intro q hq
  obtain ⟨x, hx, e⟩ := (mem_build h q.i).1 ⟨q, hq, rfl⟩
  have := (eChk_fine (eBuild_0 h).1).2.1 x hx
  exact wf_small (by omega) (by omega)
theorem part_cells {l : List Bk} {k j : Nat} {u : Value} (h : ((l.take k).flatMap Bk.cs)[j]? = some u) : (l.flatMap Bk.cs)[j]? = some u := by
  conv => lhs; rw [← List.take_append_drop k l]
  rw [List.flatMap_append, List.getElem?_append_left (List.getElem?_eq_some_iff.1 h).1]; exact h
theorem rest_cells {l : List Bk} {k j : Nat} {u : Value} (hk : k ≤ l.length) (h : ((l.drop k).flatMap Bk.cs)[j]? = some u) : (l.flatMap Bk.cs)[k * 2 + j]? = some u := by
  conv => lhs; rw [← List.take_append_drop k l]
  have e : ((l.take k).flatMap Bk.cs).length = k * 2 := by rw [Sl.flat_len Bk.cs_len, List.length_take, Nat.min_eq_left hk]
  rw [List.flatMap_append, List.getElem?_append_right (by omega), e, Nat.add_sub_cancel_left]; exact h
theorem without_len {l : List Bk} {k : Nat} (h : k < l.length) : (without l k).length = k + (l.length - (k + 1)) := by unfold without; simp; omega
theorem at_norm (a : Int) (n : Nat) (h0 : 0 < n) : ∃ k : Nat, k < n ∧ (a.tmod (n : Int) + (n : Int)).tmod (n : Int) = (k : Int) ∧ -(n : Int) < a.tmod n ∧ a.tmod n < n := by
  have h1 : -(n : Int) < a.tmod n ∧ a.tmod n < n := by
    have h3 : (a.natAbs % n) < n := Nat.mod_lt _ h0
    have h4 : (a.tmod (n : Int)).natAbs < n := by rw [Int.natAbs_tmod]; simpa using h3
    generalize a.tmod (n : Int) = z at *
    omega
  have h2 : 0 ≤ a.tmod (n : Int) + (n : Int) := by omega
  have h3 : (a.tmod (n : Int) + (n : Int)).tmod (n : Int) = (a.tmod (n : Int) + (n : Int)) % (n : Int) := Int.tmod_eq_emod_of_nonneg h2
  refine ⟨((a.tmod (n : Int) + (n : Int)) % (n : Int)).toNat, ?_, ?_, h1.1, h1.2⟩
  · have := Int.emod_lt_of_pos (a.tmod (n : Int) + (n : Int)) (show (0 : Int) < n by omega)
    have := Int.emod_nonneg (a.tmod (n : Int) + (n : Int)) (show (n : Int) ≠ 0 by omega)
    omega
  · rw [h3]
    have := Int.emod_nonneg (a.tmod (n : Int) + (n : Int)) (show (n : Int) ≠ 0 by omega)
    omega
set_option maxRecDepth 100000 in
set_option maxHeartbeats 8000000 in
theorem Leaves_c (p : Int) (l : List Bk) (at_ h : Int) (A : Option Addr) (n c : Nat) (w : World) (hr : Sl.Rds w 2 A n (l.flatMap Bk.cs)) (hnc : n ≤ c) :
    Calls Try.prog 5 #[.int .i64 p, .slice A n c, .int .i64 at_, .int .u64 h] w fun e w' => e = .returned (.bool true) ∧ Below w.heap.size w w' := by
  obtain rfl := hr.length Bk.cs_len (by omega)
  have hle := hr.le
  have GL := K.H.mk (fun (W : World) => alive_c W)
  have GB := K.H.mk (fun (W : World) (hb : Below w.heap.size w W) => Build_c l p A l.length c W (hr.below hb))
  have Hr := K.H.mk hr
  by_cases he : eBuild p l = 0
  · by_cases hl2 : 2 ≤ l.length
    · obtain ⟨k, hk, e53, r1, r2⟩ := at_norm at_ l.length (by omega)
      obtain ⟨x, hx⟩ : ∃ x, l[k]? = some x := ⟨_, List.getElem?_eq_getElem hk⟩
      have hl32 : l.length ≤ 32 := (eChk_fine (eBuild_0 he).1).1
      have HL := K.H.mk (leaves hx he hl2 h)
      have HX := K.H.mk hx
      have HWB := K.H.mk (eBuild_without hx he)
      have he2 := he
      have hld : decide ((l.length : Int) < 2) = false := decide_eq_false (by omega)
      have hz : (l.length : Int) ≠ 0 := by omega
      have hzn : l.length ≠ 0 := by omega
      rw [he] at GB
      generalize hrr : at_.tmod (l.length : Int) = r at *
      have hw1 : IntKind.i64.wrap (r + (l.length : Int)) = r + (l.length : Int) := K.i64_in (by omega) (by omega)
      have hr0 := hr
      clear hr he hx
      go_enter Try.func5, Try.ntmps5
      go_wp2_with (first
        | (go_at_call 9; (with_reducible refine (GL.out _).mono ?_); rintro e W1 ⟨rfl, hb1⟩; obtain ⟨hB1, hC1, hF1, hZ1⟩ := K.bel_facts hb1; clear hb1)
        | (go_at_call 10; (with_reducible refine (GB.out _ (by repeat (first | (with_reducible exact Below.refl _ _) | (with_reducible refine K.b_bel ?_ (by assumption)) | (with_reducible refine K.b_alloc ?_ _) | (with_reducible refine K.b_drewN ?_ _) | (with_reducible refine K.b_drew ?_) | (with_reducible refine K.b_set ?_ (by first | omega | (simp <;> omega)) _) | (with_reducible refine K.b_only ?_ (by assumption) (by first | omega | (simp <;> omega)))))).mono ?_); rintro e W3 ⟨v3, rfl, hown3, hb3⟩; obtain ⟨hB3, hC3, hF3, hZ3⟩ := K.bel_facts hb3; clear hb3; obtain ⟨B3, d3, rfl, hR3⟩ := Sl.Rds.of_own hown3; clear hown3)
        | (go_at_call 11; (with_reducible refine (num_c _ _).mono ?_); rintro e w' ⟨rfl, hw'⟩; have hw'2 := Eq.symm hw'; clear hw'; subst hw'2))
      have Hb3 := K.H.mk (show Below w.heap.size w W3 from (by repeat (first | (with_reducible exact Below.refl _ _) | (with_reducible refine K.b_bel ?_ (by assumption)) | (with_reducible refine K.b_alloc ?_ _) | (with_reducible refine K.b_drewN ?_ _) | (with_reducible refine K.b_drew ?_) | (with_reducible refine K.b_set ?_ (by first | omega | (simp <;> omega)) _) | (with_reducible refine K.b_only ?_ (by assumption) (by first | omega | (simp <;> omega))))))
      have hbd := Hb3.out
      obtain ⟨b, off, hA, hbl, hbc0⟩ := hr0.at_ (by omega)
      subst hA
      have hbw : b < W3.heap.size := Nat.lt_of_lt_of_le hbl hbd.size
      have hcell : ∀ (j : Nat) (u : Value), (l.flatMap Bk.cs)[j]? = some u → W3.cell? ⟨b, off + j, none⟩ = some u := by
        intro j u hj
        have hjl := (List.getElem?_eq_some_iff.1 hj).1
        have h1 := hbd.cell (p := ⟨b, off + j, none⟩) hbl
        rw [h1, hbc0 j hjl, hj]
      have HC := K.H.mk hcell
      have ho0 : W3.ownsRow W3.heap.size 33 2 (.slice none 0 0) 0 [] := World.ownsRow_nil _ _ _ _
      have hki : (k : Int) ≤ (l.length : Int) := by omega
      have hk0 : (0 : Int) ≤ (k : Int) := by omega
      have hk1 : (k : Int) + 1 ≤ (l.length : Int) := by omega
      clear hcell hbc0 hbd
      have hkc : k ≤ c := by omega
      have hkc1 : k + 1 ≤ c := by omega
      have hki1 : (k : Int) ≤ (c : Int) := by omega
      have hk2 : k + 1 ≤ l.length := by omega
      have hwk : IntKind.i64.wrap ((k : Int) + 1) = ((k + 1 : Nat) : Int) := by rw [K.i64_in (by omega) (by omega)]; omega
      have hk3 : ((k + 1 : Nat) : Int) ≤ (l.length : Int) := by omega
      have hk4 : (0 : Int) ≤ ((k + 1 : Nat) : Int) := by omega
      have hk5 : (0 : Int) ≤ (k : Int) + 1 := by omega
      obtain ⟨ad, hif, had⟩ : ∃ ad : Addr, (if c = k + 1 then some (⟨b, off, none⟩ : Addr) else some ⟨b, off + (k + 1) * 2, none⟩) = some ad ∧ (∀ j u, ((l.drop (k + 1)).flatMap Bk.cs)[j]? = some u → ad.add j = ⟨b, off + ((k + 1) * 2 + j), none⟩) := by
        by_cases hce : c = k + 1
        · refine ⟨_, if_pos hce, fun j u hj => ?_⟩
          rw [List.drop_eq_nil_of_le (by omega)] at hj
          simp at hj
        · exact ⟨_, if_neg hce, fun j u hj => by rw [Addr.add_mid, Nat.add_assoc]⟩
      have HAD := K.H.mk had
      clear had
      refine K.wp_region_mix none (by kernel_rfl) (by kernel_rfl) ?_
      intro W9 hR9
      have hB9 := K.InR.bel hR9
      have hZ9 := K.inr_size hR9
      have hcell9 : ∀ (j : Nat) (u : Value), (l.flatMap Bk.cs)[j]? = some u → W9.cell? ⟨b, off + j, none⟩ = some u := fun j u hj => (World.cell?_of_block (hB9.out.block b hbw)).trans (HC.out j u hj)
      have HC9 := K.H.mk hcell9
      have ho9 : W9.ownsRow W3.heap.size 33 2 (.slice none 0 0) 0 [] := World.ownsRow_nil _ _ _ _
      clear hcell9 ho0
      repeat (any_goals (first | refine K.wpMix_skip2 (by rfl) (by rfl) ?_ | (refine K.wpMix_skip (by rfl) ?_; go_simp) | (refine K.wpMix_want (by rfl) (by rfl) (fun Kq hK => ?_); go_simp; refine hK _ _ ?_; clear hK Kq) | (refine K.wpMix_ser (by rfl) (by rfl) (fun Kq hK => ?_); first | ((first | (have hx9 := hown8; clear hx9; refine K.ser_appN (news := (l.drop (k + 1)).flatMap Bk.cs) (m := l.length - (k + 1)) (c := c - (k + 1)) _ _ 22 33 (.agg #[.int .i64 0, .int .i64 0]) ad rfl Try.underlying22 (by kernel_rfl : (Try.prog.info? 33).map (fun i => (i.zero, i.size, i.bytes)) = some (some (.agg #[.int .i64 0, .int .i64 0]), 2, 16)) rfl (by decide) (by decide) rfl hown8 rfl (by rw [Sl.flat_len Bk.cs_len]; simp <;> omega) (fun j u hj => by rw [HAD.out j u hj]; exact (World.cell?_of_block (hR9.out.block b hbw (by simp))).trans (HC.out _ _ (rest_cells hk2 hj))) one_bk (by omega) (by omega) ?_; intro v10 W10 hown10 hgr10; have hR9 := K.inr_grown hR9 hgr10 (fun g e => Sl.own_base hown8 g e)) | (refine K.ser_appN (news := (l.take k).flatMap Bk.cs) (m := k) (c := c) _ _ 22 33 (.agg #[.int .i64 0, .int .i64 0]) ⟨b, off, none⟩ rfl Try.underlying22 (by kernel_rfl : (Try.prog.info? 33).map (fun i => (i.zero, i.size, i.bytes)) = some (some (.agg #[.int .i64 0, .int .i64 0]), 2, 16)) rfl (by decide) (by decide) rfl ho9 rfl (by rw [Sl.flat_len Bk.cs_len]; simp <;> omega) (fun j u hj => by rw [Addr.add_mid]; exact HC9.out j u (part_cells hj)) one_bk (by omega) (by omega) ?_; intro v8 W8 hown8 hgr8; have hR9 := K.inr_grown hR9 hgr8 (fun g e => by cases e); have hs8 := hR9.out.size)); refine ⟨(by repeat (first | (with_reducible exact hR9) | (with_reducible refine K.inr_bel ?_ (by assumption)) | (with_reducible refine K.inr_alloc ?_ _) | (with_reducible refine K.inr_row ?_ (by assumption)) | (with_reducible refine K.inr_new ?_ (by first | omega | (simp <;> omega)) _))), hK _ _ ?_⟩; clear hK Kq) | (go_simp; first | (refine ⟨(by repeat (first | (with_reducible exact hR9) | (with_reducible refine K.inr_bel ?_ (by assumption)) | (with_reducible refine K.inr_alloc ?_ _) | (with_reducible refine K.inr_row ?_ (by assumption)) | (with_reducible refine K.inr_new ?_ (by first | omega | (simp <;> omega)) _))), hK _ _ ?_⟩; clear hK Kq) | (fail; refine ⟨_, rfl, (by repeat (first | (with_reducible exact hR9) | (with_reducible refine K.inr_bel ?_ (by assumption)) | (with_reducible refine K.inr_alloc ?_ _) | (with_reducible refine K.inr_row ?_ (by assumption)) | (with_reducible refine K.inr_new ?_ (by first | omega | (simp <;> omega)) _))), hK _ _ ?_⟩; clear hK Kq)))))
      all_goals refine K.wpMix_nil ?_
      have hwl := without_len hk
      have hown : W10.ownsRow W3.heap.size 33 2 v10 (without l k).length ((without l k).flatMap Bk.cs) := by
        rw [hwl]; unfold without; rw [List.flatMap_append]; simpa using hown10
      obtain ⟨B10, d10, rfl, hR10⟩ := Sl.Rds.of_own hown
      have hb10 : Below W3.heap.size W3 W10 := (K.InR.bel hR9).out
      have hB10 := K.Bel.mk hb10
      have GB2 := K.H.mk (show ∀ W, Below W10.heap.size W10 W → Calls Try.prog 10 #[.int .i64 p, .slice B10 (without l k).length d10] W (BPost W (oBuild p (without l k)) 0) from fun W hb => by
        have := Build_c (without l k) p B10 (without l k).length d10 W (hR10.below hb)
        rw [HWB.out] at this; exact this)
      have hR310 := hR3.below hb10
      clear hown hown8 hown10 hgr8 hgr10 hR9 hB9 hZ9 ho9 HC9 hs8 hR10 hR3
      have hb10w : Below w.heap.size w W10 := (by repeat (first | (with_reducible exact Below.refl _ _) | (with_reducible exact Hb3.out) | (with_reducible refine K.b_bel ?_ (by assumption)) | (with_reducible refine K.b_alloc ?_ _) | (with_reducible refine K.b_drewN ?_ _) | (with_reducible refine K.b_drew ?_) | (with_reducible refine K.b_set ?_ (by first | omega | (simp <;> omega)) _) | (with_reducible refine K.b_only ?_ (by assumption) (by first | omega | (simp <;> omega)))))
      have HB10 := K.H.mk hb10w
      have HH := K.H.mk hb10
      have hx0 : W10.cell? ⟨b, off + k * 2, none⟩ = some (.int .i64 x.id) := by
        rw [World.cell?_of_block (hb10.block b hbw)]
        exact HC.out (k * 2) _ (by have := Sl.flat_get Bk.cs_len l k 0 x HX.out (by omega); simpa [Bk.cs] using this)
      have hB10z : W3.heap.size ≤ W10.heap.size := hb10.size
      have hbw10 : b < W10.heap.size := Nat.lt_of_lt_of_le hbw hb10.size
      clear hb10 hb10w hB10 hwl
      have HWC := K.H.mk (walk_count he2 (by omega) h)
      have HE1 := build_pos he2 (show 0 < l.length by omega)
      have HE2 := build_pos HWB.out (show 0 < (without l k).length by rw [without_len hk]; omega)
      have HWF := K.H.mk (build_wf he2)
      have HH10 := K.H.mk hB10z
      generalize without l k = Y at *
      obtain ⟨R, hRe⟩ : ∃ R, R = oBuild p l := ⟨_, rfl⟩
      obtain ⟨S, hSe⟩ : ∃ S, S = oBuild p Y := ⟨_, rfl⟩
      rw [← hRe] at HL HE1 HWC HWF hR310
      rw [← hSe] at HL HE2 GB2
      rw [← hRe]
      have GK1 := K.H.mk (fun (A : Option Addr) (c : Nat) (W : World) (hr : Sl.Rds W 2 A R.length (R.flatMap Pt.cs)) => HE1 ▸ Lookup_c R h A R.length c W hr)
      have GK2 := K.H.mk (fun (A : Option Addr) (c : Nat) (W : World) (hr : Sl.Rds W 2 A S.length (S.flatMap Pt.cs)) => HE2 ▸ Lookup_c S h A S.length c W hr)
      have GW := K.H.mk (fun (A : Option Addr) (c : Nat) (W : World) (hr : Sl.Rds W 2 A R.length (R.flatMap Pt.cs)) => HE1 ▸ Walk_c R h A R.length c W hr HWF.out)
      clear hRe hSe HE1 HE2 HWB he2
      have hwl := HWC.out
      generalize oLook R h = a at *
      generalize oLook S h = bb at *
      generalize oWalk R h = Wk at *
      have hwq : ((Wk.length : Int) != (l.length : Int)) = false := by simp [hwl]
      clear hwl
      have hee : (bb == bb) = true := by simp
      have hw1l : (1 : Int) < (Wk.length : Int) := by have := HWC.out; omega
      have hw1n : 1 < Wk.length := by have := HWC.out; omega
      cases hax : (a == x.id)
      · have hab : a = bb := HL.out.2 (by simpa using hax)
        subst hab
        clear HL HWC
        go_wp2_with (first
          | (go_at_call 10; (with_reducible refine (GB2.out _ (by repeat (first | (with_reducible exact Below.refl _ _) | (with_reducible refine K.b_bel ?_ (by assumption)) | (with_reducible refine K.b_alloc ?_ _) | (with_reducible refine K.b_drewN ?_ _) | (with_reducible refine K.b_drew ?_) | (with_reducible refine K.b_set ?_ (by first | omega | (simp <;> omega)) _) | (with_reducible refine K.b_only ?_ (by assumption) (by first | omega | (simp <;> omega)))))).mono ?_); rintro e W5 ⟨v5, rfl, hown5, hb5⟩; obtain ⟨hB5, hC5, hF5, hZ5⟩ := K.bel_facts hb5; clear hb5; obtain ⟨B5, d5, rfl, hR5⟩ := Sl.Rds.of_own hown5; clear hown5; have hR35 := hR310.below hB5.out)
          | (go_at_call 15; (with_reducible refine (GK1.out _ _ _ hR35).mono ?_); rintro e W6 ⟨rfl, hb6⟩; obtain ⟨hB6, hC6, hF6, hZ6⟩ := K.bel_facts hb6; clear hb6; have hR36 := hR35.below hB6.out; have hR56 := hR5.below hB6.out)
          | (go_at_call 15; (with_reducible refine (GK2.out _ _ _ hR56).mono ?_); rintro e W7 ⟨rfl, hb7⟩; obtain ⟨hB7, hC7, hF7, hZ7⟩ := K.bel_facts hb7; clear hb7; have hR37 := hR36.below hB7.out)
          | (go_at_call 16; (with_reducible refine (GW.out _ _ _ hR37).mono ?_); rintro e W8 ⟨v8, rfl, hown8, hb8⟩; obtain ⟨hB8, hC8, hF8, hZ8⟩ := K.bel_facts hb8; clear hb8; obtain ⟨B8, d8, rfl, hR8⟩ := Sl.Rds.of_own hown8; rw [flat_i] at hR8; clear hown8; have hx8 : W8.cell? ⟨b, off + k * 2, none⟩ = some (.int .i64 x.id) := (((hB5.out.trans ((hB6.out.mono (by have := hB5.out.size; omega)).trans ((hB7.out.mono (by have := hB5.out.size; have := hB6.out.size; omega)).trans (hB8.out.mono (by have := hB5.out.size; have := hB6.out.size; have := hB7.out.size; omega))))).cell (p := ⟨b, off + k * 2, none⟩) hbw10)).trans hx0)
          | (go_at_call 11; (with_reducible refine (num_c _ _).mono ?_); rintro e w' ⟨rfl, hw'⟩; have hw'2 := Eq.symm hw'; clear hw'; subst hw'2))
        go_ret
        exact ⟨rfl, (by repeat (first | (with_reducible exact Below.refl _ _) | (with_reducible exact HB10.out) | (with_reducible refine K.b_bel ?_ (by assumption)) | (with_reducible refine K.b_alloc ?_ _) | (with_reducible refine K.b_drewN ?_ _) | (with_reducible refine K.b_drew ?_) | (with_reducible refine K.b_set ?_ (by first | omega | (simp <;> omega)) _) | (with_reducible refine K.b_only ?_ (by assumption) (by first | omega | (simp <;> omega)))))⟩
      · have HL1 := K.H.mk (HL.out.1 (by simpa using hax))
        clear HL HWC
        go_wp2_with (first
          | (go_at_call 10; (with_reducible refine (GB2.out _ (by repeat (first | (with_reducible exact Below.refl _ _) | (with_reducible refine K.b_bel ?_ (by assumption)) | (with_reducible refine K.b_alloc ?_ _) | (with_reducible refine K.b_drewN ?_ _) | (with_reducible refine K.b_drew ?_) | (with_reducible refine K.b_set ?_ (by first | omega | (simp <;> omega)) _) | (with_reducible refine K.b_only ?_ (by assumption) (by first | omega | (simp <;> omega)))))).mono ?_); rintro e W5 ⟨v5, rfl, hown5, hb5⟩; obtain ⟨hB5, hC5, hF5, hZ5⟩ := K.bel_facts hb5; clear hb5; obtain ⟨B5, d5, rfl, hR5⟩ := Sl.Rds.of_own hown5; clear hown5; have hR35 := hR310.below hB5.out)
          | (go_at_call 15; (with_reducible refine (GK1.out _ _ _ hR35).mono ?_); rintro e W6 ⟨rfl, hb6⟩; obtain ⟨hB6, hC6, hF6, hZ6⟩ := K.bel_facts hb6; clear hb6; have hR36 := hR35.below hB6.out; have hR56 := hR5.below hB6.out)
          | (go_at_call 15; (with_reducible refine (GK2.out _ _ _ hR56).mono ?_); rintro e W7 ⟨rfl, hb7⟩; obtain ⟨hB7, hC7, hF7, hZ7⟩ := K.bel_facts hb7; clear hb7; have hR37 := hR36.below hB7.out)
          | (go_at_call 16; (with_reducible refine (GW.out _ _ _ hR37).mono ?_); rintro e W8 ⟨v8, rfl, hown8, hb8⟩; obtain ⟨hB8, hC8, hF8, hZ8⟩ := K.bel_facts hb8; clear hb8; obtain ⟨B8, d8, rfl, hR8⟩ := Sl.Rds.of_own hown8; rw [flat_i] at hR8; clear hown8; obtain ⟨b8, off8, rfl, hbl8, hbc8⟩ := Sl.Rds.elem hR8 (enc := fun n => [.int .i64 n]) (fun _ => rfl) (by omega) HL1.out; have q8_0 : W8.cell? ⟨b8, off8 + 1, none⟩ = some (.int .i64 bb) := (by have := hbc8 0 (by omega); simpa using this); clear hbc8; have hx8 : W8.cell? ⟨b, off + k * 2, none⟩ = some (.int .i64 x.id) := (((hB5.out.trans ((hB6.out.mono (by have := hB5.out.size; omega)).trans ((hB7.out.mono (by have := hB5.out.size; have := hB6.out.size; omega)).trans (hB8.out.mono (by have := hB5.out.size; have := hB6.out.size; have := hB7.out.size; omega))))).cell (p := ⟨b, off + k * 2, none⟩) hbw10)).trans hx0)
          | (go_at_call 11; (with_reducible refine (num_c _ _).mono ?_); rintro e w' ⟨rfl, hw'⟩; have hw'2 := Eq.symm hw'; clear hw'; subst hw'2))
        go_ret
        exact ⟨rfl, (by repeat (first | (with_reducible exact Below.refl _ _) | (with_reducible exact HB10.out) | (with_reducible refine K.b_bel ?_ (by assumption)) | (with_reducible refine K.b_alloc ?_ _) | (with_reducible refine K.b_drewN ?_ _) | (with_reducible refine K.b_drew ?_) | (with_reducible refine K.b_set ?_ (by first | omega | (simp <;> omega)) _) | (with_reducible refine K.b_only ?_ (by assumption) (by first | omega | (simp <;> omega)))))⟩
    · have hld : decide ((l.length : Int) < 2) = true := decide_eq_true (by omega)
      rw [he] at GB
      generalize oBuild p l = R at *
      clear hr he
      go_enter Try.func5, Try.ntmps5
      go_wp2_with (first
        | (go_at_call 9; (with_reducible refine (GL.out _).mono ?_); rintro e W1 ⟨rfl, hb1⟩; obtain ⟨hB1, hC1, hF1, hZ1⟩ := K.bel_facts hb1; clear hb1)
        | (go_at_call 10; (with_reducible refine (GB.out _ (by repeat (first | (with_reducible exact Below.refl _ _) | (with_reducible refine K.b_bel ?_ (by assumption)) | (with_reducible refine K.b_alloc ?_ _) | (with_reducible refine K.b_drewN ?_ _) | (with_reducible refine K.b_drew ?_) | (with_reducible refine K.b_set ?_ (by first | omega | (simp <;> omega)) _) | (with_reducible refine K.b_only ?_ (by assumption) (by first | omega | (simp <;> omega)))))).mono ?_); rintro e W3 ⟨v3, rfl, hown3, hb3⟩; obtain ⟨hB3, hC3, hF3, hZ3⟩ := K.bel_facts hb3; clear hb3; obtain ⟨B3, d3, rfl, hR3⟩ := Sl.Rds.of_own hown3; clear hown3)
        | (go_at_call 11; (with_reducible refine (num_c _ _).mono ?_); rintro e w' ⟨rfl, hw'⟩; have hw'2 := Eq.symm hw'; clear hw'; subst hw'2))
      go_ret
      exact ⟨rfl, (by repeat (first | (with_reducible exact Below.refl _ _) | (with_reducible refine K.b_bel ?_ (by assumption)) | (with_reducible refine K.b_alloc ?_ _) | (with_reducible refine K.b_drewN ?_ _) | (with_reducible refine K.b_drew ?_) | (with_reducible refine K.b_set ?_ (by first | omega | (simp <;> omega)) _) | (with_reducible refine K.b_only ?_ (by assumption) (by first | omega | (simp <;> omega)))))⟩
  · have hd : (eBuild p l != 0) = true := by simpa using he
    have hd2 : (eBuild p l == 0) = false := by simpa using he
    rw [oBuild_nil he] at GB
    generalize eBuild p l = er at *
    clear hr he
    go_enter Try.func5, Try.ntmps5
    go_wp2_with (first
      | (go_at_call 9; (with_reducible refine (GL.out _).mono ?_); rintro e W1 ⟨rfl, hb1⟩; obtain ⟨hB1, hC1, hF1, hZ1⟩ := K.bel_facts hb1; clear hb1)
      | (go_at_call 10; (with_reducible refine (GB.out _ (by repeat (first | (with_reducible exact Below.refl _ _) | (with_reducible refine K.b_bel ?_ (by assumption)) | (with_reducible refine K.b_alloc ?_ _) | (with_reducible refine K.b_drewN ?_ _) | (with_reducible refine K.b_drew ?_) | (with_reducible refine K.b_set ?_ (by first | omega | (simp <;> omega)) _) | (with_reducible refine K.b_only ?_ (by assumption) (by first | omega | (simp <;> omega)))))).mono ?_); rintro e W3 ⟨v3, rfl, hown3, hb3⟩; obtain ⟨hB3, hC3, hF3, hZ3⟩ := K.bel_facts hb3; clear hb3; obtain ⟨B3, d3, rfl, hR3⟩ := Sl.Rds.of_own hown3; clear hown3)
      | (go_at_call 11; (with_reducible refine (num_c _ _).mono ?_); rintro e w' ⟨rfl, hw'⟩; have hw'2 := Eq.symm hw'; clear hw'; subst hw'2))
    go_ret
    exact ⟨rfl, (by repeat (first | (with_reducible exact Below.refl _ _) | (with_reducible refine K.b_bel ?_ (by assumption)) | (with_reducible refine K.b_alloc ?_ _) | (with_reducible refine K.b_drewN ?_ _) | (with_reducible refine K.b_drew ?_) | (with_reducible refine K.b_set ?_ (by first | omega | (simp <;> omega)) _) | (with_reducible refine K.b_only ?_ (by assumption) (by first | omega | (simp <;> omega)))))⟩
theorem cap_of {H : Type} {enc : TypeId × Value → H} {P : Program} {w : World} {base : Nat} {spare : Nat → Bool} {held : Bool} {e : TypeId} {a : Option Addr} {n c : Nat} (h : Opn.Ok enc P w base spare held (.slice e) (.slice a n c)) : n ≤ c := by
  rcases h with h | ⟨ad, len, cap, h, hb, hl, hm, q, hq⟩
  · injection h with h1 h2 h3
    omega
  · injection h with h1 h2 h3
    omega
end Proofs.Ytkalbiihehcjkaa.Rg
end Go
