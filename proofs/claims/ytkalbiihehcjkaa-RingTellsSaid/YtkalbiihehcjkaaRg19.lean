/- Ring: the order of points in a world that has only grown and drawn. -/
import Derived.Test.YtkalbiihehcjkaaRg18
set_option linter.unusedVariables false
namespace Go
open Go.RowKit
namespace Proofs.Ytkalbiihehcjkaa.Rg
open Go.RowKit Go.Proofs.Ytkalbiihehcjkaa Go.Proofs.Ytkalbiihehcjkaa.K
set_option linter.unusedSimpArgs false
structure GrC (w W : World) : Prop where
  out : ∃ (q : Nat) (os : Array Obj), W = { w with drawn := w.drawn + q, heap := w.heap ++ os }
theorem grc_refl (w : World) : GrC w w := ⟨0, #[], by simp⟩
theorem grc_alloc {w W : World} (h : GrC w W) (o : Obj) : GrC w (W.alloc o) := by
  obtain ⟨q, os, rfl⟩ := h
  exact ⟨q, os.push o, by simp [World.alloc]⟩
theorem grc_drew1 (w : World) : GrC w { w with drawn := w.drawn + 1 } := ⟨1, #[], by simp⟩
theorem grc_trans {w W V : World} (h : GrC w W) (k : GrC W V) : GrC w V := by
  obtain ⟨q, os, rfl⟩ := h
  obtain ⟨q2, os2, rfl⟩ := k
  exact ⟨q + q2, os ++ os2, by simp [Nat.add_assoc]⟩
theorem GrC.inr {w W : World} (h : GrC w W) : InR w none W := by
  obtain ⟨q, os, rfl⟩ := h
  exact ⟨⟨rfl, rfl, rfl, by simp, fun k hk _ => by simp [Array.getElem?_append_left hk]⟩⟩
section
variable {P : Program} {ops : Array Oper} {w0 : World}
theorem wpMix_want_g {Q : Go.Act → World → Prop} {a : Go.Act} {w : World} {o : Oper} {rest : List Oper} (hw : Region.wanted o (yielded ops a.tmps) = true) (hp : isPure o.op = true)
    (h : ∀ K : Go.Act → World → Prop, (∀ a w, wpMix P ops (GrC w0) Q rest a w → K a w) → ∃ v, (∀ x : ExtR w0 none, PureAt P o a (w0.extr x) v) ∧ K (a.put o.dst v) w) : wpMix P ops (GrC w0) Q (o :: rest) a w :=
  wpMix_wantC hw hp fun K hK => by
    obtain ⟨v, h1, h2⟩ := h K hK
    exact ⟨v, fun w' hw' => h1 ⟨w', hw'.inr.out⟩, h2⟩
theorem wp_region_grc {id : Nat} {Q : Exit → Go.Act → World → Prop} {a : Go.Act} {w : World} {l : List Oper} (hm : P.follows .mixedOrders = true) (hB : mixB .any l.toArray l.length = true)
    (h : ∀ W, GrC w W → wpMix P l.toArray (GrC w) (fun a' W => Q .normal a' W) l a W) : (Code.region id l.toArray true).wp P Q a w :=
  wp_region_mixC hm hB (grc_drew1 w) h
end
set_option maxRecDepth 100000 in
set_option maxHeartbeats 2000000 in
theorem order_g (p q : Pt) (w : World) : Calls Try.prog 29 #[p.a, q.a] w fun e w' => e = .returned (.int .i64 (p.cmp q)) ∧ GrC w w' := by
  obtain ⟨c1, hc1⟩ : ∃ c, c = cmpI p.h q.h := ⟨_, rfl⟩
  obtain ⟨c2, hc2⟩ : ∃ c, c = cmpI p.i q.i := ⟨_, rfl⟩
  have HP := K.H.mk (show p.cmp q = if c1 = 0 then c2 else c1 by unfold Pt.cmp; rw [hc1, hc2])
  have G1 := K.H.mk (fun W => cmp_u64_c p.h q.h W)
  have G2 := K.H.mk (fun W => cmp_i64_c p.i q.i W)
  rw [← hc1] at G1
  rw [← hc2] at G2
  have GO := K.H.mk (fun (W : World) (g : Nat) (hA : K.At W g 3 #[.int .i64 c1, .int .i64 c2]) => or2_c c1 c2 g W hA)
  rw [HP.out]
  generalize (if c1 = 0 then c2 else c1) = r at *
  clear hc1 hc2 HP
  go_enter Try.func29, Try.ntmps29
  go_wp2
  refine wp_region_grc (by kernel_rfl) (by kernel_rfl) ?_
  intro W9 hR9
  have hB9 := K.InR.bel hR9.inr
  have hZ9 := K.inr_size hR9.inr
  repeat (any_goals (first | refine K.wpMix_skip2 (by rfl) (by rfl) ?_ | (refine K.wpMix_skip (by rfl) ?_; go_simp) | (refine wpMix_want_g (by rfl) (by rfl) (fun Kq hK => ?_); go_simp; refine hK _ _ ?_; clear hK Kq) | (refine K.wpMix_ser (by rfl) (by rfl) (fun Kq hK => ?_); first | (fail; refine ⟨(by repeat (first | (with_reducible exact hR9) | (with_reducible refine grc_alloc ?_ _))), hK _ _ ?_⟩; clear hK Kq) | (go_simp; first | (refine ⟨(by repeat (first | (with_reducible exact hR9) | (with_reducible refine grc_alloc ?_ _))), hK _ _ ?_⟩; clear hK Kq) | ((first | (go_at_call 47; (with_reducible refine (G1.out _).mono ?_); rintro e w' ⟨rfl, hw'⟩; have hw'2 := Eq.symm hw'; clear hw'; subst hw'2) | (go_at_call 48; (with_reducible refine (G2.out _).mono ?_); rintro e w' ⟨rfl, hw'⟩; have hw'2 := Eq.symm hw'; clear hw'; subst hw'2) | (go_at_call 46; (with_reducible refine (GO.out _ _ (K.At.new' _ _ _ _ (by simp))).mono ?_); rintro e w' ⟨rfl, hw'⟩; have hw'2 := Eq.symm hw'; clear hw'; subst hw'2)); refine ⟨_, rfl, (by repeat (first | (with_reducible exact hR9) | (with_reducible refine grc_alloc ?_ _))), hK _ _ ?_⟩; clear hK Kq)))))
  all_goals refine K.wpMix_nil ?_
  all_goals go_wp2
  go_ret
  exact ⟨rfl, grc_alloc (grc_trans (grc_alloc (grc_alloc (grc_refl _) _) _) hR9) _⟩
end Proofs.Ytkalbiihehcjkaa.Rg
end Go
