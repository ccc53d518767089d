/- BreakerMay: of any breaker, settings, tick, probe and outcome: behind any step the breaker may be. No condition. -/
import Derived.Test.YtimdfnhagjlkoabRows
import Derived.Test.YtimdfnhagjlkoabOpn
import Derived.WalkKit
import Derived.ProofKit
import Derived.OpenShut
import Derived.ShutString
import Derived.ChangeOld
import Derived.Below
import Derived.SizedLaws
import Derived.Test.YtimdfnhagjlkoabBrkL1
namespace Go.Proofs.Ytimdfnhagjlkoab.breakerMay
open Go.ChangeShapes Go.WideShapes Go.ChangeAt Go.RowKit
open Go.ChangeMaps (open_string shut_string)
set_option linter.unusedVariables false
theorem own : ownKnob Try.prog.godebug = none := by kernel_rfl
theorem laidOut : laidOutB Try.prog = true := by kernel_rfl
set_option maxRecDepth 100000 in
theorem lifted (os : Os) (started : os.Started) (H : Type) (enc : TypeId × Value → H) :
    ReturnsInHanded {} Try.checked os 3 .any (Rows.breakerMaySpec.pre6 enc Try.prog Try.f3 Rows.breakerMayRow.domain false) (Rows.breakerMaySpec.post enc Try.prog Try.f3 false true false false) := by
  refine returnsInHanded_of_change_sized (C := Try.checked) own started (by kernel_rfl) Try.func3
    (ChangeSpec.witness6 (enc := enc) (C := Try.checked) false ⟨#[], #[.agg #[.int .i64 0, .int .i64 0, .int .i64 0, .int .i64 0, .int .i64 0], .agg #[.int .i64 0, .int .i64 0, .int .i64 0], .int .i64 0, .bool false, .bool false], []⟩ 8 (by kernel_rfl) (by kernel_rfl) (by kernel_rfl) (by kernel_rfl)) ?_
  intro W base args ds gs before hval0 hW hcnd hsz0 _
  have hsz : (DataW.weightsEach Try.prog (Try.f3.params.toList ++ Rows.breakerMaySpec.plain.varTypes Try.prog) (ds ++ gs)).all (· ≤ reachBytes) = true := hsz0
  have hval : ∀ (j : Nat) t v, Try.f3.params[j]? = some t → args[j]? = some v → Value.okWide Try.prog W .any base t v := hval0
  have hW' := hW
  obtain ⟨p, q, hA0, hV, rfl, hfz, hnd⟩ := hW
  have hA : DataW.TrodAll enc Try.prog W 0 (fun _ => true) true Try.f3.params.toList args.toList ds p := hA0
  rw [Try.params3] at hA hval hsz
  obtain ⟨v0, vs0, d0, ds0, p0, q0, hargs, rfl, rfl, h0, r0⟩ := trodAll_cons hA
  obtain ⟨v1, vs1, d1, ds1, p1, q1, rfl, rfl, rfl, h1, r1⟩ := trodAll_cons r0
  obtain ⟨v2, vs2, d2, ds2, p2, q2, rfl, rfl, rfl, h2, r2⟩ := trodAll_cons r1
  obtain ⟨v3, vs3, d3, ds3, p3, q3, rfl, rfl, rfl, h3, r3⟩ := trodAll_cons r2
  obtain ⟨v4, vs4, d4, ds4, p4, q4, rfl, rfl, rfl, h4, r4⟩ := trodAll_cons r3
  obtain ⟨rfl, rfl, rfl⟩ := trodAll_nil r4
  obtain rfl : args = #[v0, v1, v2, v3, v4] := by cases args; simp_all
  obtain ⟨rfl, rfl⟩ := trodVars_none hV
  have k0 := h0
  have lt0 : ∀ x ∈ p0, x.block < W.heap.size := by obtain ⟨m, hm⟩ := k0; exact DataW.trod_lt m _ _ _ hm
  obtain ⟨⟨l0⟩, rfl⟩ := Opn.agg_of Try.underlying23 (hval 0 23 v0 rfl rfl)
  have o0 := Opn.opened (m := 8) h0 (show Opn.flat Try.prog 8 23 = some [.int .i64, .int .i64, .int .i64, .int .i64, .int .i64] from by kernel_rfl)
  simp only [Value.cells] at o0
  obtain ⟨_, l0_0, rfl, ⟨x0_0, rfl, w0_0⟩, o0_0⟩ := Opn.ok_cons o0
  obtain ⟨_, l0_1, rfl, ⟨x0_1, rfl, w0_1⟩, o0_1⟩ := Opn.ok_cons o0_0
  obtain ⟨_, l0_2, rfl, ⟨x0_2, rfl, w0_2⟩, o0_2⟩ := Opn.ok_cons o0_1
  obtain ⟨_, l0_3, rfl, ⟨x0_3, rfl, w0_3⟩, o0_3⟩ := Opn.ok_cons o0_2
  obtain ⟨_, l0_4, rfl, ⟨x0_4, rfl, w0_4⟩, o0_4⟩ := Opn.ok_cons o0_3
  obtain rfl := Opn.ok_nil o0_4
  have k1 := h1
  have lt1 : ∀ x ∈ p1, x.block < W.heap.size := by obtain ⟨m, hm⟩ := k1; exact DataW.trod_lt m _ _ _ hm
  obtain ⟨⟨l1⟩, rfl⟩ := Opn.agg_of Try.underlying25 (hval 1 25 v1 rfl rfl)
  have o1 := Opn.opened (m := 8) h1 (show Opn.flat Try.prog 8 25 = some [.int .i64, .int .i64, .int .i64] from by kernel_rfl)
  simp only [Value.cells] at o1
  obtain ⟨_, l1_0, rfl, ⟨x1_0, rfl, w1_0⟩, o1_0⟩ := Opn.ok_cons o1
  obtain ⟨_, l1_1, rfl, ⟨x1_1, rfl, w1_1⟩, o1_1⟩ := Opn.ok_cons o1_0
  obtain ⟨_, l1_2, rfl, ⟨x1_2, rfl, w1_2⟩, o1_2⟩ := Opn.ok_cons o1_1
  obtain rfl := Opn.ok_nil o1_2
  obtain ⟨x2, rfl, rfl, rfl, w2⟩ := open_int Try.underlying3 (hval 2 3 v2 rfl rfl) h2
  obtain ⟨x3, rfl, rfl, rfl⟩ := open_bool Try.underlying4 (hval 3 4 v3 rfl rfl) h3
  obtain ⟨x4, rfl, rfl, rfl⟩ := open_bool Try.underlying4 (hval 4 4 v4 rfl rfl) h4
  clear hA0 hval0 hsz0
  refine (Brk.May_c ⟨x0_0, x0_1, x0_2, x0_3, x0_4⟩ ⟨x1_0, x1_1, x1_2⟩ x2 x3 x4 W).mono fun e W' ⟨he, bel⟩ => ?_
  subst he
  exact ⟨_, rfl, _, _, _, [], _, [], hW', trodAll_mk1 (shut_bool Try.underlying4 _), (trodAll_cons_mk (Below.trod laidOut (by kernel_rfl) (of_decide_eq_true (by kernel_rfl)) k0 bel lt0) (trodAll_cons_mk (Below.trod laidOut (by kernel_rfl) (of_decide_eq_true (by kernel_rfl)) k1 bel lt1) (trodAll_cons_mk (shut_int Try.underlying3 w2) (trodAll_cons_mk (shut_bool Try.underlying4 _) (trodAll_cons_mk (shut_bool Try.underlying4 _) trodAll_mk0))))), rfl, bel.frame _, fun h => by cases h⟩
theorem over : Rows.breakerMayRow.holds Try.pinned (OpenSpec.ofChange Rows.breakerMaySpec) :=
  OpenClaim.holds_of_wide 3 Try.f3 rfl rfl rfl rfl rfl rfl rfl ⟨rfl, rfl, rfl, rfl, rfl⟩ rfl rfl rfl rfl rfl (by kernel_rfl) Try.func3 (by kernel_rfl)
    (of_decide_eq_true (by kernel_rfl)) (by unfold Func.isWrapper; first | (rw [if_pos (by decide +kernel)]; kernel_rfl) | (rw [if_neg (by decide +kernel)]; exact ⟨rfl, rfl⟩))
    (fun os started H enc _ => lifted os started H enc)
theorem proved : Rows.BreakerMaySaid := over
#print axioms proved
end Go.Proofs.Ytimdfnhagjlkoab.breakerMay
namespace Go.Proofs.Ytimdfnhagjlkoab
theorem breakerMay_holds : Rows.BreakerMaySaid := breakerMay.proved
end Go.Proofs.Ytimdfnhagjlkoab
