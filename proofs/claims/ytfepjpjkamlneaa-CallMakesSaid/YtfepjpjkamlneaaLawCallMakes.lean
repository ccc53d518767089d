/- CallMakes: a new call, the attempt that a message answers, and how a call ends without a reply: the program's are the reference's. No condition. -/
import Derived.Test.YtfepjpjkamlneaaRows
import Derived.Test.YtfepjpjkamlneaaOpnS
import Derived.WalkKit
import Derived.ProofKit
import Derived.OpenShut
import Derived.ShutString
import Derived.ChangeOld
import Derived.Below
import Derived.SizedLaws
import Derived.Test.YtfepjpjkamlneaaClN
namespace Go.Proofs.Ytfepjpjkamlneaa.callMakes
open Go.ChangeShapes Go.WideShapes Go.ChangeAt Go.RowKit
open Go.ChangeMaps (open_string shut_string)
set_option linter.unusedVariables false
theorem own : ownKnob Try.prog.godebug = none := by kernel_rfl
theorem laidOut : laidOutB Try.prog = true := by kernel_rfl
set_option maxRecDepth 100000 in
theorem lifted (os : Os) (started : os.Started) (H : Type) (enc : TypeId × Value → H) :
    ReturnsInHanded {} Try.checked os 4 .any (Rows.callMakesSpec.pre6 enc Try.prog Try.f4 Rows.callMakesRow.domain false) (Rows.callMakesSpec.post enc Try.prog Try.f4 false true false false) := by
  refine returnsInHanded_of_change_sized (C := Try.checked) own started (by kernel_rfl) Try.func4
    (ChangeSpec.witness6 (enc := enc) (C := Try.checked) false ⟨#[], #[.int .i64 0, .agg #[.int .i64 0, .int .i64 0, .int .i64 0, .int .i64 0], .int .i64 0, .int .i64 0, .agg #[.int .i64 0, .int .i64 0, .int .i64 0, .int .i64 0, .int .i64 0, .bool false, .int .i64 0, .int .i64 0, .int .i64 0, .slice none 0 0], .agg #[.int .i64 0, .int .i64 0, .int .i64 0, .int .i64 0, .int .i64 0, .int .i64 0, .int .i64 0, .int .i64 0, .int .i64 0, .int .i64 0, .int .i64 0, .slice none 0 0]], []⟩ 8 (by kernel_rfl) (by kernel_rfl) (by kernel_rfl) (by kernel_rfl)) ?_
  intro W base args ds gs before hval0 hW hcnd hsz0 _
  have hsz : (DataW.weightsEach Try.prog (Try.f4.params.toList ++ Rows.callMakesSpec.plain.varTypes Try.prog) (ds ++ gs)).all (· ≤ reachBytes) = true := hsz0
  have hval : ∀ (j : Nat) t v, Try.f4.params[j]? = some t → args[j]? = some v → Value.okWide Try.prog W .any base t v := hval0
  have hW' := hW
  obtain ⟨p, q, hA0, hV, rfl, hfz, hnd⟩ := hW
  have hA : DataW.TrodAll enc Try.prog W 0 (fun _ => true) true Try.f4.params.toList args.toList ds p := hA0
  rw [Try.params4] at hA hval hsz
  obtain ⟨v0, vs0, d0, ds0, p0, q0, hargs, rfl, rfl, h0, r0⟩ := trodAll_cons hA
  obtain ⟨v1, vs1, d1, ds1, p1, q1, rfl, rfl, rfl, h1, r1⟩ := trodAll_cons r0
  obtain ⟨v2, vs2, d2, ds2, p2, q2, rfl, rfl, rfl, h2, r2⟩ := trodAll_cons r1
  obtain ⟨v3, vs3, d3, ds3, p3, q3, rfl, rfl, rfl, h3, r3⟩ := trodAll_cons r2
  obtain ⟨v4, vs4, d4, ds4, p4, q4, rfl, rfl, rfl, h4, r4⟩ := trodAll_cons r3
  obtain ⟨v5, vs5, d5, ds5, p5, q5, rfl, rfl, rfl, h5, r5⟩ := trodAll_cons r4
  obtain ⟨rfl, rfl, rfl⟩ := trodAll_nil r5
  obtain rfl : args = #[v0, v1, v2, v3, v4, v5] := by cases args; simp_all
  obtain ⟨rfl, rfl⟩ := trodVars_none hV
  obtain ⟨x0, rfl, rfl, rfl, w0⟩ := open_int Try.underlying3 (hval 0 3 v0 rfl rfl) h0
  have k1 := h1
  have lt1 : ∀ x ∈ p1, x.block < W.heap.size := by obtain ⟨m, hm⟩ := k1; exact DataW.trod_lt m _ _ _ hm
  obtain ⟨⟨l1⟩, rfl⟩ := Opn.agg_of Try.underlying23 (hval 1 23 v1 rfl rfl)
  have o1 := Opn.opened (m := 8) h1 (show Opn.flat Try.prog 8 23 = some [.int .i64, .int .i64, .int .i64, .int .i64] from by kernel_rfl)
  simp only [Value.cells] at o1
  obtain ⟨_, l1_0, rfl, ⟨x1_0, rfl, w1_0⟩, o1_0⟩ := Opn.ok_cons o1
  obtain ⟨_, l1_1, rfl, ⟨x1_1, rfl, w1_1⟩, o1_1⟩ := Opn.ok_cons o1_0
  obtain ⟨_, l1_2, rfl, ⟨x1_2, rfl, w1_2⟩, o1_2⟩ := Opn.ok_cons o1_1
  obtain ⟨_, l1_3, rfl, ⟨x1_3, rfl, w1_3⟩, o1_3⟩ := Opn.ok_cons o1_2
  obtain rfl := Opn.ok_nil o1_3
  obtain ⟨x2, rfl, rfl, rfl, w2⟩ := open_int Try.underlying3 (hval 2 3 v2 rfl rfl) h2
  obtain ⟨x3, rfl, rfl, rfl, w3⟩ := open_int Try.underlying3 (hval 3 3 v3 rfl rfl) h3
  have k4 := h4
  have lt4 : ∀ x ∈ p4, x.block < W.heap.size := by obtain ⟨m, hm⟩ := k4; exact DataW.trod_lt m _ _ _ hm
  obtain ⟨⟨l4⟩, rfl⟩ := Opn.agg_of Try.underlying26 (hval 4 26 v4 rfl rfl)
  have o4 := Opn.opened (m := 8) h4 (show Opn.flat Try.prog 8 26 = some [.int .i64, .int .i64, .int .i64, .int .i64, .int .i64, .bool, .int .i64, .int .i64, .int .i64, .slice 37] from by kernel_rfl)
  simp only [Value.cells] at o4
  obtain ⟨_, l4_0, rfl, ⟨x4_0, rfl, w4_0⟩, o4_0⟩ := Opn.ok_cons o4
  obtain ⟨_, l4_1, rfl, ⟨x4_1, rfl, w4_1⟩, o4_1⟩ := Opn.ok_cons o4_0
  obtain ⟨_, l4_2, rfl, ⟨x4_2, rfl, w4_2⟩, o4_2⟩ := Opn.ok_cons o4_1
  obtain ⟨_, l4_3, rfl, ⟨x4_3, rfl, w4_3⟩, o4_3⟩ := Opn.ok_cons o4_2
  obtain ⟨_, l4_4, rfl, ⟨x4_4, rfl, w4_4⟩, o4_4⟩ := Opn.ok_cons o4_3
  obtain ⟨_, l4_5, rfl, ⟨x4_5, rfl⟩, o4_5⟩ := Opn.ok_cons o4_4
  obtain ⟨_, l4_6, rfl, ⟨x4_6, rfl, w4_6⟩, o4_6⟩ := Opn.ok_cons o4_5
  obtain ⟨_, l4_7, rfl, ⟨x4_7, rfl, w4_7⟩, o4_7⟩ := Opn.ok_cons o4_6
  obtain ⟨_, l4_8, rfl, ⟨x4_8, rfl, w4_8⟩, o4_8⟩ := Opn.ok_cons o4_7
  obtain ⟨y4_9, l4_9, rfl, s4_9, o4_9⟩ := Opn.ok_cons o4_8
  obtain ⟨a4_9, n4_9, c4_9, rfl⟩ := Opn.ok_slice s4_9
  obtain ⟨xs4_9, rd4_9, wf4_9⟩ := Opn.slice_of (m := 8) (e := 37) (sz := 8) (ks := [.int .i64, .int .i64, .int .i64, .int .i64, .int .i64, .bool, .bool, .bool]) (el := Cl.Att.cs) (wf := fun x : Cl.Att => (Lit.int .i64 x.b).wf = true ∧ (Lit.int .i64 x.i).wf = true ∧ (Lit.int .i64 x.s).wf = true ∧ (Lit.int .i64 x.q).wf = true ∧ (Lit.int .i64 x.t).wf = true) (by kernel_rfl) (by kernel_rfl) (by decide) (fun cs h => by obtain ⟨_, l0, rfl, ⟨n0, rfl, w0⟩, o0⟩ := Opn.ok_cons h; obtain ⟨_, l1, rfl, ⟨n1, rfl, w1⟩, o1⟩ := Opn.ok_cons o0; obtain ⟨_, l2, rfl, ⟨n2, rfl, w2⟩, o2⟩ := Opn.ok_cons o1; obtain ⟨_, l3, rfl, ⟨n3, rfl, w3⟩, o3⟩ := Opn.ok_cons o2; obtain ⟨_, l4, rfl, ⟨n4, rfl, w4⟩, o4⟩ := Opn.ok_cons o3; obtain ⟨_, l5, rfl, ⟨n5, rfl⟩, o5⟩ := Opn.ok_cons o4; obtain ⟨_, l6, rfl, ⟨n6, rfl⟩, o6⟩ := Opn.ok_cons o5; obtain ⟨_, l7, rfl, ⟨n7, rfl⟩, o7⟩ := Opn.ok_cons o6; obtain rfl := Opn.ok_nil o7; exact ⟨⟨n0, n1, n2, n3, n4, n5, n6, n7⟩, rfl, w0, w1, w2, w3, w4⟩) (fun _ => rfl) s4_9
  obtain rfl := Opn.ok_nil o4_9
  have k5 := h5
  have lt5 : ∀ x ∈ p5, x.block < W.heap.size := by obtain ⟨m, hm⟩ := k5; exact DataW.trod_lt m _ _ _ hm
  obtain ⟨⟨l5⟩, rfl⟩ := Opn.agg_of Try.underlying41 (hval 5 41 v5 rfl rfl)
  have o5 := Opn.opened (m := 8) h5 (show Opn.flat Try.prog 8 41 = some [.int .i64, .int .i64, .int .i64, .int .i64, .int .i64, .int .i64, .int .i64, .int .i64, .int .i64, .int .i64, .int .i64, .slice 5] from by kernel_rfl)
  simp only [Value.cells] at o5
  obtain ⟨_, l5_0, rfl, ⟨x5_0, rfl, w5_0⟩, o5_0⟩ := Opn.ok_cons o5
  obtain ⟨_, l5_1, rfl, ⟨x5_1, rfl, w5_1⟩, o5_1⟩ := Opn.ok_cons o5_0
  obtain ⟨_, l5_2, rfl, ⟨x5_2, rfl, w5_2⟩, o5_2⟩ := Opn.ok_cons o5_1
  obtain ⟨_, l5_3, rfl, ⟨x5_3, rfl, w5_3⟩, o5_3⟩ := Opn.ok_cons o5_2
  obtain ⟨_, l5_4, rfl, ⟨x5_4, rfl, w5_4⟩, o5_4⟩ := Opn.ok_cons o5_3
  obtain ⟨_, l5_5, rfl, ⟨x5_5, rfl, w5_5⟩, o5_5⟩ := Opn.ok_cons o5_4
  obtain ⟨_, l5_6, rfl, ⟨x5_6, rfl, w5_6⟩, o5_6⟩ := Opn.ok_cons o5_5
  obtain ⟨_, l5_7, rfl, ⟨x5_7, rfl, w5_7⟩, o5_7⟩ := Opn.ok_cons o5_6
  obtain ⟨_, l5_8, rfl, ⟨x5_8, rfl, w5_8⟩, o5_8⟩ := Opn.ok_cons o5_7
  obtain ⟨_, l5_9, rfl, ⟨x5_9, rfl, w5_9⟩, o5_9⟩ := Opn.ok_cons o5_8
  obtain ⟨_, l5_10, rfl, ⟨x5_10, rfl, w5_10⟩, o5_10⟩ := Opn.ok_cons o5_9
  obtain ⟨y5_11, l5_11, rfl, s5_11, o5_11⟩ := Opn.ok_cons o5_10
  obtain ⟨a5_11, n5_11, c5_11, rfl⟩ := Opn.ok_slice s5_11
  obtain rfl := Opn.ok_nil o5_11
  clear hA0 hval0 hsz0
  refine (Cl.Makes_c x0 ⟨x1_0, x1_1, x1_2, x1_3⟩ x2 x3 ⟨x4_0, ⟨x4_1, x4_2, x4_3, x4_4⟩, x4_5, x4_6, x4_7, x4_8, xs4_9⟩ ⟨x5_0, x5_1, x5_2, x5_3, x5_4, x5_5, x5_6, x5_7, x5_8, x5_9, x5_10⟩ (.slice a5_11 n5_11 c5_11) a4_9 n4_9 c4_9 W rd4_9).mono fun e W' ⟨he, bel⟩ => ?_
  subst he
  exact ⟨_, rfl, _, _, _, [], _, [], hW', trodAll_mk1 (shut_bool Try.underlying4 _), (trodAll_cons_mk (shut_int Try.underlying3 w0) (trodAll_cons_mk (Below.trod laidOut (by kernel_rfl) (of_decide_eq_true (by kernel_rfl)) k1 bel lt1) (trodAll_cons_mk (shut_int Try.underlying3 w2) (trodAll_cons_mk (shut_int Try.underlying3 w3) (trodAll_cons_mk (Below.trod laidOut (by kernel_rfl) (of_decide_eq_true (by kernel_rfl)) k4 bel lt4) (trodAll_cons_mk (Below.trod laidOut (by kernel_rfl) (of_decide_eq_true (by kernel_rfl)) k5 bel lt5) trodAll_mk0)))))), rfl, bel.frame _, fun h => by cases h⟩
theorem over : Rows.callMakesRow.holds Try.pinned (OpenSpec.ofChange Rows.callMakesSpec) :=
  OpenClaim.holds_of_wide 4 Try.f4 rfl rfl rfl rfl rfl rfl rfl ⟨rfl, rfl, rfl, rfl, rfl⟩ rfl rfl rfl rfl rfl (by kernel_rfl) Try.func4 (by kernel_rfl)
    (of_decide_eq_true (by kernel_rfl)) (by unfold Func.isWrapper; first | (rw [if_pos (by decide +kernel)]; kernel_rfl) | (rw [if_neg (by decide +kernel)]; exact ⟨rfl, rfl⟩))
    (fun os started H enc _ => lifted os started H enc)
theorem proved : Rows.CallMakesSaid := over
#print axioms proved
end Go.Proofs.Ytfepjpjkamlneaa.callMakes
namespace Go.Proofs.Ytfepjpjkamlneaa
theorem callMakes_holds : Rows.CallMakesSaid := callMakes.proved
end Go.Proofs.Ytfepjpjkamlneaa
