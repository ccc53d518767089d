/- CallOwn: calls that are told share nothing with the one that was handed in. No condition. -/
import Derived.Test.YtfepjpjkamlneaaRows
import Derived.Test.YtfepjpjkamlneaaOpnS
import Derived.WalkKit
import Derived.ProofKit
import Derived.OpenShut
import Derived.ShutString
import Derived.ChangeOld
import Derived.Below
import Derived.SizedLaws
import Derived.Test.YtfepjpjkamlneaaOpnW
import Derived.Test.YtfepjpjkamlneaaClAA
namespace Go.Proofs.Ytfepjpjkamlneaa.callOwn
open Go.ChangeShapes Go.WideShapes Go.ChangeAt Go.RowKit
open Go.ChangeMaps (open_string shut_string)
set_option linter.unusedVariables false
theorem own : ownKnob Try.prog.godebug = none := by kernel_rfl
theorem laidOut : laidOutB Try.prog = true := by kernel_rfl
set_option maxRecDepth 100000 in
theorem lifted (os : Os) (started : os.Started) (H : Type) (enc : TypeId × Value → H) :
    ReturnsInHanded {} Try.checked os 8 .any (Rows.callOwnSpec.pre6 enc Try.prog Try.f8 Rows.callOwnRow.domain false) (Rows.callOwnSpec.post enc Try.prog Try.f8 false true false false) := by
  refine returnsInHanded_of_change_sized (C := Try.checked) own started (by kernel_rfl) Try.func8
    (ChangeSpec.witness6 (enc := enc) (C := Try.checked) false ⟨#[], #[.agg #[.int .i64 0, .int .i64 0, .int .i64 0, .int .i64 0, .int .i64 0, .bool false, .int .i64 0, .int .i64 0, .int .i64 0, .slice none 0 0], .agg #[.int .i64 0, .int .i64 0, .int .i64 0, .int .i64 0, .int .i64 0, .int .i64 0, .int .i64 0, .int .i64 0], .agg #[.int .i64 0, .int .i64 0, .int .i64 0, .int .i64 0, .int .i64 0, .bool false, .bool false, .bool false], .int .i64 0], []⟩ 8 (by kernel_rfl) (by kernel_rfl) (by kernel_rfl) (by kernel_rfl)) ?_
  intro W base args ds gs before hval0 hW hcnd hsz0 _
  have hsz : (DataW.weightsEach Try.prog (Try.f8.params.toList ++ Rows.callOwnSpec.plain.varTypes Try.prog) (ds ++ gs)).all (· ≤ reachBytes) = true := hsz0
  have hval : ∀ (j : Nat) t v, Try.f8.params[j]? = some t → args[j]? = some v → Value.okWide Try.prog W .any base t v := hval0
  have hW' := hW
  obtain ⟨p, q, hA0, hV, rfl, hfz, hnd⟩ := hW
  have hA : DataW.TrodAll enc Try.prog W 0 (fun _ => true) true Try.f8.params.toList args.toList ds p := hA0
  rw [Try.params8] at hA hval hsz
  obtain ⟨v0, vs0, d0, ds0, p0, q0, hargs, rfl, rfl, h0, r0⟩ := trodAll_cons hA
  obtain ⟨v1, vs1, d1, ds1, p1, q1, rfl, rfl, rfl, h1, r1⟩ := trodAll_cons r0
  obtain ⟨v2, vs2, d2, ds2, p2, q2, rfl, rfl, rfl, h2, r2⟩ := trodAll_cons r1
  obtain ⟨v3, vs3, d3, ds3, p3, q3, rfl, rfl, rfl, h3, r3⟩ := trodAll_cons r2
  obtain ⟨rfl, rfl, rfl⟩ := trodAll_nil r3
  obtain rfl : args = #[v0, v1, v2, v3] := by cases args; simp_all
  obtain ⟨rfl, rfl⟩ := trodVars_none hV
  have k0 := h0
  have lt0 : ∀ x ∈ p0, x.block < W.heap.size := by obtain ⟨m, hm⟩ := k0; exact DataW.trod_lt m _ _ _ hm
  obtain ⟨⟨l0⟩, rfl⟩ := Opn.agg_of Try.underlying26 (hval 0 26 v0 rfl rfl)
  have o0 := Opn.opened (m := 8) h0 (show Opn.flat Try.prog 8 26 = some [.int .i64, .int .i64, .int .i64, .int .i64, .int .i64, .bool, .int .i64, .int .i64, .int .i64, .slice 37] from by kernel_rfl)
  simp only [Value.cells] at o0
  obtain ⟨_, l0_0, rfl, ⟨x0_0, rfl, w0_0⟩, o0_0⟩ := Opn.ok_cons o0
  obtain ⟨_, l0_1, rfl, ⟨x0_1, rfl, w0_1⟩, o0_1⟩ := Opn.ok_cons o0_0
  obtain ⟨_, l0_2, rfl, ⟨x0_2, rfl, w0_2⟩, o0_2⟩ := Opn.ok_cons o0_1
  obtain ⟨_, l0_3, rfl, ⟨x0_3, rfl, w0_3⟩, o0_3⟩ := Opn.ok_cons o0_2
  obtain ⟨_, l0_4, rfl, ⟨x0_4, rfl, w0_4⟩, o0_4⟩ := Opn.ok_cons o0_3
  obtain ⟨_, l0_5, rfl, ⟨x0_5, rfl⟩, o0_5⟩ := Opn.ok_cons o0_4
  obtain ⟨_, l0_6, rfl, ⟨x0_6, rfl, w0_6⟩, o0_6⟩ := Opn.ok_cons o0_5
  obtain ⟨_, l0_7, rfl, ⟨x0_7, rfl, w0_7⟩, o0_7⟩ := Opn.ok_cons o0_6
  obtain ⟨_, l0_8, rfl, ⟨x0_8, rfl, w0_8⟩, o0_8⟩ := Opn.ok_cons o0_7
  obtain ⟨y0_9, l0_9, rfl, s0_9, o0_9⟩ := Opn.ok_cons o0_8
  obtain ⟨a0_9, n0_9, c0_9, rfl⟩ := Opn.ok_slice s0_9
  obtain ⟨xs0_9, rd0_9, wf0_9⟩ := Opn.slice_of (m := 8) (e := 37) (sz := 8) (ks := [.int .i64, .int .i64, .int .i64, .int .i64, .int .i64, .bool, .bool, .bool]) (el := Cl.Att.cs) (wf := fun x : Cl.Att => (Lit.int .i64 x.b).wf = true ∧ (Lit.int .i64 x.i).wf = true ∧ (Lit.int .i64 x.s).wf = true ∧ (Lit.int .i64 x.q).wf = true ∧ (Lit.int .i64 x.t).wf = true) (by kernel_rfl) (by kernel_rfl) (by decide) (fun cs h => by obtain ⟨_, l0, rfl, ⟨n0, rfl, w0⟩, o0⟩ := Opn.ok_cons h; obtain ⟨_, l1, rfl, ⟨n1, rfl, w1⟩, o1⟩ := Opn.ok_cons o0; obtain ⟨_, l2, rfl, ⟨n2, rfl, w2⟩, o2⟩ := Opn.ok_cons o1; obtain ⟨_, l3, rfl, ⟨n3, rfl, w3⟩, o3⟩ := Opn.ok_cons o2; obtain ⟨_, l4, rfl, ⟨n4, rfl, w4⟩, o4⟩ := Opn.ok_cons o3; obtain ⟨_, l5, rfl, ⟨n5, rfl⟩, o5⟩ := Opn.ok_cons o4; obtain ⟨_, l6, rfl, ⟨n6, rfl⟩, o6⟩ := Opn.ok_cons o5; obtain ⟨_, l7, rfl, ⟨n7, rfl⟩, o7⟩ := Opn.ok_cons o6; obtain rfl := Opn.ok_nil o7; exact ⟨⟨n0, n1, n2, n3, n4, n5, n6, n7⟩, rfl, w0, w1, w2, w3, w4⟩) (fun _ => rfl) s0_9
  obtain rfl := Opn.ok_nil o0_9
  have wt0_9 : n0_9 * 48 ≤ 140737488351232 := by
    have h0 := Opn.AllWt.at 9 (Opn.opened_wt (m := 8) k0 (ks := [.int .i64, .int .i64, .int .i64, .int .i64, .int .i64, .bool, .int .i64, .int .i64, .int .i64, .slice 37]) (by kernel_rfl) (Opn.sized_arg hsz 0 rfl rfl)) rfl rfl
    rw [show Try.prog.bytesOf 37 = 48 from by kernel_rfl] at h0
    exact h0
  have k1 := h1
  have lt1 : ∀ x ∈ p1, x.block < W.heap.size := by obtain ⟨m, hm⟩ := k1; exact DataW.trod_lt m _ _ _ hm
  obtain ⟨⟨l1⟩, rfl⟩ := Opn.agg_of Try.underlying30 (hval 1 30 v1 rfl rfl)
  have o1 := Opn.opened (m := 8) h1 (show Opn.flat Try.prog 8 30 = some [.int .i64, .int .i64, .int .i64, .int .i64, .int .i64, .int .i64, .int .i64, .int .i64] from by kernel_rfl)
  simp only [Value.cells] at o1
  obtain ⟨_, l1_0, rfl, ⟨x1_0, rfl, w1_0⟩, o1_0⟩ := Opn.ok_cons o1
  obtain ⟨_, l1_1, rfl, ⟨x1_1, rfl, w1_1⟩, o1_1⟩ := Opn.ok_cons o1_0
  obtain ⟨_, l1_2, rfl, ⟨x1_2, rfl, w1_2⟩, o1_2⟩ := Opn.ok_cons o1_1
  obtain ⟨_, l1_3, rfl, ⟨x1_3, rfl, w1_3⟩, o1_3⟩ := Opn.ok_cons o1_2
  obtain ⟨_, l1_4, rfl, ⟨x1_4, rfl, w1_4⟩, o1_4⟩ := Opn.ok_cons o1_3
  obtain ⟨_, l1_5, rfl, ⟨x1_5, rfl, w1_5⟩, o1_5⟩ := Opn.ok_cons o1_4
  obtain ⟨_, l1_6, rfl, ⟨x1_6, rfl, w1_6⟩, o1_6⟩ := Opn.ok_cons o1_5
  obtain ⟨_, l1_7, rfl, ⟨x1_7, rfl, w1_7⟩, o1_7⟩ := Opn.ok_cons o1_6
  obtain rfl := Opn.ok_nil o1_7
  have k2 := h2
  have lt2 : ∀ x ∈ p2, x.block < W.heap.size := by obtain ⟨m, hm⟩ := k2; exact DataW.trod_lt m _ _ _ hm
  obtain ⟨⟨l2⟩, rfl⟩ := Opn.agg_of Try.underlying37 (hval 2 37 v2 rfl rfl)
  have o2 := Opn.opened (m := 8) h2 (show Opn.flat Try.prog 8 37 = some [.int .i64, .int .i64, .int .i64, .int .i64, .int .i64, .bool, .bool, .bool] from by kernel_rfl)
  simp only [Value.cells] at o2
  obtain ⟨_, l2_0, rfl, ⟨x2_0, rfl, w2_0⟩, o2_0⟩ := Opn.ok_cons o2
  obtain ⟨_, l2_1, rfl, ⟨x2_1, rfl, w2_1⟩, o2_1⟩ := Opn.ok_cons o2_0
  obtain ⟨_, l2_2, rfl, ⟨x2_2, rfl, w2_2⟩, o2_2⟩ := Opn.ok_cons o2_1
  obtain ⟨_, l2_3, rfl, ⟨x2_3, rfl, w2_3⟩, o2_3⟩ := Opn.ok_cons o2_2
  obtain ⟨_, l2_4, rfl, ⟨x2_4, rfl, w2_4⟩, o2_4⟩ := Opn.ok_cons o2_3
  obtain ⟨_, l2_5, rfl, ⟨x2_5, rfl⟩, o2_5⟩ := Opn.ok_cons o2_4
  obtain ⟨_, l2_6, rfl, ⟨x2_6, rfl⟩, o2_6⟩ := Opn.ok_cons o2_5
  obtain ⟨_, l2_7, rfl, ⟨x2_7, rfl⟩, o2_7⟩ := Opn.ok_cons o2_6
  obtain rfl := Opn.ok_nil o2_7
  obtain ⟨x3, rfl, rfl, rfl, w3⟩ := open_int Try.underlying3 (hval 3 3 v3 rfl rfl) h3
  clear hA0 hval0 hsz0
  refine (Cl.OwnLaw_c ⟨x0_0, ⟨x0_1, x0_2, x0_3, x0_4⟩, x0_5, x0_6, x0_7, x0_8, xs0_9⟩ ⟨x1_0, x1_1, x1_2, x1_3, x1_4, x1_5, x1_6, x1_7⟩ ⟨x2_0, x2_1, x2_2, x2_3, x2_4, x2_5, x2_6, x2_7⟩ x3 a0_9 n0_9 c0_9 W rd0_9 (by omega)).mono fun e W' ⟨he, bel⟩ => ?_
  subst he
  exact ⟨_, rfl, _, _, _, [], _, [], hW', trodAll_mk1 (shut_bool Try.underlying4 _), (trodAll_cons_mk (Below.trod laidOut (by kernel_rfl) (of_decide_eq_true (by kernel_rfl)) k0 bel lt0) (trodAll_cons_mk (Below.trod laidOut (by kernel_rfl) (of_decide_eq_true (by kernel_rfl)) k1 bel lt1) (trodAll_cons_mk (Below.trod laidOut (by kernel_rfl) (of_decide_eq_true (by kernel_rfl)) k2 bel lt2) (trodAll_cons_mk (shut_int Try.underlying3 w3) trodAll_mk0)))), rfl, bel.frame _, fun h => by cases h⟩
theorem over : Rows.callOwnRow.holds Try.pinned (OpenSpec.ofChange Rows.callOwnSpec) :=
  OpenClaim.holds_of_wide 8 Try.f8 rfl rfl rfl rfl rfl rfl rfl ⟨rfl, rfl, rfl, rfl, rfl⟩ rfl rfl rfl rfl rfl (by kernel_rfl) Try.func8 (by kernel_rfl)
    (of_decide_eq_true (by kernel_rfl)) (by unfold Func.isWrapper; first | (rw [if_pos (by decide +kernel)]; kernel_rfl) | (rw [if_neg (by decide +kernel)]; exact ⟨rfl, rfl⟩))
    (fun os started H enc _ => lifted os started H enc)
theorem proved : Rows.CallOwnSaid := over
#print axioms proved
end Go.Proofs.Ytfepjpjkamlneaa.callOwn
namespace Go.Proofs.Ytfepjpjkamlneaa
theorem callOwn_holds : Rows.CallOwnSaid := callOwn.proved
end Go.Proofs.Ytfepjpjkamlneaa
