/- CallTells: of any call, settings, tick: all that is told of it is as the page says; it stays. No condition. -/
import Derived.Test.YtfepjpjkamlneaaRows
import Derived.Test.YtfepjpjkamlneaaOpnS
import Derived.WalkKit
import Derived.ProofKit
import Derived.OpenShut
import Derived.ShutString
import Derived.ChangeOld
import Derived.Below
import Derived.SizedLaws
import Derived.Test.YtfepjpjkamlneaaOpnW
import Derived.Test.YtfepjpjkamlneaaClBB
namespace Go.Proofs.Ytfepjpjkamlneaa.Cl
theorem i64_wf2 {n : Int} (h : (Lit.int .i64 n).wf = true) : -9223372036854775808 ≤ n ∧ n ≤ 9223372036854775807 := by
  simp [Lit.wf, IntKind.min, IntKind.max, IntKind.signed, IntKind.bits] at h
  omega
end Go.Proofs.Ytfepjpjkamlneaa.Cl
namespace Go.Proofs.Ytfepjpjkamlneaa.callTells
open Go.ChangeShapes Go.WideShapes Go.ChangeAt Go.RowKit
open Go.ChangeMaps (open_string shut_string)
set_option linter.unusedVariables false
theorem own : ownKnob Try.prog.godebug = none := by kernel_rfl
theorem laidOut : laidOutB Try.prog = true := by kernel_rfl
set_option maxRecDepth 100000 in
theorem lifted (os : Os) (started : os.Started) (H : Type) (enc : TypeId × Value → H) :
    ReturnsInHanded {} Try.checked os 9 .any (Rows.callTellsSpec.pre6 enc Try.prog Try.f9 Rows.callTellsRow.domain false) (Rows.callTellsSpec.post enc Try.prog Try.f9 false true false false) := by
  refine returnsInHanded_of_change_sized (C := Try.checked) own started (by kernel_rfl) Try.func9
    (ChangeSpec.witness6 (enc := enc) (C := Try.checked) false ⟨#[], #[.agg #[.int .i64 0, .int .i64 0, .int .i64 0, .int .i64 0, .int .i64 0, .bool false, .int .i64 0, .int .i64 0, .int .i64 0, .slice none 0 0], .agg #[.int .i64 0, .int .i64 0, .int .i64 0, .int .i64 0, .int .i64 0, .int .i64 0, .int .i64 0, .int .i64 0], .int .i64 0, .int .i64 0, .agg #[.int .i64 0, .int .i64 0, .int .i64 0, .int .i64 0, .int .i64 0, .bool false, .bool false, .bool false], .agg #[.int .i64 0, .int .i64 0, .int .i64 0, .int .i64 0, .int .i64 0, .bool false, .bool false, .bool false], .int .u64 0, .slice none 0 0], []⟩ 8 (by kernel_rfl) (by kernel_rfl) (by kernel_rfl) (by kernel_rfl)) ?_
  intro W base args ds gs before hval0 hW hcnd hsz0 _
  have hsz : (DataW.weightsEach Try.prog (Try.f9.params.toList ++ Rows.callTellsSpec.plain.varTypes Try.prog) (ds ++ gs)).all (· ≤ reachBytes) = true := hsz0
  have hval : ∀ (j : Nat) t v, Try.f9.params[j]? = some t → args[j]? = some v → Value.okWide Try.prog W .any base t v := hval0
  have hW' := hW
  obtain ⟨p, q, hA0, hV, rfl, hfz, hnd⟩ := hW
  have hA : DataW.TrodAll enc Try.prog W 0 (fun _ => true) true Try.f9.params.toList args.toList ds p := hA0
  rw [Try.params9] at hA hval hsz
  obtain ⟨v0, vs0, d0, ds0, p0, q0, hargs, rfl, rfl, h0, r0⟩ := trodAll_cons hA
  obtain ⟨v1, vs1, d1, ds1, p1, q1, rfl, rfl, rfl, h1, r1⟩ := trodAll_cons r0
  obtain ⟨v2, vs2, d2, ds2, p2, q2, rfl, rfl, rfl, h2, r2⟩ := trodAll_cons r1
  obtain ⟨v3, vs3, d3, ds3, p3, q3, rfl, rfl, rfl, h3, r3⟩ := trodAll_cons r2
  obtain ⟨v4, vs4, d4, ds4, p4, q4, rfl, rfl, rfl, h4, r4⟩ := trodAll_cons r3
  obtain ⟨v5, vs5, d5, ds5, p5, q5, rfl, rfl, rfl, h5, r5⟩ := trodAll_cons r4
  obtain ⟨v6, vs6, d6, ds6, p6, q6, rfl, rfl, rfl, h6, r6⟩ := trodAll_cons r5
  obtain ⟨v7, vs7, d7, ds7, p7, q7, rfl, rfl, rfl, h7, r7⟩ := trodAll_cons r6
  obtain ⟨rfl, rfl, rfl⟩ := trodAll_nil r7
  obtain rfl : args = #[v0, v1, v2, v3, v4, v5, v6, v7] := by cases args; simp_all
  obtain ⟨rfl, rfl⟩ := trodVars_none hV
  have k0 := h0
  have lt0 : ∀ x ∈ p0, x.block < W.heap.size := by obtain ⟨m, hm⟩ := k0; exact DataW.trod_lt m _ _ _ hm
  obtain ⟨⟨l0⟩, rfl⟩ := Opn.agg_of Try.underlying26 (hval 0 26 v0 rfl rfl)
  have o0 := Opn.opened (m := 8) h0 (show Opn.flat Try.prog 8 26 = some [.int .i64, .int .i64, .int .i64, .int .i64, .int .i64, .bool, .int .i64, .int .i64, .int .i64, .slice 37] from by kernel_rfl)
  simp only [Value.cells] at o0
  obtain ⟨_, l0_0, rfl, ⟨x0_0, rfl, w0_0⟩, o0_0⟩ := Opn.ok_cons o0
  obtain ⟨_, l0_1, rfl, ⟨x0_1, rfl, w0_1⟩, o0_1⟩ := Opn.ok_cons o0_0
  obtain ⟨_, l0_2, rfl, ⟨x0_2, rfl, w0_2⟩, o0_2⟩ := Opn.ok_cons o0_1
  obtain ⟨_, l0_3, rfl, ⟨x0_3, rfl, w0_3⟩, o0_3⟩ := Opn.ok_cons o0_2
  obtain ⟨_, l0_4, rfl, ⟨x0_4, rfl, w0_4⟩, o0_4⟩ := Opn.ok_cons o0_3
  obtain ⟨_, l0_5, rfl, ⟨x0_5, rfl⟩, o0_5⟩ := Opn.ok_cons o0_4
  obtain ⟨_, l0_6, rfl, ⟨x0_6, rfl, w0_6⟩, o0_6⟩ := Opn.ok_cons o0_5
  obtain ⟨_, l0_7, rfl, ⟨x0_7, rfl, w0_7⟩, o0_7⟩ := Opn.ok_cons o0_6
  obtain ⟨_, l0_8, rfl, ⟨x0_8, rfl, w0_8⟩, o0_8⟩ := Opn.ok_cons o0_7
  obtain ⟨y0_9, l0_9, rfl, s0_9, o0_9⟩ := Opn.ok_cons o0_8
  obtain ⟨a0_9, n0_9, c0_9, rfl⟩ := Opn.ok_slice s0_9
  obtain ⟨xs0_9, rd0_9, wf0_9⟩ := Opn.slice_of (m := 8) (e := 37) (sz := 8) (ks := [.int .i64, .int .i64, .int .i64, .int .i64, .int .i64, .bool, .bool, .bool]) (el := Cl.Att.cs) (wf := fun x : Cl.Att => (Lit.int .i64 x.b).wf = true ∧ (Lit.int .i64 x.i).wf = true ∧ (Lit.int .i64 x.s).wf = true ∧ (Lit.int .i64 x.q).wf = true ∧ (Lit.int .i64 x.t).wf = true) (by kernel_rfl) (by kernel_rfl) (by decide) (fun cs h => by obtain ⟨_, l0, rfl, ⟨n0, rfl, w0⟩, o0⟩ := Opn.ok_cons h; obtain ⟨_, l1, rfl, ⟨n1, rfl, w1⟩, o1⟩ := Opn.ok_cons o0; obtain ⟨_, l2, rfl, ⟨n2, rfl, w2⟩, o2⟩ := Opn.ok_cons o1; obtain ⟨_, l3, rfl, ⟨n3, rfl, w3⟩, o3⟩ := Opn.ok_cons o2; obtain ⟨_, l4, rfl, ⟨n4, rfl, w4⟩, o4⟩ := Opn.ok_cons o3; obtain ⟨_, l5, rfl, ⟨n5, rfl⟩, o5⟩ := Opn.ok_cons o4; obtain ⟨_, l6, rfl, ⟨n6, rfl⟩, o6⟩ := Opn.ok_cons o5; obtain ⟨_, l7, rfl, ⟨n7, rfl⟩, o7⟩ := Opn.ok_cons o6; obtain rfl := Opn.ok_nil o7; exact ⟨⟨n0, n1, n2, n3, n4, n5, n6, n7⟩, rfl, w0, w1, w2, w3, w4⟩) (fun _ => rfl) s0_9
  obtain rfl := Opn.ok_nil o0_9
  have wt0_9 : n0_9 * 48 ≤ 140737488351232 := by
    have h0 := Opn.AllWt.at 9 (Opn.opened_wt (m := 8) k0 (ks := [.int .i64, .int .i64, .int .i64, .int .i64, .int .i64, .bool, .int .i64, .int .i64, .int .i64, .slice 37]) (by kernel_rfl) (Opn.sized_arg hsz 0 rfl rfl)) rfl rfl
    rw [show Try.prog.bytesOf 37 = 48 from by kernel_rfl] at h0
    exact h0
  have k1 := h1
  have lt1 : ∀ x ∈ p1, x.block < W.heap.size := by obtain ⟨m, hm⟩ := k1; exact DataW.trod_lt m _ _ _ hm
  obtain ⟨⟨l1⟩, rfl⟩ := Opn.agg_of Try.underlying30 (hval 1 30 v1 rfl rfl)
  have o1 := Opn.opened (m := 8) h1 (show Opn.flat Try.prog 8 30 = some [.int .i64, .int .i64, .int .i64, .int .i64, .int .i64, .int .i64, .int .i64, .int .i64] from by kernel_rfl)
  simp only [Value.cells] at o1
  obtain ⟨_, l1_0, rfl, ⟨x1_0, rfl, w1_0⟩, o1_0⟩ := Opn.ok_cons o1
  obtain ⟨_, l1_1, rfl, ⟨x1_1, rfl, w1_1⟩, o1_1⟩ := Opn.ok_cons o1_0
  obtain ⟨_, l1_2, rfl, ⟨x1_2, rfl, w1_2⟩, o1_2⟩ := Opn.ok_cons o1_1
  obtain ⟨_, l1_3, rfl, ⟨x1_3, rfl, w1_3⟩, o1_3⟩ := Opn.ok_cons o1_2
  obtain ⟨_, l1_4, rfl, ⟨x1_4, rfl, w1_4⟩, o1_4⟩ := Opn.ok_cons o1_3
  obtain ⟨_, l1_5, rfl, ⟨x1_5, rfl, w1_5⟩, o1_5⟩ := Opn.ok_cons o1_4
  obtain ⟨_, l1_6, rfl, ⟨x1_6, rfl, w1_6⟩, o1_6⟩ := Opn.ok_cons o1_5
  obtain ⟨_, l1_7, rfl, ⟨x1_7, rfl, w1_7⟩, o1_7⟩ := Opn.ok_cons o1_6
  obtain rfl := Opn.ok_nil o1_7
  obtain ⟨x2, rfl, rfl, rfl, w2⟩ := open_int Try.underlying3 (hval 2 3 v2 rfl rfl) h2
  obtain ⟨x3, rfl, rfl, rfl, w3⟩ := open_int Try.underlying3 (hval 3 3 v3 rfl rfl) h3
  have k4 := h4
  have lt4 : ∀ x ∈ p4, x.block < W.heap.size := by obtain ⟨m, hm⟩ := k4; exact DataW.trod_lt m _ _ _ hm
  obtain ⟨⟨l4⟩, rfl⟩ := Opn.agg_of Try.underlying37 (hval 4 37 v4 rfl rfl)
  have o4 := Opn.opened (m := 8) h4 (show Opn.flat Try.prog 8 37 = some [.int .i64, .int .i64, .int .i64, .int .i64, .int .i64, .bool, .bool, .bool] from by kernel_rfl)
  simp only [Value.cells] at o4
  obtain ⟨_, l4_0, rfl, ⟨x4_0, rfl, w4_0⟩, o4_0⟩ := Opn.ok_cons o4
  obtain ⟨_, l4_1, rfl, ⟨x4_1, rfl, w4_1⟩, o4_1⟩ := Opn.ok_cons o4_0
  obtain ⟨_, l4_2, rfl, ⟨x4_2, rfl, w4_2⟩, o4_2⟩ := Opn.ok_cons o4_1
  obtain ⟨_, l4_3, rfl, ⟨x4_3, rfl, w4_3⟩, o4_3⟩ := Opn.ok_cons o4_2
  obtain ⟨_, l4_4, rfl, ⟨x4_4, rfl, w4_4⟩, o4_4⟩ := Opn.ok_cons o4_3
  obtain ⟨_, l4_5, rfl, ⟨x4_5, rfl⟩, o4_5⟩ := Opn.ok_cons o4_4
  obtain ⟨_, l4_6, rfl, ⟨x4_6, rfl⟩, o4_6⟩ := Opn.ok_cons o4_5
  obtain ⟨_, l4_7, rfl, ⟨x4_7, rfl⟩, o4_7⟩ := Opn.ok_cons o4_6
  obtain rfl := Opn.ok_nil o4_7
  have k5 := h5
  have lt5 : ∀ x ∈ p5, x.block < W.heap.size := by obtain ⟨m, hm⟩ := k5; exact DataW.trod_lt m _ _ _ hm
  obtain ⟨⟨l5⟩, rfl⟩ := Opn.agg_of Try.underlying37 (hval 5 37 v5 rfl rfl)
  have o5 := Opn.opened (m := 8) h5 (show Opn.flat Try.prog 8 37 = some [.int .i64, .int .i64, .int .i64, .int .i64, .int .i64, .bool, .bool, .bool] from by kernel_rfl)
  simp only [Value.cells] at o5
  obtain ⟨_, l5_0, rfl, ⟨x5_0, rfl, w5_0⟩, o5_0⟩ := Opn.ok_cons o5
  obtain ⟨_, l5_1, rfl, ⟨x5_1, rfl, w5_1⟩, o5_1⟩ := Opn.ok_cons o5_0
  obtain ⟨_, l5_2, rfl, ⟨x5_2, rfl, w5_2⟩, o5_2⟩ := Opn.ok_cons o5_1
  obtain ⟨_, l5_3, rfl, ⟨x5_3, rfl, w5_3⟩, o5_3⟩ := Opn.ok_cons o5_2
  obtain ⟨_, l5_4, rfl, ⟨x5_4, rfl, w5_4⟩, o5_4⟩ := Opn.ok_cons o5_3
  obtain ⟨_, l5_5, rfl, ⟨x5_5, rfl⟩, o5_5⟩ := Opn.ok_cons o5_4
  obtain ⟨_, l5_6, rfl, ⟨x5_6, rfl⟩, o5_6⟩ := Opn.ok_cons o5_5
  obtain ⟨_, l5_7, rfl, ⟨x5_7, rfl⟩, o5_7⟩ := Opn.ok_cons o5_6
  obtain rfl := Opn.ok_nil o5_7
  obtain ⟨x6, rfl, rfl, rfl, w6⟩ := open_int Try.underlying53 (hval 6 53 v6 rfl rfl) h6
  have k7 := h7
  have lt7 : ∀ x ∈ p7, x.block < W.heap.size := by obtain ⟨m, hm⟩ := k7; exact DataW.trod_lt m _ _ _ hm
  have o7 := Opn.opened (m := 8) h7 (show Opn.flat Try.prog 8 54 = some [.slice 3] from by kernel_rfl)
  obtain ⟨a7, n7, c7, rfl⟩ := okWide_slice Try.underlying54 (hval 7 54 v7 rfl rfl)
  obtain ⟨y7, l7_0, e7, s7, o7_0⟩ := Opn.ok_cons o7
  simp only [Value.cells] at e7
  cases e7
  obtain ⟨xs7, rd7, wf7⟩ := Opn.slice_of (m := 8) (e := 3) (sz := 1) (ks := [.int .i64]) (el := fun n : Int => [Value.int .i64 n]) (wf := fun n => (Lit.int .i64 n).wf = true) (by kernel_rfl) (by kernel_rfl) (by decide) (fun cs h => by obtain ⟨_, l0, rfl, ⟨n0, rfl, w0⟩, o0⟩ := Opn.ok_cons h; obtain rfl := Opn.ok_nil o0; exact ⟨n0, rfl, w0⟩) (fun _ => rfl) s7
  have wt7 : n7 * 8 ≤ 140737488351232 := by
    have h0 := Opn.AllWt.at 0 (Opn.opened_wt (m := 8) k7 (ks := [.slice 3]) (by kernel_rfl) (Opn.sized_arg hsz 7 rfl rfl)) rfl rfl
    rw [show Try.prog.bytesOf 3 = 8 from by kernel_rfl] at h0
    exact h0
  clear hA0 hval0 hsz0
  refine (Cl.Tells_c ⟨x0_0, ⟨x0_1, x0_2, x0_3, x0_4⟩, x0_5, x0_6, x0_7, x0_8, xs0_9⟩ ⟨x1_0, x1_1, x1_2, x1_3, x1_4, x1_5, x1_6, x1_7⟩ x2 x3 ⟨x4_0, x4_1, x4_2, x4_3, x4_4, x4_5, x4_6, x4_7⟩ ⟨x5_0, x5_1, x5_2, x5_3, x5_4, x5_5, x5_6, x5_7⟩ x6 xs7 a0_9 n0_9 c0_9 a7 n7 c7 W rd0_9 rd7 (by omega) (Cl.i64_wf2 w2).2 (Bof.u64_wf w6).1 (Bof.u64_wf w6).2).mono fun e W' ⟨he, bel⟩ => ?_
  subst he
  exact ⟨_, rfl, _, _, _, [], _, [], hW', trodAll_mk1 (shut_bool Try.underlying4 _), (trodAll_cons_mk (Below.trod laidOut (by kernel_rfl) (of_decide_eq_true (by kernel_rfl)) k0 bel lt0) (trodAll_cons_mk (Below.trod laidOut (by kernel_rfl) (of_decide_eq_true (by kernel_rfl)) k1 bel lt1) (trodAll_cons_mk (shut_int Try.underlying3 w2) (trodAll_cons_mk (shut_int Try.underlying3 w3) (trodAll_cons_mk (Below.trod laidOut (by kernel_rfl) (of_decide_eq_true (by kernel_rfl)) k4 bel lt4) (trodAll_cons_mk (Below.trod laidOut (by kernel_rfl) (of_decide_eq_true (by kernel_rfl)) k5 bel lt5) (trodAll_cons_mk (shut_int Try.underlying53 w6) (trodAll_cons_mk (Below.trod laidOut (by kernel_rfl) (of_decide_eq_true (by kernel_rfl)) k7 bel lt7) trodAll_mk0)))))))), rfl, bel.frame _, fun h => by cases h⟩
theorem over : Rows.callTellsRow.holds Try.pinned (OpenSpec.ofChange Rows.callTellsSpec) :=
  OpenClaim.holds_of_wide 9 Try.f9 rfl rfl rfl rfl rfl rfl rfl ⟨rfl, rfl, rfl, rfl, rfl⟩ rfl rfl rfl rfl rfl (by kernel_rfl) Try.func9 (by kernel_rfl)
    (of_decide_eq_true (by kernel_rfl)) (by unfold Func.isWrapper; first | (rw [if_pos (by decide +kernel)]; kernel_rfl) | (rw [if_neg (by decide +kernel)]; exact ⟨rfl, rfl⟩))
    (fun os started H enc _ => lifted os started H enc)
theorem proved : Rows.CallTellsSaid := over
#print axioms proved
end Go.Proofs.Ytfepjpjkamlneaa.callTells
namespace Go.Proofs.Ytfepjpjkamlneaa
theorem callTells_holds : Rows.CallTellsSaid := callTells.proved
end Go.Proofs.Ytfepjpjkamlneaa
