/- SubsetTells: any client's subset, its round, the backends' counts, what changed between two lists, as the page says; lists stay. No condition. -/
import Derived.Test.YtpafbjffecpdmaaRows
import Derived.Test.YtpafbjffecpdmaaOpnS
import Derived.WalkKit
import Derived.ProofKit
import Derived.OpenShut
import Derived.ShutString
import Derived.ChangeOld
import Derived.Below
import Derived.SizedLaws
import Derived.Test.YtpafbjffecpdmaaOpnW
import Derived.Test.YtpafbjffecpdmaaSb25
namespace Go.Proofs.Ytpafbjffecpdmaa.subsetTells
open Go.ChangeShapes Go.WideShapes Go.ChangeAt Go.RowKit
open Go.ChangeMaps (open_string shut_string)
set_option linter.unusedVariables false
theorem own : ownKnob Try.prog.godebug = none := by kernel_rfl
theorem laidOut : laidOutB Try.prog = true := by kernel_rfl
set_option maxRecDepth 100000 in
theorem lifted (os : Os) (started : os.Started) (H : Type) (enc : TypeId × Value → H) :
    ReturnsInHanded {} Try.checked os 8 .any (Rows.subsetTellsSpec.pre6 enc Try.prog Try.f8 Rows.subsetTellsRow.domain false) (Rows.subsetTellsSpec.post enc Try.prog Try.f8 false true false false) := by
  refine returnsInHanded_of_change_sized (C := Try.checked) own started (by kernel_rfl) Try.func8
    (ChangeSpec.witness6 (enc := enc) (C := Try.checked) false ⟨#[], #[.slice none 0 0, .slice none 0 0, .int .i64 0, .int .i64 0, .int .u64 0, .int .i64 0], []⟩ 8 (by kernel_rfl) (by kernel_rfl) (by kernel_rfl) (by kernel_rfl)) ?_
  intro W base args ds gs before hval0 hW hcnd hsz0 _
  have hsz : (DataW.weightsEach Try.prog (Try.f8.params.toList ++ Rows.subsetTellsSpec.plain.varTypes Try.prog) (ds ++ gs)).all (· ≤ reachBytes) = true := hsz0
  have hval : ∀ (j : Nat) t v, Try.f8.params[j]? = some t → args[j]? = some v → Value.okWide Try.prog W .any base t v := hval0
  have hW' := hW
  obtain ⟨p, q, hA0, hV, rfl, hfz, hnd⟩ := hW
  have hA : DataW.TrodAll enc Try.prog W 0 (fun _ => true) true Try.f8.params.toList args.toList ds p := hA0
  rw [Try.params8] at hA hval hsz
  obtain ⟨v0, vs0, d0, ds0, p0, q0, hargs, rfl, rfl, h0, r0⟩ := trodAll_cons hA
  obtain ⟨v1, vs1, d1, ds1, p1, q1, rfl, rfl, rfl, h1, r1⟩ := trodAll_cons r0
  obtain ⟨v2, vs2, d2, ds2, p2, q2, rfl, rfl, rfl, h2, r2⟩ := trodAll_cons r1
  obtain ⟨v3, vs3, d3, ds3, p3, q3, rfl, rfl, rfl, h3, r3⟩ := trodAll_cons r2
  obtain ⟨v4, vs4, d4, ds4, p4, q4, rfl, rfl, rfl, h4, r4⟩ := trodAll_cons r3
  obtain ⟨v5, vs5, d5, ds5, p5, q5, rfl, rfl, rfl, h5, r5⟩ := trodAll_cons r4
  obtain ⟨rfl, rfl, rfl⟩ := trodAll_nil r5
  obtain rfl : args = #[v0, v1, v2, v3, v4, v5] := by cases args; simp_all
  obtain ⟨rfl, rfl⟩ := trodVars_none hV
  have k0 := h0
  have lt0 : ∀ x ∈ p0, x.block < W.heap.size := by obtain ⟨m, hm⟩ := k0; exact DataW.trod_lt m _ _ _ hm
  have o0 := Opn.opened (m := 8) h0 (show Opn.flat Try.prog 8 22 = some [.slice 3] from by kernel_rfl)
  obtain ⟨a0, n0, c0, rfl⟩ := okWide_slice Try.underlying22 (hval 0 22 v0 rfl rfl)
  obtain ⟨y0, l0_0, e0, s0, o0_0⟩ := Opn.ok_cons o0
  simp only [Value.cells] at e0
  cases e0
  obtain ⟨xs0, rd0, wf0⟩ := Opn.slice_of (m := 8) (e := 3) (sz := 1) (ks := [.int .i64]) (el := fun n : Int => [Value.int .i64 n]) (wf := fun n => (Lit.int .i64 n).wf = true) (by kernel_rfl) (by kernel_rfl) (by decide) (fun cs h => by obtain ⟨_, l0, rfl, ⟨n0, rfl, w0⟩, o0⟩ := Opn.ok_cons h; obtain rfl := Opn.ok_nil o0; exact ⟨n0, rfl, w0⟩) (fun _ => rfl) s0
  have wt0 : n0 * 8 ≤ 140737488351232 := by
    have h0 := Opn.AllWt.at 0 (Opn.opened_wt (m := 8) k0 (ks := [.slice 3]) (by kernel_rfl) (Opn.sized_arg hsz 0 rfl rfl)) rfl rfl
    rw [show Try.prog.bytesOf 3 = 8 from by kernel_rfl] at h0
    exact h0
  have k1 := h1
  have lt1 : ∀ x ∈ p1, x.block < W.heap.size := by obtain ⟨m, hm⟩ := k1; exact DataW.trod_lt m _ _ _ hm
  have o1 := Opn.opened (m := 8) h1 (show Opn.flat Try.prog 8 22 = some [.slice 3] from by kernel_rfl)
  obtain ⟨a1, n1, c1, rfl⟩ := okWide_slice Try.underlying22 (hval 1 22 v1 rfl rfl)
  obtain ⟨y1, l1_0, e1, s1, o1_0⟩ := Opn.ok_cons o1
  simp only [Value.cells] at e1
  cases e1
  obtain ⟨xs1, rd1, wf1⟩ := Opn.slice_of (m := 8) (e := 3) (sz := 1) (ks := [.int .i64]) (el := fun n : Int => [Value.int .i64 n]) (wf := fun n => (Lit.int .i64 n).wf = true) (by kernel_rfl) (by kernel_rfl) (by decide) (fun cs h => by obtain ⟨_, l0, rfl, ⟨n0, rfl, w0⟩, o0⟩ := Opn.ok_cons h; obtain rfl := Opn.ok_nil o0; exact ⟨n0, rfl, w0⟩) (fun _ => rfl) s1
  have wt1 : n1 * 8 ≤ 140737488351232 := by
    have h0 := Opn.AllWt.at 0 (Opn.opened_wt (m := 8) k1 (ks := [.slice 3]) (by kernel_rfl) (Opn.sized_arg hsz 1 rfl rfl)) rfl rfl
    rw [show Try.prog.bytesOf 3 = 8 from by kernel_rfl] at h0
    exact h0
  obtain ⟨x2, rfl, rfl, rfl, w2⟩ := open_int Try.underlying3 (hval 2 3 v2 rfl rfl) h2
  obtain ⟨x3, rfl, rfl, rfl, w3⟩ := open_int Try.underlying3 (hval 3 3 v3 rfl rfl) h3
  obtain ⟨x4, rfl, rfl, rfl, w4⟩ := open_int Try.underlying23 (hval 4 23 v4 rfl rfl) h4
  obtain ⟨x5, rfl, rfl, rfl, w5⟩ := open_int Try.underlying3 (hval 5 3 v5 rfl rfl) h5
  clear hA0 hval0 hsz0
  refine (Sb.TellsI xs0 xs1 x2 x3 x4 x5 a0 a1 n0 c0 n1 c1 W rd0 rd1 w4 (by omega) (by omega)).mono fun e W' ⟨he, bel⟩ => ?_
  subst he
  exact ⟨_, rfl, _, _, _, [], _, [], hW', trodAll_mk1 (shut_bool Try.underlying4 _), (trodAll_cons_mk (Below.trod laidOut (by kernel_rfl) (of_decide_eq_true (by kernel_rfl)) k0 bel lt0) (trodAll_cons_mk (Below.trod laidOut (by kernel_rfl) (of_decide_eq_true (by kernel_rfl)) k1 bel lt1) (trodAll_cons_mk (shut_int Try.underlying3 w2) (trodAll_cons_mk (shut_int Try.underlying3 w3) (trodAll_cons_mk (shut_int Try.underlying23 w4) (trodAll_cons_mk (shut_int Try.underlying3 w5) trodAll_mk0)))))), rfl, bel.frame _, fun h => by cases h⟩
theorem over : Rows.subsetTellsRow.holds Try.pinned (OpenSpec.ofChange Rows.subsetTellsSpec) :=
  OpenClaim.holds_of_wide 8 Try.f8 rfl rfl rfl rfl rfl rfl rfl ⟨rfl, rfl, rfl, rfl, rfl⟩ rfl rfl rfl rfl rfl (by kernel_rfl) Try.func8 (by kernel_rfl)
    (of_decide_eq_true (by kernel_rfl)) (by unfold Func.isWrapper; first | (rw [if_pos (by decide +kernel)]; kernel_rfl) | (rw [if_neg (by decide +kernel)]; exact ⟨rfl, rfl⟩))
    (fun os started H enc _ => lifted os started H enc)
theorem proved : Rows.SubsetTellsSaid := over
#print axioms proved
end Go.Proofs.Ytpafbjffecpdmaa.subsetTells
namespace Go.Proofs.Ytpafbjffecpdmaa
theorem subsetTells_holds : Rows.SubsetTellsSaid := subsetTells.proved
end Go.Proofs.Ytpafbjffecpdmaa
