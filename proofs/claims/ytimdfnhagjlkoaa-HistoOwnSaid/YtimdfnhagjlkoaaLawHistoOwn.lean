/- HistoOwn: what Add and Merge tell shares nothing with what was handed in. No condition. -/
import Derived.Test.YtimdfnhagjlkoaaRows
import Derived.Test.YtimdfnhagjlkoaaOpnS
import Derived.WalkKit
import Derived.ProofKit
import Derived.OpenShut
import Derived.ShutString
import Derived.ChangeOld
import Derived.Below
import Derived.SizedLaws
import Derived.Test.YtimdfnhagjlkoaaOpnW
import Derived.Test.YtimdfnhagjlkoaaHstY
namespace Go.Proofs.Ytimdfnhagjlkoaa.histoOwn
open Go.ChangeShapes Go.WideShapes Go.ChangeAt Go.RowKit
open Go.ChangeMaps (open_string shut_string)
set_option linter.unusedVariables false
theorem own : ownKnob Try.prog.godebug = none := by kernel_rfl
theorem laidOut : laidOutB Try.prog = true := by kernel_rfl
set_option maxRecDepth 100000 in
theorem lifted (os : Os) (started : os.Started) (H : Type) (enc : TypeId × Value → H) :
    ReturnsInHanded {} Try.checked os 13 .any (Rows.histoOwnSpec.pre6 enc Try.prog Try.f13 Rows.histoOwnRow.domain false) (Rows.histoOwnSpec.post enc Try.prog Try.f13 false true false false) := by
  refine returnsInHanded_of_change_sized (C := Try.checked) own started (by kernel_rfl) Try.func13
    (ChangeSpec.witness6 (enc := enc) (C := Try.checked) false ⟨#[], #[.agg #[.slice none 0 0, .int .i64 0], .slice none 0 0], []⟩ 8 (by kernel_rfl) (by kernel_rfl) (by kernel_rfl) (by kernel_rfl)) ?_
  intro W base args ds gs before hval0 hW hcnd hsz0 _
  have hsz : (DataW.weightsEach Try.prog (Try.f13.params.toList ++ Rows.histoOwnSpec.plain.varTypes Try.prog) (ds ++ gs)).all (· ≤ reachBytes) = true := hsz0
  have hval : ∀ (j : Nat) t v, Try.f13.params[j]? = some t → args[j]? = some v → Value.okWide Try.prog W .any base t v := hval0
  have hW' := hW
  obtain ⟨p, q, hA0, hV, rfl, hfz, hnd⟩ := hW
  have hA : DataW.TrodAll enc Try.prog W 0 (fun _ => true) true Try.f13.params.toList args.toList ds p := hA0
  rw [Try.params13] at hA hval hsz
  obtain ⟨v0, vs0, d0, ds0, p0, q0, hargs, rfl, rfl, h0, r0⟩ := trodAll_cons hA
  obtain ⟨v1, vs1, d1, ds1, p1, q1, rfl, rfl, rfl, h1, r1⟩ := trodAll_cons r0
  obtain ⟨rfl, rfl, rfl⟩ := trodAll_nil r1
  obtain rfl : args = #[v0, v1] := by cases args; simp_all
  obtain ⟨rfl, rfl⟩ := trodVars_none hV
  have k0 := h0
  have lt0 : ∀ x ∈ p0, x.block < W.heap.size := by obtain ⟨m, hm⟩ := k0; exact DataW.trod_lt m _ _ _ hm
  obtain ⟨⟨l0⟩, rfl⟩ := Opn.agg_of Try.underlying54 (hval 0 54 v0 rfl rfl)
  have o0 := Opn.opened (m := 8) h0 (show Opn.flat Try.prog 8 54 = some [.slice 3, .int .i64] from by kernel_rfl)
  simp only [Value.cells] at o0
  obtain ⟨y0_0, l0_0, rfl, s0_0, o0_0⟩ := Opn.ok_cons o0
  obtain ⟨a0_0, n0_0, c0_0, rfl⟩ := Opn.ok_slice s0_0
  obtain ⟨xs0_0, rd0_0, wf0_0⟩ := Opn.slice_of (m := 8) (e := 3) (sz := 1) (ks := [.int .i64]) (el := fun n : Int => [Value.int .i64 n]) (wf := fun n => (Lit.int .i64 n).wf = true) (by kernel_rfl) (by kernel_rfl) (by decide) (fun cs h => by obtain ⟨_, l0, rfl, ⟨n0, rfl, w0⟩, o0⟩ := Opn.ok_cons h; obtain rfl := Opn.ok_nil o0; exact ⟨n0, rfl, w0⟩) (fun _ => rfl) s0_0
  obtain ⟨_, l0_1, rfl, ⟨x0_1, rfl, w0_1⟩, o0_1⟩ := Opn.ok_cons o0_0
  obtain rfl := Opn.ok_nil o0_1
  have wt0_0 : n0_0 * 8 ≤ 140737488351232 := by
    have h0 := Opn.AllWt.at 0 (Opn.opened_wt (m := 8) k0 (ks := [.slice 3, .int .i64]) (by kernel_rfl) (Opn.sized_arg hsz 0 rfl rfl)) rfl rfl
    rw [show Try.prog.bytesOf 3 = 8 from by kernel_rfl] at h0
    exact h0
  have k1 := h1
  have lt1 : ∀ x ∈ p1, x.block < W.heap.size := by obtain ⟨m, hm⟩ := k1; exact DataW.trod_lt m _ _ _ hm
  have o1 := Opn.opened (m := 8) h1 (show Opn.flat Try.prog 8 30 = some [.slice 3] from by kernel_rfl)
  obtain ⟨a1, n1, c1, rfl⟩ := okWide_slice Try.underlying30 (hval 1 30 v1 rfl rfl)
  obtain ⟨y1, l1_0, e1, s1, o1_0⟩ := Opn.ok_cons o1
  simp only [Value.cells] at e1
  cases e1
  obtain ⟨xs1, rd1, wf1⟩ := Opn.slice_of (m := 8) (e := 3) (sz := 1) (ks := [.int .i64]) (el := fun n : Int => [Value.int .i64 n]) (wf := fun n => (Lit.int .i64 n).wf = true) (by kernel_rfl) (by kernel_rfl) (by decide) (fun cs h => by obtain ⟨_, l0, rfl, ⟨n0, rfl, w0⟩, o0⟩ := Opn.ok_cons h; obtain rfl := Opn.ok_nil o0; exact ⟨n0, rfl, w0⟩) (fun _ => rfl) s1
  have wt1 : n1 * 8 ≤ 140737488351232 := by
    have h0 := Opn.AllWt.at 0 (Opn.opened_wt (m := 8) k1 (ks := [.slice 3]) (by kernel_rfl) (Opn.sized_arg hsz 1 rfl rfl)) rfl rfl
    rw [show Try.prog.bytesOf 3 = 8 from by kernel_rfl] at h0
    exact h0
  clear hA0 hval0 hsz0
  refine (Hst.HOwn_c xs0_0 x0_1 xs1 a0_0 a1 n0_0 c0_0 n1 c1 W rd0_0 rd1 (by omega)).mono fun e W' ⟨he, bel⟩ => ?_
  subst he
  exact ⟨_, rfl, _, _, _, [], _, [], hW', trodAll_mk1 (shut_bool Try.underlying4 _), (trodAll_cons_mk (Below.trod laidOut (by kernel_rfl) (of_decide_eq_true (by kernel_rfl)) k0 bel lt0) (trodAll_cons_mk (Below.trod laidOut (by kernel_rfl) (of_decide_eq_true (by kernel_rfl)) k1 bel lt1) trodAll_mk0)), rfl, bel.frame _, fun h => by cases h⟩
theorem over : Rows.histoOwnRow.holds Try.pinned (OpenSpec.ofChange Rows.histoOwnSpec) :=
  OpenClaim.holds_of_wide 13 Try.f13 rfl rfl rfl rfl rfl rfl rfl ⟨rfl, rfl, rfl, rfl, rfl⟩ rfl rfl rfl rfl rfl (by kernel_rfl) Try.func13 (by kernel_rfl)
    (of_decide_eq_true (by kernel_rfl)) (by unfold Func.isWrapper; first | (rw [if_pos (by decide +kernel)]; kernel_rfl) | (rw [if_neg (by decide +kernel)]; exact ⟨rfl, rfl⟩))
    (fun os started H enc _ => lifted os started H enc)
theorem proved : Rows.HistoOwnSaid := over
#print axioms proved
end Go.Proofs.Ytimdfnhagjlkoaa.histoOwn
namespace Go.Proofs.Ytimdfnhagjlkoaa
theorem histoOwn_holds : Rows.HistoOwnSaid := histoOwn.proved
end Go.Proofs.Ytimdfnhagjlkoaa
