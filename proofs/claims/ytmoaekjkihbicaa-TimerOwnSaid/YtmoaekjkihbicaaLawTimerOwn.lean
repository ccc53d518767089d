/- TimerOwn: queues that are told share nothing with what was handed in. No condition. -/
import Derived.Test.YtmoaekjkihbicaaRows
import Derived.Test.YtmoaekjkihbicaaOpnS
import Derived.WalkKit
import Derived.ProofKit
import Derived.OpenShut
import Derived.ShutString
import Derived.ChangeOld
import Derived.Below
import Derived.SizedLaws
import Derived.Test.YtmoaekjkihbicaaOpnW
import Derived.Test.YtmoaekjkihbicaaTm30
namespace Go.Proofs.Ytmoaekjkihbicaa.timerOwn
open Go.ChangeShapes Go.WideShapes Go.ChangeAt Go.RowKit
open Go.ChangeMaps (open_string shut_string)
set_option linter.unusedVariables false
theorem own : ownKnob Try.prog.godebug = none := by kernel_rfl
theorem laidOut : laidOutB Try.prog = true := by kernel_rfl
set_option maxRecDepth 100000 in
theorem lifted (os : Os) (started : os.Started) (H : Type) (enc : TypeId × Value → H) :
    ReturnsInHanded {} Try.checked os 7 .any (Rows.timerOwnSpec.pre6 enc Try.prog Try.f7 Rows.timerOwnRow.domain false) (Rows.timerOwnSpec.post enc Try.prog Try.f7 false true false false) := by
  refine returnsInHanded_of_change_sized (C := Try.checked) own started (by kernel_rfl) Try.func7
    (ChangeSpec.witness6 (enc := enc) (C := Try.checked) false ⟨#[], #[.slice none 0 0, .slice none 0 0, .int .i64 0], []⟩ 8 (by kernel_rfl) (by kernel_rfl) (by kernel_rfl) (by kernel_rfl)) ?_
  intro W base args ds gs before hval0 hW hcnd hsz0 _
  have hsz : (DataW.weightsEach Try.prog (Try.f7.params.toList ++ Rows.timerOwnSpec.plain.varTypes Try.prog) (ds ++ gs)).all (· ≤ reachBytes) = true := hsz0
  have hval : ∀ (j : Nat) t v, Try.f7.params[j]? = some t → args[j]? = some v → Value.okWide Try.prog W .any base t v := hval0
  have hW' := hW
  obtain ⟨p, q, hA0, hV, rfl, hfz, hnd⟩ := hW
  have hA : DataW.TrodAll enc Try.prog W 0 (fun _ => true) true Try.f7.params.toList args.toList ds p := hA0
  rw [Try.params7] at hA hval hsz
  obtain ⟨v0, vs0, d0, ds0, p0, q0, hargs, rfl, rfl, h0, r0⟩ := trodAll_cons hA
  obtain ⟨v1, vs1, d1, ds1, p1, q1, rfl, rfl, rfl, h1, r1⟩ := trodAll_cons r0
  obtain ⟨v2, vs2, d2, ds2, p2, q2, rfl, rfl, rfl, h2, r2⟩ := trodAll_cons r1
  obtain ⟨rfl, rfl, rfl⟩ := trodAll_nil r2
  obtain rfl : args = #[v0, v1, v2] := by cases args; simp_all
  obtain ⟨rfl, rfl⟩ := trodVars_none hV
  have k0 := h0
  have lt0 : ∀ x ∈ p0, x.block < W.heap.size := by obtain ⟨m, hm⟩ := k0; exact DataW.trod_lt m _ _ _ hm
  have o0 := Opn.opened (m := 8) h0 (show Opn.flat Try.prog 8 22 = some [.slice 25] from by kernel_rfl)
  obtain ⟨a0, n0, c0, rfl⟩ := okWide_slice Try.underlying22 (hval 0 22 v0 rfl rfl)
  obtain ⟨y0, l0_0, e0, s0, o0_0⟩ := Opn.ok_cons o0
  simp only [Value.cells] at e0
  cases e0
  obtain ⟨xs0, rd0, wf0⟩ := Opn.slice_of (m := 8) (e := 25) (sz := 2) (ks := [.int .i64, .int .i64]) (el := Tm.Tm.cs) (wf := fun x : Tm.Tm => (Lit.int .i64 x.t).wf = true ∧ (Lit.int .i64 x.id).wf = true) (by kernel_rfl) (by kernel_rfl) (by decide) (fun cs h => by obtain ⟨_, l0, rfl, ⟨n0, rfl, w0⟩, o0⟩ := Opn.ok_cons h; obtain ⟨_, l1, rfl, ⟨n1, rfl, w1⟩, o1⟩ := Opn.ok_cons o0; obtain rfl := Opn.ok_nil o1; exact ⟨⟨n0, n1⟩, rfl, w0, w1⟩) (fun _ => rfl) s0
  have wt0 : n0 * 16 ≤ 140737488351232 := by
    have h0 := Opn.AllWt.at 0 (Opn.opened_wt (m := 8) k0 (ks := [.slice 25]) (by kernel_rfl) (Opn.sized_arg hsz 0 rfl rfl)) rfl rfl
    rw [show Try.prog.bytesOf 25 = 16 from by kernel_rfl] at h0
    exact h0
  have k1 := h1
  have lt1 : ∀ x ∈ p1, x.block < W.heap.size := by obtain ⟨m, hm⟩ := k1; exact DataW.trod_lt m _ _ _ hm
  have o1 := Opn.opened (m := 8) h1 (show Opn.flat Try.prog 8 22 = some [.slice 25] from by kernel_rfl)
  obtain ⟨a1, n1, c1, rfl⟩ := okWide_slice Try.underlying22 (hval 1 22 v1 rfl rfl)
  obtain ⟨y1, l1_0, e1, s1, o1_0⟩ := Opn.ok_cons o1
  simp only [Value.cells] at e1
  cases e1
  obtain ⟨xs1, rd1, wf1⟩ := Opn.slice_of (m := 8) (e := 25) (sz := 2) (ks := [.int .i64, .int .i64]) (el := Tm.Tm.cs) (wf := fun x : Tm.Tm => (Lit.int .i64 x.t).wf = true ∧ (Lit.int .i64 x.id).wf = true) (by kernel_rfl) (by kernel_rfl) (by decide) (fun cs h => by obtain ⟨_, l0, rfl, ⟨n0, rfl, w0⟩, o0⟩ := Opn.ok_cons h; obtain ⟨_, l1, rfl, ⟨n1, rfl, w1⟩, o1⟩ := Opn.ok_cons o0; obtain rfl := Opn.ok_nil o1; exact ⟨⟨n0, n1⟩, rfl, w0, w1⟩) (fun _ => rfl) s1
  have wt1 : n1 * 16 ≤ 140737488351232 := by
    have h0 := Opn.AllWt.at 0 (Opn.opened_wt (m := 8) k1 (ks := [.slice 25]) (by kernel_rfl) (Opn.sized_arg hsz 1 rfl rfl)) rfl rfl
    rw [show Try.prog.bytesOf 25 = 16 from by kernel_rfl] at h0
    exact h0
  obtain ⟨x2, rfl, rfl, rfl, w2⟩ := open_int Try.underlying3 (hval 2 3 v2 rfl rfl) h2
  clear hA0 hval0 hsz0
  refine (Tm.OwnLaw_c xs0 xs1 x2 a0 a1 n0 c0 n1 c1 W rd0 rd1 (by omega)).mono fun e W' ⟨he, bel⟩ => ?_
  subst he
  exact ⟨_, rfl, _, _, _, [], _, [], hW', trodAll_mk1 (shut_bool Try.underlying4 _), (trodAll_cons_mk (Below.trod laidOut (by kernel_rfl) (of_decide_eq_true (by kernel_rfl)) k0 bel lt0) (trodAll_cons_mk (Below.trod laidOut (by kernel_rfl) (of_decide_eq_true (by kernel_rfl)) k1 bel lt1) (trodAll_cons_mk (shut_int Try.underlying3 w2) trodAll_mk0))), rfl, bel.frame _, fun h => by cases h⟩
theorem over : Rows.timerOwnRow.holds Try.pinned (OpenSpec.ofChange Rows.timerOwnSpec) :=
  OpenClaim.holds_of_wide 7 Try.f7 rfl rfl rfl rfl rfl rfl rfl ⟨rfl, rfl, rfl, rfl, rfl⟩ rfl rfl rfl rfl rfl (by kernel_rfl) Try.func7 (by kernel_rfl)
    (of_decide_eq_true (by kernel_rfl)) (by unfold Func.isWrapper; first | (rw [if_pos (by decide +kernel)]; kernel_rfl) | (rw [if_neg (by decide +kernel)]; exact ⟨rfl, rfl⟩))
    (fun os started H enc _ => lifted os started H enc)
theorem proved : Rows.TimerOwnSaid := over
#print axioms proved
end Go.Proofs.Ytmoaekjkihbicaa.timerOwn
namespace Go.Proofs.Ytmoaekjkihbicaa
theorem timerOwn_holds : Rows.TimerOwnSaid := timerOwn.proved
end Go.Proofs.Ytmoaekjkihbicaa
