/- RingTells: whether any backends may be, their ring, whether any points are one, whose a hash is, who comes next, and how many keys each has, are as the page says; they stay. No condition. -/
import Derived.Test.YtkalbiihehcjkaaRows
import Derived.Test.YtkalbiihehcjkaaOpnS
import Derived.WalkKit
import Derived.ProofKit
import Derived.OpenShut
import Derived.ShutString
import Derived.ChangeOld
import Derived.Below
import Derived.SizedLaws
import Derived.Test.YtkalbiihehcjkaaOpnW
import Derived.Test.YtkalbiihehcjkaaRg40
namespace Go.Proofs.Ytkalbiihehcjkaa.ringTells
open Go.ChangeShapes Go.WideShapes Go.ChangeAt Go.RowKit
open Go.ChangeMaps (open_string shut_string)
set_option linter.unusedVariables false
theorem own : ownKnob Try.prog.godebug = none := by kernel_rfl
theorem laidOut : laidOutB Try.prog = true := by kernel_rfl
set_option maxRecDepth 100000 in
theorem lifted (os : Os) (started : os.Started) (H : Type) (enc : TypeId × Value → H) :
    ReturnsInHanded {} Try.checked os 7 .any (Rows.ringTellsSpec.pre6 enc Try.prog Try.f7 Rows.ringTellsRow.domain false) (Rows.ringTellsSpec.post enc Try.prog Try.f7 false true false false) := by
  refine returnsInHanded_of_change_sized (C := Try.checked) own started (by kernel_rfl) Try.func7
    (ChangeSpec.witness6 (enc := enc) (C := Try.checked) false ⟨#[], #[.int .i64 0, .slice none 0 0, .slice none 0 0, .int .u64 0, .int .i64 0], []⟩ 8 (by kernel_rfl) (by kernel_rfl) (by kernel_rfl) (by kernel_rfl)) ?_
  intro W base args ds gs before hval0 hW hcnd hsz0 _
  have hsz : (DataW.weightsEach Try.prog (Try.f7.params.toList ++ Rows.ringTellsSpec.plain.varTypes Try.prog) (ds ++ gs)).all (· ≤ reachBytes) = true := hsz0
  have hval : ∀ (j : Nat) t v, Try.f7.params[j]? = some t → args[j]? = some v → Value.okWide Try.prog W .any base t v := hval0
  have hW' := hW
  obtain ⟨p, q, hA0, hV, rfl, hfz, hnd⟩ := hW
  have hA : DataW.TrodAll enc Try.prog W 0 (fun _ => true) true Try.f7.params.toList args.toList ds p := hA0
  rw [Try.params7] at hA hval hsz
  obtain ⟨v0, vs0, d0, ds0, p0, q0, hargs, rfl, rfl, h0, r0⟩ := trodAll_cons hA
  obtain ⟨v1, vs1, d1, ds1, p1, q1, rfl, rfl, rfl, h1, r1⟩ := trodAll_cons r0
  obtain ⟨v2, vs2, d2, ds2, p2, q2, rfl, rfl, rfl, h2, r2⟩ := trodAll_cons r1
  obtain ⟨v3, vs3, d3, ds3, p3, q3, rfl, rfl, rfl, h3, r3⟩ := trodAll_cons r2
  obtain ⟨v4, vs4, d4, ds4, p4, q4, rfl, rfl, rfl, h4, r4⟩ := trodAll_cons r3
  obtain ⟨rfl, rfl, rfl⟩ := trodAll_nil r4
  obtain rfl : args = #[v0, v1, v2, v3, v4] := by cases args; simp_all
  obtain ⟨rfl, rfl⟩ := trodVars_none hV
  obtain ⟨x0, rfl, rfl, rfl, w0⟩ := open_int Try.underlying3 (hval 0 3 v0 rfl rfl) h0
  have k1 := h1
  have lt1 : ∀ x ∈ p1, x.block < W.heap.size := by obtain ⟨m, hm⟩ := k1; exact DataW.trod_lt m _ _ _ hm
  have o1 := Opn.opened (m := 8) h1 (show Opn.flat Try.prog 8 22 = some [.slice 33] from by kernel_rfl)
  obtain ⟨a1, n1, c1, rfl⟩ := okWide_slice Try.underlying22 (hval 1 22 v1 rfl rfl)
  obtain ⟨y1, l1_0, e1, s1, o1_0⟩ := Opn.ok_cons o1
  simp only [Value.cells] at e1
  cases e1
  obtain ⟨xs1, rd1, wf1⟩ := Opn.slice_of (m := 8) (e := 33) (sz := 2) (ks := [.int .i64, .int .i64]) (el := Rg.Bk.cs) (wf := fun x : Rg.Bk => (Lit.int .i64 x.id).wf = true ∧ (Lit.int .i64 x.wt).wf = true) (by kernel_rfl) (by kernel_rfl) (by decide) (fun cs h => by obtain ⟨_, l0, rfl, ⟨n0, rfl, w0⟩, o0⟩ := Opn.ok_cons h; obtain ⟨_, l1, rfl, ⟨n1, rfl, w1⟩, o1⟩ := Opn.ok_cons o0; obtain rfl := Opn.ok_nil o1; exact ⟨⟨n0, n1⟩, rfl, w0, w1⟩) (fun _ => rfl) s1
  have wt1 : n1 * 16 ≤ 140737488351232 := by
    have h0 := Opn.AllWt.at 0 (Opn.opened_wt (m := 8) k1 (ks := [.slice 33]) (by kernel_rfl) (Opn.sized_arg hsz 1 rfl rfl)) rfl rfl
    rw [show Try.prog.bytesOf 33 = 16 from by kernel_rfl] at h0
    exact h0
  have k2 := h2
  have lt2 : ∀ x ∈ p2, x.block < W.heap.size := by obtain ⟨m, hm⟩ := k2; exact DataW.trod_lt m _ _ _ hm
  have o2 := Opn.opened (m := 8) h2 (show Opn.flat Try.prog 8 24 = some [.slice 31] from by kernel_rfl)
  obtain ⟨a2, n2, c2, rfl⟩ := okWide_slice Try.underlying24 (hval 2 24 v2 rfl rfl)
  obtain ⟨y2, l2_0, e2, s2, o2_0⟩ := Opn.ok_cons o2
  simp only [Value.cells] at e2
  cases e2
  obtain ⟨xs2, rd2, wf2⟩ := Opn.slice_of (m := 8) (e := 31) (sz := 2) (ks := [.int .u64, .int .i64]) (el := Rg.Pt.cs) (wf := fun x : Rg.Pt => (Lit.int .u64 x.h).wf = true ∧ (Lit.int .i64 x.i).wf = true) (by kernel_rfl) (by kernel_rfl) (by decide) (fun cs h => by obtain ⟨_, l0, rfl, ⟨n0, rfl, w0⟩, o0⟩ := Opn.ok_cons h; obtain ⟨_, l1, rfl, ⟨n1, rfl, w1⟩, o1⟩ := Opn.ok_cons o0; obtain rfl := Opn.ok_nil o1; exact ⟨⟨n0, n1⟩, rfl, w0, w1⟩) (fun _ => rfl) s2
  have wt2 : n2 * 16 ≤ 140737488351232 := by
    have h0 := Opn.AllWt.at 0 (Opn.opened_wt (m := 8) k2 (ks := [.slice 31]) (by kernel_rfl) (Opn.sized_arg hsz 2 rfl rfl)) rfl rfl
    rw [show Try.prog.bytesOf 31 = 16 from by kernel_rfl] at h0
    exact h0
  obtain ⟨x3, rfl, rfl, rfl, w3⟩ := open_int Try.underlying29 (hval 3 29 v3 rfl rfl) h3
  obtain ⟨x4, rfl, rfl, rfl, w4⟩ := open_int Try.underlying3 (hval 4 3 v4 rfl rfl) h4
  clear hA0 hval0 hsz0
  refine (Rg.Tells_c x0 xs1 xs2 x3 x4 a1 n1 c1 a2 n2 c2 W rd1 rd2 (fun x hx => (wf2 x hx).2) (by omega)).mono fun e W' ⟨he, bel⟩ => ?_
  subst he
  exact ⟨_, rfl, _, _, _, [], _, [], hW', trodAll_mk1 (shut_bool Try.underlying4 _), (trodAll_cons_mk (shut_int Try.underlying3 w0) (trodAll_cons_mk (Below.trod laidOut (by kernel_rfl) (of_decide_eq_true (by kernel_rfl)) k1 bel lt1) (trodAll_cons_mk (Below.trod laidOut (by kernel_rfl) (of_decide_eq_true (by kernel_rfl)) k2 bel lt2) (trodAll_cons_mk (shut_int Try.underlying29 w3) (trodAll_cons_mk (shut_int Try.underlying3 w4) trodAll_mk0))))), rfl, bel.frame _, fun h => by cases h⟩
theorem over : Rows.ringTellsRow.holds Try.pinned (OpenSpec.ofChange Rows.ringTellsSpec) :=
  OpenClaim.holds_of_wide 7 Try.f7 rfl rfl rfl rfl rfl rfl rfl ⟨rfl, rfl, rfl, rfl, rfl⟩ rfl rfl rfl rfl rfl (by kernel_rfl) Try.func7 (by kernel_rfl)
    (of_decide_eq_true (by kernel_rfl)) (by unfold Func.isWrapper; first | (rw [if_pos (by decide +kernel)]; kernel_rfl) | (rw [if_neg (by decide +kernel)]; exact ⟨rfl, rfl⟩))
    (fun os started H enc _ => lifted os started H enc)
theorem proved : Rows.RingTellsSaid := over
#print axioms proved
end Go.Proofs.Ytkalbiihehcjkaa.ringTells
namespace Go.Proofs.Ytkalbiihehcjkaa
theorem ringTells_holds : Rows.RingTellsSaid := ringTells.proved
end Go.Proofs.Ytkalbiihehcjkaa
