/- Ring: the IDs from a hash on, round (an iterator). -/
import Derived.Test.YtkalbiihehcjkaaRg15
import Derived.Test.YtkalbiihehcjkaaTl
import Derived.Test.YtkalbiihehcjkaaBofI
set_option linter.unusedVariables false
namespace Go.Proofs.Ytkalbiihehcjkaa.Rg
open Go.RowKit Go.Shelf Go.Proofs.Ytkalbiihehcjkaa
attribute [local go_sem] Oper.semAt_some
set_option linter.unusedSimpArgs false
/-- The ID at a place, counted from a on, round. -/
def idAt (l : List Pt) (a i : Nat) : Int := ((l[(a + i) % l.length]?).getD ⟨0, 0⟩).i
abbrev encI (l : List Pt) (a : Nat) (i : Nat) : Array Value := #[.int .i64 (idAt l a i)]
/-- The iterator's blocks lie as they lay. -/
def KpR (B : Nat) (A : Option Addr) (n : Nat) (W W' : World) : Prop := W'.heap[B]? = W.heap[B]? ∧ (0 < n → ∀ a, A = some a → W'.heap[a.block]? = W.heap[a.block]?) ∧ W.heap.size ≤ W'.heap.size
section
variable {B n : Nat} {A : Option Addr}
theorem kpr_t {a b c : World} (h : KpR B A n a b) (k : KpR B A n b c) : KpR B A n a c := ⟨k.1.trans h.1, fun h0 x e => (k.2.1 h0 x e).trans (h.2.1 h0 x e), Nat.le_trans h.2.2 k.2.2⟩
theorem kpr_b {w : World} (hB : B < w.heap.size) (hA : 0 < n → ∀ a, A = some a → a.block < w.heap.size) : ∀ (W : World) (l : Nat) (o o' : Obj), w.heap.size ≤ l → W.heap[l]? = some o → o.isCells = false → o.isWalk = false → KpR B A n W (W.putObj l o') := fun W l o o' hl _ _ _ =>
  ⟨World.putObj_heap_other (by omega), fun h0 a e => World.putObj_heap_other (by have := hA h0 a e; omega), by simp⟩
theorem rds_kpr {sz : Nat} {cs : List Value} {W W' : World} (h : Sl.Rds W sz A n cs) (k : KpR B A n W W') : Sl.Rds W' sz A n cs := by
  refine ⟨h.len, h.small, fun hp => ?_⟩
  obtain ⟨b, off, rfl, hb, hc⟩ := h.at_ hp
  refine ⟨b, off, rfl, Nat.lt_of_lt_of_le hb k.2.2, fun j hj => ?_⟩
  rw [← hc j hj]
  unfold World.cell?
  rw [k.2.1 hp _ rfl]
theorem at_kpr {T : TypeId} {cs : Array Value} {W W' : World} (h : K.At W B T cs) (k : KpR B A n W W') : K.At W' B T cs := ⟨k.1.trans h.out⟩
end
set_option maxHeartbeats 1000000 in
theorem ids_in (F : Fence) (n : Nat) (hF : F.fn 37) (hro : F.round = none) (A : Option Addr) (m c : Nat) (a : Int) (w : World) :
    CallsIn F n Try.prog 37 #[.agg #[.slice A m c, .int .i64 a]] w fun e w' => e = .returned (.func (.func 52) #[] #[.pointer (some ⟨w.heap.size, 0, none⟩)]) ∧ w' = w.alloc (.cells #[.slice A m c, .int .i64 a] 68) := by
  refine callsIn_of_wp Try.func37 rfl hF ?_ hro
  simp only [Try.ntmps37, List.size_toArray, List.length_cons, List.length_nil, Nat.reduceAdd, Nat.reduceSub, Array.replicate_succ, Array.replicate_zero, List.push_toArray, List.append_toArray, List.nil_append, List.cons_append]
  gi_wp2
  go_ret
  exact ⟨rfl, rfl⟩
set_option maxRecDepth 100000 in
set_option maxHeartbeats 4000000 in
theorem ids1_in (n : Nat) (hn : 1 ≤ n) (lo B : Nat) (l : List Pt) (a : Nat) (A : Option Addr) (c : Nat) (J Jx : List Nat → World → Prop) (W : World) (nn : Nat) (hnn : nn = l.length) (hJ : AbidesFrom W.heap.size J)
    (hY : ∀ pre x W, J pre W → pre.length < 1024 → YieldAt Fence.wide (n - 1) Try.prog lo (encI l a x) W fun e W' =>
      (e = .returned (.bool true) ∧ J (pre ++ [x]) W' ∧ KpR B A nn W W') ∨ (e = .returned (.bool false) ∧ Jx (pre ++ [x]) W'))
    (hB : K.At W B 68 #[.slice A l.length c, .int .i64 a]) (hr : Sl.Rds W 2 A l.length (l.flatMap Pt.cs)) (hl : l.length ≤ 1024) (ha : a ≤ 1024) (h0 : J [] W) :
    CallsIn Fence.wide n Try.prog 52 #[.func (.yield lo) #[] #[], .pointer (some ⟨B, 0, none⟩)] W fun e W' => (∃ v, e = .returned v) ∧
      ((∃ ys, ys = List.range l.length ∧ J ys W') ∨ (∃ pre, (∃ k, k ≤ l.length ∧ pre = List.range k) ∧ Jx pre W')) := by
  subst hnn
  refine callsIn_of_wp Try.func52 rfl trivial ?_ rfl
  simp only [Try.ntmps52, List.size_toArray, List.length_cons, List.length_nil, Nat.reduceAdd, Nat.reduceSub, Array.replicate_succ, Array.replicate_zero, List.push_toArray, List.append_toArray, List.nil_append, List.cons_append]
  obtain ⟨hc1, hf1, hl1⟩ := K.At.facts hB
  have hle := hr.le
  gi_wp2
  clear hc1 hf1 hl1
  gi_loopw [7] (fun i wr => ∃ k : Nat, k ≤ l.length ∧ i = .int .i64 k ∧ K.At wr B 68 #[.slice A l.length c, .int .i64 a] ∧ Sl.Rds wr 2 A l.length (l.flatMap Pt.cs) ∧ K.H (W.heap.size ≤ wr.heap.size) ∧ J (List.range k) wr) (fun i _ => l.length - (intOf i).toNat)
  case atStart => exact ⟨0, by omega, rfl, hB, hr, ⟨Nat.le_refl _⟩, h0⟩
  case round =>
    clear hB hr h0
    obtain ⟨k, hk, rfl, hB, hr, hWs, hJk⟩ := hrel
    by_cases hlt : k < l.length
    · have hm := Nat.mod_lt (a + k) (show 0 < l.length by omega)
      obtain ⟨x, hx⟩ : ∃ x, l[(a + k) % l.length]? = some x := ⟨_, List.getElem?_eq_getElem hm⟩
      have hid : idAt l a k = x.i := by unfold idAt; rw [hx]; rfl
      have hmo : ((a + k : Nat) : Int).tmod (l.length : Int) = (((a + k) % l.length : Nat) : Int) := by rw [Int.natCast_emod]; exact Int.tmod_eq_emod_of_nonneg (by omega)
      have hmo2 : ((a : Int) + (k : Int)).tmod (l.length : Int) = (((a + k) % l.length : Nat) : Int) := by rw [← hmo, Int.natCast_add]
      have hz : (l.length : Int) ≠ 0 := by omega
      have hzn : l.length ≠ 0 := by omega
      have hw1 : IntKind.i64.wrap ((a : Int) + (k : Int)) = ((a + k : Nat) : Int) := by rw [K.i64_in (by omega) (by omega)]; omega
      have hr0 := hr
      obtain ⟨b, off, rfl, hbl, hbc⟩ := Sl.Rds.elem hr Pt.cs_len (by omega) hx
      have q_0 : wr.cell? ⟨b, off + ((a + k) % l.length) * 2, none⟩ = some (.int .u64 x.h) := ((Below.refl _ _ : Below wr.heap.size wr wr).cell (p := ⟨b, off + ((a + k) % l.length) * 2 + 0, none⟩) hbl).trans (hbc 0 (by omega))
      have q_1 : wr.cell? ⟨b, off + ((a + k) % l.length) * 2 + 1, none⟩ = some (.int .i64 x.i) := ((Below.refl _ _ : Below wr.heap.size wr wr).cell (p := ⟨b, off + ((a + k) % l.length) * 2 + 1, none⟩) hbl).trans (hbc 1 (by omega))
      clear hbc
      have hml : (((a + k) % l.length : Nat) : Int) < (l.length : Int) := by omega
      have HB := K.H.mk hB
      have HR := K.H.mk hr0
      have HJ := K.H.mk hJk
      have HID := K.H.mk hid
      obtain ⟨hc3, hf3, hl3⟩ := K.At.facts hB
      clear hx hB hr hr0 hJk hid
      have hm0 : (0 : Int) ≤ (((a + k) % l.length : Nat) : Int) := by omega
      generalize hme : (a + k) % l.length = m at *
      clear hme
      gi_wp2
      refine K.wpIn_region_ext_tail 14 (by kernel_rfl) (by kernel_rfl) (by kernel_rfl) ?_
      simp only [List.take_succ_cons, List.take_zero, List.drop_succ_cons, List.drop_zero]
      repeat (any_goals (refine wpQuietIn_step (fun _ _ _ _ => trivial) (fun Kq hK => ?_); go_simp; first | (refine hK _ ?_; clear hK Kq) | (apply Exists.intro; refine ⟨fun _ => ?_, hK _ ?_⟩; fail; clear hK Kq) | (split <;> (refine hK _ ?_; clear hK Kq))))
      all_goals (refine wpQuietIn_nil ?_; intro W9 hW9; obtain ⟨hB9, hC9, hF9, hZ9⟩ := K.ext_facts hW9; clear hW9)
      have hJ9 : J (List.range k) W9 := hJ _ _ W9 none HJ.out ⟨hB9.out.os, hB9.out.tape, hB9.out.output, hB9.out.size, fun j hj _ => hB9.out.block j hj⟩ (fun _ h => by cases h)
      have hB99 := K.At.over hB9 HB.out
      have hR99 := HR.out.below hB9.out
      obtain ⟨fn, tmps, assign, body, hy, hR⟩ := hY (List.range k) k _ hJ9 (by simp; omega)
      rw [← List.range_succ] at hR
      dsimp only [encI] at hy
      rw [HID.out] at hy
      gi_wp2
      refine hR.mono ?_
      rintro e W3 (⟨rfl, hJ3, hk3⟩ | ⟨rfl, hJx3⟩)
      · have hB3 := at_kpr hB99 hk3
        have hR3 := rds_kpr hR99 hk3
        have hs3 := hk3.2.2
        have hs9 := hB9.out.size
        have hws := hWs.out
        gi_wp2
        go_roundw
        case rel => exact ⟨k + 1, by omega, by go_num, hB3, hR3, ⟨by omega⟩, hJ3⟩
        case measure => simp [intOf]; omega
      · gi_wp2
        refine bodyPost_ret (results_none rfl _ _ _) rfl ?_
        exact ⟨⟨_, rfl⟩, .inr ⟨_, ⟨k + 1, by omega, rfl⟩, hJx3⟩⟩
    · obtain rfl : k = l.length := by omega
      gi_wp2
      go_end0
      exact ⟨⟨_, rfl⟩, .inl ⟨_, rfl, hJk⟩⟩
theorem ids_stops (n : Nat) (hn : 1 ≤ n) (B : Nat) (l : List Pt) (a : Nat) (A : Option Addr) (c : Nat) (w : World)
    (hB : K.At w B 68 #[.slice A l.length c, .int .i64 a]) (hr : Sl.Rds w 2 A l.length (l.flatMap Pt.cs)) (hl : l.length ≤ 1024) (ha : a ≤ 1024) :
    SeqStopsK Fence.wide n Try.prog 52 #[.pointer (some ⟨B, 0, none⟩)] (encI l a) (KpR B A l.length) (fun ys => ys = List.range l.length) (fun pre => ∃ k, k ≤ l.length ∧ pre = List.range k) 1024 w := fun lo J Jx W hW hJ _ hY h0 =>
  ids1_in n hn lo B l a A c J Jx W _ rfl hJ hY (hB.bel ⟨hW⟩) (hr.below hW) hl ha h0
end Go.Proofs.Ytkalbiihehcjkaa.Rg
