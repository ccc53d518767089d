/- Timer: slices.Values and slices.Collect at timers. -/
import Derived.Test.YtmoaekjkihbicaaTm8
import Derived.Test.YtmoaekjkihbicaaBofI
set_option linter.unusedVariables false
namespace Go.Proofs.Ytmoaekjkihbicaa.Tm
open Go.RowKit Go.Shelf Go.Proofs.Ytmoaekjkihbicaa
attribute [local go_sem] Oper.semAt_some
set_option linter.unusedSimpArgs false
abbrev encT (x : Tm) : Array Value := #[.agg #[.int .i64 x.t, .int .i64 x.id]]
set_option maxHeartbeats 1000000 in
theorem vals_c (A : Option Addr) (n c : Nat) (w : World) :
    Calls Try.prog 37 #[.slice A n c] w fun e w' => e = .returned (.func (.func 49) #[] #[.pointer (some ⟨w.heap.size, 0, none⟩)]) ∧ w' = w.alloc (.cells #[.slice A n c] 22) := by
  go_enter Try.func37, Try.ntmps37
  go_wp2
  go_ret
  exact ⟨rfl, rfl⟩
set_option maxRecDepth 100000 in
set_option maxHeartbeats 4000000 in
theorem vals1_in (n : Nat) (hn : 1 ≤ n) (lo B n0 : Nat) (l : List Tm) (A : Option Addr) (c : Nat) (J Jx : List Tm → World → Prop) (W : World) (hJ : AbidesFrom W.heap.size J)
    (hY : ∀ pre x W, J pre W → pre.length < 1024 → YieldAt Fence.wide (n - 1) Try.prog lo (encT x) W fun e W' =>
      (e = .returned (.bool true) ∧ J (pre ++ [x]) W' ∧ Below n0 W W') ∨ (e = .returned (.bool false) ∧ Jx (pre ++ [x]) W'))
    (hB : K.At W B 22 #[.slice A l.length c]) (hr : Sl.Rds W 2 A l.length (l.flatMap Tm.cs)) (hl : l.length ≤ 1024) (hBn : B < n0) (hAn : 0 < l.length → ∀ a, A = some a → a.block < n0) (hn0 : n0 ≤ W.heap.size) (h0 : J [] W) :
    CallsIn Fence.wide n Try.prog 49 #[.func (.yield lo) #[] #[], .pointer (some ⟨B, 0, none⟩)] W fun e W' => (∃ v, e = .returned v) ∧
      ((∃ ys, ys = l ∧ J ys W') ∨ (∃ pre, (∃ k, k ≤ l.length ∧ pre = l.take k) ∧ Jx pre W')) := by
  refine callsIn_of_wp Try.func49 rfl trivial ?_ rfl
  simp only [Try.ntmps49, List.size_toArray, List.length_cons, List.length_nil, Nat.reduceAdd, Nat.reduceSub, Array.replicate_succ, Array.replicate_zero, List.push_toArray, List.append_toArray, List.nil_append, List.cons_append]
  obtain ⟨hc1, hf1, hl1⟩ := K.At.facts hB
  have hle := hr.le
  have Hr := K.H.mk hr
  gi_wp2
  clear hc1 hf1 hl1
  gi_loopw [7] (fun i wr => ∃ k : Nat, k ≤ l.length ∧ i = .int .i64 k ∧ K.H (Below n0 W wr) ∧ J (l.take k) wr) (fun i _ => l.length - (intOf i).toNat)
  case atStart => exact ⟨0, by omega, rfl, ⟨Below.refl _ _⟩, by simpa using h0⟩
  case round =>
    clear h0
    obtain ⟨k, hk, rfl, Hb, hJk⟩ := hrel
    have hws := Hb.out.size
    by_cases hlt : k < l.length
    · obtain ⟨x, hx⟩ : ∃ x, l[k]? = some x := ⟨_, List.getElem?_eq_getElem hlt⟩
      obtain ⟨b, off, rfl, hbl, hbc⟩ := Sl.Rds.elem Hr.out Tm.cs_len (by omega) hx
      have hbn : b < n0 := hAn (by omega) _ rfl
      have q_0 : wr.cell? ⟨b, off + k * 2, none⟩ = some (.int .i64 x.t) := (Hb.out.cell (p := ⟨b, off + k * 2 + 0, none⟩) hbn).trans (hbc 0 (by omega))
      have q_1 : wr.cell? ⟨b, off + k * 2 + 1, none⟩ = some (.int .i64 x.id) := (Hb.out.cell (p := ⟨b, off + k * 2 + 1, none⟩) hbn).trans (hbc 1 (by omega))
      have hkl : (k : Int) < (l.length : Int) := by omega
      have hbw : b < wr.heap.size := by omega
      have hJ9 : J (l.take k) (wr.alloc (.cells #[.int .i64 x.t, .int .i64 x.id] 25)) := hJ _ _ _ none hJk (World.grownBy_alloc wr _ none) (fun _ h => by cases h)
      obtain ⟨fn, tmps, assign, body, hy, hR⟩ := hY (l.take k) x _ hJ9 (by simp; omega)
      have hsn : l.take k ++ [x] = l.take (k + 1) := by rw [List.take_add_one, hx]; rfl
      rw [hsn] at hR
      dsimp only [encT] at hy
      clear hx hbc hsn hJk hB hr
      gi_wp2
      refine hR.mono ?_
      rintro e W3 (⟨rfl, hJ3, hk3⟩ | ⟨rfl, hJx3⟩)
      · have hb3 := Hb.out.trans ((((Below.refl n0 wr).alloc (by omega) (.cells #[.int .i64 x.t, .int .i64 x.id] 25))).trans hk3)
        gi_wp2
        go_roundw
        case rel => exact ⟨k + 1, by omega, by go_num, ⟨hb3⟩, hJ3⟩
        case measure => simp [intOf]; omega
      · gi_wp2
        refine bodyPost_ret (results_none rfl _ _ _) rfl ?_
        exact ⟨⟨_, rfl⟩, .inr ⟨_, ⟨k + 1, by omega, rfl⟩, hJx3⟩⟩
    · obtain rfl : k = l.length := by omega
      rw [List.take_length] at hJk
      gi_wp2
      go_end0
      exact ⟨⟨_, rfl⟩, .inl ⟨_, rfl, hJk⟩⟩
theorem vals_stops (n : Nat) (hn : 1 ≤ n) (B n0 : Nat) (l : List Tm) (A : Option Addr) (c : Nat) (w : World)
    (hB : K.At w B 22 #[.slice A l.length c]) (hr : Sl.Rds w 2 A l.length (l.flatMap Tm.cs)) (hl : l.length ≤ 1024) (hBn : B < n0) (hAn : 0 < l.length → ∀ a, A = some a → a.block < n0) (hn0 : n0 ≤ w.heap.size) :
    SeqStopsK Fence.wide n Try.prog 49 #[.pointer (some ⟨B, 0, none⟩)] encT (Below n0) (fun ys => ys = l) (fun pre => ∃ k, k ≤ l.length ∧ pre = l.take k) 1024 w := fun lo J Jx W hW hJ _ hY h0 =>
  vals1_in n hn lo B n0 l A c J Jx W hJ hY (hB.bel ⟨hW⟩) (hr.below hW) hl hBn hAn (Nat.le_trans hn0 hW.size) h0
end Go.Proofs.Ytmoaekjkihbicaa.Tm
