/- Calls: the attempts that are out, one by one (an iterator). -/
import Derived.Test.YtfepjpjkamlneaaClF
import Derived.Test.YtfepjpjkamlneaaBofI
set_option linter.unusedVariables false
namespace Go.Proofs.Ytfepjpjkamlneaa.Cl
open Go.RowKit Go.Shelf Go.Proofs.Ytfepjpjkamlneaa
attribute [local go_sem] Oper.semAt_some
attribute [local go_sem] K.max2_int K.min2_int K.max_two K.min_two K.max_three K.min_three
set_option linter.unusedSimpArgs false
/-- A place, and the attempt there. -/
abbrev NA := Nat × Att
abbrev encN (x : NA) : Array Value := #[.int .i64 x.1, x.2.a]
/-- Those of the first k that are out. -/
def outT (xs : List Att) : Nat → List NA
  | 0 => []
  | k + 1 => match xs[k]? with
    | some a => if a.over then outT xs k else outT xs k ++ [(k, a)]
    | none => outT xs k
theorem outT_over {xs : List Att} {k : Nat} {a : Att} (h : xs[k]? = some a) (ho : a.over = true) : outT xs (k + 1) = outT xs k := by simp [outT, h, ho]
theorem outT_out {xs : List Att} {k : Nat} {a : Att} (h : xs[k]? = some a) (ho : a.over = false) : outT xs (k + 1) = outT xs k ++ [(k, a)] := by simp [outT, h, ho]
theorem outT_len (xs : List Att) : ∀ k, (outT xs k).length ≤ k
  | 0 => by simp [outT]
  | k + 1 => by
    have := outT_len xs k
    unfold outT
    split
    · split
      · omega
      · simp; omega
    · omega
theorem outT_in (xs : List Att) : ∀ k, ∀ p ∈ outT xs k, p.1 < k ∧ xs[p.1]? = some p.2 ∧ p.2.over = false
  | 0, p, h => by simp [outT] at h
  | k + 1, p, h => by
    unfold outT at h
    split at h
    · rename_i a ha
      split at h
      · have := outT_in xs k p h; exact ⟨by omega, this.2⟩
      · rename_i ho
        rcases List.mem_append.1 h with h | h
        · have := outT_in xs k p h; exact ⟨by omega, this.2⟩
        · simp at h; subst h; exact ⟨by simp, ha, by simpa using ho⟩
    · have := outT_in xs k p h; exact ⟨by omega, this.2⟩
/-- The iterator's blocks lie as they lay. -/
def KpO (B g : Nat) (A : Option Addr) (n : Nat) (W W' : World) : Prop := W'.heap[B]? = W.heap[B]? ∧ W'.heap[g]? = W.heap[g]? ∧ (0 < n → ∀ a, A = some a → W'.heap[a.block]? = W.heap[a.block]?) ∧ W.heap.size ≤ W'.heap.size
section
variable {B g n : Nat} {A : Option Addr}
theorem kpo_t {a b c : World} (h : KpO B g A n a b) (k : KpO B g A n b c) : KpO B g A n a c := ⟨k.1.trans h.1, k.2.1.trans h.2.1, fun h0 x e => (k.2.2.1 h0 x e).trans (h.2.2.1 h0 x e), Nat.le_trans h.2.2.2 k.2.2.2⟩
theorem kpo_b {w : World} (hB : B < w.heap.size) (hg : g < w.heap.size) (hA : 0 < n → ∀ a, A = some a → a.block < w.heap.size) : ∀ (W : World) (l : Nat) (o o' : Obj), w.heap.size ≤ l → W.heap[l]? = some o → o.isCells = false → o.isWalk = false → KpO B g A n W (W.putObj l o') := fun W l o o' hl _ _ _ =>
  ⟨World.putObj_heap_other (by omega), World.putObj_heap_other (by omega), fun h0 a e => World.putObj_heap_other (by have := hA h0 a e; omega), by simp⟩
theorem rds_kpo {sz : Nat} {cs : List Value} {W W' : World} (h : Sl.Rds W sz A n cs) (k : KpO B g A n W W') : Sl.Rds W' sz A n cs := by
  refine ⟨h.len, h.small, fun hp => ?_⟩
  obtain ⟨b, off, rfl, hb, hc⟩ := h.at_ hp
  refine ⟨b, off, rfl, Nat.lt_of_lt_of_le hb k.2.2.2, fun j hj => ?_⟩
  rw [← hc j hj]
  unfold World.cell?
  rw [k.2.2.1 hp _ rfl]
theorem at_kpo1 {T : TypeId} {cs : Array Value} {W W' : World} (h : K.At W B T cs) (k : KpO B g A n W W') : K.At W' B T cs := ⟨k.1.trans h.out⟩
theorem at_kpo2 {T : TypeId} {cs : Array Value} {W W' : World} (h : K.At W g T cs) (k : KpO B g A n W W') : K.At W' g T cs := ⟨k.2.1.trans h.out⟩
theorem kpo_bel {W W' : World} (hB : B < W.heap.size) (hg : g < W.heap.size) (hA : 0 < n → ∀ a, A = some a → a.block < W.heap.size) (h : Below W.heap.size W W') : KpO B g A n W W' := ⟨h.block B hB, h.block g hg, fun h0 a e => h.block a.block (hA h0 a e), h.size⟩
theorem kpo_set {W : World} {p : Addr} (hB : B ≠ p.block) (hg : g ≠ p.block) (hA : 0 < n → ∀ a, A = some a → a.block ≠ p.block) (u : Value) : KpO B g A n W (W.setCell p u) := ⟨Below.heap_setCell W p u B hB, Below.heap_setCell W p u g hg, fun h0 a e => Below.heap_setCell W p u a.block (hA h0 a e), by simp [World.setCell]⟩
end
set_option maxHeartbeats 1000000 in
theorem out_in (F : Fence) (n : Nat) (hF : F.fn 48) (hro : F.round = none) (g : Nat) (w : World) :
    CallsIn F n Try.prog 48 #[.pointer (some ⟨g, 0, none⟩)] w fun e w' => e = .returned (.func (.func 62) #[] #[.pointer (some ⟨w.heap.size, 0, none⟩)]) ∧ w' = w.alloc (.cells #[.pointer (some ⟨g, 0, none⟩)] 74) := by
  refine callsIn_of_wp Try.func48 rfl hF ?_ hro
  simp only [Try.ntmps48, List.size_toArray, List.length_cons, List.length_nil, Nat.reduceAdd, Nat.reduceSub, Array.replicate_succ, Array.replicate_zero, List.push_toArray, List.append_toArray, List.nil_append, List.cons_append]
  gi_wp2
  go_ret
  exact ⟨rfl, rfl⟩
set_option maxRecDepth 100000 in
set_option maxHeartbeats 4000000 in
theorem out1_in (F : Fence) (n : Nat) (hF : F.fn 62) (hro : F.round = none) (hn : 1 ≤ n) (l B g : Nat) (x : Cal) (s : Set) (A : Option Addr) (c : Nat) (J Jx : List NA → World → Prop) (W : World) (nn : Nat) (hnn : nn = x.l.length) (hJ : AbidesFrom W.heap.size J)
    (hY : ∀ pre x W, J pre W → pre.length < 64 → YieldAt F (n - 1) Try.prog l (encN x) W fun e W' =>
      (e = .returned (.bool true) ∧ J (pre ++ [x]) W' ∧ KpO B g A nn W W') ∨ (e = .returned (.bool false) ∧ Jx (pre ++ [x]) W'))
    (hB : K.At W B 74 #[.pointer (some ⟨g, 0, none⟩)]) (hG : K.At W g 91 (akc x s A x.l.length c)) (hr : Sl.Rds W 8 A x.l.length (x.l.flatMap Att.cs)) (h64 : x.l.length ≤ 64) (h0 : J [] W) :
    CallsIn F n Try.prog 62 #[.func (.yield l) #[] #[], .pointer (some ⟨B, 0, none⟩)] W fun e W' => (∃ v, e = .returned v) ∧
      ((∃ ys, ys = outT x.l x.l.length ∧ J ys W') ∨ (∃ pre, (∃ k a, x.l[k]? = some a ∧ a.over = false ∧ pre = outT x.l (k + 1)) ∧ Jx pre W')) := by
  subst hnn
  refine callsIn_of_wp Try.func62 rfl hF ?_ hro
  simp only [Try.ntmps62, List.size_toArray, List.length_cons, List.length_nil, Nat.reduceAdd, Nat.reduceSub, Array.replicate_succ, Array.replicate_zero, List.push_toArray, List.append_toArray, List.nil_append, List.cons_append]
  obtain ⟨hc1, hf1, hl1⟩ := K.At.facts hB
  obtain ⟨hc2, hf2, hl2⟩ := K.At.facts hG
  have hle := hr.le
  gi_wp2
  clear hc1 hf1 hl1 hc2 hf2 hl2
  gi_loopw [11] (fun i wr => ∃ k : Nat, k ≤ x.l.length ∧ i = .int .i64 k ∧ K.At wr B 74 #[.pointer (some ⟨g, 0, none⟩)] ∧ K.At wr g 91 (akc x s A x.l.length c) ∧ Sl.Rds wr 8 A x.l.length (x.l.flatMap Att.cs) ∧ J (outT x.l k) wr) (fun i _ => x.l.length - (intOf i).toNat)
  case atStart => exact ⟨0, by omega, rfl, hB, hG, hr, h0⟩
  case round =>
    clear hB hG hr h0
    obtain ⟨k, hk, rfl, hB, hG, hr, hJk⟩ := hrel
    by_cases hlt : k < x.l.length
    · obtain ⟨a, hx⟩ : ∃ a, x.l[k]? = some a := ⟨_, List.getElem?_eq_getElem hlt⟩
      have hr0 := hr
      obtain ⟨b, off, rfl, hbl, hbc⟩ := Sl.Rds.elem hr Att.cs_len (by omega) hx
      have q_0 : wr.cell? ⟨b, off + k * 8, none⟩ = some (.int .i64 a.b) := ((Below.refl _ _ : Below wr.heap.size wr wr).cell (p := ⟨b, off + k * 8 + 0, none⟩) hbl).trans (hbc 0 (by omega))
      have q_1 : wr.cell? ⟨b, off + k * 8 + 1, none⟩ = some (.int .i64 a.i) := ((Below.refl _ _ : Below wr.heap.size wr wr).cell (p := ⟨b, off + k * 8 + 1, none⟩) hbl).trans (hbc 1 (by omega))
      have q_2 : wr.cell? ⟨b, off + k * 8 + 2, none⟩ = some (.int .i64 a.s) := ((Below.refl _ _ : Below wr.heap.size wr wr).cell (p := ⟨b, off + k * 8 + 2, none⟩) hbl).trans (hbc 2 (by omega))
      have q_3 : wr.cell? ⟨b, off + k * 8 + 3, none⟩ = some (.int .i64 a.q) := ((Below.refl _ _ : Below wr.heap.size wr wr).cell (p := ⟨b, off + k * 8 + 3, none⟩) hbl).trans (hbc 3 (by omega))
      have q_4 : wr.cell? ⟨b, off + k * 8 + 4, none⟩ = some (.int .i64 a.t) := ((Below.refl _ _ : Below wr.heap.size wr wr).cell (p := ⟨b, off + k * 8 + 4, none⟩) hbl).trans (hbc 4 (by omega))
      have q_5 : wr.cell? ⟨b, off + k * 8 + 5, none⟩ = some (.bool a.hedge) := ((Below.refl _ _ : Below wr.heap.size wr wr).cell (p := ⟨b, off + k * 8 + 5, none⟩) hbl).trans (hbc 5 (by omega))
      have q_6 : wr.cell? ⟨b, off + k * 8 + 6, none⟩ = some (.bool a.probe) := ((Below.refl _ _ : Below wr.heap.size wr wr).cell (p := ⟨b, off + k * 8 + 6, none⟩) hbl).trans (hbc 6 (by omega))
      have q_7 : wr.cell? ⟨b, off + k * 8 + 7, none⟩ = some (.bool a.over) := ((Below.refl _ _ : Below wr.heap.size wr wr).cell (p := ⟨b, off + k * 8 + 7, none⟩) hbl).trans (hbc 7 (by omega))
      clear hbc
      have Hx := K.H.mk hx
      have HB := K.H.mk hB
      have HG := K.H.mk hG
      have HR := K.H.mk hr0
      have HJ := K.H.mk (hJ _ _ (wr.alloc (.cells #[.int .i64 a.b, .int .i64 a.i, .int .i64 a.s, .int .i64 a.q, .int .i64 a.t, .bool a.hedge, .bool a.probe, .bool a.over] 37)) none hJk (World.grownBy_alloc wr _ _) (fun _ h => by cases h))
      have hlen := outT_len x.l k
      clear hx hB hG hr hr0 hJk
      cases ho : a.over
      · have Ho := K.H.mk ho
        rw [ho] at q_7 HJ
        obtain ⟨fn, tmps, assign, body, hy, hR⟩ := hY (outT x.l k) (k, ⟨a.b, a.i, a.s, a.q, a.t, a.hedge, a.probe, false⟩) _ HJ.out (by omega)
        have hE := outT_out Hx.out Ho.out
        rw [show (⟨a.b, a.i, a.s, a.q, a.t, a.hedge, a.probe, false⟩ : Att) = a from by rw [← ho]] at hR
        rw [← hE] at hR
        clear ho hE
        dsimp only [encN] at hy
        gi_wp2
        refine hR.mono ?_
        rintro e W3 (⟨rfl, hJ3, hk3⟩ | ⟨rfl, hJx3⟩)
        · have hB3 := at_kpo1 (HB.out.alloc _) hk3
          have hG3 := at_kpo2 (HG.out.alloc _) hk3
          have hR3 := rds_kpo (HR.out.below (K.b_alloc (Below.refl _ _) _)) hk3
          have H3 := K.H.mk (And.intro hB3 hG3)
          clear hB3 hG3
          gi_wp2
          go_roundw
          case rel => exact ⟨k + 1, by omega, by go_num, H3.out.1, H3.out.2, hR3, hJ3⟩
          case measure => simp [intOf]; omega
        · gi_wp2
          refine bodyPost_ret (results_none rfl _ _ _) rfl ?_
          exact ⟨⟨_, rfl⟩, .inr ⟨_, ⟨k, a, Hx.out, Ho.out, rfl⟩, hJx3⟩⟩
      · have Ho := K.H.mk ho
        have hE := K.H.mk (outT_over Hx.out Ho.out)
        rw [ho] at q_7 HJ
        clear ho
        gi_wp2
        refine ⟨fun f h => (by cases h), ?_⟩
        gi_wp2
        go_roundw
        case rel => exact ⟨k + 1, by omega, by go_num, HB.out.alloc _, HG.out.alloc _, HR.out.below (K.b_alloc (Below.refl _ _) _), by rw [hE.out]; exact HJ.out⟩
        case measure => simp [intOf]; omega
    · obtain rfl : k = x.l.length := by omega
      gi_wp2
      go_end0
      exact ⟨⟨_, rfl⟩, .inl ⟨_, rfl, hJk⟩⟩
theorem out_stops (F : Fence) (n : Nat) (hF : F.fn 62) (hro : F.round = none) (hn : 1 ≤ n) (B g : Nat) (x : Cal) (s : Set) (A : Option Addr) (c : Nat) (w : World)
    (hB : K.At w B 74 #[.pointer (some ⟨g, 0, none⟩)]) (hG : K.At w g 91 (akc x s A x.l.length c)) (hr : Sl.Rds w 8 A x.l.length (x.l.flatMap Att.cs)) (h64 : x.l.length ≤ 64) :
    SeqStopsK F n Try.prog 62 #[.pointer (some ⟨B, 0, none⟩)] encN (KpO B g A x.l.length) (fun ys => ys = outT x.l x.l.length) (fun pre => ∃ k a, x.l[k]? = some a ∧ a.over = false ∧ pre = outT x.l (k + 1)) 64 w := fun l J Jx W hW hJ _ hY h0 =>
  out1_in F n hF hro hn l B g x s A c J Jx W _ rfl hJ hY (hB.bel ⟨hW⟩) (hG.bel ⟨hW⟩) (hr.below hW) h64 h0
end Go.Proofs.Ytfepjpjkamlneaa.Cl
