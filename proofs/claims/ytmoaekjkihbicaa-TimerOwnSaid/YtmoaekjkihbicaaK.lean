/- Words that all texts of this seat share: worlds that keep what was there, regions that draw their order. -/
import Derived.Test.YtmoaekjkihbicaaProg
import Derived.Below
import Derived.Deep.Draws
import Derived.Deep.QuietTactic
import Derived.BigQuiet
import Derived.WalkKit
import Derived.OwnWalk
import Derived.Tactics
import Derived.Tactics2
import Derived.KernelRfl
import Derived.RowKit3
import Derived.RegionTactic
import Derived.BigRegion
import Derived.ChangeAlike
import Derived.Laws.NewBlocks
import Derived.Laws.AppendOwn
import Derived.Deep.Light
set_option linter.unusedVariables false
set_option linter.unusedSimpArgs false
namespace Go
open Go.RowKit
/-- A world that keeps what lay in w. -/
def ExtOf (w : World) := { W : World // Below w.heap.size w W }
instance (w : World) : Nonempty (ExtOf w) := ⟨⟨w, Below.refl _ _⟩⟩
def World.ext (w : World) (x : ExtOf w) : World := x.1
@[go_sem] theorem World.cell?_ext (w : World) (x : ExtOf w) (a : Addr) (h : a.block < w.heap.size) : (w.ext x).cell? a = w.cell? a := x.2.cell h
@[go_sem] theorem World.frozen?_ext (w : World) (x : ExtOf w) (a : Addr) (h : a.block < w.heap.size) : (w.ext x).frozen? a = w.frozen? a := x.2.frozen h
@[go_sem] theorem World.heap_ext (w : World) (x : ExtOf w) (k : Nat) (h : k < w.heap.size) : (w.ext x).heap[k]? = w.heap[k]? := x.2.block k h
theorem World.ext_below (w : World) (x : ExtOf w) : Below w.heap.size w (w.ext x) := x.2
namespace Proofs.Ytmoaekjkihbicaa.K
def mx (x y : Int) : Int := if x < y then y else x
def mn (x y : Int) : Int := if y < x then y else x
theorem max2_int (k k' : IntKind) (x y : Int) : Builtin.max2 (.int k x) (.int k' y) = pure (.int k (mx x y)) := by simp only [Builtin.max2, gt_iff_lt, mx]
theorem min2_int (k k' : IntKind) (x y : Int) : Builtin.min2 (.int k x) (.int k' y) = pure (.int k (mn x y)) := by simp only [Builtin.min2, mn]
theorem max_two (ats : Array TypeId) (ty : TypeId) (a b : Value) : Builtin.max_ ats ty #[a, b] = (Builtin.max2 a b >>= fun s => pure s) := by simp only [Builtin.max_, List.foldlM_cons, List.foldlM_nil]
theorem min_two (ats : Array TypeId) (ty : TypeId) (a b : Value) : Builtin.min_ ats ty #[a, b] = (Builtin.min2 a b >>= fun s => pure s) := by simp only [Builtin.min_, List.foldlM_cons, List.foldlM_nil]
theorem max_three (ats : Array TypeId) (ty : TypeId) (a b c : Value) : Builtin.max_ ats ty #[a, b, c] = (Builtin.max2 a b >>= fun s => Builtin.max2 s c >>= fun s => pure s) := by simp only [Builtin.max_, List.foldlM_cons, List.foldlM_nil]
theorem min_three (ats : Array TypeId) (ty : TypeId) (a b c : Value) : Builtin.min_ ats ty #[a, b, c] = (Builtin.min2 a b >>= fun s => Builtin.min2 s c >>= fun s => pure s) := by simp only [Builtin.min_, List.foldlM_cons, List.foldlM_nil]

/-- Old memory reads as it did. -/
theorem bfacts {w W : World} (hb : Below w.heap.size w W) : (∀ b o, b < w.heap.size → W.cell? ⟨b, o, none⟩ = w.cell? ⟨b, o, none⟩) ∧ (∀ b o, b < w.heap.size → W.frozen? ⟨b, o, none⟩ = w.frozen? ⟨b, o, none⟩) ∧ w.heap.size ≤ W.heap.size :=
  ⟨fun b o h => hb.cell (p := ⟨b, o, none⟩) h, fun b o h => hb.frozen (p := ⟨b, o, none⟩) h, hb.size⟩
/-- A fact kept from the walk. -/
structure H (p : Prop) : Prop where
  out : p
structure Bel (w W : World) : Prop where
  out : Below w.heap.size w W
theorem ext_facts {w W : World} (h : ∃ x : ExtOf w, W = w.ext x) : Bel w W ∧ (∀ b o, b < w.heap.size → W.cell? ⟨b, o, none⟩ = w.cell? ⟨b, o, none⟩) ∧ (∀ b o, b < w.heap.size → W.frozen? ⟨b, o, none⟩ = w.frozen? ⟨b, o, none⟩) ∧ w.heap.size ≤ W.heap.size := by
  obtain ⟨x, rfl⟩ := h
  exact ⟨⟨x.2⟩, bfacts x.2⟩
theorem bel_facts {w W : World} (h : Below w.heap.size w W) : Bel w W ∧ (∀ b o, b < w.heap.size → W.cell? ⟨b, o, none⟩ = w.cell? ⟨b, o, none⟩) ∧ (∀ b o, b < w.heap.size → W.frozen? ⟨b, o, none⟩ = w.frozen? ⟨b, o, none⟩) ∧ w.heap.size ≤ W.heap.size :=
  ⟨⟨h⟩, bfacts h⟩

section
variable {P : Program}
theorem below_drew1 (w : World) : Below w.heap.size w { w with drawn := w.drawn + 1 } := ⟨rfl, rfl, rfl, Nat.le_refl _, fun _ _ => rfl⟩
/-- A region that draws its order, whose operations read, and whose calls hand back one value and keep what was there: one walk of the text's order. -/
theorem wp_region_ext_lit {id : Nat} {Q : Exit → Act → World → Prop} {a : Act} {w : World} {l : List Oper} (hm : P.follows .mixedOrders = true) (hB : Region.lexB .any l.toArray = true)
    (h : wpQuiet P l.toArray (fun W => ∃ x : ExtOf w, W = w.ext x) (fun a' => ∀ W, (∃ x : ExtOf w, W = w.ext x) → Q .normal a' W) l a) : (Code.region id l.toArray true).wp P Q a w :=
  wp_region_quiet (C := fun W => ∃ x : ExtOf w, W = w.ext x) hm hB ⟨⟨_, below_drew1 w⟩, rfl⟩ (by simpa using h)
theorem q_same {f : FuncId} {args : Array Value} {w : World} {x : ExtOf w} {v : Value} (h : Calls P f args (w.ext x) fun e w' => e = .returned v ∧ w' = w.ext x) :
    Calls P f args (w.ext x) fun e w' => e = .returned v ∧ ∃ y : ExtOf w, w' = w.ext y :=
  h.mono fun _ _ ⟨he, hw⟩ => ⟨he, x, hw⟩
theorem q_below {f : FuncId} {args : Array Value} {w : World} {x : ExtOf w} {v : Value} (h : Calls P f args (w.ext x) fun e w' => e = .returned v ∧ Below (w.ext x).heap.size (w.ext x) w') :
    Calls P f args (w.ext x) fun e w' => e = .returned v ∧ ∃ y : ExtOf w, w' = w.ext y :=
  h.mono fun _ w' ⟨he, hw⟩ => ⟨he, ⟨w', x.2.trans (hw.mono x.2.size)⟩, rfl⟩
theorem q_drawn {f : FuncId} {args : Array Value} {w : World} {x : ExtOf w} {v : Value} (h : Calls P f args (w.ext x) fun e w' => e = .returned v ∧ ∃ n, w' = (w.ext x).drewN n) :
    Calls P f args (w.ext x) fun e w' => e = .returned v ∧ ∃ y : ExtOf w, w' = w.ext y :=
  h.mono fun _ w' ⟨he, n, hw⟩ => ⟨he, ⟨w', by rw [hw]; exact x.2.trans ⟨rfl, rfl, rfl, Nat.le_refl _, fun _ _ => rfl⟩⟩, rfl⟩
end
/-- The world under a new name: what is known of it. -/
theorem wp_gen {P : Program} {c : Code} {Q : Exit → Act → World → Prop} {a : Act} {w : World} (R : World → Prop) (hR : R w) (h : ∀ W, R W → c.wp P Q a W) : c.wp P Q a w := h w hR
/-- In the middle of a region, ahead of the operation that writes slot d: the world under a new name. -/
theorem gen_at {P : Program} {ops : Array Oper} {o : Oper} {rest : List Oper} {a : Act} {Q : Exit → Act → World → Prop} {w : World} (d : Nat) (hd : o.dst = some d) (R : World → Prop) (hR : R w) (h : ∀ W, R W → wpList P ops Q (o :: rest) a W) : wpList P ops Q (o :: rest) a w := h w hR
structure Tok (n : Nat) : Prop where
theorem tok (n : Nat) : Tok n := ⟨⟩
theorem not_t {b : Bool} (h : (!b) = true) : b = false := by cases b <;> simp_all
theorem not_f {b : Bool} (h : (!b) = false) : b = true := by cases b <;> simp_all
theorem i64_in {n : Int} (h0 : -9223372036854775808 ≤ n) (h1 : n ≤ 9223372036854775807) : IntKind.i64.wrap n = n := by
  simp [IntKind.wrap, IntKind.min, IntKind.max, IntKind.signed, IntKind.bits]; omega
theorem ret_int {k : IntKind} {a b : Int} (h : a = b) : Ending.returned (.int k a) = .returned (.int k b) := by rw [h]
theorem ret_bool {a b : Bool} (h : a = b) : Ending.returned (.bool a) = .returned (.bool b) := by rw [h]
/-- The closing of a world's fact: all that lay in w lies as it did. -/
theorem bel_step {B : Nat} {a w W : World} (h : Below B a w) (hB : B ≤ w.heap.size) (k : Bel w W) : Below B a W := h.trans (k.out.mono hB)
/-! ### Old memory -/
section
variable {w W W2 : World}
theorem b_alloc (h : Below w.heap.size w W) (o : Obj) : Below w.heap.size w (W.alloc o) := h.alloc h.size o
theorem b_drew (h : Below w.heap.size w W) : Below w.heap.size w W.drew := ⟨h.os, h.tape, h.output, h.size, h.block⟩
theorem b_drewN (h : Below w.heap.size w W) (n : Nat) : Below w.heap.size w (W.drewN n) := ⟨h.os, h.tape, h.output, h.size, h.block⟩
theorem b_set (h : Below w.heap.size w W) {p : Addr} (hp : w.heap.size ≤ p.block) (u : Value) : Below w.heap.size w (W.setCell p u) := h.setCell hp u
theorem b_bel (h : Below w.heap.size w W) (k : Bel W W2) : Below w.heap.size w W2 := h.trans (k.out.mono h.size)
/-- Only block g, and new ones, have turned. -/
structure Only (w W : World) (g : Nat) : Prop where
  out : w.grownBy W (some g)
theorem o_refl (w : World) (g : Nat) : w.grownBy w (some g) := ⟨rfl, rfl, rfl, Nat.le_refl _, fun _ _ _ => rfl⟩
theorem o_of (h : Below w.heap.size w W) (g : Nat) : w.grownBy W (some g) := ⟨h.os, h.tape, h.output, h.size, fun k hk _ => h.block k hk⟩
theorem o_trans {g : Nat} (h : w.grownBy W (some g)) (k : W.grownBy W2 (some g)) : w.grownBy W2 (some g) :=
  ⟨k.os.trans h.os, k.tape.trans h.tape, k.output.trans h.output, Nat.le_trans h.size k.size, fun i hi hn => (k.block i (Nat.lt_of_lt_of_le hi h.size) hn).trans (h.block i hi hn)⟩
theorem o_alloc {g : Nat} (h : w.grownBy W (some g)) (o : Obj) : w.grownBy (W.alloc o) (some g) := o_trans h (World.grownBy_alloc W o _)
theorem o_drew {g : Nat} (h : w.grownBy W (some g)) : w.grownBy W.drew (some g) := ⟨h.os, h.tape, h.output, h.size, h.block⟩
theorem o_drewN {g : Nat} (h : w.grownBy W (some g)) (n : Nat) : w.grownBy (W.drewN n) (some g) := ⟨h.os, h.tape, h.output, h.size, h.block⟩
theorem o_set {g : Nat} (h : w.grownBy W (some g)) (i : Nat) (u : Value) : w.grownBy (W.setCell ⟨g, i, none⟩ u) (some g) :=
  o_trans h ⟨rfl, rfl, rfl, by simp [World.setCell], fun k _ hk => Below.heap_setCell _ _ _ _ (by intro e; exact hk (by rw [e]))⟩
theorem o_bel {g : Nat} (h : w.grownBy W (some g)) (k : Bel W W2) : w.grownBy W2 (some g) := o_trans h (o_of k.out g)
theorem o_only {g : Nat} (h : w.grownBy W (some g)) (k : Only W W2 g) : w.grownBy W2 (some g) := o_trans h k.out
theorem b_only {g : Nat} (h : Below w.heap.size w W) (k : Only W W2 g) (hg : w.heap.size ≤ g) : Below w.heap.size w W2 := h.grown k.out h.size (fun j e => by cases e; exact hg)
end
theorem only_facts {w W : World} {g : Nat} (h : Only w W g) : (∀ b o, b < w.heap.size → b ≠ g → W.cell? ⟨b, o, none⟩ = w.cell? ⟨b, o, none⟩) ∧ (∀ b o, b < w.heap.size → b ≠ g → W.frozen? ⟨b, o, none⟩ = w.frozen? ⟨b, o, none⟩) ∧ w.heap.size ≤ W.heap.size :=
  ⟨fun b o hb hn => World.cell?_of_block (w := w) (h.out.block b hb (by simpa using hn)), fun b o hb hn => World.frozen?_of_block (w := w) (h.out.block b hb (by simpa using hn)), h.out.size⟩
/-! ### A block of cells that is known whole -/
structure At (w : World) (g : Nat) (T : TypeId) (cs : Array Value) : Prop where
  out : w.heap[g]? = some (.cells cs T (0, 0))
namespace At
variable {w W : World} {g : Nat} {T : TypeId} {cs : Array Value}
theorem lt (h : At w g T cs) : g < w.heap.size := (Array.getElem?_eq_some_iff.1 h.out).1
theorem cell (h : At w g T cs) (i : Nat) : w.cell? ⟨g, i, none⟩ = cs[i]? := by simp [World.cell?, h.out]
theorem frozen (h : At w g T cs) (i : Nat) : w.frozen? ⟨g, i, none⟩ = false := by simp [World.frozen?, h.out]
theorem facts (h : At w g T cs) : (∀ i, w.cell? ⟨g, i, none⟩ = cs[i]?) ∧ (∀ i, w.frozen? ⟨g, i, none⟩ = false) ∧ g < w.heap.size := ⟨h.cell, h.frozen, h.lt⟩
theorem new (w : World) (T : TypeId) (cs : Array Value) : At (w.alloc (.cells cs T)) w.heap.size T cs := ⟨heap_alloc_new w _⟩
theorem alloc (h : At w g T cs) (o : Obj) : At (w.alloc o) g T cs := ⟨(heap_alloc_old w o h.lt).trans h.out⟩
theorem drew (h : At w g T cs) : At w.drew g T cs := ⟨h.out⟩
theorem drewN (h : At w g T cs) (n : Nat) : At (w.drewN n) g T cs := ⟨h.out⟩
theorem set (h : At w g T cs) (i : Nat) (u : Value) : At (w.setCell ⟨g, i, none⟩ u) g T (cs.setIfInBounds i u) := ⟨by simp [World.setCell, Array.getElem?_modify, h.out]⟩
theorem far (h : At w g T cs) {p : Addr} (hp : g ≠ p.block) (u : Value) : At (w.setCell p u) g T cs := ⟨(Below.heap_setCell w p u g hp).trans h.out⟩
theorem bel (h : At w g T cs) (k : Bel w W) : At W g T cs := ⟨(k.out.block g h.lt).trans h.out⟩
theorem only {g2 : Nat} (h : At w g T cs) (k : Only w W g2) (hn : g ≠ g2) : At W g T cs := ⟨(k.out.block g h.lt (by simpa using hn)).trans h.out⟩
theorem over (k : Bel w W) (h : At w g T cs) : At W g T cs := h.bel k
theorem past {g2 : Nat} (k : Only w W g2) (hn : g ≠ g2) (h : At w g T cs) : At W g T cs := h.only k hn
theorem new' (w : World) (T : TypeId) (cs : Array Value) (g : Nat) (hg : g = w.heap.size) : At (w.alloc (.cells cs T)) g T cs := hg ▸ new w T cs
theorem cast {cs2 : Array Value} (h : At w g T cs) (e : cs = cs2) : At w g T cs2 := e ▸ h
end At
end Proofs.Ytmoaekjkihbicaa.K
end Go
