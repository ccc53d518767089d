/- A region that draws its order: reads, which may come up whenever they like; operations that make memory or call, one behind the other; at the end, if need be, a tail that waits for all. One walk of the text's order serves every order. -/
import Derived.Test.YtmoaekjkihbicaaTl
set_option linter.unusedVariables false
set_option linter.unusedSimpArgs false
namespace Go
open Go.RowKit
namespace Proofs.Ytmoaekjkihbicaa.K
/-- Operations that read alone. -/
def isPure : Go.Op → Bool
  | .move _ | .assign _ | .pick _ _ _ | .load _ _ | .nilCheck _ | .binOp _ _ _ _ _ | .unOp _ _ _ | .convert _ _ _ | .fieldAddr _ _ _ | .field _ _ _ | .indexAddr _ _ _ | .index _ _ _ | .extract _ _ | .build _ _ | .slice _ _ _ _ _ | .makeFunc _ _ _ | .makeInterface _ _ => true
  | .call c => match c.callee with
    | .builtin .len | .builtin .cap | .builtin .min | .builtin .max => true
    | _ => false
  | _ => false
section
variable {P : Program} {ops : Array Oper} {md : Region.Mode} {C : World → Prop}
def pureUpon (w : World) (v : Value) : Result Next → Prop
  | .ok (.value u) w' => w' = w ∧ u = v
  | _ => False
def PureAt (P : Program) (o : Oper) (a : Go.Act) (w : World) (v : Value) : Prop := pureUpon w v ((execOp a.eval o).run P w)
def serUpon (P : Program) (o : Oper) (a : Go.Act) (K : Go.Act → World → Prop) : Result Next → Prop
  | .ok (.value v) w' => K (a.put o.dst v) w'
  | .ok .skip w' => K (a.put o.dst undef) w'
  | .ok (.enter f args) w' => Calls P f args w' fun e w'' => ∃ u, e = .returned u ∧ K (a.put o.dst u) w''
  | _ => False
def SerAt (P : Program) (o : Oper) (a : Go.Act) (w : World) (K : Go.Act → World → Prop) : Prop := serUpon P o a K ((execOp a.eval o).run P w)
/-- One operation of the walk. -/
def stepMix (P : Program) (ops : Array Oper) (C : World → Prop) (o : Oper) (K : Go.Act → World → Prop) (a : Go.Act) (w : World) : Prop :=
  if Region.wanted o (yielded ops a.tmps) then
    (if isPure o.op then ∃ v, (∀ w', C w' → PureAt P o a w' v) ∧ K (a.put o.dst v) w
     else SerAt P o a w (fun a' w' => C w' ∧ K a' w'))
  else K (a.put o.dst undef) w
def wpMix (P : Program) (ops : Array Oper) (C : World → Prop) (Q : Go.Act → World → Prop) : List Oper → Go.Act → World → Prop
  | [], a, w => Q a w
  | o :: rest, a, w => stepMix P ops C o (wpMix P ops C Q rest) a w

theorem pure_one {o : Oper} {a : Go.Act} {w : World} {v u : Value} (h : PureAt P o a w v) (k : PureAt P o a w u) : v = u := by
  unfold PureAt pureUpon at h k
  split at h
  · rename_i hr
    rw [hr] at k
    exact h.2.symm.trans k.2
  · exact h.elim
theorem pure_put {o : Oper} {a : Go.Act} {w : World} {v u : Value} {d : Option Tmp} (hs : ∀ cs b, o.op ≠ .select cs b) (hd : ∀ t, d = some t → t ∉ o.looksAt ops) : PureAt P o (a.put d u) w v ↔ PureAt P o a w v := by
  unfold PureAt
  rw [execOp_put (ops := ops) o hs a d u hd]
theorem serUpon_mono {o : Oper} {a : Go.Act} {K K' : Go.Act → World → Prop} {r : Result Next} (h : ∀ v w, K (a.put o.dst v) w → K' (a.put o.dst v) w) (hh : serUpon P o a K r) : serUpon P o a K' r := by
  unfold serUpon at *
  split
  · rename_i hr; simp only [] at hh; exact h _ _ hh
  · rename_i hr; simp only [] at hh; exact h _ _ hh
  · rename_i hr; simp only [] at hh; exact hh.mono fun e w'' ⟨u, he, hk⟩ => ⟨u, he, h _ _ hk⟩
  · rename_i h1 h2 h3
    split at hh
    · exact (h1 _ _ rfl).elim
    · exact (h2 _ rfl).elim
    · exact (h3 _ _ _ rfl).elim
    · exact hh
theorem ser_mono {o : Oper} {a : Go.Act} {w : World} {K K' : Go.Act → World → Prop} (h : ∀ v w, K (a.put o.dst v) w → K' (a.put o.dst v) w) (hh : SerAt P o a w K) : SerAt P o a w K' := serUpon_mono h hh
theorem calls_some {f : FuncId} {args : Array Value} {w : World} {R : Ending → World → Prop} (h : Calls P f args w R) : ∃ e w', R e w' := by
  obtain ⟨e, w', fr, hr, _⟩ := h []
  exact ⟨e, w', hr⟩
theorem ser_some {o : Oper} {a : Go.Act} {w : World} {K : Go.Act → World → Prop} (hh : SerAt P o a w K) : ∃ v w', K (a.put o.dst v) w' := by
  unfold SerAt serUpon at hh
  split at hh
  · exact ⟨_, _, hh⟩
  · exact ⟨_, _, hh⟩
  · obtain ⟨e, w', u, _, hk⟩ := calls_some hh
    exact ⟨u, w', hk⟩
  · exact hh.elim
theorem serUpon_put {o : Oper} {a : Go.Act} {K : Go.Act → World → Prop} {d : Option Tmp} {u : Value} {r : Result Next} (hn : ∀ t, o.dst = some t → d ≠ some t)
    (hh : serUpon P o a (fun a' w' => K (a'.put d u) w') r) : serUpon P o (a.put d u) K r := by
  have hc : ∀ v, (a.put d u).put o.dst v = (a.put o.dst v).put d u := fun v => (Act.put_comm a v u hn).symm
  unfold serUpon at *
  split
  · simp only [] at hh; rw [hc]; exact hh
  · simp only [] at hh; rw [hc]; exact hh
  · simp only [] at hh; exact hh.mono fun e w'' ⟨v, he, hk⟩ => ⟨v, he, by rw [hc]; exact hk⟩
  · rename_i h1 h2 h3
    split at hh
    · exact (h1 _ _ rfl).elim
    · exact (h2 _ rfl).elim
    · exact (h3 _ _ _ rfl).elim
    · exact hh
theorem ser_put {o : Oper} {a : Go.Act} {w : World} {K : Go.Act → World → Prop} {d : Option Tmp} {u : Value} (hs : ∀ cs b, o.op ≠ .select cs b) (hd : ∀ t, d = some t → t ∉ o.looksAt ops) (hn : ∀ t, o.dst = some t → d ≠ some t)
    (hh : SerAt P o a w (fun a' w' => K (a'.put d u) w')) : SerAt P o (a.put d u) w K := by
  unfold SerAt at *
  rw [execOp_put (ops := ops) o hs a d u hd]
  exact serUpon_put hn hh
/-- What is known of an operation that comes up, in a state that lacks another's value. -/
theorem mix_mono {o : Oper} {a : Go.Act} {w : World} {K K' : Go.Act → World → Prop} (hb : C w) (h : ∀ u w', C w' → K (a.put o.dst u) w' → K' (a.put o.dst u) w') (hh : stepMix P ops C o K a w) : stepMix P ops C o K' a w := by
  unfold stepMix at *
  split
  · rename_i hw
    rw [if_pos hw] at hh
    split
    · rename_i hp
      rw [if_pos hp] at hh
      obtain ⟨v, h1, h2⟩ := hh
      exact ⟨v, h1, h _ _ hb h2⟩
    · rename_i hp
      rw [if_neg hp] at hh
      exact ser_mono (fun v w hk => ⟨hk.1, h _ _ hk.1 hk.2⟩) hh
  · rename_i hw
    rw [if_neg hw] at hh
    exact h _ _ hb hh
/-- What is put by another operation does not touch this one. -/
theorem mix_put {o : Oper} {a : Go.Act} {w : World} {K : Go.Act → World → Prop} {d : Option Tmp} {u : Value} (hs : ∀ cs b, o.op ≠ .select cs b) (hd : ∀ t, d = some t → t ∉ o.looksAt ops) (hn : ∀ t, o.dst = some t → d ≠ some t) (hn2 : ∀ t, d = some t → o.dst ≠ some t)
    (hh : stepMix P ops C o (fun a' w' => K (a'.put d u) w') a w) : stepMix P ops C o K (a.put d u) w := by
  have hc : ∀ v, (a.put d u).put o.dst v = (a.put o.dst v).put d u := fun v => (Act.put_comm a v u hn).symm
  unfold stepMix at *
  rw [wanted_put (ops := ops) o a d u hd]
  split
  · rename_i hw
    rw [if_pos hw] at hh
    split
    · rename_i hp
      rw [if_pos hp] at hh
      obtain ⟨v, h1, h2⟩ := hh
      exact ⟨v, fun x hx => (pure_put hs hd).2 (h1 x hx), by rw [hc]; exact h2⟩
    · rename_i hp
      rw [if_neg hp] at hh
      exact ser_put (ops := ops) hs hd hn hh
  · rename_i hw
    rw [if_neg hw] at hh
    rw [hc]; exact hh
theorem mix_unput {o : Oper} {a : Go.Act} {w : World} {K : Go.Act → World → Prop} {d : Option Tmp} {u : Value} (hs : ∀ cs b, o.op ≠ .select cs b) (hd : ∀ t, d = some t → t ∉ o.looksAt ops) (hn : ∀ t, o.dst = some t → d ≠ some t)
    (hh : stepMix P ops C o K (a.put d u) w) : stepMix P ops C o (fun a' w' => K (a'.put d u) w') a w := by
  have hc : ∀ v, (a.put d u).put o.dst v = (a.put o.dst v).put d u := fun v => (Act.put_comm a v u hn).symm
  unfold stepMix at *
  rw [wanted_put (ops := ops) o a d u hd] at hh
  split
  · rename_i hw
    rw [if_pos hw] at hh
    split
    · rename_i hp
      rw [if_pos hp] at hh
      obtain ⟨v, h1, h2⟩ := hh
      exact ⟨v, fun x hx => (pure_put hs hd).1 (h1 x hx), by show K ((a.put o.dst v).put d u) w; rw [← hc]; exact h2⟩
    · rename_i hp
      rw [if_neg hp] at hh
      unfold SerAt at *
      rw [execOp_put (ops := ops) o hs a d u hd] at hh
      unfold serUpon at *
      split
      · rename_i hr; rw [hr] at hh; simp only [] at hh; rw [hc] at hh; exact hh
      · rename_i hr; rw [hr] at hh; simp only [] at hh; rw [hc] at hh; exact hh
      · rename_i hr; rw [hr] at hh; simp only [] at hh; exact hh.mono fun e w'' ⟨v, he, hk⟩ => ⟨v, he, by rw [hc] at hk; exact hk⟩
      · rename_i h1 h2 h3
        split at hh
        · rename_i hr; exact (h1 _ _ hr).elim
        · rename_i hr; exact (h2 _ hr).elim
        · rename_i hr; exact (h3 _ _ _ hr).elim
        · exact hh
  · rename_i hw
    rw [if_neg hw] at hh
    rw [hc] at hh; exact hh
/-- Two operations, apart from each other, one of which at least reads alone: the other order serves, too. -/
theorem mix_swap {oi oj : Oper} {a : Go.Act} {w : World} {K : Go.Act → World → Prop} (hap : oi.apart ops oj = true) (hsi : ∀ cs b, oi.op ≠ .select cs b) (hsj : ∀ cs b, oj.op ≠ .select cs b)
    (hpp : isPure oi.op = true ∨ isPure oj.op = true) (hb : C w) (hh : stepMix P ops C oi (stepMix P ops C oj K) a w) : stepMix P ops C oj (stepMix P ops C oi K) a w := by
  obtain ⟨h1, h2, h3⟩ := Oper.apart_spec hap
  have h2' : ∀ t, oj.dst = some t → oi.dst ≠ some t := fun t ht hi => h2 t hi ht
  by_cases hwi : Region.wanted oi (yielded ops a.tmps) = true
  · cases hpi : isPure oi.op
    · -- oi makes memory or calls; oj reads
      have hpj : isPure oj.op = true := by rcases hpp with h | h; · rw [hpi] at h; cases h
                                           · exact h
      unfold stepMix at hh
      rw [if_pos hwi, if_neg (by rw [hpi]; exact Bool.false_ne_true)] at hh
      by_cases hwj : Region.wanted oj (yielded ops a.tmps) = true
      · obtain ⟨v0, W0, hb0, hk0⟩ := ser_some hh
        rw [wanted_put (ops := ops) oj a oi.dst v0 h1, if_pos hwj, if_pos hpj] at hk0
        obtain ⟨v, hv, _⟩ := hk0
        have hv' : ∀ x, C x → PureAt P oj a x v := fun x hx => (pure_put hsj h1).1 (hv x hx)
        unfold stepMix
        rw [if_pos hwj, if_pos hpj]
        refine ⟨v, hv', ?_⟩
        rw [wanted_put (ops := ops) oi a oj.dst v h3, if_pos hwi, if_neg (by rw [hpi]; exact Bool.false_ne_true)]
        refine ser_put (ops := ops) hsi h3 (fun t ht hj => h2 t ht hj) (ser_mono (fun u W hk => ?_) hh)
        refine ⟨hk.1, ?_⟩
        have hk2 := hk.2
        rw [wanted_put (ops := ops) oj a oi.dst u h1, if_pos hwj, if_pos hpj] at hk2
        obtain ⟨v', hv2, hk3⟩ := hk2
        have : v' = v := pure_one ((pure_put hsj h1).1 (hv2 w hb)) (hv' w hb)
        rw [this] at hk3
        exact hk3
      · unfold stepMix
        rw [if_neg hwj, wanted_put (ops := ops) oi a oj.dst undef h3, if_pos hwi, if_neg (by rw [hpi]; exact Bool.false_ne_true)]
        refine ser_put (ops := ops) hsi h3 (fun t ht hj => h2 t ht hj) (ser_mono (fun u W hk => ?_) hh)
        refine ⟨hk.1, ?_⟩
        have hk2 := hk.2
        rw [wanted_put (ops := ops) oj a oi.dst u h1, if_neg hwj] at hk2
        exact hk2
    · unfold stepMix at hh
      rw [if_pos hwi, if_pos hpi] at hh
      obtain ⟨v, hv, hk⟩ := hh
      refine mix_mono hb (fun u w' hb' hk2 => ?_) (mix_unput (ops := ops) (o := oj) hsj h1 h2' hk)
      unfold stepMix
      rw [wanted_put (ops := ops) oi a oj.dst u h3, if_pos hwi, if_pos hpi]
      exact ⟨v, fun x hx => (pure_put hsi h3).2 (hv x hx), hk2⟩
  · unfold stepMix at hh
    rw [if_neg hwi] at hh
    refine mix_mono hb (fun u w' hb' hk2 => ?_) (mix_unput (ops := ops) (o := oj) hsj h1 h2' hh)
    unfold stepMix
    rw [wanted_put (ops := ops) oi a oj.dst u h3, if_neg hwi]
    exact hk2
/-- An operation that is apart from all ahead of it may come up first. -/
theorem mix_front {Q : Go.Act → World → Prop} {oj : Oper} {l2 : List Oper} (hsj : ∀ cs b, oj.op ≠ .select cs b) : ∀ (l1 : List Oper) (a : Go.Act) (w : World),
    (∀ o ∈ l1, o.apart ops oj = true ∧ (∀ cs b, o.op ≠ .select cs b) ∧ (isPure o.op = true ∨ isPure oj.op = true)) → C w → wpMix P ops C Q (l1 ++ oj :: l2) a w → stepMix P ops C oj (wpMix P ops C Q (l1 ++ l2)) a w
  | [], a, w, _, _, h => h
  | o :: l1, a, w, hl, hb, h => by
    obtain ⟨h1, h2, h3⟩ := hl o (List.mem_cons_self ..)
    refine mix_swap h1 h2 hsj h3 hb (mix_mono hb (fun u w' hb' hk => ?_) h)
    exact mix_front hsj l1 _ _ (fun o' ho' => hl o' (List.mem_cons_of_mem _ ho')) hb' hk
theorem wpOp_of_mix {Q' : Exit → Go.Act → World → Prop} {j : Nat} {o : Oper} {a : Go.Act} {w : World} {K K' : Go.Act → World → Prop} (ho : ops[j]? = some o) (hb : C w) (h : ∀ a w, C w → K a w → K' a w) (hh : stepMix P ops C o K a w) : wpOp P ops Q' j K' a w := by
  unfold wpOp
  simp only [ho]
  unfold stepMix at hh
  split
  · rename_i hw
    rw [if_pos hw] at hh
    refine .inl ?_
    unfold Oper.wp
    split at hh
    · obtain ⟨v, hv, hk⟩ := hh
      have h1 : PureAt P o a w v := hv w hb
      unfold PureAt pureUpon at h1
      split at h1
      · rename_i hr
        rw [hr]
        obtain ⟨rfl, rfl⟩ := h1
        exact h _ _ hb hk
      · exact h1.elim
    · unfold SerAt serUpon at hh
      split at hh
      · rename_i hr; rw [hr]; exact h _ _ hh.1 hh.2
      · rename_i hr; rw [hr]; exact h _ _ hh.1 hh.2
      · rename_i hr; rw [hr]
        exact hh.mono fun e w'' ⟨u, he, hk⟩ => by subst he; exact h _ _ hk.1 hk.2
      · exact hh.elim
  · rename_i hw
    rw [if_neg hw] at hh
    exact h _ _ hb hh
/-! ### What is asked of the region's text -/
def pathB (md : Region.Mode) (ops : Array Oper) : Nat → Nat → Nat → Bool
  | 0, _, _ => false
  | f + 1, j, i => match ops[j]? with
    | some oj => oj.after.any fun e => Region.binds md e && (e.on == i || (decide (i < e.on) && pathB md ops f e.on i))
    | none => false
/-- The last operation ahead of j that makes memory or calls. -/
def lastSer (ops : Array Oper) : Nat → Option Nat
  | 0 => none
  | j + 1 => match ops[j]? with
    | some o => if isPure o.op then lastSer ops j else some j
    | none => lastSer ops j
theorem lastSer_lt : ∀ (j m : Nat), lastSer ops j = some m → m < j ∧ (∃ o, ops[m]? = some o ∧ isPure o.op = false)
  | 0, m, h => by cases h
  | j + 1, m, h => by
    unfold lastSer at h
    split at h
    · rename_i o ho
      split at h
      · have := lastSer_lt j m h; exact ⟨by omega, this.2⟩
      · rename_i hp
        cases h
        exact ⟨by omega, o, ho, by simpa using hp⟩
    · have := lastSer_lt j m h; exact ⟨by omega, this.2⟩
theorem lastSer_max : ∀ (j i : Nat) (o : Oper), ops[i]? = some o → isPure o.op = false → i < j → ∃ m, lastSer ops j = some m ∧ i ≤ m
  | 0, i, o, _, _, h => by omega
  | j + 1, i, o, ho, hp, h => by
    unfold lastSer
    by_cases hij : i = j
    · subst hij
      rw [ho]
      simp only [hp, Bool.false_eq_true, if_false]
      exact ⟨i, rfl, Nat.le_refl _⟩
    · obtain ⟨m, hm, hle⟩ := lastSer_max j i o ho hp (by omega)
      split
      · split
        · exact ⟨m, hm, hle⟩
        · exact ⟨j, rfl, by omega⟩
      · exact ⟨m, hm, hle⟩
/-- For i ahead of j: j waits for i, or they are apart. -/
def pairB (md : Region.Mode) (ops : Array Oper) (i j : Nat) : Bool :=
  match ops[i]?, ops[j]? with
  | some oi, some oj => Region.waitsFor md ops j i || oi.apart ops oj
  | _, _ => true
/-- What makes memory or calls waits for the last such operation ahead. -/
def serB (md : Region.Mode) (ops : Array Oper) (j : Nat) : Bool :=
  match ops[j]? with
  | some oj => isPure oj.op || (match lastSer ops j with
    | some i => pathB md ops (j - i) j i
    | none => true)
  | none => true
def downB (md : Region.Mode) (ops : Array Oper) : Bool :=
  (List.range ops.size).all fun j => match ops[j]? with
    | some oj => oj.after.all fun e => !Region.binds md e || decide (e.on < j)
    | none => true
def mixB (md : Region.Mode) (ops : Array Oper) (n : Nat) : Bool :=
  Region.noSelect ops && downB md ops && ((List.range n).all fun j => serB md ops j && (List.range j).all fun i => pairB md ops i j)
theorem path_listed {listed : Array Bool} (hc : ∀ j oj, ops[j]? = some oj → listed.getD j false = true → ∀ e ∈ oj.after, Region.binds md e = true → listed.getD e.on false = true) :
    ∀ (f j i : Nat), pathB md ops f j i = true → listed.getD j false = true → listed.getD i false = true
  | 0, _, _, h, _ => by cases h
  | f + 1, j, i, h, hj => by
    unfold pathB at h
    split at h
    · rename_i oj ho
      obtain ⟨e, he, hb⟩ := Array.any_eq_true'.1 h
      simp only [Bool.and_eq_true, Bool.or_eq_true, beq_iff_eq] at hb
      have h1 := hc j oj ho hj e he hb.1
      rcases hb.2 with h2 | h2
      · rw [← h2]; exact h1
      · exact path_listed hc f e.on i h2.2 h1
    · cases h
theorem path_ready {listed : Array Bool} (hc : ∀ j oj, ops[j]? = some oj → listed.getD j false = true → ∀ e ∈ oj.after, Region.binds md e = true → listed.getD e.on false = true)
    {f j i : Nat} (h : pathB md ops f j i = true) (hj : j ∈ Region.ready md ops listed) : listed.getD i false = true := by
  obtain ⟨_, oj, ho, hall⟩ := mem_ready.1 hj
  cases f with
  | zero => cases h
  | succ f =>
    unfold pathB at h
    rw [ho] at h
    obtain ⟨e, he, hb⟩ := Array.any_eq_true'.1 h
    simp only [Bool.and_eq_true, Bool.or_eq_true, beq_iff_eq] at hb
    have h1 := hall e he hb.1
    rcases hb.2 with h2 | h2
    · rw [← h2]; exact h1
    · exact path_listed hc f e.on i h2.2 h1
theorem ser_listed {n : Nat} {listed : Array Bool} (hs : ∀ j, j < n → serB md ops j = true) (hc : ∀ j oj, ops[j]? = some oj → listed.getD j false = true → ∀ e ∈ oj.after, Region.binds md e = true → listed.getD e.on false = true)
    {i : Nat} {oi : Oper} (hi : ops[i]? = some oi) (hpi : isPure oi.op = false) : ∀ (d j : Nat) (oj : Oper), j - i = d → ops[j]? = some oj → isPure oj.op = false → j < n → i < j → (listed.getD j false = true ∨ j ∈ Region.ready md ops listed) → listed.getD i false = true := by
  intro d
  induction d using Nat.strongRecOn with
  | _ d ih =>
    intro j oj hd hj hpj hjn hij hor
    obtain ⟨m, hm, hle⟩ := lastSer_max j i oi hi hpi hij
    obtain ⟨hmj, om, hom, hpm⟩ := lastSer_lt j m hm
    have h1 := hs j hjn
    unfold serB at h1
    rw [hj] at h1
    simp only [hpj, Bool.false_or, hm] at h1
    have h2 : listed.getD m false = true := by
      rcases hor with h | h
      · exact path_listed hc _ _ _ h1 h
      · exact path_ready hc h1 h
    by_cases hmi : m = i
    · rw [← hmi]; exact h2
    · exact ih (m - i) (by omega) m om rfl hom hpm (by omega) (by omega) (.inl h2)
/-- What is left of the head, by number, in the text's order. -/
structure Left (ops : Array Oper) (n : Nat) (listed : Array Bool) (rem : List (Nat × Oper)) : Prop where
  at_ : ∀ p ∈ rem, ops[p.1]? = some p.2 ∧ p.1 < n ∧ listed.getD p.1 true = false
  all : ∀ i o, ops[i]? = some o → i < n → listed.getD i true = false → (i, o) ∈ rem
  up : rem.Pairwise fun p q => p.1 < q.1
theorem Left.take {n j : Nat} {oj : Oper} {listed : Array Bool} {l1 l2 : List (Nat × Oper)} (h : Left ops n listed (l1 ++ (j, oj) :: l2)) : Left ops n (listed.setIfInBounds j true) (l1 ++ l2) := by
  have hne : ∀ p ∈ l1 ++ l2, p.1 ≠ j := fun p hp => by
    have hu := h.up
    rw [List.pairwise_append] at hu
    obtain ⟨_, h2, h3⟩ := hu
    rw [List.pairwise_cons] at h2
    rcases List.mem_append.1 hp with hp | hp
    · exact Nat.ne_of_lt (h3 p hp (j, oj) (List.mem_cons_self ..))
    · exact (Nat.ne_of_lt (h2.1 p hp)).symm
  have hsub : ∀ p ∈ l1 ++ l2, p ∈ l1 ++ (j, oj) :: l2 := fun p hp => by
    rcases List.mem_append.1 hp with hp | hp
    · exact List.mem_append_left _ hp
    · exact List.mem_append_right _ (List.mem_cons_of_mem _ hp)
  refine ⟨fun p hp => ?_, fun i o ho hi hl => ?_, ?_⟩
  · obtain ⟨a, b, c⟩ := h.at_ p (hsub p hp)
    exact ⟨a, b, by rw [getD_set_ne true (Ne.symm (hne p hp))]; exact c⟩
  · by_cases hij : j = i
    · subst hij
      exfalso
      have : j < listed.size := by
        rcases Nat.lt_or_ge j listed.size with h' | h'
        · exact h'
        · have := (h.at_ (j, oj) (List.mem_append_right _ (List.mem_cons_self ..))).2.2
          simp [Array.getElem?_eq_none h'] at this
      simp [this] at hl
    · rw [getD_set_ne true hij] at hl
      have hm := h.all i o ho hi hl
      rcases List.mem_append.1 hm with hm | hm
      · exact List.mem_append_left _ hm
      · rcases List.mem_cons.1 hm with hm | hm
        · exact absurd (congrArg Prod.fst hm) (fun e => hij e.symm)
        · exact List.mem_append_right _ hm
  · have hu := h.up
    rw [List.pairwise_append] at hu ⊢
    obtain ⟨h1, h2, h3⟩ := hu
    rw [List.pairwise_cons] at h2
    exact ⟨h1, h2.2, fun p hp q hq => h3 p hp q (List.mem_cons_of_mem _ hq)⟩
/-- The order that is picked may be any. g: the tail's length. -/
theorem mix_any {n g : Nat} {Q : Go.Act → World → Prop} {Q' : Exit → Go.Act → World → Prop} (hB : mixB md ops n = true) (hn : n ≤ ops.size)
    (hlow : ∀ listed, HeadInv md ops n listed → (∃ i, i < n ∧ listed.getD i true = false) → ∀ j ∈ Region.ready md ops listed, j < n)
    (hdone : ∀ listed a w, HeadInv md ops n listed → (∀ i, i < n → listed.getD i true = true) → C w → Q a w → wpAny P md ops Q' g listed a w) :
    ∀ (rem : List (Nat × Oper)) (listed : Array Bool) (a : Go.Act) (w : World), Left ops n listed rem → HeadInv md ops n listed → C w → wpMix P ops C Q (rem.map (·.2)) a w → wpAny P md ops Q' (rem.length + g) listed a w := by
  simp only [mixB, Bool.and_eq_true] at hB
  obtain ⟨⟨hsel, hdown⟩, hpair⟩ := hB
  have hsel' := Region.noSelect_spec hsel
  intro rem
  induction hk : rem.length generalizing rem with
  | zero =>
    intro listed a w hL inv hb h
    obtain rfl := List.eq_nil_of_length_eq_zero hk
    rw [Nat.zero_add]
    refine hdone listed a w inv (fun i hi => ?_) hb h
    cases hl : listed.getD i true
    · have := hL.all i _ (Array.getElem?_eq_getElem (Nat.lt_of_lt_of_le hi hn)) hi hl
      cases this
    · rfl
  | succ k ih =>
    intro listed a w hL inv hb h
    rw [show k + 1 + g = (k + g) + 1 by omega]
    obtain ⟨p, rest, rfl⟩ : ∃ p rest, rem = p :: rest := by
      cases rem with
      | nil => simp at hk
      | cons p rest => exact ⟨p, rest, rfl⟩
    obtain ⟨hp1, hp2, hp3⟩ := hL.at_ p (List.mem_cons_self ..)
    refine ⟨fun h0 => ?_, fun j hj => ?_⟩
    · -- the first of them may come up
      exfalso
      have hr : p.1 ∈ Region.ready md ops listed := by
        refine mem_ready.2 ⟨hp3, p.2, hp1, fun e he hbd => ?_⟩
        have hd := List.all_eq_true.1 hdown p.1 (List.mem_range.2 (Nat.lt_of_lt_of_le hp2 hn))
        rw [hp1] at hd
        have hd2 := (Array.all_eq_true'.1 hd) e he
        simp only [hbd, Bool.not_true, Bool.false_or, decide_eq_true_eq] at hd2
        cases hl : listed.getD e.on true
        · exfalso
          have hm := hL.all e.on _ (Array.getElem?_eq_getElem (by omega)) (by omega) hl
          rcases List.mem_cons.1 hm with hm | hm
          · have := congrArg Prod.fst hm
            simp only at this
            omega
          · have hu := List.pairwise_cons.1 hL.up
            have := hu.1 _ hm
            simp only at this
            omega
        · have hsz : e.on < listed.size := by rw [inv.size]; omega
          simp [hsz] at hl ⊢
          exact hl
      rw [h0] at hr
      cases hr
    · have hjn : j < n := hlow listed inv ⟨p.1, hp2, hp3⟩ j hj
      obtain ⟨hjl, oj, hoj, hall⟩ := mem_ready.1 hj
      have hjm := hL.all j oj hoj hjn hjl
      obtain ⟨l1, l2, he⟩ := List.append_of_mem hjm
      rw [he] at hL h hk
      have hu := hL.up
      rw [List.pairwise_append] at hu
      rw [List.map_append, List.map_cons] at h
      have hfr := mix_front (ops := ops) (C := C) (Q := Q) (oj := oj) (l2 := l2.map (·.2)) (fun cs b => hsel' j oj cs b hoj) (l1.map (·.2)) a w (fun o ho => by
        obtain ⟨q, hq, rfl⟩ := List.mem_map.1 ho
        have hqj : q.1 < j := hu.2.2 q hq (j, oj) (List.mem_cons_self ..)
        obtain ⟨hq1, hq2, hq3⟩ := hL.at_ q (List.mem_append_left _ hq)
        have hpb0 := List.all_eq_true.1 hpair j (List.mem_range.2 hjn)
        simp only [Bool.and_eq_true] at hpb0
        have hpb := List.all_eq_true.1 hpb0.2 q.1 (List.mem_range.2 hqj)
        unfold pairB at hpb
        rw [hq1, hoj] at hpb
        simp only [Bool.or_eq_true] at hpb
        refine ⟨?_, fun cs b => hsel' q.1 q.2 cs b hq1, ?_⟩
        · rcases hpb with hw | hap
          · exfalso
            obtain ⟨oj', hoj', e, hme, hbd, hon⟩ := Region.waitsFor_spec hw
            have : oj' = oj := Option.some.inj (hoj'.symm.trans hoj)
            subst this
            have h1 := hall e hme hbd
            rw [hon, getD_both hq3] at h1
            cases h1
          · exact hap
        · cases hq0 : isPure q.2.op
          · cases hj0 : isPure oj.op
            · exfalso
              have hser : ∀ x, x < n → serB md ops x = true := fun x hx => by
                have h1 := List.all_eq_true.1 hpair x (List.mem_range.2 hx)
                simp only [Bool.and_eq_true] at h1
                exact h1.1
              have h2 := ser_listed hser inv.closed hq1 hq0 _ j oj rfl hoj hj0 hjn hqj (.inr hj)
              rw [getD_both hq3] at h2
              cases h2
            · exact .inr rfl
          · exact .inl rfl) hb h
      refine wpOp_of_mix hoj hb (fun a' w' hb' hm => ?_) hfr
      rw [← List.map_append] at hm
      exact ih (l1 ++ l2) (by simp at hk ⊢; omega) (listed.setIfInBounds j true) a' w' hL.take (inv.set hj hjn) hb' hm
theorem left_start (l : List Oper) (n : Nat) (hn : n ≤ l.length) : Left l.toArray n (Array.replicate l.toArray.size false) ((l.take n).zipIdx.map fun p => (p.2, p.1)) := by
  refine ⟨fun p hp => ?_, fun i o ho hi _ => ?_, ?_⟩
  · obtain ⟨q, hq, rfl⟩ := List.mem_map.1 hp
    have hq2 := List.mem_zipIdx' hq
    have hlt := hq2.1
    rw [List.length_take] at hlt
    refine ⟨?_, by simp only; omega, getD_in (by simp; omega) (getD_replicate_false _ _)⟩
    have := hq2.2
    rw [List.getElem_take] at this
    simp only [List.getElem?_toArray]
    rw [List.getElem?_eq_getElem (by omega), this]
  · refine List.mem_map.2 ⟨(o, i), ?_, rfl⟩
    rw [List.mem_zipIdx_iff_getElem?]
    rw [List.getElem?_take, if_pos hi]
    simpa using ho
  · rw [List.pairwise_map]
    rw [List.pairwise_iff_getElem]
    intro i j hi hj hij
    simp only [List.getElem_zipIdx]
    omega
theorem left_list (l : List Oper) : (l.zipIdx.map fun p => (p.2, p.1)).map (·.2) = l := by
  rw [List.map_map]
  show l.zipIdx.map (fun p => p.1) = l
  exact List.zipIdx_map_fst ..
theorem inv_start (l : List Oper) (n : Nat) : HeadInv md l.toArray n (Array.replicate l.toArray.size false) :=
  ⟨by simp, fun j oj _ hl => (by rw [getD_replicate_false] at hl; cases hl), fun t _ ht => getD_in (by simpa using ht) (getD_replicate_false _ _)⟩
/-- Without a tail. -/
theorem wp_region_mixC {id : Nat} {Q : Exit → Go.Act → World → Prop} {a : Go.Act} {w : World} {l : List Oper} (hm : P.follows .mixedOrders = true) (hB : mixB .any l.toArray l.length = true) (hC : C { w with drawn := w.drawn + 1 })
    (h : ∀ W, C W → wpMix P l.toArray C (fun a' W => Q .normal a' W) l a W) : (Code.region id l.toArray true).wp P Q a w := by
  refine wp_region_any hm ?_
  have hL := left_start l l.length (Nat.le_refl _)
  rw [List.take_length] at hL
  have h1 := mix_any (P := P) (C := C) (g := 0) (Q := fun a' W => Q .normal a' W) (Q' := Q) hB (by simp) (fun listed _ _ j hj => by
    have := (Array.getElem?_eq_some_iff.1 (mem_ready.1 hj).2.choose_spec.1).1
    simpa using this) (fun listed a' W inv hall _ hq => by
    refine ⟨List.eq_nil_iff_forall_not_mem.2 fun j hj => ?_, hq⟩
    obtain ⟨h0, o, ho, _⟩ := mem_ready.1 hj
    have hj2 := (Array.getElem?_eq_some_iff.1 ho).1
    rw [hall j (by simpa using hj2)] at h0
    cases h0) _ _ a { w with drawn := w.drawn + 1 } hL (inv_start l _) hC (by rw [left_list]; exact h _ hC)
  simpa using h1
/-- The flags behind the head. -/
def headFlags (n m : Nat) : Array Bool := (List.range m).toArray.map fun i => decide (i < n)
def tailB (md : Region.Mode) (ops : Array Oper) (n : Nat) : Bool := decide (n < ops.size) && Region.sinkB md ops n && Region.chainB md ops n && Region.seqB md ops (ops.size - n) n (headFlags n ops.size)
/-- With a tail, which waits for all. -/
theorem wp_region_mixT {id : Nat} {Q : Exit → Go.Act → World → Prop} {a : Go.Act} {w : World} {l : List Oper} (n : Nat) (hm : P.follows .mixedOrders = true) (hB : mixB .any l.toArray n = true) (hT : tailB .any l.toArray n = true) (hC : C { w with drawn := w.drawn + 1 })
    (h : ∀ W, C W → wpMix P l.toArray C (fun a' W => wpList P l.toArray Q (l.drop n) a' W) (l.take n) a W) : (Code.region id l.toArray true).wp P Q a w := by
  simp only [tailB, Bool.and_eq_true, decide_eq_true_eq] at hT
  obtain ⟨⟨⟨hn, hs⟩, hc⟩, hseq⟩ := hT
  have hn' : n < l.length := by simpa using hn
  refine wp_region_any hm ?_
  have hL := left_start l n (by omega)
  have h1 := mix_any (P := P) (C := C) (g := l.toArray.size - n) (Q := fun a' W => wpList P l.toArray Q (l.drop n) a' W) (Q' := Q) hB (by omega) (fun listed inv hex j hj => by
    obtain ⟨i, hi, hun⟩ := hex
    rcases Nat.lt_or_ge j n with h | h
    · exact h
    · exact absurd hj (tail_waits hs hc hn inv _ i rfl hi hun j h)) (fun listed a' W inv hall _ hq => by
    have hfl : listed = headFlags n l.toArray.size := by
      apply Array.ext
      · simp [headFlags, inv.size]
      · intro i h1 h2
        simp only [headFlags, Array.getElem_map, List.getElem_toArray, List.getElem_range]
        by_cases hin : i < n
        · have := hall i hin
          simp [h1] at this
          rw [this]; simp [hin]
        · have := inv.tail i (by omega) (by rw [← inv.size]; exact h1)
          simp [h1] at this
          rw [this]; simp [hin]
    have hdl : (l.drop n).length = l.toArray.size - n := by simp
    have := wpAny_of_seq (md := .any) (Q' := Q) (l.drop n) n listed a' W (fun j => by simp [List.getElem?_drop]) (by rw [hdl, hfl]; exact hseq) hq
    rwa [hdl] at this) _ _ a { w with drawn := w.drawn + 1 } hL (inv_start l _) hC (by rw [left_list]; exact h _ hC)
  have hlen : ((l.take n).zipIdx.map fun p => (p.2, p.1)).length = n := by simp; omega
  rw [hlen, show n + (l.toArray.size - n) = l.toArray.size by simp; omega] at h1
  exact h1
theorem wpMix_nil {Q : Go.Act → World → Prop} {a : Go.Act} {w : World} (h : Q a w) : wpMix P ops C Q [] a w := h
theorem wpMix_skip {Q : Go.Act → World → Prop} {a : Go.Act} {w : World} {o : Oper} {rest : List Oper} (hw : Region.wanted o (yielded ops a.tmps) = false) (h : wpMix P ops C Q rest (a.put o.dst undef) w) : wpMix P ops C Q (o :: rest) a w := by
  show stepMix P ops C o (wpMix P ops C Q rest) a w
  unfold stepMix
  rw [if_neg (by rw [hw]; exact Bool.false_ne_true)]
  exact h
theorem wpMix_skip2 {Q : Go.Act → World → Prop} {a : Go.Act} {w : World} {o : Oper} {rest : List Oper} (hw : Region.wanted o (yielded ops a.tmps) = false) (ha : a.put o.dst undef = a) (h : wpMix P ops C Q rest a w) : wpMix P ops C Q (o :: rest) a w :=
  wpMix_skip hw (by rw [ha]; exact h)
theorem wpMix_wantC {Q : Go.Act → World → Prop} {a : Go.Act} {w : World} {o : Oper} {rest : List Oper} (hw : Region.wanted o (yielded ops a.tmps) = true) (hp : isPure o.op = true)
    (h : ∀ K : Go.Act → World → Prop, (∀ a w, wpMix P ops C Q rest a w → K a w) → ∃ v, (∀ w', C w' → PureAt P o a w' v) ∧ K (a.put o.dst v) w) : wpMix P ops C Q (o :: rest) a w := by
  show stepMix P ops C o (wpMix P ops C Q rest) a w
  unfold stepMix
  rw [if_pos hw, if_pos hp]
  exact h _ (fun _ _ h => h)
theorem wpMix_ser {Q : Go.Act → World → Prop} {a : Go.Act} {w : World} {o : Oper} {rest : List Oper} (hw : Region.wanted o (yielded ops a.tmps) = true) (hp : isPure o.op = false)
    (h : ∀ K : Go.Act → World → Prop, (∀ a w, wpMix P ops C Q rest a w → K a w) → SerAt P o a w (fun a' w' => C w' ∧ K a' w')) : wpMix P ops C Q (o :: rest) a w := by
  show stepMix P ops C o (wpMix P ops C Q rest) a w
  unfold stepMix
  rw [if_pos hw, if_neg (by rw [hp]; exact Bool.false_ne_true)]
  exact h _ (fun _ _ h => h)
end
/-! ### The class: worlds that keep what lay in w, but for one row -/
structure InR (w : World) (r : Option Nat) (W : World) : Prop where
  out : w.grownBy W r
end Proofs.Ytmoaekjkihbicaa.K
def ExtR (w : World) (r : Option Nat) := { W : World // w.grownBy W r }
instance (w : World) (r : Option Nat) : Nonempty (ExtR w r) := ⟨⟨w, World.grownBy.refl _ _⟩⟩
def World.extr (w : World) {r : Option Nat} (x : ExtR w r) : World := x.1
@[go_sem] theorem World.cell?_extr (w : World) {r : Option Nat} (x : ExtR w r) (a : Addr) (h : a.block < w.heap.size) (hr : r ≠ some a.block) : (w.extr x).cell? a = w.cell? a := World.cell?_of_block (w := w) (x.2.block a.block h (Ne.symm hr))
@[go_sem] theorem World.frozen?_extr (w : World) {r : Option Nat} (x : ExtR w r) (a : Addr) (h : a.block < w.heap.size) (hr : r ≠ some a.block) : (w.extr x).frozen? a = w.frozen? a := World.frozen?_of_block (w := w) (x.2.block a.block h (Ne.symm hr))
namespace Proofs.Ytmoaekjkihbicaa.K
section
variable {P : Program} {ops : Array Oper} {w0 : World} {r : Option Nat}
theorem wpMix_want {Q : Go.Act → World → Prop} {a : Go.Act} {w : World} {o : Oper} {rest : List Oper} (hw : Region.wanted o (yielded ops a.tmps) = true) (hp : isPure o.op = true)
    (h : ∀ K : Go.Act → World → Prop, (∀ a w, wpMix P ops (InR w0 r) Q rest a w → K a w) → ∃ v, (∀ x : ExtR w0 r, PureAt P o a (w0.extr x) v) ∧ K (a.put o.dst v) w) : wpMix P ops (InR w0 r) Q (o :: rest) a w :=
  wpMix_wantC hw hp fun K hK => by
    obtain ⟨v, h1, h2⟩ := h K hK
    exact ⟨v, fun w' hw' => h1 ⟨w', hw'.out⟩, h2⟩
theorem g_drew1 (w : World) (r : Option Nat) : InR w r { w with drawn := w.drawn + 1 } := ⟨⟨rfl, rfl, rfl, Nat.le_refl _, fun _ _ _ => rfl⟩⟩
theorem wp_region_mix {id : Nat} {Q : Exit → Go.Act → World → Prop} {a : Go.Act} {w : World} {l : List Oper} (r : Option Nat) (hm : P.follows .mixedOrders = true) (hB : mixB .any l.toArray l.length = true)
    (h : ∀ W, InR w r W → wpMix P l.toArray (InR w r) (fun a' W => Q .normal a' W) l a W) : (Code.region id l.toArray true).wp P Q a w :=
  wp_region_mixC hm hB (g_drew1 w r) h
theorem wp_region_mix_tail {id : Nat} {Q : Exit → Go.Act → World → Prop} {a : Go.Act} {w : World} {l : List Oper} (r : Option Nat) (n : Nat) (hm : P.follows .mixedOrders = true) (hB : mixB .any l.toArray n = true) (hT : tailB .any l.toArray n = true)
    (h : ∀ W, InR w r W → wpMix P l.toArray (InR w r) (fun a' W => wpList P l.toArray Q (l.drop n) a' W) (l.take n) a W) : (Code.region id l.toArray true).wp P Q a w :=
  wp_region_mixT n hm hB hT (g_drew1 w r) h
theorem InR.bel {w W : World} (h : InR w none W) : Bel w W := ⟨⟨h.out.os, h.out.tape, h.out.output, h.out.size, fun k hk => h.out.block k hk (by simp)⟩⟩
section
variable {w W W2 : World}
theorem g_refl (w : World) (r : Option Nat) : w.grownBy w r := World.grownBy.refl _ _
theorem g_trans (h : w.grownBy W r) (k : W.grownBy W2 r) : w.grownBy W2 r := ⟨k.os.trans h.os, k.tape.trans h.tape, k.output.trans h.output, Nat.le_trans h.size k.size, fun i hi hn => (k.block i (Nat.lt_of_lt_of_le hi h.size) hn).trans (h.block i hi hn)⟩
theorem g_alloc (h : w.grownBy W r) (o : Obj) : w.grownBy (W.alloc o) r := g_trans h (World.grownBy_alloc W o _)
theorem g_drew (h : w.grownBy W r) : w.grownBy W.drew r := ⟨h.os, h.tape, h.output, h.size, h.block⟩
theorem g_drewN (h : w.grownBy W r) (n : Nat) : w.grownBy (W.drewN n) r := ⟨h.os, h.tape, h.output, h.size, h.block⟩
theorem g_bel (h : w.grownBy W r) (k : Bel W W2) : w.grownBy W2 r := g_trans h ⟨k.out.os, k.out.tape, k.out.output, k.out.size, fun i hi _ => k.out.block i hi⟩
theorem g_new (h : w.grownBy W r) {p : Addr} (hp : w.heap.size ≤ p.block) (u : Value) : w.grownBy (W.setCell p u) r := ⟨h.os, h.tape, h.output, by have := h.size; simpa [World.setCell] using this, fun k hk hn => (Below.heap_setCell _ _ _ _ (by omega)).trans (h.block k hk hn)⟩
theorem inr_alloc (h : InR w r W) (o : Obj) : InR w r (W.alloc o) := ⟨g_alloc h.out o⟩
theorem inr_bel (h : InR w r W) (k : Bel W W2) : InR w r W2 := ⟨g_bel h.out k⟩
theorem inr_row (h : InR w r W) (k : W.grownBy W2 r) : InR w r W2 := ⟨g_trans h.out k⟩
theorem inr_new (h : InR w r W) {p : Addr} (hp : w.heap.size ≤ p.block) (u : Value) : InR w r (W.setCell p u) := ⟨g_new h.out hp u⟩
theorem inr_size (h : InR w r W) : w.heap.size ≤ W.heap.size := h.out.size
theorem at_inr {g : Nat} {T : TypeId} {cs : Array Value} (h : At w g T cs) (k : InR w r W) (hn : r ≠ some g) : At W g T cs := ⟨(k.out.block g h.lt (Ne.symm hn)).trans h.out⟩
end
/-- append of one element that has just been built, in such a region. -/
theorem ser_app1 {o : Oper} {a : Go.Act} {K : Go.Act → World → Prop} {W : World} {base n sz bytes g : Nat} {v : Value} {cs news : List Value} (s x : Operand) (t e : TypeId) (z : Value)
    (ho : o.op = .call { callee := .builtin .append, args := #[s, x], argTypes := #[t, t] })
    (ht : P.underlying t = some (.slice e)) (hinfo : (P.info? e).map (fun i => (i.zero, i.size, i.bytes)) = some (some z, sz, bytes)) (hz : z.cells.size = sz) (hsz : 0 < sz) (hby : 0 < bytes)
    (hs : a.eval s = v) (hown : W.ownsRow base e sz v n cs) (hx : a.eval x = .slice (some ⟨g, 0, none⟩) 1 1)
    (hl : news.length = sz) (hnews : ∀ j u, news[j]? = some u → W.cell? ⟨g, j, none⟩ = some u) (h1 : ∀ u ∈ news, u.oneCell' = true) (hb : (n + 1) * bytes ≤ 140737488355328) (hbase : base ≤ W.heap.size)
    (h : ∀ v' w', w'.ownsRow base e sz v' (n + 1) (cs ++ news) → W.grownBy w' v.ownBlock → K (a.put o.dst v') w') : SerAt P o a W K := by
  cases hi : P.info? e with
  | none => rw [hi] at hinfo; cases hinfo
  | some i =>
    rw [hi] at hinfo
    simp only [Option.map_some, Option.some.injEq, Prod.mk.injEq] at hinfo
    obtain ⟨hz0, hz1, hz2⟩ := hinfo
    have hmul : n + 1 ≤ (n + 1) * bytes := Nat.le_mul_of_pos_right _ hby
    obtain ⟨v', w', hrun, h2, h3, _⟩ := run_append_own (P := P) W base t o.type e i z sz bytes ht hi hz0 hz1 hz2 hz hsz v n cs hown ⟨g, 0, none⟩ 1 1 news (by rw [hl]; omega) (fun j u hj => by
      have hadd : (⟨g, 0, none⟩ : Addr).add j = ⟨g, j, none⟩ := by unfold Addr.add; split <;> simp_all
      rw [hadd]; exact hnews j u hj) h1 (by simp only [maxLen]; omega) hb hbase
    unfold SerAt
    simp [execOp, ho, resolve, invoke, builtin, hs, hx, hrun, Result.andThen, serUpon]
    exact h v' w' h2 h3
theorem pure_move {o : Oper} {a : Go.Act} {w : World} (x : Operand) (h : o.op = .move x) : PureAt P o a w (a.eval x) := by
  unfold PureAt; rw [BigFrame.run_move x h]; exact ⟨rfl, rfl⟩
attribute [go_sem] isPure PureAt pureUpon SerAt serUpon
attribute [irreducible] wpMix stepMix
end
end Proofs.Ytmoaekjkihbicaa.K
end Go
