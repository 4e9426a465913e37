/- For all bookings the statement RoomsEnough holds: Go's function returns true and changes nothing that existed. -/
import Derived.Below
import Derived.Deep.Draws
import Derived.Deep.AppendLies
import Derived.Maps.AppendAt
import Derived.OwnWalk
import Derived.Laws.BytesArg
import Derived.Laws.MakeOwn
import Derived.Laws.OwnMore
import Derived.Deep.OwnRows
import Derived.Tactics
import Derived.Lib.ConvBytes
import Derived.Laws.Slices
import Derived.WalkKit
import Derived.KernelRfl
import Derived.RowKit3
import Derived.Deep.LoopGhost
import Derived.Deep.QuietTactic
import Derived.BigQuiet
import Derived.WideLaws
import Derived.Deep.DeepCutAuto
import Derived.Deep.CutBlock
import Derived.Deep.RegionHeld3
import Derived.Laws.Rows
import Derived.Lib.AppendStr
import Derived.ArgAppend
import Derived.Laws.IdiomCopy
import Derived.RowKit
import Derived.OrdersHeld
import Derived.Laws.BitsLemmas
import Derived.Laws.StructEq
import Derived.Test.YtpjobcnfjpbaeaaProg
import Derived.WalkSpells
import Derived.WalkLawsBesides
import Derived.Lib.Hide
import Derived.Still
import Derived.StillTail
import Derived.StillTailTactics
set_option linter.unusedSimpArgs false
set_option linter.unusedVariables false

set_option linter.unusedVariables false
set_option linter.unusedSimpArgs false
namespace Go.Proofs.YtpjobcnfjpbaeaaW.PrintWords
open Go.RowKit
structure Aside0 (p : Prop) : Prop where mk :: (out : p)
structure Drawn0 (w w' : World) : Prop where mk :: (out : ∃ n, w' = w.drewN n)
theorem Drawn0.refl (w : World) : Drawn0 w w := ⟨⟨0, rfl⟩⟩
theorem Drawn0.step {w w' : World} (h : Drawn0 w w') (n : Nat) : Drawn0 w (w'.drewN n) := by
  obtain ⟨m, rfl⟩ := h
  exact ⟨⟨m + n, World.drewN_drewN ..⟩⟩
theorem Drawn0.grown {w w' : World} (h : Drawn0 w w') : Grown w w' := by
  obtain ⟨n, rfl⟩ := h
  induction n with
  | zero => exact Grown.refl _
  | succ n ih => rw [← World.drew_drewN]; exact Grown.drew ih
theorem Drawn0.below {w w' : World} (h : Drawn0 w w') : Below w.heap.size w w' := by
  obtain ⟨n, rfl⟩ := h
  induction n with
  | zero => exact Below.refl _ _
  | succ n ih => rw [← World.drew_drewN]; exact ih.drew
def rd (xs : List Int) (i : Int) : Int := xs.getD i.toNat 0
def nums (k : IntKind) (xs : List Int) : List Value := xs.map fun x => .int k x
theorem below_alloc {w W : World} (h : Below w.heap.size w W) (o : Obj) : Below w.heap.size w (W.alloc o) := h.alloc h.size o
theorem below_drew {B : Nat} {w W : World} (h : Below B w W) : Below B w W.drew := ⟨h.os, h.tape, h.output, h.size, h.block⟩
theorem pw_below_drewN {B : Nat} {w W : World} (h : Below B w W) (n : Nat) : Below B w (W.drewN n) := ⟨h.os, h.tape, h.output, h.size, h.block⟩
theorem below_then {B : Nat} {w w1 w2 : World} (h : Below B w w1) (hB : B ≤ w1.heap.size) (k : Below w1.heap.size w1 w2) : Below B w w2 :=
  h.trans ⟨k.os, k.tape, k.output, k.size, fun i hi => k.block i (Nat.lt_of_lt_of_le hi hB)⟩
theorem grown_of_below {w w1 : World} (h : Below w.heap.size w w1) (row : Option Nat) : w.grownBy w1 row := ⟨h.os, h.tape, h.output, h.size, fun i hi _ => h.block i hi⟩
theorem pw_cell_below {w w1 : World} (h : Below w.heap.size w w1) {a : Addr} {v : Value} (hc : w.cell? a = some v) : w1.cell? a = some v := (h.cell (World.block_lt_of_cell? w a hc)).trans hc
theorem add_plain (g j : Nat) : (⟨g, 0, none⟩ : Addr).add j = ⟨g, j, none⟩ := by unfold Addr.add; split <;> simp_all
def ReadsInt (w : World) (k : IntKind) (A : Option Addr) (n : Nat) (xs : List Int) : Prop :=
  xs.length = n ∧ n ≤ 9223372036854775807 ∧ (0 < n → ∃ ad, A = some ad ∧ ∀ j, j < n → w.cell? (ad.add j) = some (.int k (xs.getD j 0)))
theorem ReadsInt.at_ {w : World} {k : IntKind} {A : Option Addr} {n : Nat} {xs : List Int} (h : ReadsInt w k A n xs) (i : Int) (h0 : 0 ≤ i) (h1 : i < n) : ∃ ad, A = some ad ∧ w.cell? (ad.add i.toNat) = some (.int k (rd xs i)) := by
  obtain ⟨ad, e, hc⟩ := h.2.2 (by omega)
  exact ⟨ad, e, hc _ (by omega)⟩
theorem ReadsInt.below {w w1 : World} {k : IntKind} {A : Option Addr} {n : Nat} {xs : List Int} (h : ReadsInt w k A n xs) (hb : Below w.heap.size w w1) : ReadsInt w1 k A n xs :=
  ⟨h.1, h.2.1, fun hn => by
    obtain ⟨ad, e, hc⟩ := h.2.2 hn
    exact ⟨ad, e, fun j hj => pw_cell_below hb (hc j hj)⟩⟩
theorem own_nil (W : World) (base : Nat) (e : TypeId) (size : Nat) : W.ownsRow base e size (.slice none 0 0) 0 [] := ⟨by simp, .inl ⟨rfl, rfl⟩⟩
theorem own_base {w : World} {base : Nat} {e : TypeId} {size n : Nat} {v : Value} {xs : List Value} (h : w.ownsRow base e size v n xs) (k : Nat) (hk : v.ownBlock = some k) : base ≤ k := by
  rcases h.2 with ⟨rfl, _⟩ | ⟨g, cap, cur, rfl, hb, _⟩
  · simp [Value.ownBlock] at hk
  · have : g = k := by simpa [Value.ownBlock] using hk
    omega
theorem own_lt {w : World} {base : Nat} {e : TypeId} {size n : Nat} {v : Value} {xs : List Value} (h : w.ownsRow base e size v n xs) (k : Nat) (hk : v.ownBlock = some k) : k < w.heap.size := by
  rcases h.2 with ⟨rfl, _⟩ | ⟨g, cap, cur, rfl, hb, hh, _⟩
  · simp [Value.ownBlock] at hk
  · have : g = k := by simpa [Value.ownBlock] using hk
    subst this
    exact (Array.getElem?_eq_some_iff.1 hh).1
theorem pw_own_below {w w1 : World} {base : Nat} {e : TypeId} {size n : Nat} {v : Value} {xs : List Value} (h : w.ownsRow base e size v n xs) (hb : Below w.heap.size w w1) : w1.ownsRow base e size v n xs :=
  h.kept (grown_of_below hb none) (by cases v.ownBlock <;> simp)
theorem own_reads {w : World} {base n : Nat} {e : TypeId} {k : IntKind} {v : Value} {xs : List Int} (h : w.ownsRow base e 1 v n (nums k xs)) : ∃ A c, v = .slice A n c ∧ ReadsInt w k A n xs := by
  have hl : xs.length = n := by have := h.1; simp [nums] at this; exact this
  rcases Nat.eq_zero_or_pos n with h0 | h0
  · rcases h.2 with ⟨rfl, rfl⟩ | ⟨g, cap, cur, rfl, _⟩
    · exact ⟨none, 0, rfl, hl, by omega, fun hp => absurd hp (by omega)⟩
    · exact ⟨_, cap, rfl, hl, by omega, fun hp => absurd hp (by omega)⟩
  · obtain ⟨g, cap, rfl, _, _⟩ := h.form h0
    have hm : n ≤ 9223372036854775807 := by
      rcases h.2 with ⟨_, h1⟩ | ⟨g', cap', cur, he, _, _, h1, h2, _⟩
      · omega
      · simp only [maxLen] at h2
        omega
    refine ⟨_, cap, rfl, hl, hm, fun _ => ⟨_, rfl, fun j hj => h.cells (g := g) rfl j _ ?_⟩⟩
    simp [nums, List.getElem?_eq_getElem (show j < xs.length by omega), List.getD_eq_getElem?_getD]
theorem own_slice {w : World} {base n : Nat} {e : TypeId} {size : Nat} {v : Value} {xs : List Value} (h : w.ownsRow base e size v n xs) : ∃ A c, v = .slice A n c := by
  rcases h.2 with ⟨rfl, rfl⟩ | ⟨g, cap, cur, rfl, _⟩
  · exact ⟨none, 0, rfl⟩
  · exact ⟨_, cap, rfl⟩
section
variable {P : Program} {ops : Array Oper} {rest : List Oper} {o : Oper} {a : Act} {Q : Exit → Act → World → Prop}
end
section
variable {P : Program}
end
section
variable {P : Program} {ops : Array Oper} {rest : List Oper} {o : Oper} {a : Act} {Q : Exit → Act → World → Prop}
end
theorem ReadsInt.take_ {w : World} {k : IntKind} {A : Option Addr} {n : Nat} {xs : List Int} (h : ReadsInt w k A n xs) (i : Nat) (hi : i ≤ n) : ReadsInt w k A i (xs.take i) := by
  refine ⟨by rw [List.length_take, h.1]; omega, by have := h.2.1; omega, fun hp => ?_⟩
  obtain ⟨ad, e, hc⟩ := h.2.2 (by omega)
  refine ⟨ad, e, fun j hj => ?_⟩
  rw [hc j (by omega)]
  simp [List.getD_eq_getElem?_getD, hj]
def LeO {α : Type} (a b : Option α) : Prop := ∀ r, a = some r → b = some r
theorem LeO.refl {α : Type} (a : Option α) : LeO a a := fun _ h => h
theorem LeO.none {α : Type} (b : Option α) : LeO Option.none b := fun _ h => by cases h
theorem LeO.trans {α : Type} {a b c : Option α} (h : LeO a b) (k : LeO b c) : LeO a c := fun r hr => k r (h r hr)
theorem LeO.ite {α : Type} {c : Prop} [Decidable c] {a a' b b' : Option α} (h : LeO a a') (k : LeO b b') : LeO (if c then a else b) (if c then a' else b') := by
  split
  · exact h
  · exact k
theorem LeO.bind {α β : Type} {a a' : Option α} {f f' : α → Option β} (h : LeO a a') (k : ∀ x, LeO (f x) (f' x)) : LeO (a.bind f) (a'.bind f') := by
  intro r hr
  obtain ⟨x, hx, hf⟩ := Option.bind_eq_some_iff.1 hr
  exact Option.bind_eq_some_iff.2 ⟨x, h x hx, k x r hf⟩
theorem LeO.map {α β : Type} {a a' : Option α} (f : α → β) (h : LeO a a') : LeO (a.map f) (a'.map f) := by
  intro r hr
  obtain ⟨x, hx, hf⟩ := Option.map_eq_some_iff.1 hr
  exact Option.map_eq_some_iff.2 ⟨x, h x hx, hf⟩
def Reps {α : Type} (R : α → List Value → Prop) (size : Nat) (ps : List α) (cs : List Value) : Prop :=
  cs.length = ps.length * size ∧ ∀ j p, ps[j]? = some p → R p ((cs.drop (j * size)).take size)
theorem Reps.none {α : Type} (R : α → List Value → Prop) (size : Nat) : Reps R size [] [] := ⟨by simp, fun j p h => by simp at h⟩
theorem Reps.snoc {α : Type} {R : α → List Value → Prop} {size : Nat} {ps : List α} {cs c : List Value} {p : α} (h : Reps R size ps cs) (hp : R p c) (hc : c.length = size) : Reps R size (ps ++ [p]) (cs ++ c) := by
  refine ⟨by rw [List.length_append, h.1, hc, List.length_append, List.length_singleton, Nat.add_mul, Nat.one_mul], fun j q hq => ?_⟩
  rcases Nat.lt_or_ge j ps.length with hj | hj
  · rw [List.getElem?_append_left hj] at hq
    have h1 : j * size + size ≤ cs.length := by rw [h.1, ← Nat.succ_mul]; exact Nat.mul_le_mul_right _ hj
    have h2 := h.2 j q hq
    rw [List.drop_append_of_le_length (by omega), List.take_append_of_le_length (by rw [List.length_drop]; omega)]
    exact h2
  · have hj' : j = ps.length := by
      have := (List.getElem?_eq_some_iff.1 hq).1
      rw [List.length_append, List.length_singleton] at this
      omega
    subst hj'
    have hq' : p = q := by simpa using hq
    subst hq'
    rw [← h.1, List.drop_left, ← hc, List.take_length]
    exact hp
theorem Reps.imp_ {α : Type} {R R' : α → List Value → Prop} {size : Nat} {ps : List α} {cs : List Value} (h : Reps R size ps cs) (hR : ∀ p c, R p c → R' p c) : Reps R' size ps cs := ⟨h.1, fun j p hj => hR _ _ (h.2 j p hj)⟩
def ReadsRow {α : Type} (R : α → List Value → Prop) (size : Nat) (w : World) (A : Option Addr) (n : Nat) (ps : List α) : Prop :=
  ps.length = n ∧ n ≤ 9223372036854775807 ∧ (0 < n → ∃ ad, A = some ad ∧ ∀ j p, ps[j]? = some p → ∃ c, c.length = size ∧ R p c ∧ ∀ i u, c[i]? = some u → w.cell? (ad.add (j * size + i)) = some u)
theorem ReadsRow.get_ {α : Type} {R : α → List Value → Prop} {size : Nat} {w : World} {A : Option Addr} {n : Nat} {ps : List α} (h : ReadsRow R size w A n ps) (d : α) (i : Int) (h0 : 0 ≤ i) (h1 : i < n) :
    ∃ ad c, A = some ad ∧ c.length = size ∧ R (ps.getD i.toNat d) c ∧ ∀ j u, c[j]? = some u → w.cell? (ad.add (i.toNat * size + j)) = some u := by
  obtain ⟨ad, e, hc⟩ := h.2.2 (by omega)
  have hl : i.toNat < ps.length := by have := h.1; omega
  obtain ⟨c, hs, hr, hcell⟩ := hc i.toNat _ (List.getElem?_eq_getElem hl)
  refine ⟨ad, c, e, hs, ?_, hcell⟩
  rw [List.getD_eq_getElem?_getD, List.getElem?_eq_getElem hl]
  exact hr
theorem ReadsRow.imp_ {α : Type} {R R' : α → List Value → Prop} {size : Nat} {w w1 : World} {A : Option Addr} {n : Nat} {ps : List α} (h : ReadsRow R size w A n ps) (hb : Below w.heap.size w w1) (hR : ∀ p c, R p c → R' p c) : ReadsRow R' size w1 A n ps :=
  ⟨h.1, h.2.1, fun hn => by
    obtain ⟨ad, e, hc⟩ := h.2.2 hn
    refine ⟨ad, e, fun j p hj => ?_⟩
    obtain ⟨c, hs, hr, hcell⟩ := hc j p hj
    exact ⟨c, hs, hR _ _ hr, fun i u hu => pw_cell_below hb (hcell i u hu)⟩⟩
theorem own_reads_row {α : Type} {R : α → List Value → Prop} {w : World} {base n size : Nat} {e : TypeId} {v : Value} {ps : List α} {cs : List Value} (h : w.ownsRow base e size v n cs) (hR : Reps R size ps cs) (hn : ps.length = n) :
    ∃ A c, v = .slice A n c ∧ ReadsRow R size w A n ps := by
  rcases Nat.eq_zero_or_pos n with h0 | h0
  · rcases h.2 with ⟨rfl, rfl⟩ | ⟨g, cap, cur, rfl, _⟩
    · exact ⟨none, 0, rfl, hn, by omega, fun hp => absurd hp (by omega)⟩
    · exact ⟨_, cap, rfl, hn, by omega, fun hp => absurd hp (by omega)⟩
  · obtain ⟨g, cap, rfl, _, _⟩ := h.form h0
    have hm : n ≤ 9223372036854775807 := by
      rcases h.2 with ⟨_, h1⟩ | ⟨g', cap', cur, he, _, _, h1, h2, _⟩
      · omega
      · simp only [maxLen] at h2
        omega
    refine ⟨_, cap, rfl, hn, hm, fun _ => ⟨_, rfl, fun j p hj => ⟨(cs.drop (j * size)).take size, ?_, hR.2 j p hj, fun i u hu => ?_⟩⟩⟩
    · have hjl := (List.getElem?_eq_some_iff.1 hj).1
      have h1 : j * size + size ≤ cs.length := by rw [hR.1, ← Nat.succ_mul]; exact Nat.mul_le_mul_right _ hjl
      rw [List.length_take, List.length_drop]
      omega
    · refine h.cells (g := g) rfl _ u ?_
      rw [List.getElem?_take] at hu
      split at hu
      · rw [List.getElem?_drop] at hu
        exact hu
      · cases hu
theorem add_field (ad : Addr) (m j : Nat) (hj : 0 < j) : ad.add (m + j) = ⟨(ad.add m).block, (ad.add m).off + j, none⟩ := by
  unfold Addr.add
  by_cases hm : m = 0
  · subst hm
    simp [Nat.ne_of_gt hj]
  · simp [hm, Nat.add_assoc]
section
variable {P : Program} {ops : Array Oper} {rest : List Oper} {o : Oper} {a : Act} {Q : Exit → Act → World → Prop}
theorem print_append_cells {w0 W : World} (base : Nat) (hgd : o.guard = none) (s x : Operand) (t e : TypeId) (z : Value) (size bytes : Nat)
    (ho : o.op = .call { callee := .builtin .append, args := #[s, x], argTypes := #[t, t] })
    (ht : P.underlying t = some (.slice e)) (hinfo : (P.info? e).map (fun i => (i.zero, i.size, i.bytes)) = some (some z, size, bytes)) (hz : z.cells.size = size) (hs0 : 0 < size) (hb0 : 0 < bytes)
    (v : Value) (n : Nat) (xs ys : List Value) (hs : a.eval s = v) (hx : a.eval x = .slice (some ⟨W.heap.size, 0, none⟩) 1 1) (hys : ys.length = size) (h1 : ∀ u ∈ ys, u.oneCell' = true)
    (HO : W.ownsRow base e size v n xs) (HB : Below base w0 W) (hbase : base ≤ W.heap.size) (hl : (n + 1) * bytes ≤ 140737488355328)
    (h : ∀ v1 w1, w1.ownsRow base e size v1 (n + 1) (xs ++ ys) → Below base w0 w1 → W.grownBy w1 v.ownBlock → (v1.ownBlock = v.ownBlock ∨ ∃ b, v1.ownBlock = some b ∧ W.heap.size ≤ b) → wpList P ops Q rest (a.put o.dst v1) w1) :
    wpList P ops Q (o :: rest) a (W.alloc (.cells ys.toArray e)) := by
  obtain ⟨i0, hi, hzz⟩ := Option.map_eq_some_iff.1 hinfo
  simp only [Prod.mk.injEq] at hzz
  obtain ⟨hz0, hz1, hz2⟩ := hzz
  have hlen : n + 1 ≤ 140737488355328 := Nat.le_trans (Nat.le_mul_of_pos_right _ hb0) hl
  refine wpList_append_own_at (W.alloc (.cells ys.toArray e)) hgd s x t ho base e i0 z size bytes ht hi hz0 hz1 hz2 hz hs0 v n xs hs (HO.alloc _) ⟨W.heap.size, 0, none⟩ 1 1 ys hx (by rw [hys]; simp)
    (by simpa using World.news_of_block (cs := ys.toArray) (t := e) (fr := (0, 0)) (heap_alloc_new W (.cells ys.toArray e))) h1 (by simp only [maxLen]; omega) hl (by simp; omega) ?_
  intro v1 w1 hown hg _ hat
  refine h v1 w1 hown ((HB.alloc hbase _).grown hg (by simp; omega) (own_base HO)) (World.grownBy.trans (World.grownBy_alloc W _ _) hg) ?_
  rcases hat with hat | hat
  · exact .inl hat
  · exact .inr ⟨_, hat, by simp⟩
end
theorem own_ne {w : World} {base : Nat} {e t : TypeId} {size n g : Nat} {v : Value} {xs : List Value} {cs : Array Value} (h : w.ownsRow base e size v n xs) (hg : w.heap[g]? = some (.cells cs t (0, 0))) (hne : e ≠ t) : some g ≠ v.ownBlock := by
  rcases h.2 with ⟨rfl, _⟩ | ⟨g', cap, cur, rfl, _, hh, _⟩
  · simp [Value.ownBlock]
  · intro he
    have : g = g' := by simpa [Value.ownBlock] using he
    subst this
    rw [hg] at hh
    injection hh with hh
    injection hh with _ ht
    exact hne ht.symm
theorem blk_set {w : World} {g : Nat} {t : TypeId} {cs : Array Value} (h : w.heap[g]? = some (.cells cs t (0, 0))) (i : Nat) (u : Value) : (w.setCell ⟨g, i, none⟩ u).heap[g]? = some (.cells (cs.setIfInBounds i u) t (0, 0)) := by
  simp [World.setCell, Array.getElem?_modify, h]
theorem blk_lt {w : World} {g : Nat} {o : Obj} (h : w.heap[g]? = some o) : g < w.heap.size := (Array.getElem?_eq_some_iff.1 h).1
theorem blk_cell {w : World} {g : Nat} {t : TypeId} {cs : Array Value} (h : w.heap[g]? = some (.cells cs t (0, 0))) (i : Nat) : w.cell? ⟨g, i, none⟩ = cs[i]? := cell_of_row w g i cs t (0, 0) h
theorem blk_frozen {w : World} {g : Nat} {t : TypeId} {cs : Array Value} (h : w.heap[g]? = some (.cells cs t (0, 0))) (i : Nat) : w.frozen? ⟨g, i, none⟩ = false := by simp [World.frozen?, h]
theorem blk_grown {w w1 : World} {g : Nat} {o : Obj} {row : Option Nat} (h : w.heap[g]? = some o) (hg : w.grownBy w1 row) (hne : some g ≠ row) : w1.heap[g]? = some o := (hg.block g (blk_lt h) hne).trans h
def KeepBut (w w' : World) (g : Nat) (row : Option Nat) : Prop := w.heap.size ≤ w'.heap.size ∧ ∀ i, i < w.heap.size → i ≠ g → some i ≠ row → w'.heap[i]? = w.heap[i]?
theorem KeepBut.refl (w : World) (g : Nat) (row : Option Nat) : KeepBut w w g row := ⟨Nat.le_refl _, fun _ _ _ _ => rfl⟩
theorem KeepBut.of_below {w w1 : World} (h : Below w.heap.size w w1) (g : Nat) (row : Option Nat) : KeepBut w w1 g row := ⟨h.size, fun i hi _ _ => h.block i hi⟩
theorem KeepBut.trans {w w1 w2 : World} {g : Nat} {row row1 : Option Nat} (h : KeepBut w w1 g row) (k : KeepBut w1 w2 g row1) (hr : row1 = row ∨ ∃ b, row1 = some b ∧ w.heap.size ≤ b) : KeepBut w w2 g row :=
  ⟨Nat.le_trans h.1 k.1, fun i hi hg hn => by
    refine (k.2 i (Nat.lt_of_lt_of_le hi h.1) hg ?_).trans (h.2 i hi hg hn)
    rcases hr with rfl | ⟨b, rfl, hb⟩
    · exact hn
    · intro e
      injection e with e
      omega⟩
theorem KeepBut.blk {w w1 : World} {g g' : Nat} {row : Option Nat} {o : Obj} (h : KeepBut w w1 g row) (hb : w.heap[g']? = some o) (hg : g' ≠ g) (hr : some g' ≠ row) : w1.heap[g']? = some o := (h.2 g' (blk_lt hb) hg hr).trans hb
theorem KeepBut.own {w w1 : World} {g : Nat} {row : Option Nat} {base : Nat} {e : TypeId} {size n : Nat} {v : Value} {xs : List Value} (h : KeepBut w w1 g row) (ho : w.ownsRow base e size v n xs) (hg : v.ownBlock ≠ some g) (hr : v.ownBlock = none ∨ v.ownBlock ≠ row) : w1.ownsRow base e size v n xs := by
  obtain ⟨h1, h2⟩ := ho
  refine ⟨h1, ?_⟩
  rcases h2 with h2 | ⟨b, cap, cur, rfl, hb, hh, r⟩
  · exact .inl h2
  · refine .inr ⟨b, cap, cur, rfl, hb, h.blk hh ?_ ?_, r⟩
    · intro e
      exact hg (by rw [← e]; rfl)
    · rcases hr with hr | hr
      · simp [Value.ownBlock] at hr
      · exact hr
def Ev {α : Type} (g : Nat → Option α) (r : α) : Prop := ∃ K, ∀ k, K ≤ k → g k = some r
theorem Ev.now {α : Type} (r : α) : Ev (fun _ => some r) r := ⟨0, fun _ _ => rfl⟩
theorem Ev.rounds {α : Type} {g : Nat → Option α} {r : α} (h : Ev g r) : ∃ k, g k = some r := by
  obtain ⟨K, h⟩ := h
  exact ⟨K, h K (Nat.le_refl _)⟩
theorem Ev.bind {α β : Type} {g : Nat → Option α} {f : Nat → α → Option β} {a : α} {r : β} (h : Ev g a) (k : Ev (fun n => f n a) r) : Ev (fun n => (g n).bind (f n)) r := by
  obtain ⟨K, h⟩ := h
  obtain ⟨K', k⟩ := k
  refine ⟨max K K', fun n hn => ?_⟩
  have h1 := h n (by omega)
  have h2 := k n (by omega)
  simp only [h1, Option.bind_some]
  exact h2
theorem Ev.step {α : Type} {g f : Nat → Option α} {r : α} (h : ∀ k, g (k + 1) = f k) (k : Ev f r) : Ev g r := by
  obtain ⟨K, k⟩ := k
  refine ⟨K + 1, fun n hn => ?_⟩
  obtain ⟨m, rfl⟩ : ∃ m, n = m + 1 := ⟨n - 1, by omega⟩
  rw [h]
  exact k m (by omega)
theorem Ev.congr {α : Type} {g f : Nat → Option α} {r : α} (h : ∀ k, g k = f k) (k : Ev f r) : Ev g r := by
  obtain ⟨K, k⟩ := k
  exact ⟨K, fun n hn => (h n).trans (k n hn)⟩
section
variable {P : Program} {ops : Array Oper} {o : Oper} {a : Act} {Q : Exit → Act → World → Prop} {K : Act → World → Prop}
end
theorem own_weaken {w : World} {base base' : Nat} {e : TypeId} {size n : Nat} {v : Value} {xs : List Value} (h : w.ownsRow base e size v n xs) (hb : base' ≤ base) : w.ownsRow base' e size v n xs := by
  obtain ⟨h1, h2⟩ := h
  refine ⟨h1, ?_⟩
  rcases h2 with h2 | ⟨g, cap, cur, rfl, hg, r⟩
  · exact .inl h2
  · exact .inr ⟨g, cap, cur, rfl, Nat.le_trans hb hg, r⟩
section
variable {α : Type} {enc : α → Value} {d : α}
def encs (enc : α → Value) (xs : List α) : List Value := xs.map enc
def rdOf (d : α) (xs : List α) (i : Int) : α := xs.getD i.toNat d
theorem encs_length (xs : List α) : (encs enc xs).length = xs.length := by simp [encs]
theorem encs_get (xs : List α) (j : Nat) (h : j < xs.length) : (encs enc xs)[j]? = some (enc (xs.getD j d)) := by
  simp [encs, List.getElem?_eq_getElem h, List.getD_eq_getElem?_getD]
def ReadsOf (enc : α → Value) (d : α) (w : World) (A : Option Addr) (n : Nat) (xs : List α) : Prop :=
  xs.length = n ∧ n ≤ 9223372036854775807 ∧ (0 < n → ∃ ad, A = some ad ∧ ∀ j, j < n → w.cell? (ad.add j) = some (enc (xs.getD j d)))
theorem ReadsOf.at_ {w : World} {A : Option Addr} {n : Nat} {xs : List α} (h : ReadsOf enc d w A n xs) (i : Int) (h0 : 0 ≤ i) (h1 : i < n) : ∃ ad, A = some ad ∧ w.cell? (ad.add i.toNat) = some (enc (rdOf d xs i)) := by
  obtain ⟨ad, e, hc⟩ := h.2.2 (by omega)
  exact ⟨ad, e, hc _ (by omega)⟩
theorem ReadsOf.below {w w1 : World} {A : Option Addr} {n : Nat} {xs : List α} (h : ReadsOf enc d w A n xs) (hb : Below w.heap.size w w1) : ReadsOf enc d w1 A n xs :=
  ⟨h.1, h.2.1, fun hn => by
    obtain ⟨ad, e, hc⟩ := h.2.2 hn
    exact ⟨ad, e, fun j hj => pw_cell_below hb (hc j hj)⟩⟩
theorem ReadsOf.take_ {w : World} {A : Option Addr} {n : Nat} {xs : List α} (h : ReadsOf enc d w A n xs) (i : Nat) (hi : i ≤ n) : ReadsOf enc d w A i (xs.take i) := by
  refine ⟨by rw [List.length_take, h.1]; omega, by have := h.2.1; omega, fun hp => ?_⟩
  obtain ⟨ad, e, hc⟩ := h.2.2 (by omega)
  refine ⟨ad, e, fun j hj => ?_⟩
  rw [hc j (by omega)]
  simp [List.getD_eq_getElem?_getD, hj]
theorem own_at_of {W : World} {base g n cap : Nat} {e : TypeId} {xs : List α} (h : W.ownsRow base e 1 (.slice (some ⟨g, 0, none⟩) n cap) n (encs enc xs)) (i : Int) (h0 : 0 ≤ i) (h1 : i < n) :
    W.cell? ⟨g, i.toNat, none⟩ = some (enc (rdOf d xs i)) ∧ W.frozen? ⟨g, i.toNat, none⟩ = false := by
  have hl : xs.length = n := by have := h.1; simp [encs] at this; exact this
  constructor
  · have hc := h.cells (g := g) rfl i.toNat _ (encs_get (d := d) xs i.toNat (by omega))
    rwa [add_plain] at hc
  · rcases h.2 with ⟨h', _⟩ | ⟨g', cap', cur, h', _, hh, _⟩
    · cases h'
    · have : g = g' := by injection h' with h'; injection h' with h'; injection h' with h'
      subst this
      simp [World.frozen?, hh]
theorem own_store_of {W : World} {base g n cap : Nat} {e : TypeId} {xs : List α} (h : W.ownsRow base e 1 (.slice (some ⟨g, 0, none⟩) n cap) n (encs enc xs)) (i : Int) (x : α) :
    (W.setCell ⟨g, i.toNat, none⟩ (enc x)).ownsRow base e 1 (.slice (some ⟨g, 0, none⟩) n cap) n (encs enc (xs.set i.toNat x)) ∧ W.grownBy (W.setCell ⟨g, i.toNat, none⟩ (enc x)) (some g) := by
  have hs := h.stored i.toNat (enc x)
  have he : (encs enc xs).set i.toNat (enc x) = encs enc (xs.set i.toNat x) := by simp [encs, List.map_set]
  rwa [he] at hs
end
section
variable {α : Type} {P : Program} {ops : Array Oper} {rest : List Oper} {o : Oper} {a : Act} {Q : Exit → Act → World → Prop}
end
theorem blk_alloc {w : World} {g : Nat} {o : Obj} (h : w.heap[g]? = some o) (o' : Obj) : (w.alloc o').heap[g]? = some o := (Below.heap_alloc w o' g (blk_lt h)).trans h
theorem blk_drew {w : World} {g : Nat} {o : Obj} (h : w.heap[g]? = some o) : w.drew.heap[g]? = some o := h
theorem blk_drewN {w : World} {g : Nat} {o : Obj} (h : w.heap[g]? = some o) (n : Nat) : (w.drewN n).heap[g]? = some o := h
theorem blk_below {w w1 : World} {g : Nat} {o : Obj} (h : w.heap[g]? = some o) (hb : Below w.heap.size w w1) : w1.heap[g]? = some o := (hb.block g (blk_lt h)).trans h
theorem blk_new (w : World) (o : Obj) : (w.alloc o).heap[w.heap.size]? = some o := heap_alloc_new w o
section
variable {P : Program}
end
theorem own_le {w : World} {base n m c size : Nat} {e : TypeId} {A : Option Addr} {xs : List Value} (h : w.ownsRow base e size (.slice A m c) n xs) : m ≤ c := by
  rcases h.2 with ⟨he, _⟩ | ⟨g, cap, cur, he, _, _, hnc, _⟩
  · injection he with _ h2 h3
    omega
  · injection he with _ h2 h3
    omega
def OwnRow {α : Type} (R : α → List Value → Prop) (e : TypeId) (size : Nat) (w : World) (base : Nat) (v : Value) (ps : List α) : Prop :=
  ∃ inner, w.ownsRow base e size v ps.length inner ∧ Reps R size ps inner
section
variable {α : Type} {R R' : α → List Value → Prop} {e : TypeId} {size : Nat} {w w1 : World} {base : Nat} {v : Value} {ps : List α}
theorem OwnRow.none_ (R : α → List Value → Prop) (e : TypeId) (size : Nat) (w : World) (base : Nat) : OwnRow R e size w base (.slice none 0 0) [] := ⟨[], own_nil _ _ _ _, Reps.none _ _⟩
theorem OwnRow.imp_ (h : OwnRow R e size w base v ps) (hR : ∀ p c, R p c → R' p c) : OwnRow R' e size w base v ps := by
  obtain ⟨inner, ho, hr⟩ := h
  exact ⟨inner, ho, hr.imp_ hR⟩
theorem OwnRow.below (h : OwnRow R e size w base v ps) (hb : Below w.heap.size w w1) : OwnRow R e size w1 base v ps := by
  obtain ⟨inner, ho, hr⟩ := h
  exact ⟨inner, pw_own_below ho hb, hr⟩
theorem OwnRow.keep (h : OwnRow R e size w base v ps) {g : Nat} {t : TypeId} {cells : Array Value} (hb : w.heap[g]? = some (.cells cells t (0, 0))) (ht : e ≠ t) (hk : KeepBut w w1 g none) : OwnRow R e size w1 base v ps := by
  obtain ⟨inner, ho, hr⟩ := h
  exact ⟨inner, hk.own ho (Ne.symm (own_ne ho hb ht)) (by cases v.ownBlock <;> simp), hr⟩
theorem OwnRow.reads (h : OwnRow R e size w base v ps) : ∃ A c, v = .slice A ps.length c ∧ ps.length ≤ c ∧ ReadsRow R size w A ps.length ps := by
  obtain ⟨inner, ho, hr⟩ := h
  obtain ⟨A, c, rfl, hrow⟩ := own_reads_row ho hr rfl
  exact ⟨A, c, rfl, own_le ho, hrow⟩
theorem OwnRow.ne_block (h : OwnRow R e size w base v ps) {g : Nat} {t : TypeId} {cells : Array Value} (hb : w.heap[g]? = some (.cells cells t (0, 0))) (ht : e ≠ t) : some g ≠ v.ownBlock := by
  obtain ⟨inner, ho, hr⟩ := h
  exact own_ne ho hb ht
theorem OwnRow.lit (W : World) (base : Nat) {inner : List Value} (hr : Reps R size ps inner) (hb : base ≤ W.heap.size) (hm : ps.length ≤ 9223372036854775807) :
    OwnRow R e size (W.alloc (.cells inner.toArray e)) base (.slice (some ⟨W.heap.size, 0, none⟩) ps.length ps.length) ps := by
  have h := World.ownsRow_lit (base := base) (e := e) (size := size) W inner.toArray ps.length hb (by simpa [maxLen] using hm) (by simpa using hr.1)
  exact ⟨inner, by simpa using h, hr⟩
end
section
variable {P : Program} {ops : Array Oper} {rest : List Oper} {o : Oper} {a : Act} {Q : Exit → Act → World → Prop} {α : Type} {R : α → List Value → Prop}
theorem OwnRow.append {w0 W : World} (base : Nat) (hgd : o.guard = none) (s x : Operand) (t e : TypeId) (z : Value) (size bytes : Nat)
    (ho : o.op = .call { callee := .builtin .append, args := #[s, x], argTypes := #[t, t] })
    (ht : P.underlying t = some (.slice e)) (hinfo : (P.info? e).map (fun i => (i.zero, i.size, i.bytes)) = some (some z, size, bytes)) (hz : z.cells.size = size) (hs0 : 0 < size) (hb0 : 0 < bytes)
    (v : Value) (ps : List α) (p : α) (cs : List Value) (hs : a.eval s = v) (hx : a.eval x = .slice (some ⟨W.heap.size, 0, none⟩) 1 1) (hp : R p cs) (hcs : cs.length = size) (h1 : ∀ u ∈ cs, u.oneCell' = true)
    (HO : OwnRow R e size W base v ps) (HB : Below base w0 W) (hbase : base ≤ W.heap.size) (hl : (ps.length + 1) * bytes ≤ 140737488355328)
    (h : ∀ v1 w1, OwnRow R e size w1 base v1 (ps ++ [p]) → Below base w0 w1 → W.grownBy w1 v.ownBlock → (v1.ownBlock = v.ownBlock ∨ ∃ b, v1.ownBlock = some b ∧ W.heap.size ≤ b) → wpList P ops Q rest (a.put o.dst v1) w1) :
    wpList P ops Q (o :: rest) a (W.alloc (.cells cs.toArray e)) := by
  obtain ⟨inner, hown, hr⟩ := HO
  refine print_append_cells base hgd s x t e z size bytes ho ht hinfo hz hs0 hb0 v ps.length inner cs hs hx hcs h1 hown HB hbase hl ?_
  intro v1 w1 hown1 hb1 hg1 hat1
  exact h v1 w1 ⟨inner ++ cs, by rw [List.length_append, List.length_singleton]; exact hown1, hr.snoc hp hcs⟩ hb1 hg1 hat1
end
section
variable {P : Program} {ops : Array Oper} {o : Oper} {a : Act} {Q : Exit → Act → World → Prop} {K : Act → World → Prop} {α : Type} {R : α → List Value → Prop}
end
theorem ReadsRow.inner_ {α : Type} {R : α → List Value → Prop} {size : Nat} {w : World} {ad : Addr} {n : Nat} {ps : List α} (h : ReadsRow R size w (some ad) n ps) :
    ∃ inner, Reps R size ps inner ∧ ∀ j u, inner[j]? = some u → w.cell? (ad.add j) = some u := by
  have key : ∀ m, m ≤ ps.length → ∃ inner, Reps R size (ps.take m) inner ∧ ∀ j u, inner[j]? = some u → w.cell? (ad.add j) = some u := by
    intro m
    induction m with
    | zero => exact fun _ => ⟨[], Reps.none _ _, fun j u hu => by simp at hu⟩
    | succ m ih =>
      intro hm
      obtain ⟨inner, hr, hc⟩ := ih (by omega)
      obtain ⟨ad', he, hcell⟩ := h.2.2 (by have := h.1; omega)
      injection he with he
      subst he
      obtain ⟨c, hcl, hp, hcc⟩ := hcell m _ (List.getElem?_eq_getElem (show m < ps.length by omega))
      refine ⟨inner ++ c, ?_, fun j u hu => ?_⟩
      · rw [List.take_succ_eq_append_getElem (show m < ps.length by omega)]
        exact hr.snoc hp hcl
      · have hil : inner.length = m * size := by rw [hr.1, List.length_take, Nat.min_eq_left (by omega)]
        rcases Nat.lt_or_ge j inner.length with hj | hj
        · rw [List.getElem?_append_left hj] at hu
          exact hc j u hu
        · rw [List.getElem?_append_right hj] at hu
          have := hcc (j - inner.length) u hu
          rwa [hil, Nat.add_sub_cancel' (by omega)] at this
  obtain ⟨inner, hr, hc⟩ := key ps.length (Nat.le_refl _)
  rw [List.take_length] at hr
  exact ⟨inner, hr, hc⟩
section
variable {α : Type} {P : Program}
end
section
variable {P : Program} {ops : Array Oper} {rest : List Oper} {o : Oper} {a : Act} {Q : Exit → Act → World → Prop}
end
structure Kd (α : Type) where
  sz : Nat
  E : List Nat
  K : World → α → List Value → Prop
  M : World → Nat → (Nat → Prop) → α → List Value → Prop
  K_len : ∀ {w x cs}, K w x cs → cs.length = sz
  K_one : ∀ {w x cs}, K w x cs → ∀ u ∈ cs, u.oneCell' = true
  K_below : ∀ {w w1 : World} {x cs}, Below w.heap.size w w1 → K w x cs → K w1 x cs
  K_of_M : ∀ {w base ok x cs}, M w base ok x cs → K w x cs
  M_mono : ∀ {w base ok ok' x cs}, (∀ k, ok k → ok' k) → M w base ok x cs → M w base ok' x cs
  M_bound : ∀ {w : World} {base ok x cs}, M w base ok x cs → M w base (fun k => ok k ∧ base ≤ k ∧ k < w.heap.size ∧ ∃ q, q ∈ E ∧ ∃ cells, w.heap[k]? = some (.cells cells q (0, 0))) x cs
  M_move : ∀ {w w1 : World} {base ok x cs}, (∀ k, ok k → w1.heap[k]? = w.heap[k]?) → M w base ok x cs → M w1 base ok x cs
  M_lower : ∀ {w base base' ok x cs}, base' ≤ base → M w base ok x cs → M w base' ok x cs
theorem own_move {w w1 : World} {base : Nat} {e : TypeId} {size n : Nat} {v : Value} {xs : List Value} (h : w.ownsRow base e size v n xs) (hm : ∀ k, v.ownBlock = some k → w1.heap[k]? = w.heap[k]?) : w1.ownsRow base e size v n xs := by
  obtain ⟨h1, h2⟩ := h
  refine ⟨h1, ?_⟩
  rcases h2 with h2 | ⟨g, cap, cur, rfl, hg, hh, r⟩
  · exact .inl h2
  · exact .inr ⟨g, cap, cur, rfl, hg, (hm g (by simp [Value.ownBlock])).trans hh, r⟩
theorem own_typed {w : World} {base : Nat} {e : TypeId} {size n : Nat} {v : Value} {xs : List Value} (h : w.ownsRow base e size v n xs) (k : Nat) (hk : v.ownBlock = some k) : ∃ cells, w.heap[k]? = some (.cells cells e (0, 0)) := by
  rcases h.2 with ⟨rfl, _⟩ | ⟨g, cap, cur, rfl, hg, hh, r⟩
  · simp [Value.ownBlock] at hk
  · have : g = k := by simpa [Value.ownBlock] using hk
    subst this
    exact ⟨cur, hh⟩
namespace Kd
def C {α : Type} (d : Kd α) (w : World) (A : Option Addr) (n : Nat) (xs : List α) : Prop := ReadsRow (d.K w) d.sz w A n xs
def R {α : Type} (d : Kd α) (e : Nat) (w : World) (base : Nat) (ok : Nat → Prop) (v : Value) (xs : List α) : Prop :=
  (∀ k, v.ownBlock = some k → ok k) ∧ OwnRow (d.M w base (fun k => ok k ∧ some k ≠ v.ownBlock)) e d.sz w base v xs
section
variable {α : Type} {d : Kd α} {e : Nat} {w w1 : World} {base : Nat} {ok ok' : Nat → Prop} {v : Value} {xs : List α}
theorem C_below {A : Option Addr} {n : Nat} (h : d.C w A n xs) (hb : Below w.heap.size w w1) : d.C w1 A n xs := ReadsRow.imp_ h hb (fun _ _ hp => d.K_below hb hp)
theorem R_nil (d : Kd α) (e : Nat) (w : World) (base : Nat) (ok : Nat → Prop) : d.R e w base ok (.slice none 0 0) [] := ⟨fun k hk => by simp [Value.ownBlock] at hk, OwnRow.none_ _ _ _ _ _⟩
theorem R_mono (h : d.R e w base ok v xs) (hok : ∀ k, ok k → ok' k) : d.R e w base ok' v xs := ⟨fun k hk => hok k (h.1 k hk), h.2.imp_ (fun _ _ hp => d.M_mono (fun k hk => ⟨hok k hk.1, hk.2⟩) hp)⟩
theorem R_bound (h : d.R e w base ok v xs) : d.R e w base (fun k => ok k ∧ base ≤ k ∧ k < w.heap.size ∧ ∃ q, q ∈ e :: d.E ∧ ∃ cells, w.heap[k]? = some (.cells cells q (0, 0))) v xs := by
  obtain ⟨h0, inner, ho, hr⟩ := h
  refine ⟨fun k hk => ?_, inner, ho, hr.imp_ (fun _ _ hp => d.M_mono (fun k hk => ?_) (d.M_bound hp))⟩
  · obtain ⟨cells, hc⟩ := own_typed ho k hk
    exact ⟨h0 k hk, own_base ho k hk, own_lt ho k hk, e, List.mem_cons_self, cells, hc⟩
  · obtain ⟨⟨h1, h2⟩, h3, h4, q, hq, hc⟩ := hk
    exact ⟨⟨h1, h3, h4, q, List.mem_cons_of_mem _ hq, hc⟩, h2⟩
theorem R_move (h : d.R e w base ok v xs) (hm : ∀ k, ok k → w1.heap[k]? = w.heap[k]?) : d.R e w1 base ok v xs := by
  obtain ⟨h0, inner, ho, hr⟩ := h
  exact ⟨h0, inner, own_move ho (fun k hk => hm k (h0 k hk)), hr.imp_ (fun _ _ hp => d.M_move (fun k hk => hm k hk.1) hp)⟩
theorem R_lower {base' : Nat} (h : d.R e w base ok v xs) (hb : base' ≤ base) : d.R e w base' ok v xs := by
  obtain ⟨h0, inner, ho, hr⟩ := h
  exact ⟨h0, inner, own_weaken ho hb, hr.imp_ (fun _ _ hp => d.M_lower hb hp)⟩
theorem R_step (h : d.R e w base ok v xs) (hm : ∀ k, ok k → k < w.heap.size → w1.heap[k]? = w.heap[k]?) : d.R e w1 base ok v xs :=
  R_mono (R_move (R_bound h) (fun k hk => hm k hk.1 hk.2.2.1)) (fun _ hk => hk.1)
theorem M_step {x : α} {cs : List Value} (h : d.M w base ok x cs) (hm : ∀ k, ok k → k < w.heap.size → w1.heap[k]? = w.heap[k]?) : d.M w1 base ok x cs :=
  d.M_mono (fun _ hk => hk.1) (d.M_move (fun k hk => hm k hk.1 hk.2.2.1) (d.M_bound h))
theorem R_below (h : d.R e w base ok v xs) (hb : Below w.heap.size w w1) : d.R e w1 base ok v xs := R_step h (fun k _ hk => hb.block k hk)
theorem M_below {x : α} {cs : List Value} (h : d.M w base ok x cs) (hb : Below w.heap.size w w1) : d.M w1 base ok x cs := M_step h (fun k _ hk => hb.block k hk)
theorem R_far (h : d.R e w base ok v xs) {p : Addr} (hok : ∀ k, ok k → k ≠ p.block) (u : Value) : d.R e (w.setCell p u) base ok v xs := R_step h (fun k ho _ => Below.heap_setCell w p u k (hok k ho))
theorem R_types (h : d.R e w base ok v xs) {g t : Nat} {cells : Array Value} (hb : w.heap[g]? = some (.cells cells t (0, 0))) (ht : ∀ q, q ∈ e :: d.E → q ≠ t) : d.R e w base (fun k => ok k ∧ k ≠ g) v xs :=
  R_mono (R_bound h) (fun k hk => ⟨hk.1, by
    obtain ⟨_, _, _, q, hq, cells', hc⟩ := hk
    rintro rfl
    rw [hc] at hb
    injection hb with hb
    injection hb with _ hb
    exact ht q hq hb⟩)
theorem R_reads (h : d.R e w base ok v xs) : ∃ A c, v = .slice A xs.length c ∧ xs.length ≤ c ∧ d.C w A xs.length xs := by
  obtain ⟨A, c, he, hl, hr⟩ := OwnRow.reads h.2
  exact ⟨A, c, he, hl, hr.imp_ (Below.refl _ _) (fun _ _ hp => d.K_of_M hp)⟩
theorem R_slice (h : d.R e w base ok v xs) : ∃ A c, v = .slice A xs.length c := by
  obtain ⟨A, c, he, _⟩ := R_reads h
  exact ⟨A, c, he⟩
theorem R_own (h : d.R e w base ok v xs) : ∃ inner, w.ownsRow base e d.sz v xs.length inner := by
  obtain ⟨_, inner, ho, _⟩ := h
  exact ⟨inner, ho⟩
theorem R_ne (h : d.R e w base ok v xs) {g t : Nat} {cells : Array Value} (hb : w.heap[g]? = some (.cells cells t (0, 0))) (ht : e ≠ t) : some g ≠ v.ownBlock := OwnRow.ne_block h.2 hb ht
end
def scalar {α : Type} (enc : α → Value) (h1 : ∀ x, (enc x).oneCell' = true) : Kd α := {
  sz := 1
  E := []
  K := fun _ x cs => cs = [enc x]
  M := fun _ _ _ x cs => cs = [enc x]
  K_len := fun h => by rw [h]; rfl
  K_one := fun h u hu => by
    rw [h] at hu
    rw [List.mem_singleton.1 hu]
    exact h1 _
  K_below := fun _ h => h
  K_of_M := fun h => h
  M_mono := fun _ h => h
  M_bound := fun h => h
  M_move := fun _ h => h
  M_lower := fun _ h => h }
def int (k : IntKind) : Kd Int := scalar (Value.int k) (fun _ => rfl)
def bool : Kd Bool := scalar Value.bool (fun _ => rfl)
def slice {α : Type} (e : Nat) (d : Kd α) : Kd (List α) := {
  sz := 1
  E := e :: d.E
  K := fun w xs cs => ∃ A c, cs = [.slice A xs.length c] ∧ xs.length ≤ c ∧ d.C w A xs.length xs
  M := fun w base ok xs cs => ∃ v, cs = [v] ∧ d.R e w base ok v xs
  K_len := by
    rintro w x cs ⟨A, c, rfl, _⟩
    rfl
  K_one := by
    rintro w x cs ⟨A, c, rfl, _⟩ u hu
    rw [List.mem_singleton.1 hu]
    rfl
  K_below := by
    rintro w w1 x cs hb ⟨A, c, rfl, hl, hr⟩
    exact ⟨A, c, rfl, hl, C_below hr hb⟩
  K_of_M := by
    rintro w base ok x cs ⟨v, rfl, h⟩
    obtain ⟨A, c, rfl, hl, hr⟩ := R_reads h
    exact ⟨A, c, rfl, hl, hr⟩
  M_mono := by
    rintro w base ok ok' x cs hok ⟨v, rfl, h⟩
    exact ⟨v, rfl, R_mono h hok⟩
  M_bound := by
    rintro w base ok x cs ⟨v, rfl, h⟩
    exact ⟨v, rfl, R_bound h⟩
  M_move := by
    rintro w w1 base ok x cs hm ⟨v, rfl, h⟩
    exact ⟨v, rfl, R_move h hm⟩
  M_lower := by
    rintro w base base' ok x cs hb ⟨v, rfl, h⟩
    exact ⟨v, rfl, R_lower h hb⟩ }
def pair {α β : Type} (a : Kd α) (b : Kd β) : Kd (α × β) := {
  sz := a.sz + b.sz
  E := a.E ++ b.E
  K := fun w x cs => ∃ c0 c1, cs = c0 ++ c1 ∧ a.K w x.1 c0 ∧ b.K w x.2 c1
  M := fun w base ok x cs => ∃ c0 c1, cs = c0 ++ c1 ∧ a.M w base ok x.1 c0 ∧ b.M w base ok x.2 c1
  K_len := by
    rintro w x cs ⟨c0, c1, rfl, h0, h1⟩
    rw [List.length_append, a.K_len h0, b.K_len h1]
  K_one := by
    rintro w x cs ⟨c0, c1, rfl, h0, h1⟩ u hu
    rcases List.mem_append.1 hu with hu | hu
    · exact a.K_one h0 u hu
    · exact b.K_one h1 u hu
  K_below := by
    rintro w w1 x cs hb ⟨c0, c1, rfl, h0, h1⟩
    exact ⟨c0, c1, rfl, a.K_below hb h0, b.K_below hb h1⟩
  K_of_M := by
    rintro w base ok x cs ⟨c0, c1, rfl, h0, h1⟩
    exact ⟨c0, c1, rfl, a.K_of_M h0, b.K_of_M h1⟩
  M_mono := by
    rintro w base ok ok' x cs hok ⟨c0, c1, rfl, h0, h1⟩
    exact ⟨c0, c1, rfl, a.M_mono hok h0, b.M_mono hok h1⟩
  M_bound := by
    rintro w base ok x cs ⟨c0, c1, rfl, h0, h1⟩
    refine ⟨c0, c1, rfl, a.M_mono ?_ (a.M_bound h0), b.M_mono ?_ (b.M_bound h1)⟩
    · rintro k ⟨h2, h3, h4, q, hq, hc⟩
      exact ⟨h2, h3, h4, q, List.mem_append_left _ hq, hc⟩
    · rintro k ⟨h2, h3, h4, q, hq, hc⟩
      exact ⟨h2, h3, h4, q, List.mem_append_right _ hq, hc⟩
  M_move := by
    rintro w w1 base ok x cs hm ⟨c0, c1, rfl, h0, h1⟩
    exact ⟨c0, c1, rfl, a.M_move hm h0, b.M_move hm h1⟩
  M_lower := by
    rintro w base base' ok x cs hb ⟨c0, c1, rfl, h0, h1⟩
    exact ⟨c0, c1, rfl, a.M_lower hb h0, b.M_lower hb h1⟩ }
def iso {α β : Type} (d : Kd α) (f : β → α) : Kd β := {
  sz := d.sz
  E := d.E
  K := fun w x cs => d.K w (f x) cs
  M := fun w base ok x cs => d.M w base ok (f x) cs
  K_len := d.K_len
  K_one := d.K_one
  K_below := d.K_below
  K_of_M := d.K_of_M
  M_mono := d.M_mono
  M_bound := d.M_bound
  M_move := d.M_move
  M_lower := d.M_lower }
def bot {α : Type} (sz : Nat) (E : List Nat) : Kd α := {
  sz := sz
  E := E
  K := fun _ _ _ => False
  M := fun _ _ _ _ _ => False
  K_len := fun h => h.elim
  K_one := fun h => h.elim
  K_below := fun _ h => h
  K_of_M := fun h => h
  M_mono := fun _ h => h
  M_bound := fun h => h
  M_move := fun _ h => h
  M_lower := fun _ h => h }
def upto {α : Type} (F : Kd α → Kd α) (sz : Nat) (E : List Nat) : Nat → Kd α
  | 0 => bot sz E
  | n + 1 => F (upto F sz E n)
theorem C_get {α : Type} {d : Kd α} {w : World} {A : Option Addr} {n : Nat} {xs : List α} (h : d.C w A n xs) (z : α) (i : Int) (h0 : 0 ≤ i) (h1 : i < n) :
    ∃ ad c, A = some ad ∧ c.length = d.sz ∧ d.K w (xs.getD i.toNat z) c ∧ ∀ j u, c[j]? = some u → w.cell? (ad.add (i.toNat * d.sz + j)) = some u := ReadsRow.get_ h z i h0 h1
theorem R_appended {α : Type} {d : Kd α} {e base : Nat} {ok okp : Nat → Prop} {W w1 : World} {v v1 : Value} {xs : List α} {p : α} {inner cs : List Value} (h0 : ∀ k, v.ownBlock = some k → ok k) (hr : Reps (d.M W base (fun k => ok k ∧ some k ≠ v.ownBlock)) d.sz xs inner) (hp : d.M W base okp p cs) (hokp : ∀ k, okp k → ok k ∧ some k ≠ v.ownBlock) (hfresh : ∀ k, W.heap.size ≤ k → ok k)
    (hown : w1.ownsRow base e d.sz v1 (xs.length + 1) (inner ++ cs)) (hg : W.grownBy w1 v.ownBlock) (hat : v1.ownBlock = v.ownBlock ∨ ∃ b, v1.ownBlock = some b ∧ W.heap.size ≤ b) : d.R e w1 base ok v1 (xs ++ [p]) := by
  have hne : ∀ k, some k ≠ v.ownBlock → k < W.heap.size → some k ≠ v1.ownBlock := by
    intro k hk hlt
    rcases hat with hat | ⟨b, hb, hle⟩
    · rw [hat]; exact hk
    · rw [hb]
      intro he
      injection he with he
      omega
  have step : ∀ {q : α} {c : List Value} {o : Nat → Prop}, d.M W base o q c → (∀ k, o k → ok k ∧ some k ≠ v.ownBlock) → d.M w1 base (fun k => ok k ∧ some k ≠ v1.ownBlock) q c := by
    intro q c o hq ho
    have h1 := d.M_move (w1 := w1) (fun k hk => hg.block k hk.2.2.1 (ho k hk.1).2) (d.M_bound hq)
    exact d.M_mono (fun k hk => ⟨(ho k hk.1).1, hne k (ho k hk.1).2 hk.2.2.1⟩) h1
  refine ⟨fun k hk => ?_, inner ++ cs, by rw [List.length_append, List.length_singleton]; exact hown, ?_⟩
  · rcases hat with hat | ⟨b, hb, hle⟩
    · exact h0 k (hat ▸ hk)
    · rw [hb] at hk
      injection hk with hk
      exact hfresh k (by omega)
  · exact (hr.imp_ (fun _ _ hq => step hq (fun _ hk => hk))).snoc (step hp hokp) (d.K_len (d.K_of_M hp))
section
variable {P : Program} {ops : Array Oper} {rest : List Oper} {o : Oper} {a : Act} {Q : Exit → Act → World → Prop} {α : Type}
theorem R_append (d : Kd α) {w0 W : World} (base : Nat) (hgd : o.guard = none) (s x : Operand) (t e : TypeId) (z : Value) (bytes : Nat)
    (ho : o.op = .call { callee := .builtin .append, args := #[s, x], argTypes := #[t, t] })
    (ht : P.underlying t = some (.slice e)) (hinfo : (P.info? e).map (fun i => (i.zero, i.size, i.bytes)) = some (some z, d.sz, bytes)) (hz : z.cells.size = d.sz) (hs0 : 0 < d.sz) (hb0 : 0 < bytes)
    (v : Value) (xs : List α) (p : α) (cs : List Value) (ok okp : Nat → Prop) (hs : a.eval s = v) (hx : a.eval x = .slice (some ⟨W.heap.size, 0, none⟩) 1 1) (hp : d.M W base okp p cs) (hokp : ∀ k, okp k → ok k ∧ some k ≠ v.ownBlock) (hfresh : ∀ k, W.heap.size ≤ k → ok k)
    (HO : d.R e W base ok v xs) (HB : Below base w0 W) (hbase : base ≤ W.heap.size) (hl : (xs.length + 1) * bytes ≤ 140737488355328)
    (h : ∀ v1 w1, d.R e w1 base ok v1 (xs ++ [p]) → Below base w0 w1 → W.grownBy w1 v.ownBlock → (v1.ownBlock = v.ownBlock ∨ ∃ b, v1.ownBlock = some b ∧ W.heap.size ≤ b) → wpList P ops Q rest (a.put o.dst v1) w1) :
    wpList P ops Q (o :: rest) a (W.alloc (.cells cs.toArray e)) := by
  obtain ⟨h0, inner, hown, hr⟩ := HO
  refine print_append_cells base hgd s x t e z d.sz bytes ho ht hinfo hz hs0 hb0 v xs.length inner cs hs hx (d.K_len (d.K_of_M hp)) (d.K_one (d.K_of_M hp)) hown HB hbase hl ?_
  intro v1 w1 hown1 hb1 hg1 hat1
  exact h v1 w1 (R_appended h0 hr hp hokp hfresh hown1 hg1 hat1) hb1 hg1 hat1
end
section
variable {P : Program} {ops : Array Oper} {o : Oper} {a : Act} {Q : Exit → Act → World → Prop} {Kc : Act → World → Prop} {α : Type}
end
theorem reps_scalar {α : Type} {enc : α → Value} (xs : List α) : Reps (fun (x : α) (cs : List Value) => cs = [enc x]) 1 xs (encs enc xs) := by
  refine ⟨by simp [encs], fun j p hj => ?_⟩
  obtain ⟨hl, hp⟩ := List.getElem?_eq_some_iff.1 hj
  have hl' : j < (encs enc xs).length := by rw [encs_length]; exact hl
  rw [Nat.mul_one, List.drop_eq_getElem_cons hl']
  simp [encs, hp]
theorem R_of_own {α : Type} {enc : α → Value} {h1 : ∀ x, (enc x).oneCell' = true} {e : Nat} {w : World} {base : Nat} {ok : Nat → Prop} {v : Value} {xs : List α} (ho : w.ownsRow base e 1 v xs.length (encs enc xs)) (hok : ∀ k, v.ownBlock = some k → ok k) : (scalar enc h1).R e w base ok v xs := ⟨hok, encs enc xs, ho, reps_scalar xs⟩
theorem own_of_R {α : Type} {enc : α → Value} {h1 : ∀ x, (enc x).oneCell' = true} {e : Nat} {w : World} {base : Nat} {ok : Nat → Prop} {v : Value} {xs : List α} (h : (scalar enc h1).R e w base ok v xs) : w.ownsRow base e 1 v xs.length (encs enc xs) := by
  obtain ⟨_, inner, ho, hr⟩ := h
  have : inner = encs enc xs := by
    apply List.ext_getElem?
    intro j
    rcases Nat.lt_or_ge j xs.length with hj | hj
    · have h2 := hr.2 j _ (List.getElem?_eq_getElem hj)
      have hl : j < inner.length := by have := hr.1; simp [scalar] at this; omega
      have h3 : (inner.drop (j * 1)).take 1 = [enc xs[j]] := h2
      rw [Nat.mul_one, List.drop_eq_getElem_cons hl] at h3
      have h4 : inner[j] = enc xs[j] := by
        have h5 := congrArg List.head? h3
        rw [List.take_succ_cons] at h5
        exact Option.some.inj h5
      rw [List.getElem?_eq_getElem hl, h4]
      simp [encs, List.getElem?_eq_getElem hj]
    · have h3 : inner.length = xs.length := by have := hr.1; simp [scalar] at this; omega
      rw [List.getElem?_eq_none (by omega), List.getElem?_eq_none (by rw [encs_length]; omega)]
  rw [← this]
  exact ho
theorem reads_of_C {α : Type} {enc : α → Value} {d : α} {h1 : ∀ x, (enc x).oneCell' = true} {w : World} {A : Option Addr} {n : Nat} {xs : List α} (h : (scalar enc h1).C w A n xs) : ReadsOf enc d w A n xs := by
  refine ⟨h.1, h.2.1, fun hn => ?_⟩
  obtain ⟨ad, e, hc⟩ := h.2.2 hn
  refine ⟨ad, e, fun j hj => ?_⟩
  have hl : j < xs.length := by have := h.1; omega
  obtain ⟨c, _, hK, hcell⟩ := hc j _ (List.getElem?_eq_getElem hl)
  have hK' : c = [enc xs[j]] := hK
  subst hK'
  have := hcell 0 _ rfl
  simpa [scalar, List.getD_eq_getElem?_getD, List.getElem?_eq_getElem hl] using this
end Kd
namespace Kd
section
variable {α : Type} {F : Kd α → Kd α} {sz : Nat} {E : List Nat} {hs : ∀ n, (upto F sz E n).sz = sz} {hE : ∀ n q, q ∈ (upto F sz E n).E → q ∈ E}
end
end Kd
namespace Kd
end Kd
namespace Kd
section
variable {α β : Type} {d : Kd α} {d' : Kd β} {e e' : Nat} {w w1 W : World} {base b b' : Nat} {ok ok' okv oku : Nat → Prop} {v u : Value} {xs : List α} {ys : List β}
theorem R_alloc (h : d.R e w base ok v xs) (o : Obj) : d.R e (w.alloc o) base ok v xs := R_below h (below_alloc (Below.refl _ _) o)
theorem R_drew (h : d.R e w base ok v xs) : d.R e w.drew base ok v xs := R_below h (below_drew (Below.refl _ _))
theorem R_drewN (h : d.R e w base ok v xs) (m : Nat) : d.R e (w.drewN m) base ok v xs := R_below h (pw_below_drewN (Below.refl _ _) m)
theorem C_alloc {A : Option Addr} {n : Nat} (h : d.C w A n xs) (o : Obj) : d.C (w.alloc o) A n xs := C_below h (below_alloc (Below.refl _ _) o)
theorem C_drew {A : Option Addr} {n : Nat} (h : d.C w A n xs) : d.C w.drew A n xs := C_below h (below_drew (Below.refl _ _))
theorem C_drewN {A : Option Addr} {n : Nat} (h : d.C w A n xs) (m : Nat) : d.C (w.drewN m) A n xs := C_below h (pw_below_drewN (Below.refl _ _) m)
theorem C_nil (d : Kd α) (w : World) : d.C w none ([] : List α).length [] := ⟨rfl, by simp, fun h => absurd h (Nat.lt_irrefl 0)⟩
theorem R_reads' {A : Option Addr} {n c : Nat} (h : d.R e w base ok (.slice A n c) xs) : n = xs.length ∧ n ≤ c ∧ d.C w A xs.length xs := by
  obtain ⟨A', c', he, hl, hr⟩ := R_reads h
  injection he with h1 h2 h3
  subst h1
  exact ⟨h2, by omega, hr⟩
theorem R_lt (h : d.R e w base ok v xs) : ∀ k, v.ownBlock = some k → k < w.heap.size := by
  obtain ⟨inner, ho⟩ := R_own h
  exact own_lt ho
theorem R_form (h : d.R e w base ok v xs) (hp : 0 < xs.length) : ∃ g cap, v = .slice (some ⟨g, 0, none⟩) xs.length cap ∧ base ≤ g ∧ g < w.heap.size ∧ ∃ cells, w.heap[g]? = some (.cells cells e (0, 0)) := by
  obtain ⟨inner, ho⟩ := R_own h
  obtain ⟨g, cap, he, hb, hl⟩ := ho.form hp
  obtain ⟨cells, hc⟩ := own_typed ho g (by rw [he]; simp [Value.ownBlock])
  exact ⟨g, cap, he, hb, hl, cells, hc⟩
end
section
variable {w W : World} {A : Option Addr} {n : Nat}
theorem at_int {k : IntKind} {xs : List Int} (h : (Kd.int k).C w A n xs) (i : Int) (h0 : 0 ≤ i) (h1 : i < n) : ∃ ad, A = some ad ∧ w.cell? (ad.add i.toNat) = some (.int k (rd xs i)) :=
  ReadsOf.at_ (reads_of_C (enc := Value.int k) (d := (0 : Int)) (h1 := fun _ => rfl) h) i h0 h1
variable {α : Type} {enc : α → Value} {h1 : ∀ x, (enc x).oneCell' = true} {e base g cap : Nat} {ok : Nat → Prop} {xs : List α}
theorem R_cell (d : α) (h : (scalar enc h1).R e W base ok (.slice (some ⟨g, 0, none⟩) xs.length cap) xs) (i : Int) (h0 : 0 ≤ i) (hi : i < xs.length) : W.cell? ⟨g, i.toNat, none⟩ = some (enc (rdOf d xs i)) ∧ W.frozen? ⟨g, i.toNat, none⟩ = false := own_at_of (own_of_R h) i h0 hi
theorem R_put (h : (scalar enc h1).R e W base ok (.slice (some ⟨g, 0, none⟩) xs.length cap) xs) (i : Int) (x : α) : (scalar enc h1).R e (W.setCell ⟨g, i.toNat, none⟩ (enc x)) base ok (.slice (some ⟨g, 0, none⟩) xs.length cap) (xs.set i.toNat x) ∧ W.grownBy (W.setCell ⟨g, i.toNat, none⟩ (enc x)) (some g) := by
  obtain ⟨ho, hg⟩ := own_store_of (own_of_R h) i x
  exact ⟨R_of_own (by rw [List.length_set]; exact ho) h.1, hg⟩
end
section
variable {P : Program} {ops : Array Oper} {rest : List Oper} {o : Oper} {a : Act} {Q : Exit → Act → World → Prop}
theorem event_run {W w1 : World} {v : Value} (hgd : o.guard = none) (hrun : (execOp a.eval o).run P W = .ok (.value v) w1) (h : wpList P ops Q rest (a.put o.dst v) w1) : wpList P ops Q (o :: rest) a W := by
  refine wpList_plain hgd fun K hK => ?_
  unfold Oper.wp
  rw [hrun]
  exact hK _ _ h
variable {α : Type}
theorem R_lit (d : Kd α) {w0 W : World} (base e : Nat) (hgd : o.guard = none) {N : Tmp} (_hd : o.dst = some N) {xs : List α} {inner : List Value} {ok okp : Nat → Prop}
    (hrun : (execOp a.eval o).run P W = .ok (.value (.slice (some ⟨W.heap.size, 0, none⟩) xs.length xs.length)) (W.alloc (.cells inner.toArray e)))
    (hrep : Reps (d.M W base okp) d.sz xs inner) (hok : ∀ k, okp k → ok k) (hfresh : ok W.heap.size) (HB : Below base w0 W) (hbase : base ≤ W.heap.size) (hm : xs.length ≤ 9223372036854775807)
    (h : ∀ v1 w1, d.R e w1 base ok v1 xs → Below base w0 w1 → W.grownBy w1 none → (∃ b, v1.ownBlock = some b ∧ W.heap.size ≤ b) → wpList P ops Q rest (a.put o.dst v1) w1) : wpList P ops Q (o :: rest) a W := by
  refine event_run hgd hrun (h _ _ ⟨fun k hk => ?_, inner, ?_, ?_⟩ (HB.alloc hbase _) (World.grownBy_alloc W _ none) ⟨W.heap.size, by simp [Value.ownBlock], Nat.le_refl _⟩)
  · have : W.heap.size = k := by simpa [Value.ownBlock] using hk
    subst this
    exact hfresh
  · have h2 := World.ownsRow_lit (base := base) (e := e) (size := d.sz) W inner.toArray xs.length hbase (by simpa [maxLen] using hm) (by simpa using hrep.1)
    simpa using h2
  · refine hrep.imp_ (fun p c hp => d.M_mono (fun k hk => ⟨hok k hk.1, fun he => ?_⟩) (M_below (d.M_bound hp) (below_alloc (Below.refl _ _) _)))
    have h3 : k = W.heap.size := by simpa [Value.ownBlock] using he
    have := hk.2.2.1
    omega
theorem reps_made {α : Type} {R : α → List Value → Prop} {z : Value} {size : Nat} {z0 : α} (hz : z.cells.size = size) (hs : 0 < size) (h0 : R z0 z.cells.toList) (m : Nat) : Reps R size (List.replicate m z0) (madeCells z.cells (m * size)).toList := by
  refine ⟨by simp [size_madeCells], fun j p hj => ?_⟩
  obtain ⟨hjl, hp⟩ := List.getElem?_eq_some_iff.1 hj
  have hjm : j < m := by simpa using hjl
  have hp' : z0 = p := by simpa using hp
  subst hp'
  have hle : j * size + size ≤ m * size := by rw [← Nat.succ_mul]; exact Nat.mul_le_mul_right _ hjm
  have : ((madeCells z.cells (m * size)).toList.drop (j * size)).take size = z.cells.toList := by
    apply List.ext_getElem
    · simp [size_madeCells, hz]
      omega
    · intro i h1 h2
      have hi : i < size := by rw [Array.length_toList, hz] at h2; exact h2
      have hmod : (j * size + i) % size = i := by
        rw [Nat.mul_comm, Nat.mul_add_mod]
        exact Nat.mod_eq_of_lt hi
      simp [madeCells, hz, hmod]
      rw [getElem!_pos z.cells i (by omega)]
  rw [this]
  exact h0
theorem R_make (d : Kd α) {w0 W : World} (base e : Nat) (hgd : o.guard = none) {N : Tmp} (hd : o.dst = some N) (t : TypeId) (x y : Operand) (ho : o.op = .makeSlice t x y) (n : Int) (hx : a.eval x = .int .i64 n) (hy : a.eval y = .int .i64 n)
    (ht : P.underlying t = some (.slice e)) (z : Value) (bytes : Nat) (hinfo : (P.info? e).map (fun i => (i.zero, i.size, i.bytes)) = some (some z, d.sz, bytes)) (hz : z.cells.size = d.sz) (hs0 : 0 < d.sz) (hb0 : 0 < bytes)
    (z0 : α) {ok okp : Nat → Prop} (hzero : d.M W base okp z0 z.cells.toList) (hok : ∀ k, okp k → ok k) (hfresh : ok W.heap.size) (h0 : 0 ≤ n) (hl : n.toNat * bytes ≤ 281474976710656) (HB : Below base w0 W) (hbase : base ≤ W.heap.size)
    (h : ∀ v1 w1, d.R e w1 base ok v1 (List.replicate n.toNat z0) → Below base w0 w1 → W.grownBy w1 none → (∃ b, v1.ownBlock = some b ∧ W.heap.size ≤ b) → wpList P ops Q rest (a.put o.dst v1) w1) : wpList P ops Q (o :: rest) a W := by
  obtain ⟨m, rfl⟩ := Int.eq_ofNat_of_zero_le h0
  simp only [Int.toNat_natCast] at hl h
  obtain ⟨i0, hi, hzz⟩ := Option.map_eq_some_iff.1 hinfo
  simp only [Prod.mk.injEq] at hzz
  obtain ⟨hz0, hz1, hz2⟩ := hzz
  have hm : m ≤ 281474976710656 := Nat.le_trans (Nat.le_mul_of_pos_right _ hb0) hl
  have hr := run_make (P := P) W t e i0 z ht hi hz0 .i64 .i64 (m : Int) (m : Int) (by omega) (by omega)
    (by
      have h3 : ((i0.bytes * m : Nat) : Int) ≤ 281474976710656 := by rw [hz2, Nat.mul_comm]; omega
      rwa [Int.natCast_mul] at h3) (by omega)
  simp only [Int.toNat_natCast] at hr
  rw [hz1] at hr
  refine R_lit d base e hgd hd (xs := List.replicate m z0) (inner := (madeCells z.cells (m * d.sz)).toList) (okp := okp) (ok := ok) ?_ (reps_made hz hs0 hzero m) hok hfresh HB hbase (by simp; omega) h
  simp [execOp, ho, hx, hy, hr]
end
end Kd
section
variable {P : Program}
end
def QRow (w : World) (base : Nat) (e : TypeId) (size : Nat) (v : Value) (n : Nat) (xs : List Value) : Prop :=
  xs.length = n * size ∧
  ((n = 0 ∧ ∃ A, v = .slice A 0 0 ∧ ∀ a, A = some a → base ≤ a.block ∧ ∃ cur, w.heap[a.block]? = some (.cells cur e (0, 0))) ∨
   ∃ g off cap cur, v = .slice (some ⟨g, off * size, none⟩) n cap ∧ base ≤ g ∧ w.heap[g]? = some (.cells cur e (0, 0)) ∧ n ≤ cap ∧ off + cap ≤ maxLen ∧ cur.size = (off + cap) * size ∧ (cur.toList.drop (off * size)).take (n * size) = xs)
section
variable {w w1 : World} {base n size : Nat} {e : TypeId} {v : Value} {xs : List Value}
theorem q_of_own (h : w.ownsRow base e size v n xs) : QRow w base e size v n xs := by
  obtain ⟨h1, h2⟩ := h
  refine ⟨h1, ?_⟩
  rcases h2 with ⟨rfl, h0⟩ | ⟨g, cap, cur, rfl, hb, hh, hnc, hcm, hcs, ht⟩
  · exact .inl ⟨h0, none, rfl, fun a ha => by cases ha⟩
  · exact .inr ⟨g, 0, cap, cur, by rw [Nat.zero_mul], hb, hh, hnc, by rw [Nat.zero_add]; exact hcm, by rw [Nat.zero_add]; exact hcs, by rw [Nat.zero_mul, List.drop_zero]; exact ht⟩
end
section
variable {P : Program}
end
namespace Kd
def Q {α : Type} (d : Kd α) (e : Nat) (w : World) (base : Nat) (ok : Nat → Prop) (v : Value) (xs : List α) : Prop :=
  (∀ k, v.ownBlock = some k → ok k) ∧ ∃ inner, QRow w base e d.sz v xs.length inner ∧ Reps (d.M w base (fun k => ok k ∧ some k ≠ v.ownBlock)) d.sz xs inner
section
variable {α : Type} {d : Kd α} {e : Nat} {w w1 W : World} {base : Nat} {ok ok' : Nat → Prop} {v : Value} {xs : List α}
theorem Q_of_R (h : d.R e w base ok v xs) : d.Q e w base ok v xs := by
  obtain ⟨h0, inner, ho, hr⟩ := h
  exact ⟨h0, inner, q_of_own ho, hr⟩
theorem Q_nil (d : Kd α) (e : Nat) (w : World) (base : Nat) (ok : Nat → Prop) : d.Q e w base ok (.slice none 0 0) [] := Q_of_R (R_nil d e w base ok)
end
section
variable {P : Program} {ops : Array Oper} {rest : List Oper} {o : Oper} {a : Act} {Q' : Exit → Act → World → Prop} {Kc : Act → World → Prop} {α : Type}
end
end Kd
namespace Kd
section
variable {α : Type} {d : Kd α} {e e' : Nat} {w w1 W : World} {base : Nat} {ok : Nat → Prop} {u v : Value} {xs : List α}
theorem R_typed (h : d.R e w base ok v xs) : ∀ k, v.ownBlock = some k → ∃ cells, w.heap[k]? = some (.cells cells e (0, 0)) := by
  obtain ⟨inner, ho⟩ := R_own h
  exact fun k hk => own_typed ho k hk
theorem R_over' (h : d.R e W base ok u xs) (hty : ∀ k, v.ownBlock = some k → ∃ cells, W.heap[k]? = some (.cells cells e' (0, 0))) (ht : ∀ q, q ∈ e :: d.E → q ≠ e') (hg : W.grownBy w1 v.ownBlock) : d.R e w1 base ok u xs := by
  refine R_mono (R_move (R_bound h) (fun k hk => hg.block k hk.2.2.1 (fun he => ?_))) (fun _ hk => hk.1)
  obtain ⟨_, _, _, q, hq, cells, hc⟩ := hk
  obtain ⟨cells', hc'⟩ := hty k he.symm
  rw [hc] at hc'
  injection hc' with hc'
  injection hc' with _ hc'
  exact ht q hq hc'
end
end Kd
namespace Kd
section
variable {α : Type} {d : Kd α} {e base g n cap : Nat} {ok okp : Nat → Prop} {W : World} {xs : List α}
end
end Kd
namespace Kd
section
variable {α : Type} {F : Kd α → Kd α} {sz : Nat} {E : List Nat} {hs : ∀ n, (upto F sz E n).sz = sz} {hE : ∀ n q, q ∈ (upto F sz E n).E → q ∈ E}
end
end Kd
namespace Kd
theorem reps_append {α : Type} {R : α → List Value → Prop} {size : Nat} {ps qs : List α} {cs ds : List Value} (h : Reps R size ps cs) (h' : Reps R size qs ds) : Reps R size (ps ++ qs) (cs ++ ds) := by
  refine ⟨by rw [List.length_append, List.length_append, h.1, h'.1, Nat.add_mul], fun j p hj => ?_⟩
  rcases Nat.lt_or_ge j ps.length with hlt | hge
  · rw [List.getElem?_append_left hlt] at hj
    have hle : j * size + size ≤ cs.length := by rw [h.1, ← Nat.succ_mul]; exact Nat.mul_le_mul_right _ hlt
    rw [List.drop_append_of_le_length (by omega), List.take_append_of_le_length (by rw [List.length_drop]; omega)]
    exact h.2 j p hj
  · rw [List.getElem?_append_right hge] at hj
    have h2 := h'.2 (j - ps.length) p hj
    have hle : ps.length * size ≤ j * size := Nat.mul_le_mul_right _ hge
    rw [List.drop_append, List.drop_eq_nil_of_le (by rw [h.1]; exact hle), List.nil_append, h.1, ← Nat.sub_mul]
    exact h2
section
variable {P : Program} {ops : Array Oper} {rest : List Oper} {o : Oper} {a : Act} {Q : Exit → Act → World → Prop} {α : Type}
theorem R_append_rows (d : Kd α) {Rr : α → List Value → Prop} {w0 W : World} (base : Nat) (hgd : o.guard = none) (s x : Operand) (t e : TypeId) (z : Value) (bytes : Nat)
    (ho : o.op = .call { callee := .builtin .append, args := #[s, x], argTypes := #[t, t] })
    (ht : P.underlying t = some (.slice e)) (hinfo : (P.info? e).map (fun i => (i.zero, i.size, i.bytes)) = some (some z, d.sz, bytes)) (hz : z.cells.size = d.sz) (hs0 : 0 < d.sz) (hb0 : 0 < bytes)
    (v : Value) (xs ys : List α) (A : Option Addr) (m c : Nat) (ok okp : Nat → Prop) (hs : a.eval s = v) (hx : a.eval x = .slice A m c)
    (HO : d.R e W base ok v xs) (HR : ReadsRow Rr d.sz W A m ys) (hKM : ∀ x cs, Rr x cs → d.M W base okp x cs) (hokp : ∀ k, okp k → ok k ∧ some k ≠ v.ownBlock) (hfresh : ∀ k, W.heap.size ≤ k → ok k)
    (HB : Below base w0 W) (hbase : base ≤ W.heap.size) (hl : (xs.length + m) * bytes ≤ 140737488355328)
    (h : ∀ v1 w1, d.R e w1 base ok v1 (xs ++ ys) → Below base w0 w1 → W.grownBy w1 v.ownBlock → (v1.ownBlock = v.ownBlock ∨ ∃ b, v1.ownBlock = some b ∧ W.heap.size ≤ b) → wpList P ops Q rest (a.put o.dst v1) w1) :
    wpList P ops Q (o :: rest) a W := by
  obtain ⟨i0, hi, hzz⟩ := Option.map_eq_some_iff.1 hinfo
  simp only [Prod.mk.injEq] at hzz
  obtain ⟨hz0, hz1, hz2⟩ := hzz
  have hm : ys.length = m := HR.1
  have hlen : xs.length + m ≤ 140737488355328 := Nat.le_trans (Nat.le_mul_of_pos_right _ hb0) hl
  obtain ⟨hok, inner, hown, hr⟩ := HO
  have hrun : ∃ v1 w1, (Builtin.append_ #[t, t] o.type #[v, .slice A m c]).run P W = .ok v1 w1 ∧ d.R e w1 base ok v1 (xs ++ ys) ∧ W.grownBy w1 v.ownBlock ∧ (v1.ownBlock = v.ownBlock ∨ ∃ b, v1.ownBlock = some b ∧ W.heap.size ≤ b) := by
    rcases A with _ | ad
    · have h0 : m = 0 := by
        rcases Nat.eq_zero_or_pos m with h0 | h0
        · exact h0
        · obtain ⟨ad, h, _⟩ := HR.2.2 h0
          cases h
      subst h0
      obtain rfl : ys = [] := List.eq_nil_of_length_eq_zero hm
      refine ⟨v, W, ?_, by rw [List.append_nil]; exact ⟨hok, inner, hown, hr⟩, World.grownBy.refl W _, .inl rfl⟩
      rcases hown.2 with ⟨rfl, hn⟩ | ⟨g, cap, cur, rfl, _, _, hnc, _⟩
      · simp [Builtin.append_, run_underlying ht, sizeOf, typeInfo, hi, Builtin.lenOf, Builtin.firstCells]
      · simp [Builtin.append_, run_underlying ht, sizeOf, typeInfo, hi, Builtin.lenOf, Builtin.firstCells, hnc, storeCells]
    · obtain ⟨news, hnr, hnc⟩ := ReadsRow.inner_ HR
      have hnM : Reps (d.M W base okp) d.sz ys news := hnr.imp_ (fun p c hp => hKM p c hp)
      have hone : ∀ u ∈ news, u.oneCell' = true := by
        intro u hu
        obtain ⟨q, hq, rfl⟩ := List.mem_iff_getElem.1 hu
        have hql : q / d.sz < ys.length := by
          rw [Nat.div_lt_iff_lt_mul hs0]
          rw [← hnM.1]
          exact hq
        have hc := hnM.2 (q / d.sz) _ (List.getElem?_eq_getElem hql)
        refine d.K_one (d.K_of_M hc) _ ?_
        rw [List.mem_iff_getElem?]
        refine ⟨q % d.sz, ?_⟩
        rw [List.getElem?_take, if_pos (Nat.mod_lt _ hs0), List.getElem?_drop, Nat.mul_comm, Nat.div_add_mod, List.getElem?_eq_getElem hq]
      obtain ⟨v1, w1, hrun, h2, hg, _, hat⟩ := run_append_own_at (P := P) W base t o.type e i0 z d.sz bytes ht hi hz0 hz1 hz2 hz hs0 v xs.length inner hown ad m c news (by rw [hnM.1, hm]) hnc hone (by simp only [maxLen]; omega) hl hbase
      have hat' : v1.ownBlock = v.ownBlock ∨ ∃ b, v1.ownBlock = some b ∧ W.heap.size ≤ b := by
        rcases hat with hat | hat
        · exact .inl hat
        · exact .inr ⟨_, hat, Nat.le_refl _⟩
      have hne : ∀ k, some k ≠ v.ownBlock → k < W.heap.size → some k ≠ v1.ownBlock := by
        intro k hk hlt
        rcases hat' with hat | ⟨b, hb, hle⟩
        · rw [hat]; exact hk
        · rw [hb]
          intro he
          injection he with he
          omega
      have step : ∀ {q : α} {c : List Value} {o : Nat → Prop}, d.M W base o q c → (∀ k, o k → ok k ∧ some k ≠ v.ownBlock) → d.M w1 base (fun k => ok k ∧ some k ≠ v1.ownBlock) q c := by
        intro q c o hq ho
        have h1 := d.M_move (w1 := w1) (fun k hk => hg.block k hk.2.2.1 (ho k hk.1).2) (d.M_bound hq)
        exact d.M_mono (fun k hk => ⟨(ho k hk.1).1, hne k (ho k hk.1).2 hk.2.2.1⟩) h1
      refine ⟨v1, w1, hrun, ⟨fun k hk => ?_, inner ++ news, by rw [List.length_append, hm]; exact h2, reps_append (hr.imp_ (fun _ _ hq => step hq (fun _ hk => hk))) (hnM.imp_ (fun _ _ hq => step hq hokp))⟩, hg, hat'⟩
      rcases hat' with hat | ⟨b, hb, hle⟩
      · exact hok k (hat ▸ hk)
      · rw [hb] at hk
        injection hk with hk
        exact hfresh k (by omega)
  obtain ⟨v1, w1, hr1, h1, hg, hat⟩ := hrun
  refine wpList_plain hgd fun K hK => ?_
  unfold Oper.wp execOp
  simp only [ho, resolve, invoke, builtin, Sem.run_bind, Sem.run_pure, Result.andThen_ok, List.map_toArray, List.map_cons, List.map_nil, hs, hx, hr1]
  exact hK _ _ (h v1 w1 h1 (HB.grown hg hbase (own_base hown)) hg hat)
end
end Kd
namespace Kd
section
variable {P : Program} {ops : Array Oper} {rest : List Oper} {o : Oper} {a : Act} {Q : Exit → Act → World → Prop} {α : Type}
end
end Kd
theorem add_add (a : Addr) (i j : Nat) : (a.add i).add j = a.add (i + j) := by
  unfold Addr.add
  by_cases h1 : i = 0 <;> by_cases h2 : j = 0 <;> simp [h1, h2, Nat.add_assoc]
namespace Kd
section
variable {α : Type} {k : Kd α} {w : World} {A : Option Addr} {xs : List α} {m c : Nat}
end
end Kd
section
variable {P : Program}
end
theorem below_size {w W : World} (h : Below w.heap.size w W) : w.heap.size ≤ W.heap.size := h.size
theorem below_step {w W w2 : World} (h : Below w.heap.size w W) (k : Below W.heap.size W w2) : Below w.heap.size w w2 := below_then h h.size k
theorem ReadsInt.nil (W : World) (k : IntKind) : ReadsInt W k none ([] : List Int).length [] := ⟨rfl, by simp, fun h => absurd h (Nat.lt_irrefl 0)⟩
theorem ReadsInt.drewN {W : World} {k : IntKind} {A : Option Addr} {n : Nat} {xs : List Int} (h : ReadsInt W k A n xs) (m : Nat) : ReadsInt (W.drewN m) k A n xs := h
theorem below_set {w W : World} {g j : Nat} {v : Value} (h : Below w.heap.size w W) (hg : w.heap.size ≤ g) : Below w.heap.size w (W.setCell ⟨g, j, none⟩ v) := h.setCell hg _
theorem keep_cell {w W : World} {g : Nat} (h : KeepBut w W g none) {a : Addr} {v : Value} (hc : w.cell? a = some v) (hne : a.block ≠ g) : W.cell? a = some v := by
  have := h.2 a.block (World.block_lt_of_cell? w a hc) hne (by simp)
  simpa [World.cell?, this] using hc
theorem add_block (a : Addr) (i : Nat) : (a.add i).block = a.block := by unfold Addr.add; split <;> rfl
theorem ReadsOf.nil {α : Type} (enc : α → Value) (d : α) (W : World) : ReadsOf enc d W none ([] : List α).length [] := ⟨rfl, by simp, fun h => absurd h (Nat.lt_irrefl 0)⟩
theorem ReadsOf.drewN {α : Type} {enc : α → Value} {d : α} {W : World} {A : Option Addr} {n : Nat} {xs : List α} (h : ReadsOf enc d W A n xs) (m : Nat) : ReadsOf enc d (W.drewN m) A n xs := h
theorem ReadsInt.keep {w W : World} {k : IntKind} {A : Option Addr} {n g : Nat} {xs : List Int} (h : ReadsInt w k A n xs) (hk : KeepBut w W g none) (hf : ∀ ad, A = some ad → 0 < n → ad.block ≠ g) : ReadsInt W k A n xs :=
  ⟨h.1, h.2.1, fun hn => by
    obtain ⟨ad, e, hc⟩ := h.2.2 hn
    exact ⟨ad, e, fun j hj => keep_cell hk (hc j hj) (by rw [add_block]; exact hf ad e hn)⟩⟩
theorem ReadsOf.keep {α : Type} {enc : α → Value} {d : α} {w W : World} {A : Option Addr} {n g : Nat} {xs : List α} (h : ReadsOf enc d w A n xs) (hk : KeepBut w W g none) (hf : ∀ ad, A = some ad → 0 < n → ad.block ≠ g) : ReadsOf enc d W A n xs :=
  ⟨h.1, h.2.1, fun hn => by
    obtain ⟨ad, e, hc⟩ := h.2.2 hn
    exact ⟨ad, e, fun j hj => keep_cell hk (hc j hj) (by rw [add_block]; exact hf ad e hn)⟩⟩
theorem blk_put {w : World} {g : Nat} {t : TypeId} {cs cs' : Array Value} (h : w.heap[g]? = some (.cells cs t (0, 0))) (i : Nat) (u : Value) (e : cs.setIfInBounds i u = cs') : (w.setCell ⟨g, i, none⟩ u).heap[g]? = some (.cells cs' t (0, 0)) := e ▸ blk_set h i u
theorem below_drew1 {base : Nat} {w W : World} (h : Below base w W) : Below base w W.drew := h.drew
namespace Kd
section
variable {α β : Type} {d : Kd α} {d' : Kd β} {e e' base base' n : Nat} {ok ok' : Nat → Prop} {w W w1 W1 : World} {v u : Value} {xs : List α} {ys : List β} {A : Option Addr} {c : Nat}
end
section
variable {α : Type} {enc : α → Value} {h1 : ∀ x, (enc x).oneCell' = true} {w W : World} {A : Option Addr} {n g : Nat} {xs : List α}
end
end Kd
namespace Kd
section
variable {α : Type} {d : Kd α} {e base g : Nat} {ok : Nat → Prop} {w w1 : World} {v : Value} {xs : List α} {o : Obj}
end
end Kd
section
variable {P : Program} {ops : Array Oper} {rest : List Oper} {o : Oper} {a : Act} {Q : Exit → Act → World → Prop}
theorem box_event {W : World} (hgd : o.guard = none) {N : Tmp} (_hd : o.dst = some N) {cs : Array Value} {t : TypeId}
    (hrun : (execOp a.eval o).run P W = .ok (.value (.pointer (some ⟨W.heap.size, 0, none⟩))) (W.alloc (.cells cs t (0, 0))))
    (h : ∀ g, g = W.heap.size → ∀ w1, w1.heap[g]? = some (.cells cs t (0, 0)) → Below W.heap.size W w1 → wpList P ops Q rest (a.put o.dst (.pointer (some ⟨g, 0, none⟩))) w1) : wpList P ops Q (o :: rest) a W :=
  Kd.event_run hgd hrun (h _ rfl _ (blk_new W _) (below_alloc (Below.refl _ _) _))
end
namespace Kd
section
variable {α : Type} {enc : α → Value} {h1 : ∀ x, (enc x).oneCell' = true} {e base g n cap : Nat} {ok : Nat → Prop} {W : World} {xs : List α}
theorem R_celln (d : α) (h : (scalar enc h1).R e W base ok (.slice (some ⟨g, 0, none⟩) n cap) xs) (i : Int) (h0 : 0 ≤ i) (hi : i < n) : W.cell? ⟨g, i.toNat, none⟩ = some (enc (rdOf d xs i)) ∧ W.frozen? ⟨g, i.toNat, none⟩ = false := by
  obtain ⟨rfl, _⟩ := R_reads' h
  exact R_cell d h i h0 hi
theorem R_putn (h : (scalar enc h1).R e W base ok (.slice (some ⟨g, 0, none⟩) n cap) xs) (i : Int) (x : α) : (scalar enc h1).R e (W.setCell ⟨g, i.toNat, none⟩ (enc x)) base ok (.slice (some ⟨g, 0, none⟩) n cap) (xs.set i.toNat x) := by
  obtain ⟨rfl, _⟩ := R_reads' h
  exact (R_put h i x).1
end
end Kd
section
variable {P : Program} {ops : Array Oper} {rest : List Oper} {o : Oper} {a : Act} {Q : Exit → Act → World → Prop}
theorem store_event {W w1 : World} (hgd : o.guard = none) {t : TypeId} {p : Tmp} {v : Operand} (_ho : o.op = .store t (.tmp p) v) (hN : o.dst = none)
    (hrun : (execOp a.eval o).run P W = .ok .skip w1) (h : ∀ w', w' = w1 → wpList P ops Q rest a w') : wpList P ops Q (o :: rest) a W := by
  refine wpList_plain hgd fun K hK => ?_
  unfold Oper.wp
  rw [hrun]
  show K (a.put o.dst undef) w1
  rw [hN]
  exact hK _ _ (h _ rfl)
end
namespace Kd
section
variable {α : Type} {enc : α → Value} {h1 : ∀ x, (enc x).oneCell' = true} {e base g n cap : Nat} {ok : Nat → Prop} {W : World} {xs : List α}
theorem R_putg (h : (scalar enc h1).R e W base ok (.slice (some ⟨g, 0, none⟩) n cap) xs) (i : Int) (x : α) : (scalar enc h1).R e (W.setCell ⟨g, i.toNat, none⟩ (enc x)) base ok (.slice (some ⟨g, 0, none⟩) n cap) (xs.set i.toNat x) ∧ W.grownBy (W.setCell ⟨g, i.toNat, none⟩ (enc x)) (some g) := by
  obtain ⟨rfl, _⟩ := R_reads' h
  exact R_put h i x
end
end Kd
section
variable {P : Program} {ops : Array Oper} {rest : List Oper} {o : Oper} {a : Act} {Q : Exit → Act → World → Prop} {W : World}
theorem gate_dst {N : Tmp} (_hN : o.dst = some N) (h : wpList P ops Q (o :: rest) a W) : wpList P ops Q (o :: rest) a W := h
theorem gate_store {t : TypeId} {p : Tmp} {v : Operand} (_ho : o.op = .store t (.tmp p) v) (h : wpList P ops Q (o :: rest) a W) : wpList P ops Q (o :: rest) a W := h
end
section
variable {P : Program} {ops : Array Oper} {o : Oper} {a : Act} {Q : Exit → Act → World → Prop} {Kc : Act → World → Prop}
namespace Kd
variable {α : Type}
end Kd
end
section
variable {P : Program} {tmps : Array Value} {w : World}
end
namespace Kd
section
variable {P : Program} {α : Type}
end
section
variable {P : Program} {ops : Array Oper} {rest : List Oper} {o : Oper} {a : Act} {Q : Exit → Act → World → Prop} {Kc : Act → World → Prop} {α : Type}
end
end Kd
end Go.Proofs.YtpjobcnfjpbaeaaW.PrintWords

namespace Go.Proofs.YtpjobcnfjpbaeaaW.PrintLast
section
variable {P : Program} {ops : Array Oper} {Q : Exit → Act → World → Prop} {md : Region.Mode} {S : World → Prop} {ds : List Nat}
def Region.reachB (md : Region.Mode) (ops : Array Oper) (i : Nat) : Nat → Nat → Bool
  | 0, _ => false
  | fuel + 1, d => match ops[d]? with
    | some o => o.after.any fun e => Region.binds md e && (e.on == i || Region.reachB md ops i fuel e.on)
    | none => false
def Region.closedB (md : Region.Mode) (ops : Array Oper) (listed : Array Bool) : Bool :=
  (List.range ops.size).all fun j => !listed.getD j false || match ops[j]? with
    | some o => o.after.all fun e => !Region.binds md e || listed.getD e.on false
    | none => true
def Region.lastB (md : Region.Mode) (ops : Array Oper) (listed : Array Bool) (ds : List Nat) (i : Nat) : Bool :=
  ds.all fun d => listed.getD d true || Region.reachB md ops i ops.size d
def ListedClosed (md : Region.Mode) (ops : Array Oper) (listed : Array Bool) : Prop :=
  ∀ j oj, ops[j]? = some oj → listed.getD j false = true → ∀ e ∈ oj.after, Region.binds md e = true → listed.getD e.on false = true
theorem Region.closedB_spec {listed : Array Bool} (h : Region.closedB md ops listed = true) : ListedClosed md ops listed := by
  intro j oj hj hl e he hb
  have hlt : j < ops.size := (Array.getElem?_eq_some_iff.1 hj).1
  have h1 := List.all_eq_true.1 h j (List.mem_range.2 hlt)
  simp only [hl, hj, Bool.not_true, Bool.false_or] at h1
  have h2 := Array.all_eq_true_iff_forall_mem.1 h1 e he
  simpa [hb] using h2
theorem ListedClosed.set {listed : Array Bool} {i : Nat} (h : ListedClosed md ops listed) (hi : i ∈ Region.ready md ops listed) : ListedClosed md ops (listed.setIfInBounds i true) := by
  obtain ⟨_, oi, hoi, hall⟩ := mem_ready.1 hi
  intro j oj hj hl e he hb
  by_cases hij : i = j
  · subst hij
    have : oj = oi := Option.some.inj (hj.symm.trans hoi)
    subst this
    exact getD_set_true (hall e he hb)
  · rw [getD_set_ne false hij] at hl
    exact getD_set_true (h j oj hj hl e he hb)
theorem Region.reach_listed {listed : Array Bool} {i : Nat} (hc : ListedClosed md ops listed) : ∀ (fuel d : Nat), Region.reachB md ops i fuel d = true → listed.getD d false = true → listed.getD i false = true
  | 0, _, h, _ => by simp [Region.reachB] at h
  | fuel + 1, d, h, hl => by
    unfold Region.reachB at h
    cases ho : ops[d]? with
    | none => rw [ho] at h; simp at h
    | some o =>
      rw [ho] at h
      obtain ⟨e, he, h1⟩ := Array.any_eq_true'.1 h
      simp only [Bool.and_eq_true, Bool.or_eq_true, beq_iff_eq] at h1
      have hle := hc d o ho hl e he h1.1
      rcases h1.2 with h2 | h2
      · rw [← h2]; exact hle
      · exact Region.reach_listed hc fuel e.on h2 hle
theorem Region.reach_not_ready {listed : Array Bool} {i d fuel : Nat} (hc : ListedClosed md ops listed) (hr : Region.reachB md ops i fuel d = true) (hun : listed.getD i true = false) : d ∉ Region.ready md ops listed := by
  intro hd
  obtain ⟨_, o, ho, hall⟩ := mem_ready.1 hd
  have hi : listed.getD i false = true := by
    cases fuel with
    | zero => simp [Region.reachB] at hr
    | succ n =>
      unfold Region.reachB at hr
      rw [ho] at hr
      obtain ⟨e, he, h1⟩ := Array.any_eq_true'.1 hr
      simp only [Bool.and_eq_true, Bool.or_eq_true, beq_iff_eq] at h1
      have hle := hall e he h1.1
      rcases h1.2 with h2 | h2
      · rw [← h2]; exact hle
      · exact Region.reach_listed hc n e.on h2 hle
  rcases Nat.lt_or_ge i listed.size with h' | h'
  · simp [h'] at hun hi
    rw [hun] at hi
    cases hi
  · simp [Array.getElem?_eq_none h'] at hun
def wpAnyLast (P : Program) (md : Region.Mode) (ops : Array Oper) (Q : Exit → Act → World → Prop) (S : World → Prop) (ds : List Nat) : Nat → Array Bool → Act → World → Prop
  | 0, listed, a, w => Region.ready md ops listed = [] ∧ Q .normal a w
  | fuel + 1, listed, a, w =>
    (Region.ready md ops listed = [] → Q .normal a w) ∧
    ∀ i ∈ Region.ready md ops listed, wpOp P ops Q i (fun a' w' => (i ∉ ds → S w → S w') ∧ wpAnyLast P md ops Q S ds fuel (listed.setIfInBounds i true) a' w') a w
theorem wpAny_of_last : ∀ (fuel : Nat) (listed : Array Bool) (a : Act) (w : World), wpAnyLast P md ops Q S ds fuel listed a w → wpAny P md ops Q fuel listed a w
  | 0, _, _, _, h => h
  | fuel + 1, _, _, _, h => ⟨h.1, fun i hi => wpOp_mono (fun a' w' h' => wpAny_of_last fuel _ a' w' h'.2) (h.2 i hi)⟩
theorem wpAnyLast_first {i : Nat} {oi : Oper} {v : Value} (hi : ops[i]? = some oi) (hsel : ∀ (j : Nat) (o : Oper) cs b, ops[j]? = some o → o.op ≠ .select cs b)
    (hQ : ∀ c a w, Q (.panic c) (a.put oi.dst v) w → Q (.panic c) a w) (n : Nat) :
    ∀ (fuel : Nat) (listed : Array Bool) (a : Act) (w : World),
      (∀ j oj, ops[j]? = some oj → j ≠ i → listed.getD j true = false → (∀ e ∈ oj.after, Region.binds md e = true → e.on ≠ i) → oi.apart ops oj = true) →
      ListedClosed md ops listed → (∀ d ∈ ds, listed.getD d true = false → Region.reachB md ops i n d = true) →
      i ∈ Region.ready md ops listed → YieldsIf P ops S oi v a → S w →
      wpAnyLast P md ops Q S ds fuel (listed.setIfInBounds i true) (a.put oi.dst v) w → wpAnyLast P md ops Q S ds (fuel + 1) listed a w := by
  intro fuel
  induction fuel with
  | zero =>
    intro listed a w _ _ _ hr hy hS H
    refine ⟨fun h => (by rw [h] at hr; cases hr), fun j hj => ?_⟩
    by_cases hji : j = i
    · subst hji; exact hy.wpOp hi hS ⟨fun _ h => h, H⟩
    · have := ready_mono hj hji
      rw [H.1] at this
      cases this
  | succ fuel ih =>
    intro listed a w hfree hc hd hr hy hS H
    refine ⟨fun h => (by rw [h] at hr; cases hr), fun j hj => ?_⟩
    by_cases hji : j = i
    · subst hji; exact hy.wpOp hi hS ⟨fun _ h => h, H⟩
    · have h1 := H.2 j (ready_mono hj hji)
      obtain ⟨hjun, oj, hoj, hall⟩ := mem_ready.1 hj
      have hiun := (mem_ready.1 hr).1
      have hnot : ∀ e ∈ oj.after, Region.binds md e = true → e.on ≠ i := fun e he hb heq => by
        have h1 := hall e he hb
        rw [heq] at h1
        rcases Nat.lt_or_ge i listed.size with h' | h'
        · simp [h'] at hiun h1; rw [hiun] at h1; cases h1
        · simp [Array.getElem?_eq_none h'] at h1
      have hjd : j ∉ ds := fun hm => Region.reach_not_ready hc (hd j hm hjun) hiun hj
      have h2 := wpOp_putIf hoj (hfree j oj hoj hji hjun hnot) (fun cs b => hsel i oi cs b hi) (fun cs b => hsel j oj cs b hoj) hQ hy h1
      have hfree' : ∀ k ok, ops[k]? = some ok → k ≠ i → (listed.setIfInBounds j true).getD k true = false →
          (∀ e ∈ ok.after, Region.binds md e = true → e.on ≠ i) → oi.apart ops ok = true := fun k ok hk hki hun hno => by
        refine hfree k ok hk hki ?_ hno
        by_cases hjk : j = k
        · subst hjk; exact hjun
        · rw [getD_set_ne true hjk] at hun; exact hun
      have hd' : ∀ d ∈ ds, (listed.setIfInBounds j true).getD d true = false → Region.reachB md ops i n d = true := fun d hm hun => by
        refine hd d hm ?_
        by_cases hjk : j = d
        · subst hjk; exact hjun
        · rw [getD_set_ne true hjk] at hun; exact hun
      refine wpOp_mono (fun a' w' h3 => ⟨h3.2.1, ih (listed.setIfInBounds j true) a' w' hfree' (hc.set hj) hd' (ready_mono hr (Ne.symm hji)) h3.1 (h3.2.1 hjd hS) ?_⟩) h2
      rw [Array.setIfInBounds_comm _ _ hji]
      exact h3.2.2
theorem wpAnyLast_any {i : Nat} {oi : Oper} {v : Value} (hi : ops[i]? = some oi) (hsel : ∀ (j : Nat) (o : Oper) cs b, ops[j]? = some o → o.op ≠ .select cs b)
    (hQ : ∀ c a w, Q (.panic c) (a.put oi.dst v) w → Q (.panic c) a w) :
    ∀ (fuel : Nat) (listed : Array Bool) (a : Act) (w : World),
      (∀ j oj, ops[j]? = some oj → j ≠ i → listed.getD j true = false → (∀ e ∈ oj.after, Region.binds md e = true → e.on ≠ i) → oi.apart ops oj = true) →
      i ∈ Region.ready md ops listed → Yields P ops oi v a →
      wpAnyLast P md ops Q S ds fuel (listed.setIfInBounds i true) (a.put oi.dst v) w → wpAnyLast P md ops Q S ds (fuel + 1) listed a w := by
  intro fuel
  induction fuel with
  | zero =>
    intro listed a w _ hr hy H
    refine ⟨fun h => (by rw [h] at hr; cases hr), fun j hj => ?_⟩
    by_cases hji : j = i
    · subst hji; exact (hy.yieldsIf (S := fun _ => True)).wpOp hi trivial ⟨fun _ h => h, H⟩
    · have := ready_mono hj hji
      rw [H.1] at this
      cases this
  | succ fuel ih =>
    intro listed a w hfree hr hy H
    refine ⟨fun h => (by rw [h] at hr; cases hr), fun j hj => ?_⟩
    by_cases hji : j = i
    · subst hji; exact (hy.yieldsIf (S := fun _ => True)).wpOp hi trivial ⟨fun _ h => h, H⟩
    · have h1 := H.2 j (ready_mono hj hji)
      obtain ⟨hjun, oj, hoj, hall⟩ := mem_ready.1 hj
      have hiun := (mem_ready.1 hr).1
      have hnot : ∀ e ∈ oj.after, Region.binds md e = true → e.on ≠ i := fun e he hb heq => by
        have h1 := hall e he hb
        rw [heq] at h1
        rcases Nat.lt_or_ge i listed.size with h' | h'
        · simp [h'] at hiun h1; rw [hiun] at h1; cases h1
        · simp [Array.getElem?_eq_none h'] at h1
      have h2 := wpOp_put hoj (hfree j oj hoj hji hjun hnot) (fun cs b => hsel i oi cs b hi) (fun cs b => hsel j oj cs b hoj) hQ hy h1
      have hfree' : ∀ k ok, ops[k]? = some ok → k ≠ i → (listed.setIfInBounds j true).getD k true = false →
          (∀ e ∈ ok.after, Region.binds md e = true → e.on ≠ i) → oi.apart ops ok = true := fun k ok hk hki hun hno => by
        refine hfree k ok hk hki ?_ hno
        by_cases hjk : j = k
        · subst hjk; exact hjun
        · rw [getD_set_ne true hjk] at hun; exact hun
      refine wpOp_mono (fun a' w' h3 => ⟨h3.2.1, ih (listed.setIfInBounds j true) a' w' hfree' (ready_mono hr (Ne.symm hji)) h3.1 ?_⟩) h2
      rw [Array.setIfInBounds_comm _ _ hji]
      exact h3.2.2
theorem wpAnyLast_take {i : Nat} {oi : Oper} {v : Value} {fuel : Nat} {listed : Array Bool} {a : Act} {w : World} (hi : ops[i]? = some oi)
    (hs : Region.noSelect ops = true) (hf : Region.free md ops listed i = true) (hr : (Region.ready md ops listed).contains i = true)
    (hc : Region.closedB md ops listed = true) (hl : Region.lastB md ops listed ds i = true)
    (hQ : ∀ c a w, Q (.panic c) (a.put oi.dst v) w → Q (.panic c) a w) (hy : YieldsIf P ops S oi v a) (hS : S w)
    (h : wpAnyLast P md ops Q S ds fuel (listed.setIfInBounds i true) (a.put oi.dst v) w) : wpAnyLast P md ops Q S ds (fuel + 1) listed a w :=
  wpAnyLast_first hi (Region.noSelect_spec hs) hQ ops.size fuel listed a w (Region.free_spec hi hf) (Region.closedB_spec hc)
    (fun d hm hun => by have := List.all_eq_true.1 hl d hm; rw [hun] at this; simpa using this) (by simpa using hr) hy hS h
theorem wpAnyLast_all {rs : List Nat} {fuel : Nat} {listed : Array Bool} {a : Act} {w : World} (hr : Region.ready md ops listed = rs) (hne : rs ≠ [])
    (h : ∀ i ∈ rs, wpOp P ops Q i (fun a' w' => (i ∉ ds → S w → S w') ∧ wpAnyLast P md ops Q S ds fuel (listed.setIfInBounds i true) a' w') a w) : wpAnyLast P md ops Q S ds (fuel + 1) listed a w :=
  ⟨fun h0 => absurd (hr ▸ h0) hne, hr ▸ h⟩
theorem wpAnyLast_done {listed : Array Bool} {a : Act} {w : World} (hr : Region.ready md ops listed = []) (h : Q .normal a w) :
    ∀ fuel, wpAnyLast P md ops Q S ds fuel listed a w
  | 0 => ⟨hr, h⟩
  | _ + 1 => ⟨fun _ => h, by rw [hr]; simp⟩
theorem wp_region_last {id : Nat} {a : Act} {w : World} (hm : P.follows .mixedOrders = true)
    (h : wpAnyLast P .any ops Q S ds ops.size (Array.replicate ops.size false) a { w with drawn := w.drawn + 1 }) : (Code.region id ops true).wp P Q a w :=
  wp_region_any hm (wpAny_of_last _ _ _ _ h)
end
section
variable {P : Program} {ops : Array Oper} {Q : Exit → Act → World → Prop} {md : Region.Mode} {S : World → Prop} {ds : List Nat}
def AllReadyL (P : Program) (md : Region.Mode) (ops : Array Oper) (Q : Exit → Act → World → Prop) (S : World → Prop) (ds : List Nat) (fuel : Nat) (listed : Array Bool) (a : Act) (w : World) (rs : List Nat) : Prop :=
  ∀ i ∈ rs, wpOp P ops Q i (fun a' w' => (i ∉ ds → S w → S w') ∧ wpAnyLast P md ops Q S ds fuel (listed.setIfInBounds i true) a' w') a w
theorem AllReadyL.nil {fuel : Nat} {listed : Array Bool} {a : Act} {w : World} : AllReadyL P md ops Q S ds fuel listed a w [] := fun _ h => by cases h
theorem AllReadyL.cons {fuel : Nat} {listed : Array Bool} {a : Act} {w : World} {i : Nat} {o : Oper} {rs : List Nat} (ho : ops[i]? = some o) (hd : i ∉ ds)
    (h : ∀ K' : Act → World → Prop, Shut (∀ a w, S w → (S w → wpAnyLast P md ops Q S ds fuel (listed.setIfInBounds i true) a w) → K' a w) → if Region.wanted o (yielded ops a.tmps) = true then Oper.wp P o a w K' Q else K' (a.put o.dst undef) w)
    (hs : AllReadyL P md ops Q S ds fuel listed a w rs) : AllReadyL P md ops Q S ds fuel listed a w (i :: rs) := fun j hj => by
  rcases List.mem_cons.1 hj with rfl | hj
  · exact wpOp_step ho (fun K' hK => h K' (fun a w hS hW => hK a w ⟨fun _ _ => hS, hW hS⟩))
  · exact hs j hj
theorem wpAnyLast_ready {rs : List Nat} {fuel : Nat} {listed : Array Bool} {a : Act} {w : World} (hr : Region.ready md ops listed = rs) (hne : rs ≠ [])
    (h : AllReadyL P md ops Q S ds fuel listed a w rs) : wpAnyLast P md ops Q S ds (fuel + 1) listed a w := wpAnyLast_all hr hne h
theorem start_ {id n : Nat} {a : Act} {w : World} (l : Array Bool) (hm : P.follows .mixedOrders = true) (hn : ops.size = n) (hl : Array.replicate n false = l) (hS : S w.drew)
    (h : S w.drew → wpAnyLast P .any ops Q S ds n l a w.drew) : (Code.region id ops true).wp P Q a w := by
  subst hn
  subst hl
  exact wp_region_last hm (h hS)
def takeB (md : Region.Mode) (ops : Array Oper) (ds : List Nat) (l l' : Array Bool) (i : Nat) : Bool :=
  Region.noSelect ops && Region.free md ops l i && (Region.ready md ops l).contains i && Region.closedB md ops l && Region.lastB md ops l ds i && (l.setIfInBounds i true == l')
theorem take_ {i : Nat} {N : Option Tmp} {oi : Oper} {v : Value} {fuel : Nat} {l : Array Bool} {a : Act} {w : World} (l' : Array Bool) (hi : ops[i]? = some oi) (hN : oi.dst = N) (hc : takeB md ops ds l l' i = true)
    (hQ : ∀ c a w, Q (.panic c) (a.put oi.dst v) w → Q (.panic c) a w) (hy : YieldsIf P ops S oi v a) (hS : S w) {a' : Act} (ha : a.put N v = a')
    (h : wpAnyLast P md ops Q S ds fuel l' a' w) : wpAnyLast P md ops Q S ds (fuel + 1) l a w := by
  subst ha
  subst hN
  simp only [takeB, Bool.and_eq_true, beq_iff_eq] at hc
  obtain ⟨⟨⟨⟨⟨h1, h2⟩, h3⟩, h4⟩, h5⟩, h6⟩ := hc
  subst h6
  exact wpAnyLast_take hi h1 h2 h3 h4 h5 hQ hy hS h
def anyB (md : Region.Mode) (ops : Array Oper) (l l' : Array Bool) (i : Nat) : Bool :=
  Region.noSelect ops && Region.free md ops l i && (Region.ready md ops l).contains i && (l.setIfInBounds i true == l')
theorem pure_ {i : Nat} {N : Option Tmp} {oi : Oper} {v : Value} {fuel : Nat} {l : Array Bool} {a : Act} {w : World} (l' : Array Bool) (hi : ops[i]? = some oi) (hN : oi.dst = N) (hc : anyB md ops l l' i = true)
    (hQ : ∀ c a w, Q (.panic c) (a.put oi.dst v) w → Q (.panic c) a w) (hy : Yields P ops oi v a) {a' : Act} (ha : a.put N v = a')
    (h : wpAnyLast P md ops Q S ds fuel l' a' w) : wpAnyLast P md ops Q S ds (fuel + 1) l a w := by
  subst ha
  subst hN
  simp only [anyB, Bool.and_eq_true, beq_iff_eq] at hc
  obtain ⟨⟨⟨h1, h2⟩, h3⟩, h6⟩ := hc
  subst h6
  exact wpAnyLast_any hi (Region.noSelect_spec h1) hQ fuel l a w (Region.free_spec hi h2) (by simpa using h3) hy h
def readyB (md : Region.Mode) (ops : Array Oper) (l l' : Array Bool) (i : Nat) : Bool := (Region.ready md ops l == [i]) && (l.setIfInBounds i true == l')
theorem one_ {i : Nat} {N : Option Tmp} {oi : Oper} {fuel : Nat} {l : Array Bool} {a : Act} {w : World} (l' : Array Bool) (hi : ops[i]? = some oi) (hN : oi.dst = N) (hc : readyB md ops l l' i = true) (hd : i ∉ ds)
    (h : ∀ K : Act → World → Prop, Shut (∀ a' w', S w' → (S w' → wpAnyLast P md ops Q S ds fuel l' a' w') → K a' w') → if Region.wanted oi (yielded ops a.tmps) = true then Oper.wp P oi a w K Q else K (a.put N undef) w) :
    wpAnyLast P md ops Q S ds (fuel + 1) l a w := by
  subst hN
  simp only [readyB, Bool.and_eq_true, beq_iff_eq] at hc
  obtain ⟨h1, h2⟩ := hc
  subst h2
  exact wpAnyLast_ready h1 (by simp) (AllReadyL.cons hi hd (fun K hK => h K hK) AllReadyL.nil)
theorem done_ {l : Array Bool} {a : Act} {w : World} {n : Nat} (hr : (Region.ready md ops l == []) = true) (h : Q .normal a w) : wpAnyLast P md ops Q S ds n l a w := wpAnyLast_done (by simpa using hr) h n
theorem norm_ {fuel : Nat} {l : Array Bool} {a a' : Act} {w : World} (ha : a = a') (h : wpAnyLast P md ops Q S ds fuel l a' w) : wpAnyLast P md ops Q S ds fuel l a w := by
  subst ha
  exact h
theorem call_ {oi : Oper} {N : Option Tmp} {a : Act} {w : World} {K : Act → World → Prop} (f : FuncId) (args : Array Value) (hw : Region.wanted oi (yielded ops a.tmps) = true) (hN : oi.dst = N) (hrun : (execOp a.eval oi).run P w = .ok (.enter f args) w)
    (h : Calls P f args w fun e w' => ∃ v, e = .returned v ∧ K (a.put N v) w') : if Region.wanted oi (yielded ops a.tmps) = true then Oper.wp P oi a w K Q else K (a.put N undef) w := by
  rw [if_pos hw]
  subst hN
  unfold Oper.wp
  rw [hrun, Oper.upon_enter]
  refine h.mono fun e w'' hh => ?_
  obtain ⟨v, rfl, hk⟩ := hh
  exact hk
theorem enters_ {f : FuncId} {fn : Func} (hf : P.funcs[f]? = some fn) (hname : (fn.name == "runtime.NumGoroutine") = false) (hb : fn.body.isSome = true) (args : Array Value) (w : World) : (callFunc f args).run P w = .ok (.enter f args) w := by
  have h1 : fn.name ≠ "runtime.NumGoroutine" := by simpa using hname
  obtain ⟨c, hc⟩ := Option.isSome_iff_exists.1 hb
  simp [callFunc, hf, h1, hc]
theorem goes_ {oi : Oper} {N : Option Tmp} {a : Act} {w : World} {K : Act → World → Prop} {f : FuncId} {fn : Func} {as_ : Array Operand} {ts : Array TypeId} (hf : P.funcs[f]? = some fn) (hname : (fn.name == "runtime.NumGoroutine") = false) (hb : fn.body.isSome = true) (args : Array Value)
    (hw : Region.wanted oi (yielded ops a.tmps) = true) (hN : oi.dst = N) (hop : oi.op = .call { callee := .value (.func f), args := as_, argTypes := ts }) (hargs : as_.map a.eval = args)
    (h : Calls P f args w fun e w' => ∃ v, e = .returned v ∧ K (a.put N v) w') : if Region.wanted oi (yielded ops a.tmps) = true then Oper.wp P oi a w K Q else K (a.put N undef) w := by
  refine call_ f args hw hN ?_ h
  have he := enters_ hf hname hb args w
  unfold execOp
  simp [hop, resolve, Deferred.ofValue, invoke, Act.eval, hargs, he]
theorem goesL_ {rest : List Oper} {oi : Oper} {a : Act} {w : World} (N : Option Tmp) (hd : oi.dst = N) (hg : oi.guard = none) {f : FuncId} {fn : Func} {as_ : Array Operand} {ts : Array TypeId} (hf : P.funcs[f]? = some fn) (hname : (fn.name == "runtime.NumGoroutine") = false) (hb : fn.body.isSome = true) (args : Array Value)
    (hop : oi.op = .call { callee := .value (.func f), args := as_, argTypes := ts }) (hargs : as_.map a.eval = args)
    (h : Calls P f args w fun e w' => ∃ v, e = .returned v ∧ wpList P ops Q rest (a.put N v) w') : wpList P ops Q (oi :: rest) a w := by
  refine wpList_plain hg fun K hK => ?_
  have he := enters_ hf hname hb args w
  have hrun : (execOp a.eval oi).run P w = .ok (.enter f args) w := by
    unfold execOp
    simp [hop, resolve, Deferred.ofValue, invoke, Act.eval, hargs, he]
  unfold Oper.wp
  rw [hrun, Oper.upon_enter]
  refine h.mono fun e w'' hh => ?_
  obtain ⟨v, rfl, hk⟩ := hh
  subst hd
  exact hK _ _ hk
theorem i64_w (n : Int) : IntKind.i64.wrap n = Go.RowKit.wrap64 n := by unfold Go.RowKit.wrap64; exact IntKind.wrap_i64 n
theorem i32_w (n : Int) : IntKind.i32.wrap n = Go.RowKit.wrap32 n := by unfold Go.RowKit.wrap32; exact IntKind.wrap_i32 n
end
end Go.Proofs.YtpjobcnfjpbaeaaW.PrintLast

namespace Go.Proofs.YtpjobcnfjpbaeaaW.PrintLast
open Go.Proofs.YtpjobcnfjpbaeaaW.PrintWords (Aside0)
def needsOf (md : Region.Mode) (o : Oper) : List Nat := (o.after.toList.filter (fun e => Region.binds md e)).map (fun e => e.on)
def clashOf (md : Region.Mode) (ops : Array Oper) (i : Nat) (oi : Oper) : List Nat := (List.range ops.size).filter fun j => !(j == i) && match ops[j]? with
  | some oj => !(oj.after.any (fun e => Region.binds md e && e.on == i) || oi.apart ops oj)
  | none => false
def rtab (md : Region.Mode) (ops : Array Oper) : Bool × List (List Nat × List Nat) := (Region.noSelect ops, (List.range ops.size).map fun i => match ops[i]? with
  | some o => (needsOf md o, clashOf md ops i o)
  | none => ([], []))
def readyAt (T : List (List Nat × List Nat)) (l : List Bool) (i : Nat) : Bool := !l.getD i true && match T[i]? with
  | some r => r.1.all (fun j => l.getD j false)
  | none => false
def readyT (T : List (List Nat × List Nat)) (l : List Bool) : List Nat := (List.range T.length).filter (readyAt T l)
def freeT (T : List (List Nat × List Nat)) (l : List Bool) (i : Nat) : Bool := match T[i]? with
  | some r => r.2.all (fun j => l.getD j true)
  | none => false
def closedT (T : List (List Nat × List Nat)) (l : List Bool) : Bool := (List.range T.length).all fun j => !l.getD j false || match T[j]? with
  | some r => r.1.all (fun k => l.getD k false)
  | none => true
def reachT (T : List (List Nat × List Nat)) (i : Nat) : Nat → Nat → Bool
  | 0, _ => false
  | fuel + 1, d => match T[d]? with
    | some r => r.1.any fun j => j == i || reachT T i fuel j
    | none => false
def lastT (T : List (List Nat × List Nat)) (l : List Bool) (ds : List Nat) (i : Nat) : Bool := ds.all fun d => l.getD d true || reachT T i T.length d
section
variable {md : Region.Mode} {ops : Array Oper} {T : Bool × List (List Nat × List Nat)} {l l' li lj lk : Array Bool} {ds : List Nat} {i j k : Nat}
theorem gd (l : Array Bool) (j : Nat) (b : Bool) : l.getD j b = l.toList.getD j b := by simp [Array.getD_eq_getD_getElem?, List.getD_eq_getElem?_getD]
theorem needs_all (o : Oper) (p : Nat → Bool) : o.after.all (fun e => !Region.binds md e || p e.on) = (needsOf md o).all p := by
  unfold needsOf
  rw [← Array.all_toList]
  induction o.after.toList with
  | nil => rfl
  | cons e r ih =>
    rw [List.all_cons, ih, List.filter_cons]
    cases h : Region.binds md e <;> simp
theorem needs_any (o : Oper) (p : Nat → Bool) : o.after.any (fun e => Region.binds md e && p e.on) = (needsOf md o).any p := by
  unfold needsOf
  rw [← Array.any_toList]
  induction o.after.toList with
  | nil => rfl
  | cons e r ih =>
    rw [List.any_cons, ih, List.filter_cons]
    cases h : Region.binds md e <;> simp
theorem rtab_length : (rtab md ops).2.length = ops.size := by simp [rtab]
theorem rtab_some {o : Oper} (h : ops[i]? = some o) : (rtab md ops).2[i]? = some (needsOf md o, clashOf md ops i o) := by
  have hi := (Array.getElem?_eq_some_iff.1 h).1
  unfold rtab
  rw [List.getElem?_map, List.getElem?_range hi, Option.map_some, h]
theorem rtab_none (h : ops[i]? = none) : (rtab md ops).2[i]? = none := by
  have hi : ops.size ≤ i := Array.getElem?_eq_none_iff.1 h
  exact List.getElem?_eq_none (by rw [rtab_length]; exact hi)
theorem readyAt_eq : readyAt (rtab md ops).2 l.toList i = (!l.getD i true && ((ops[i]?).map (·.after.all fun e => !Region.binds md e || l.getD e.on false)).getD false) := by
  unfold readyAt
  rw [gd]
  cases h : ops[i]? with
  | none => rw [rtab_none h]; rfl
  | some o =>
    rw [rtab_some h]
    simp only [Option.map_some, Option.getD_some]
    rw [← needs_all]
    simp only [gd]
theorem ready_eq : Region.ready md ops l = readyT (rtab md ops).2 l.toList := by
  unfold Region.ready readyT
  rw [rtab_length]
  refine List.filter_congr (fun i _ => ?_)
  rw [readyAt_eq]
theorem free_eq : Region.free md ops l i = freeT (rtab md ops).2 l.toList i := by
  unfold Region.free freeT
  cases h : ops[i]? with
  | none => rw [rtab_none h]
  | some oi =>
    rw [rtab_some h]
    simp only [clashOf]
    rw [List.all_filter]
    congr 1
    funext j
    rw [gd]
    cases hj : ops[j]? with
    | none => cases (j == i) <;> cases (l.toList.getD j true) <;> simp
    | some oj =>
      cases (j == i) <;> cases (l.toList.getD j true) <;> cases (oj.after.any (fun e => Region.binds md e && e.on == i) || oi.apart ops oj) <;> simp_all
theorem closed_eq : Region.closedB md ops l = closedT (rtab md ops).2 l.toList := by
  unfold Region.closedB closedT
  rw [rtab_length]
  congr 1
  funext j
  rw [gd]
  cases h : ops[j]? with
  | none => rw [rtab_none h]
  | some o =>
    rw [rtab_some h]
    simp only
    rw [← needs_all]
    simp only [gd]
theorem reach_eq : ∀ (fuel d : Nat), Region.reachB md ops i fuel d = reachT (rtab md ops).2 i fuel d
  | 0, _ => rfl
  | fuel + 1, d => by
    unfold Region.reachB reachT
    cases h : ops[d]? with
    | none => rw [rtab_none h]
    | some o =>
      rw [rtab_some h]
      simp only
      rw [← needs_any]
      congr 1
      funext e
      rw [reach_eq fuel]
theorem last_eq : Region.lastB md ops l ds i = lastT (rtab md ops).2 l.toList ds i := by
  unfold Region.lastB lastT
  rw [rtab_length]
  congr 1
  funext d
  rw [gd, reach_eq]
theorem readyAt_mem (h : readyAt T.2 l.toList i = true) (hT : rtab md ops = T) : (Region.ready md ops l).contains i = true := by
  subst hT
  rw [ready_eq]
  unfold readyT
  rw [List.contains_iff_mem, List.mem_filter, List.mem_range]
  refine ⟨?_, h⟩
  unfold readyAt at h
  rw [Bool.and_eq_true] at h
  cases hq : (rtab md ops).2[i]? with
  | none => rw [hq] at h; simp at h
  | some r => exact (List.getElem?_eq_some_iff.1 hq).1
theorem set_of (h : (l.toList.set i true == l'.toList) = true) : (l.setIfInBounds i true == l') = true := by
  rw [beq_iff_eq] at h ⊢
  apply Array.ext'
  rw [Array.toList_setIfInBounds]
  exact h
def anyT (T : Bool × List (List Nat × List Nat)) (l l' : List Bool) (i : Nat) : Bool := T.1 && freeT T.2 l i && readyAt T.2 l i && (l.set i true == l')
theorem any_of (hT : rtab md ops = T) (h : anyT T l.toList l'.toList i = true) : anyB md ops l l' i = true := by
  simp only [anyT, Bool.and_eq_true] at h
  obtain ⟨⟨⟨h1, h2⟩, h3⟩, h4⟩ := h
  have h5 := readyAt_mem h3 hT
  have h6 := set_of h4
  subst hT
  simp only [anyB, Bool.and_eq_true]
  exact ⟨⟨⟨h1, by rw [free_eq]; exact h2⟩, h5⟩, h6⟩
def takeT (T : Bool × List (List Nat × List Nat)) (ds : List Nat) (l l' : List Bool) (i : Nat) : Bool := T.1 && freeT T.2 l i && readyAt T.2 l i && closedT T.2 l && lastT T.2 l ds i && (l.set i true == l')
theorem take_of (hT : rtab md ops = T) (h : takeT T ds l.toList l'.toList i = true) : takeB md ops ds l l' i = true := by
  simp only [takeT, Bool.and_eq_true] at h
  obtain ⟨⟨⟨⟨⟨h1, h2⟩, h3⟩, h4⟩, h5⟩, h6⟩ := h
  have h7 := readyAt_mem h3 hT
  have h8 := set_of h6
  subst hT
  simp only [takeB, Bool.and_eq_true]
  exact ⟨⟨⟨⟨⟨h1, by rw [free_eq]; exact h2⟩, h7⟩, by rw [closed_eq]; exact h4⟩, by rw [last_eq]; exact h5⟩, h8⟩
theorem one_of (hT : rtab md ops = T) (h : (readyT T.2 l.toList == [i] && l.toList.set i true == l'.toList) = true) : readyB md ops l l' i = true := by
  simp only [Bool.and_eq_true] at h
  obtain ⟨h1, h2⟩ := h
  subst hT
  simp only [readyB, Bool.and_eq_true]
  exact ⟨by rw [ready_eq]; exact h1, set_of h2⟩
theorem done_of (hT : rtab md ops = T) (h : (readyT T.2 l.toList == []) = true) : (Region.ready md ops l == []) = true := by
  subst hT
  rw [ready_eq]
  exact h
def upM (B : List Nat) (d : Nat) : List Nat → Nat
  | [] => 0
  | n :: r => (2 ^ n ||| (if n < d then B.getD n 0 else 0)) ||| upM B d r
def waitsOk (T : List (List Nat × List Nat)) (B : List Nat) : Bool := (List.range T.length).all fun d => match T[d]? with
  | some r => (B.getD d 0 ||| upM B d r.1) == upM B d r.1
  | none => false
theorem upM_bit {B : List Nat} {d i : Nat} : ∀ {ns : List Nat}, (upM B d ns).testBit i = true → ∃ n ∈ ns, n = i ∨ (n < d ∧ (B.getD n 0).testBit i = true)
  | [], h => by simp [upM] at h
  | n :: r, h => by
    unfold upM at h
    rw [Nat.testBit_or, Nat.testBit_or, Bool.or_eq_true, Bool.or_eq_true] at h
    rcases h with (h | h) | h
    · rw [Nat.testBit_two_pow] at h
      exact ⟨n, List.mem_cons_self, .inl (by simpa using h)⟩
    · by_cases hn : n < d
      · rw [if_pos hn] at h
        exact ⟨n, List.mem_cons_self, .inr ⟨hn, h⟩⟩
      · rw [if_neg hn] at h
        simp at h
    · obtain ⟨m, hm, h2⟩ := upM_bit h
      exact ⟨m, List.mem_cons_of_mem _ hm, h2⟩
theorem reach_bit {T : List (List Nat × List Nat)} {B : List Nat} (hB : waitsOk T B = true) : ∀ (fuel d : Nat), d < fuel → d < T.length → (B.getD d 0).testBit i = true → reachT T i fuel d = true
  | 0, d, h, _, _ => by omega
  | fuel + 1, d, h, hd, hb => by
    have h1 := List.all_eq_true.1 hB d (List.mem_range.2 hd)
    cases hr : T[d]? with
    | none => rw [hr] at h1; simp at h1
    | some r =>
      rw [hr] at h1
      simp only [beq_iff_eq] at h1
      have h2 : (upM B d r.1).testBit i = true := by rw [← h1, Nat.testBit_or, hb, Bool.true_or]
      obtain ⟨n, hn, h3⟩ := upM_bit h2
      unfold reachT
      rw [hr]
      simp only
      rw [List.any_eq_true]
      refine ⟨n, hn, ?_⟩
      rcases h3 with rfl | ⟨h4, h5⟩
      · simp
      · rw [reach_bit hB fuel n (by omega) (by omega) h5, Bool.or_true]
def lastW (T : List (List Nat × List Nat)) (B : List Nat) (l : List Bool) (ds : List Nat) (i : Nat) : Bool := ds.all fun d => l.getD d true || (decide (d < T.length) && (B.getD d 0).testBit i)
def takeW (T : Bool × List (List Nat × List Nat)) (B : List Nat) (ds : List Nat) (l l' : List Bool) (i : Nat) : Bool := T.1 && freeT T.2 l i && readyAt T.2 l i && closedT T.2 l && lastW T.2 B l ds i && (l.set i true == l')
theorem take_ofW {B : List Nat} (hT : rtab md ops = T) (hB : waitsOk T.2 B = true) (h : takeW T B ds l.toList l'.toList i = true) : takeB md ops ds l l' i = true := by
  refine take_of hT ?_
  simp only [takeW, takeT, Bool.and_eq_true] at h ⊢
  obtain ⟨⟨⟨⟨⟨h1, h2⟩, h3⟩, h4⟩, h5⟩, h6⟩ := h
  refine ⟨⟨⟨⟨⟨h1, h2⟩, h3⟩, h4⟩, ?_⟩, h6⟩
  unfold lastW at h5
  unfold lastT
  rw [List.all_eq_true] at h5 ⊢
  intro d hd
  have h7 := h5 d hd
  rw [Bool.or_eq_true, Bool.and_eq_true, decide_eq_true_eq] at h7
  rcases h7 with h7 | ⟨h8, h9⟩
  · rw [h7, Bool.true_or]
  · rw [reach_bit hB _ d h8 h8 h9, Bool.or_true]
theorem with_tabW {P : Program} {Q : Exit → Act → World → Prop} {S : World → Prop} {n : Nat} {a : Act} {w : World} {B : List Nat} (hT : rtab md ops = T) (hB : waitsOk T.2 B = true) (h : Aside0 (rtab md ops = T) → Aside0 (waitsOk T.2 B = true) → wpAnyLast P md ops Q S ds n l a w) : wpAnyLast P md ops Q S ds n l a w := h ⟨hT⟩ ⟨hB⟩
end
def opsIn : Code → Nat → Option (Array Oper)
  | .region id ops _, k => if id == k then some ops else none
  | .seq a b, k => match opsIn a k with
    | some o => some o
    | none => opsIn b k
  | .cond _ a b, k => match opsIn a k with
    | some o => some o
    | none => opsIn b k
  | .block _ c, k => opsIn c k
  | .loop c, k => opsIn c k
  | .scope c, k => opsIn c k
  | .rangeFunc _ _ a b, k => match opsIn a k with
    | some o => some o
    | none => opsIn b k
  | _, _ => none
def opsOf (f : Func) (k : Nat) : Array Oper := ((f.body.bind fun c => opsIn c k)).getD #[]
end Go.Proofs.YtpjobcnfjpbaeaaW.PrintLast

namespace Go.Proofs.YtpjobcnfjpbaeaaW.PrintWords
open Go.RowKit
namespace Kd
def tag {α : Type} (f : Nat → Nat) (d : Kd α) : Kd (α × Nat) := {
  sz := d.sz
  E := d.E
  K := fun w x cs => d.K w x.1 cs
  M := fun w base ok x cs => d.M w base (fun k => ok k ∧ f k = x.2) x.1 cs
  K_len := fun h => d.K_len h
  K_one := fun h => d.K_one h
  K_below := fun hb h => d.K_below hb h
  K_of_M := fun h => d.K_of_M h
  M_mono := fun hok h => d.M_mono (fun k hk => ⟨hok k hk.1, hk.2⟩) h
  M_bound := fun h => d.M_mono (fun _ hk => ⟨⟨hk.1.1, hk.2⟩, hk.1.2⟩) (d.M_bound h)
  M_move := fun hm h => d.M_move (fun k hk => hm k hk.1) h
  M_lower := fun hb h => d.M_lower hb h }
def raw (sz : Nat) : Kd (List Value) := {
  sz := sz
  E := []
  K := fun _ x cs => cs = x ∧ cs.length = sz ∧ ∀ u ∈ cs, u.oneCell' = true
  M := fun _ _ _ x cs => cs = x ∧ cs.length = sz ∧ ∀ u ∈ cs, u.oneCell' = true
  K_len := fun h => h.2.1
  K_one := fun h => h.2.2
  K_below := fun _ h => h
  K_of_M := fun h => h
  M_mono := fun _ h => h
  M_bound := fun h => h
  M_move := fun _ h => h
  M_lower := fun _ h => h }
def S {α : Type} (d : Kd α) (e : Nat) (w : World) (base : Nat) (ok : Nat → Prop) (v : Value) (xs : List α) : Prop := ∃ f, (tag f d).R e w base ok v xs.zipIdx
section
variable {α β : Type} {d : Kd α} {d' : Kd β} {e e' : Nat} {w w1 W : World} {base b : Nat} {ok ok' okv oku : Nat → Prop} {u v : Value} {xs : List α} {ys : List β}
theorem S_nil (d : Kd α) (e : Nat) (w : World) (base : Nat) (ok : Nat → Prop) : S d e w base ok (.slice none 0 0) [] := ⟨fun _ => 0, R_nil _ _ _ _ _⟩
end
section
variable {α β : Type} {d : Kd α} {d' : Kd β} {e e' g : Nat} {w w1 W : World} {base b : Nat} {ok ok' okv oku : Nat → Prop} {u v : Value} {xs : List α} {ys : List β}
end
section
variable {P : Program} {ops : Array Oper} {rest : List Oper} {o : Oper} {a : Act} {Q : Exit → Act → World → Prop} {Kc : Act → World → Prop} {α : Type}
end
def gap {α : Type} (f : Nat → Nat) (d : Kd α) (i : Nat) (c : List Value) : Kd (α × Nat) := {
  sz := d.sz
  E := d.E
  K := fun w x cs => (x.2 = i → cs = c ∧ cs.length = d.sz ∧ ∀ u ∈ cs, u.oneCell' = true) ∧ (x.2 ≠ i → d.K w x.1 cs)
  M := fun w base ok x cs => (x.2 = i → cs = c ∧ cs.length = d.sz ∧ ∀ u ∈ cs, u.oneCell' = true) ∧ (x.2 ≠ i → d.M w base (fun k => ok k ∧ f k = x.2) x.1 cs)
  K_len := fun {w x cs} h => by
    by_cases hx : x.2 = i
    · exact (h.1 hx).2.1
    · exact d.K_len (h.2 hx)
  K_one := fun {w x cs} h => by
    by_cases hx : x.2 = i
    · exact (h.1 hx).2.2
    · exact d.K_one (h.2 hx)
  K_below := fun hb h => ⟨h.1, fun hx => d.K_below hb (h.2 hx)⟩
  K_of_M := fun h => ⟨h.1, fun hx => d.K_of_M (h.2 hx)⟩
  M_mono := fun hok h => ⟨h.1, fun hx => d.M_mono (fun k hk => ⟨hok k hk.1, hk.2⟩) (h.2 hx)⟩
  M_bound := fun h => ⟨h.1, fun hx => d.M_mono (fun _ hk => ⟨⟨hk.1.1, hk.2⟩, hk.1.2⟩) (d.M_bound (h.2 hx))⟩
  M_move := fun hm h => ⟨h.1, fun hx => d.M_move (fun k hk => hm k hk.1) (h.2 hx)⟩
  M_lower := fun hb h => ⟨h.1, fun hx => d.M_lower hb (h.2 hx)⟩ }
def H {α : Type} (d : Kd α) (e : Nat) (w : World) (base : Nat) (ok : Nat → Prop) (v : Value) (xs : List α) (i : Int) (oki : Nat → Prop) (c : List Value) : Prop :=
  (∀ k, oki k → ok k) ∧ ∃ f, (gap f d i.toNat c).R e w base (fun k => ok k ∧ ¬ oki k) v xs.zipIdx
section
variable {α β : Type} {d : Kd α} {e e' g n cap : Nat} {w w1 W : World} {base : Nat} {ok ok' oki okp : Nat → Prop} {u v : Value} {xs : List α} {i : Int} {c : List Value}
end
section
variable {P : Program} {ops : Array Oper} {rest : List Oper} {o : Oper} {a : Act} {Q : Exit → Act → World → Prop} {α : Type}
end
end Kd
end Go.Proofs.YtpjobcnfjpbaeaaW.PrintWords

namespace Go.Proofs.YtpjobcnfjpbaeaaW.PrintWords
open Go.RowKit
namespace Kd
structure Heap {α : Type} (d : Kd α) : Prop where
  K : ∀ {w w1 : World} {x : α} {cs : List Value}, (∀ k, k < w.heap.size → w1.heap[k]? = w.heap[k]?) → d.K w x cs → d.K w1 x cs
theorem cell_heap {w w1 : World} (hb : ∀ k, k < w.heap.size → w1.heap[k]? = w.heap[k]?) {a : Addr} {v : Value} (h : w.cell? a = some v) : w1.cell? a = some v := by
  have := hb a.block (World.block_lt_of_cell? w a h)
  simpa [World.cell?, this] using h
theorem Heap.C {α : Type} {d : Kd α} (hd : Heap d) {w w1 : World} {A : Option Addr} {n : Nat} {xs : List α} (hb : ∀ k, k < w.heap.size → w1.heap[k]? = w.heap[k]?) (h : d.C w A n xs) : d.C w1 A n xs :=
  ⟨h.1, h.2.1, fun hn => by
    obtain ⟨ad, e, hc⟩ := h.2.2 hn
    refine ⟨ad, e, fun j p hj => ?_⟩
    obtain ⟨c, hs, hr, hcell⟩ := hc j p hj
    exact ⟨c, hs, hd.K hb hr, fun i u hu => cell_heap hb (hcell i u hu)⟩⟩
section
variable {α : Type} {d : Kd α} {e base g n c : Nat} {ok : Nat → Prop} {w w0 W : World} {A : Option Addr} {xs : List α}
end
end Kd
end Go.Proofs.YtpjobcnfjpbaeaaW.PrintWords

namespace Go.Proofs.YtpjobcnfjpbaeaaW.PrintWords
open Go.RowKit
def Kept (w W : World) (S : Nat → Prop) : Prop := w.heap.size ≤ W.heap.size ∧ ∀ i, i < w.heap.size → ¬ S i → W.heap[i]? = w.heap[i]?
section
variable {w W W2 : World} {S S2 S' : Nat → Prop}
theorem Kept.refl (w : World) (S : Nat → Prop) : Kept w w S := ⟨Nat.le_refl _, fun _ _ _ => rfl⟩
theorem Kept.of_below (h : Below w.heap.size w W) (S : Nat → Prop) : Kept w W S := ⟨h.size, fun i hi _ => h.block i hi⟩
theorem Kept.mono (h : Kept w W S) (hs : ∀ k, S k → S' k) : Kept w W S' := ⟨h.1, fun i hi hn => h.2 i hi (fun hk => hn (hs i hk))⟩
theorem Kept.then_ (h : Kept w W S) (k : Kept W W2 S2) (hs : ∀ k, S2 k → S k ∨ w.heap.size ≤ k) : Kept w W2 S :=
  ⟨Nat.le_trans h.1 k.1, fun i hi hn => (k.2 i (Nat.lt_of_lt_of_le hi h.1) (fun h2 => (hs i h2).elim hn (fun h3 => by omega))).trans (h.2 i hi hn)⟩
theorem Kept.below (h : Kept w W S) (hb : Below W.heap.size W W2) : Kept w W2 S := h.then_ (Kept.of_below hb (fun _ => False)) (fun _ hk => hk.elim)
theorem Kept.alloc (h : Kept w W S) (o : Obj) : Kept w (W.alloc o) S := h.below (below_alloc (Below.refl _ _) o)
theorem Kept.drew (h : Kept w W S) : Kept w W.drew S := h
theorem Kept.drewN (h : Kept w W S) (m : Nat) : Kept w (W.drewN m) S := h
theorem Kept.setCell (h : Kept w W S) {p : Addr} (hp : S p.block ∨ w.heap.size ≤ p.block) (u : Value) : Kept w (W.setCell p u) S :=
  h.then_ (S2 := fun k => k = p.block) ⟨by simp [World.setCell], fun i _ hn => Below.heap_setCell W p u i hn⟩ (fun k hk => by rw [hk]; exact hp)
theorem Kept.keep {g : Nat} (h : KeepBut w W g none) (k : Kept W W2 S2) (hs : ∀ k, S2 k → w.heap.size ≤ k) : KeepBut w W2 g none :=
  ⟨Nat.le_trans h.1 k.1, fun i hi hg hr => (k.2 i (Nat.lt_of_lt_of_le hi h.1) (fun h2 => by have := hs i h2; omega)).trans (h.2 i hi hg hr)⟩
end
namespace Kd
section
variable {α : Type} {d : Kd α} {e base n c : Nat} {ok oki S S2 : Nat → Prop} {w w0 W W1 W2 : World} {v : Value} {A : Option Addr} {xs : List α} {i : Int} {cs : List Value}
end
end Kd
end Go.Proofs.YtpjobcnfjpbaeaaW.PrintWords

namespace Go.Proofs.YtpjobcnfjpbaeaaW.PrintWords
open Go.RowKit
def Foot (P : World → Prop) (W : World) (ok : Nat → Prop) : Prop := ∀ W' : World, (∀ k, ok k → k < W.heap.size → W'.heap[k]? = W.heap[k]?) → P W'
theorem heap_lt {W W1 : World} {k : Nat} (h : W1.heap[k]? = W.heap[k]?) (hlt : k < W.heap.size) : k < W1.heap.size := by
  rw [Array.getElem?_eq_getElem hlt] at h
  exact (Array.getElem?_eq_some_iff.1 h).1
namespace Foot
variable {P Q : World → Prop} {W W1 : World} {ok ok' : Nat → Prop}
theorem now (h : Foot P W ok) : P W := h W (fun _ _ _ => rfl)
theorem mono (h : Foot P W ok) (hok : ∀ k, ok k → ok' k) : Foot P W ok' := fun W' hW => h W' (fun k hk hlt => hW k (hok k hk) hlt)
theorem bound (h : Foot P W ok) : Foot P W (fun k => ok k ∧ k < W.heap.size) := fun W' hW => h W' (fun k hk hlt => hW k ⟨hk, hlt⟩ hlt)
theorem step (h : Foot P W ok) (hm : ∀ k, ok k → k < W.heap.size → W1.heap[k]? = W.heap[k]?) : Foot P W1 ok := fun W' hW => h W' (fun k hk hlt => (hW k hk (heap_lt (hm k hk hlt) hlt)).trans (hm k hk hlt))
theorem imp (h : Foot P W ok) (hi : ∀ W', P W' → Q W') : Foot Q W ok := fun W' hW => hi W' (h W' hW)
theorem old (h : Foot P W ok) (hb : Below W.heap.size W W1) : Foot P W1 (fun k => ok k ∧ k < W.heap.size) := (h.bound).step (fun k _ hlt => hb.block k hlt)
end Foot
namespace Kd
def F {α : Type} (d : Kd α) (W : World) (ok : Nat → Prop) (A : Option Addr) (n : Nat) (xs : List α) : Prop := Foot (fun W => d.C W A n xs) W ok
def FK {α : Type} (d : Kd α) (W : World) (ok : Nat → Prop) (x : α) (c : List Value) : Prop := Foot (fun W => d.K W x c) W ok
section
variable {α β : Type} {d : Kd α} {e base n n' cc g N : Nat} {ok ok' okp S : Nat → Prop} {w w0 w1 W W1 : World} {A A' : Option Addr} {u v v1 : Value} {xs : List α} {xs' : List β} {d' : Kd β} {x : α} {c : List Value}
theorem F_nil (d : Kd α) (W : World) (ok : Nat → Prop) : F d W ok none ([] : List α).length [] := fun W' _ => C_nil d W'
theorem FK_of_M (h : d.M W base ok x c) : FK d W ok x c := fun _ hW => d.K_of_M (M_step h hW)
end
end Kd
end Go.Proofs.YtpjobcnfjpbaeaaW.PrintWords

namespace Go.Proofs.YtpjobcnfjpbaeaaW.PrintWords
open Go.RowKit
namespace Kd
def chunks (sz : Nat) (n : Nat) (inner : List Value) : List (List Value) := (List.range n).map fun j => (inner.drop (j * sz)).take sz
theorem chunks_length (sz n : Nat) (inner : List Value) : (chunks sz n inner).length = n := by simp [chunks]
theorem chunks_at {sz n : Nat} {inner : List Value} {j : Nat} (hj : j < n) : (chunks sz n inner)[j]? = some ((inner.drop (j * sz)).take sz) := by simp [chunks, hj]
theorem chunks_get {sz n : Nat} {inner : List Value} {j : Nat} {c : List Value} (h : (chunks sz n inner)[j]? = some c) : c = (inner.drop (j * sz)).take sz := by
  have hj : j < n := by have := (List.getElem?_eq_some_iff.1 h).1; rwa [chunks_length] at this
  rw [chunks_at hj] at h
  injection h with h
  exact h.symm
theorem reps_raw {α : Type} {Rr : α → List Value → Prop} {sz : Nat} {xs : List α} {inner : List Value} (h : Reps Rr sz xs inner) (hR : ∀ x c, Rr x c → c.length = sz ∧ ∀ u ∈ c, u.oneCell' = true) : Reps (fun x cs => cs = x ∧ cs.length = sz ∧ ∀ u ∈ cs, u.oneCell' = true) sz (chunks sz xs.length inner) inner := by
  refine ⟨by rw [chunks_length]; exact h.1, fun j p hj => ?_⟩
  have hjl : j < xs.length := by have := (List.getElem?_eq_some_iff.1 hj).1; rwa [chunks_length] at this
  have hp := chunks_get hj
  exact ⟨hp.symm, hR _ _ (h.2 j _ (List.getElem?_eq_getElem hjl))⟩
section
variable {α : Type} {d : Kd α} {e base n cc g : Nat} {ok ok' okp S : Nat → Prop} {w w1 W W1 : World} {A : Option Addr} {u v v1 : Value} {xs : List α} {x : α} {c : List Value}
def N {α : Type} (d : Kd α) (e : Nat) (w : World) (base : Nat) (ok : Nat → Prop) (v : Value) (xs : List α) : Prop :=
  (∀ k, v.ownBlock = some k → ok k) ∧ ∃ rows : List (List Value), rows.length = xs.length ∧ (raw d.sz).R e w base (fun k => some k = v.ownBlock) v rows ∧ ∀ (j : Nat) (x : α) (c : List Value), xs[j]? = some x → rows[j]? = some c → FK d w (fun k => ok k ∧ some k ≠ v.ownBlock) x c
theorem R_N (h : d.R e w base ok v xs) : N d e w base ok v xs := by
  obtain ⟨h0, inner, ho, hr⟩ := h
  refine ⟨h0, chunks d.sz xs.length inner, chunks_length _ _ _, ⟨fun k hk => hk.symm, inner, by rw [chunks_length]; exact ho, reps_raw hr (fun x c hp => ⟨d.K_len (d.K_of_M hp), d.K_one (d.K_of_M hp)⟩)⟩, fun j x c hx hc => ?_⟩
  rw [chunks_get hc]
  exact FK_of_M (hr.2 j x hx)
theorem N_nil (d : Kd α) (e : Nat) (w : World) (base : Nat) (ok : Nat → Prop) : N d e w base ok (.slice none 0 0) [] := R_N (R_nil _ _ _ _ _)
end
end Kd
end Go.Proofs.YtpjobcnfjpbaeaaW.PrintWords

namespace Go.Proofs.YtpjobcnfjpbaeaaW.PrintWords
open Go.RowKit
section
variable {P : Program} {d : Nat} {xs ys : Array Value} {f : Field} {fs : List Field} {a b : Value} {r s : Bool} {w : World}
theorem eqf_last (hn : (f.name == "_") = false) (ha : (part f.type xs f.offset).run P w = .ok a w) (hb : (part f.type ys f.offset).run P w = .ok b w) (he : (Op.equalIn d f.type a b).run P w = .ok r w) : (Op.eqFields d xs ys [f]).run P w = .ok r w := by
  have hn' : f.name ≠ "_" := by simpa using hn
  simp only [Op.eqFields, if_pos hn', Sem.run_bind, ha, hb, he, Result.andThen_ok]
  cases r <;> simp
theorem eqf_cons (hn : (f.name == "_") = false) (ha : (part f.type xs f.offset).run P w = .ok a w) (hb : (part f.type ys f.offset).run P w = .ok b w) (he : (Op.equalIn d f.type a b).run P w = .ok r w) (hr : (Op.eqFields d xs ys fs).run P w = .ok s w) : (Op.eqFields d xs ys (f :: fs)).run P w = .ok (r && s) w := by
  have hn' : f.name ≠ "_" := by simpa using hn
  rw [Op.eqFields]
  simp only [if_pos hn', Sem.run_bind, ha, hb, he, Result.andThen_ok]
  cases r
  · simp
  · simpa using hr
theorem eqA_of {t : TypeId} {fs : Array Field} (hu : P.underlying t = some (.struct fs)) (hp : P.stoodInHeld t = false) (h : (Op.eqFields d xs ys fs.toList).run P w = .ok r w) : (Op.equalIn (d + 1) t (.agg xs) (.agg ys)).run P w = .ok r w := by
  have hf : P.fieldsOf t = fs := by simp [Program.fieldsOf, hu]
  rw [run_equalIn_struct (P := P) w d t xs ys (by rw [hf]; exact hu) hp, hf]
  exact h
end
end Go.Proofs.YtpjobcnfjpbaeaaW.PrintWords

namespace Go.Proofs.YtpjobcnfjpbaeaaW.PrintWords
theorem Reps.one {α : Type} {R : α → List Value → Prop} {ps : List α} {cs : List Value} {p : α} {v : Value} (hp : R p [v]) (h : Reps R 1 ps cs) : Reps R 1 (p :: ps) (v :: cs) := by
  refine ⟨by simp [h.1], fun j q hq => ?_⟩
  cases j with
  | zero =>
    simp only [List.getElem?_cons_zero, Option.some.injEq] at hq
    subst hq
    simpa using hp
  | succ j =>
    simp only [List.getElem?_cons_succ] at hq
    have h1 := h.2 j q hq
    simpa [Nat.mul_one] using h1
theorem Reps.front {α : Type} {R : α → List Value → Prop} {size : Nat} {ps : List α} {cs c all : List Value} {p : α} (hp : R p c) (hc : c.length = size) (h : Reps R size ps cs) (ha : c ++ cs = all) : Reps R size (p :: ps) all := by
  subst ha
  refine ⟨by rw [List.length_append, hc, h.1, List.length_cons, Nat.succ_mul, Nat.add_comm], fun j q hq => ?_⟩
  cases j with
  | zero =>
    simp only [List.getElem?_cons_zero, Option.some.injEq] at hq
    subst hq
    rw [Nat.zero_mul, List.drop_zero, List.take_append_of_le_length (by omega), List.take_of_length_le (by omega)]
    exact hp
  | succ j =>
    simp only [List.getElem?_cons_succ] at hq
    have h1 := h.2 j q hq
    rw [Nat.succ_mul, List.drop_append, List.drop_of_length_le (by rw [hc]; exact Nat.le_add_left _ _), List.nil_append, hc, Nat.add_sub_cancel]
    exact h1
theorem Reps.c2 {α : Type} {R : α → List Value → Prop} {ps : List α} {cs : List Value} {p : α} {va vb : Value} (hp : R p [va, vb]) (h : Reps R 2 ps cs) : Reps R 2 (p :: ps) (va :: vb :: cs) := Reps.front hp rfl h rfl
theorem Reps.c3 {α : Type} {R : α → List Value → Prop} {ps : List α} {cs : List Value} {p : α} {va vb vc : Value} (hp : R p [va, vb, vc]) (h : Reps R 3 ps cs) : Reps R 3 (p :: ps) (va :: vb :: vc :: cs) := Reps.front hp rfl h rfl
theorem Reps.c4 {α : Type} {R : α → List Value → Prop} {ps : List α} {cs : List Value} {p : α} {va vb vc vd : Value} (hp : R p [va, vb, vc, vd]) (h : Reps R 4 ps cs) : Reps R 4 (p :: ps) (va :: vb :: vc :: vd :: cs) := Reps.front hp rfl h rfl
theorem Reps.c5 {α : Type} {R : α → List Value → Prop} {ps : List α} {cs : List Value} {p : α} {va vb vc vd ve : Value} (hp : R p [va, vb, vc, vd, ve]) (h : Reps R 5 ps cs) : Reps R 5 (p :: ps) (va :: vb :: vc :: vd :: ve :: cs) := Reps.front hp rfl h rfl
theorem Reps.c6 {α : Type} {R : α → List Value → Prop} {ps : List α} {cs : List Value} {p : α} {va vb vc vd ve vf : Value} (hp : R p [va, vb, vc, vd, ve, vf]) (h : Reps R 6 ps cs) : Reps R 6 (p :: ps) (va :: vb :: vc :: vd :: ve :: vf :: cs) := Reps.front hp rfl h rfl
theorem Reps.c7 {α : Type} {R : α → List Value → Prop} {ps : List α} {cs : List Value} {p : α} {va vb vc vd ve vf vg : Value} (hp : R p [va, vb, vc, vd, ve, vf, vg]) (h : Reps R 7 ps cs) : Reps R 7 (p :: ps) (va :: vb :: vc :: vd :: ve :: vf :: vg :: cs) := Reps.front hp rfl h rfl
theorem Reps.c8 {α : Type} {R : α → List Value → Prop} {ps : List α} {cs : List Value} {p : α} {va vb vc vd ve vf vg vh : Value} (hp : R p [va, vb, vc, vd, ve, vf, vg, vh]) (h : Reps R 8 ps cs) : Reps R 8 (p :: ps) (va :: vb :: vc :: vd :: ve :: vf :: vg :: vh :: cs) := Reps.front hp rfl h rfl
theorem Reps.c9 {α : Type} {R : α → List Value → Prop} {ps : List α} {cs : List Value} {p : α} {va vb vc vd ve vf vg vh vi : Value} (hp : R p [va, vb, vc, vd, ve, vf, vg, vh, vi]) (h : Reps R 9 ps cs) : Reps R 9 (p :: ps) (va :: vb :: vc :: vd :: ve :: vf :: vg :: vh :: vi :: cs) := Reps.front hp rfl h rfl
theorem Reps.c10 {α : Type} {R : α → List Value → Prop} {ps : List α} {cs : List Value} {p : α} {va vb vc vd ve vf vg vh vi vj : Value} (hp : R p [va, vb, vc, vd, ve, vf, vg, vh, vi, vj]) (h : Reps R 10 ps cs) : Reps R 10 (p :: ps) (va :: vb :: vc :: vd :: ve :: vf :: vg :: vh :: vi :: vj :: cs) := Reps.front hp rfl h rfl
end Go.Proofs.YtpjobcnfjpbaeaaW.PrintWords

namespace Go.Proofs.YtpjobcnfjpbaeaaW.PrintLast
def up (b : Nat → Bool) (i : Nat) : Nat → Bool := fun j => if j = i then true else b j
section
variable {P : Program} {ops : Array Oper} {Q : Exit → Act → World → Prop} {md : Region.Mode} {T : Bool × List (List Nat × List Nat)} {B : List Nat} {O : List Nat} {b : Nat → Bool} {i j n : Nat}
theorem put_comm {a : Act} {s t : Tmp} {u v : Value} (h : s ≠ t) : (a.put (some s) u).put (some t) v = (a.put (some t) v).put (some s) u := by
  simp only [Act.put]
  rw [Array.setIfInBounds_comm _ _ h]
end
end Go.Proofs.YtpjobcnfjpbaeaaW.PrintLast

namespace Go.Proofs.YtpjobcnfjpbaeaaW.PrintMore
open Go.RowKit Go.Proofs.YtpjobcnfjpbaeaaW.PrintWords
namespace Kd
open Go.Proofs.YtpjobcnfjpbaeaaW.PrintWords.Kd
end Kd
namespace Kd
open Go.Proofs.YtpjobcnfjpbaeaaW.PrintWords.Kd
section
variable {α : Type} {d : Kd α} {e base g N : Nat} {ok : Nat → Prop} {W w1 : World} {u v : Value} {xs : List α}
end
end Kd
theorem max2_int (k k' : IntKind) (x y : Int) : Builtin.max2 (.int k x) (.int k' y) = pure (.int k (if x < y then y else x)) := by simp only [Builtin.max2, gt_iff_lt]
theorem min2_int (k k' : IntKind) (x y : Int) : Builtin.min2 (.int k x) (.int k' y) = pure (.int k (if y < x then y else x)) := by simp only [Builtin.min2]
theorem max_two (ats : Array TypeId) (ty : TypeId) (a b : Value) : Builtin.max_ ats ty #[a, b] = (Builtin.max2 a b >>= fun s => pure s) := by simp only [Builtin.max_, List.foldlM_cons, List.foldlM_nil]
theorem min_two (ats : Array TypeId) (ty : TypeId) (a b : Value) : Builtin.min_ ats ty #[a, b] = (Builtin.min2 a b >>= fun s => pure s) := by simp only [Builtin.min_, List.foldlM_cons, List.foldlM_nil]
theorem max_three (ats : Array TypeId) (ty : TypeId) (a b c : Value) : Builtin.max_ ats ty #[a, b, c] = (Builtin.max2 a b >>= fun s => Builtin.max2 s c >>= fun s => pure s) := by simp only [Builtin.max_, List.foldlM_cons, List.foldlM_nil]
theorem min_three (ats : Array TypeId) (ty : TypeId) (a b c : Value) : Builtin.min_ ats ty #[a, b, c] = (Builtin.min2 a b >>= fun s => Builtin.min2 s c >>= fun s => pure s) := by simp only [Builtin.min_, List.foldlM_cons, List.foldlM_nil]
theorem max_four (ats : Array TypeId) (ty : TypeId) (a b c d : Value) : Builtin.max_ ats ty #[a, b, c, d] = (Builtin.max2 a b >>= fun s => Builtin.max2 s c >>= fun s => Builtin.max2 s d >>= fun s => pure s) := by simp only [Builtin.max_, List.foldlM_cons, List.foldlM_nil]
theorem min_four (ats : Array TypeId) (ty : TypeId) (a b c d : Value) : Builtin.min_ ats ty #[a, b, c, d] = (Builtin.min2 a b >>= fun s => Builtin.min2 s c >>= fun s => Builtin.min2 s d >>= fun s => pure s) := by simp only [Builtin.min_, List.foldlM_cons, List.foldlM_nil]
end Go.Proofs.YtpjobcnfjpbaeaaW.PrintMore
namespace Go.Proofs.YtpjobcnfjpbaeaaW.PrintWords
open Go.RowKit
section
variable {P : Program} {ops : Array Oper} {rest : List Oper} {o : Oper} {a : Act} {Q : Exit → Act → World → Prop} {W : World}
theorem gate_callee {f : FuncId} {as_ : Array Operand} {ts : Array TypeId} (_ho : o.op = .call { callee := .value (.func f), args := as_, argTypes := ts }) (h : wpList P ops Q (o :: rest) a W) : wpList P ops Q (o :: rest) a W := h
theorem gate_builtin {b : Builtin} {xs : Array Operand} {ts : Array TypeId} (_ho : o.op = .call { callee := .builtin b, args := xs, argTypes := ts }) (h : wpList P ops Q (o :: rest) a W) : wpList P ops Q (o :: rest) a W := h
end
namespace Kd
section
variable {α : Type} {d : Kd α} {e base : Nat} {ok : Nat → Prop} {W w1 : World} {v : Value} {xs : List α}
end
section
variable {α : Type} {d : Kd α} {e base g n cap : Nat} {ok oki okp : Nat → Prop} {W : World} {xs : List α} {i : Int} {c : List Value}
end
section
variable {α : Type} {d : Kd α} {e base b b' g N : Nat} {ok ok1 : Nat → Prop} {W W2 w1 : World} {u v : Value} {xs ys : List α} {S : Nat → Prop}
end
end Kd
end Go.Proofs.YtpjobcnfjpbaeaaW.PrintWords
namespace Go.Proofs.YtpjobcnfjpbaeaaW.PrintWords
open Go.RowKit
namespace Kd
def V {α : Type} (d : Kd α) (_e : Nat) (W : World) (_base : Nat) (ok : Nat → Prop) (v : Value) (xs : List α) : Prop := ∃ A c, v = .slice A xs.length c ∧ xs.length ≤ c ∧ F d W ok A xs.length xs
section
variable {α β : Type} {d : Kd α} {e base base' n m c g N' lo hi : Nat} {ok ok' S : Nat → Prop} {w W w1 : World} {A : Option Addr} {ad : Addr} {u v v1 : Value} {xs : List α}
theorem V_nil (d : Kd α) (e : Nat) (W : World) (base : Nat) (ok : Nat → Prop) : V d e W base ok (.slice none 0 0) [] := ⟨none, 0, rfl, Nat.le_refl _, F_nil d W ok⟩
end
end Kd
end Go.Proofs.YtpjobcnfjpbaeaaW.PrintWords

namespace Go.Proofs.Ytpjobcnfjpbaeaa.PA
open Go.RowKit Go.Proofs.YtpjobcnfjpbaeaaW.PrintWords Go.Proofs.YtpjobcnfjpbaeaaW.PrintLast Go.Proofs.YtpjobcnfjpbaeaaW.PrintMore
attribute [local go_sem] max2_int min2_int max_two min_two max_three min_three max_four min_four
set_option linter.unusedVariables false
set_option linter.unusedSimpArgs false
def errW : Option Int → Value
  | none => .nilIface
  | some c => .iface 0 (.int .i64 c)
theorem errW_none : errW none = .nilIface := rfl
theorem errW_some (c : Int) : errW (some c) = .iface 0 (.int .i64 c) := rfl
theorem info3 : (Try.prog.info? 3).map (fun i => (i.zero, i.size, i.bytes)) = some (some (.int .i64 0), 1, 8) := by kernel_rfl
theorem info47 : (Try.prog.info? 47).map (fun i => (i.zero, i.size, i.bytes)) = some (some (.agg #[(.int .i64 0), (.int .i64 0), (.int .i64 0)]), 3, 24) := by kernel_rfl
structure S47 where
  f0 : Int
  f1 : Int
  f2 : Int
def z47 : S47 := ⟨(0 : Int), (0 : Int), (0 : Int)⟩
def k47 : Kd S47 := Kd.iso (Kd.pair (Kd.int .i64) (Kd.pair (Kd.int .i64) (Kd.int .i64))) (fun x : S47 => (x.f0, x.f1, x.f2))
theorem k47_open {w : World} {x : S47} {cs : List Value} (h : k47.K w x cs) : cs = [.int .i64 x.f0, .int .i64 x.f1, .int .i64 x.f2] := by
  obtain ⟨_, _, rfl, rfl, ⟨_, _, rfl, rfl, rfl⟩⟩ := h
  exact rfl
theorem k47_mk (w : World) (x : S47)  : k47.K w x [.int .i64 x.f0, .int .i64 x.f1, .int .i64 x.f2] := ⟨[.int .i64 x.f0], [.int .i64 x.f1, .int .i64 x.f2], rfl, rfl, ⟨[.int .i64 x.f1], [.int .i64 x.f2], rfl, rfl, rfl⟩⟩
theorem k47_mkM (w : World) (base : Nat) (ok : Nat → Prop) (x : S47)  : k47.M w base ok x [.int .i64 x.f0, .int .i64 x.f1, .int .i64 x.f2] := ⟨[.int .i64 x.f0], [.int .i64 x.f1, .int .i64 x.f2], rfl, rfl, ⟨[.int .i64 x.f1], [.int .i64 x.f2], rfl, rfl, rfl⟩⟩
def rd_T47 (xs : List S47) (i : Int) : S47 := xs.getD i.toNat z47
theorem at_T47 {w : World} {A : Option Addr} {n : Nat} {xs : List S47} (h : Kd.C k47 w A n xs) (i : Int) (h0 : 0 ≤ i) (h1 : i < n) : ∃ ad , A = some ad ∧ w.cell? (ad.add (i.toNat * 3)) = some (.int .i64 (rd_T47 xs i).f0) ∧ w.cell? ⟨(ad.add (i.toNat * 3)).block, (ad.add (i.toNat * 3)).off + 1, none⟩ = some (.int .i64 (rd_T47 xs i).f1) ∧ w.cell? ⟨(ad.add (i.toNat * 3)).block, (ad.add (i.toNat * 3)).off + 2, none⟩ = some (.int .i64 (rd_T47 xs i).f2) := by
  obtain ⟨ad, c, e, _, hK, hc0⟩ := Kd.C_get h z47 i h0 h1
  have hc : ∀ j u, c[j]? = some u → w.cell? (ad.add (i.toNat * 3 + j)) = some u := hc0
  obtain rfl := k47_open hK
  exact ⟨ad, e, hc 0 _ rfl, by rw [← add_field _ _ 1 (by omega)]; exact hc 1 _ rfl, by rw [← add_field _ _ 2 (by omega)]; exact hc 2 _ rfl⟩
structure S106 where
  f0 : Int
  f1 : Int
  f2 : Int
  f3 : Int
def z106 : S106 := ⟨(0 : Int), (0 : Int), (0 : Int), (0 : Int)⟩
structure S74 where
  f0 : Int
  f1 : Int
  f2 : Int
  f3 : Int
end Go.Proofs.Ytpjobcnfjpbaeaa.PA

namespace Go.Proofs.Ytpjobcnfjpbaeaa.A
open Go.RowKit Go.Proofs.YtpjobcnfjpbaeaaW.PrintWords Go.Proofs.YtpjobcnfjpbaeaaW.PrintLast Go.Proofs.YtpjobcnfjpbaeaaW.PrintMore
open Go.Proofs.Ytpjobcnfjpbaeaa.PA
def withinB (n lo hi : Int) : Bool := decide (lo ≤ n) && decide (n ≤ hi)
set_option maxHeartbeats 400000 in
theorem within_c (n lo hi : Int) (w : World) :
    Calls Try.prog 42 #[.int .i64 n, .int .i64 lo, .int .i64 hi] w fun e w' => e = .returned (.bool (withinB n lo hi)) ∧ w = w' := by
  unfold withinB
  by_cases h : lo ≤ n
  · have h1 : decide (lo ≤ n) = true := decide_eq_true h
    go_enter Try.func42, Try.ntmps42
    go_wp2
    go_ret
    exact ⟨by simp [h], rfl⟩
  · have h1 : decide (lo ≤ n) = false := decide_eq_false h
    go_enter Try.func42, Try.ntmps42
    go_wp2
    go_ret
    exact ⟨by simp [h], rfl⟩
end Go.Proofs.Ytpjobcnfjpbaeaa.A

namespace Go.Proofs.Ytpjobcnfjpbaeaa.A
open Go.RowKit Go.Proofs.YtpjobcnfjpbaeaaW.PrintWords Go.Proofs.YtpjobcnfjpbaeaaW.PrintLast Go.Proofs.YtpjobcnfjpbaeaaW.PrintMore
open Go.Proofs.Ytpjobcnfjpbaeaa.PA
def badB (f t p : Int) : Bool := !withinB t 1 60 || (!withinB f 0 (wrap64 (t - 1)) || !withinB p 0 1000000)
set_option maxHeartbeats 400000 in
theorem badB_c (f t p : Int) (w : World) :
    Calls Try.prog 68 #[.agg #[.int .i64 f, .int .i64 t, .int .i64 p]] w fun e w' => e = .returned (.bool (badB f t p)) ∧ Below w.heap.size w w' := by
  obtain ⟨b1, h1⟩ : ∃ b, b = withinB t 1 60 := ⟨_, rfl⟩
  obtain ⟨b2, h2⟩ : ∃ b, b = withinB f 0 (wrap64 (t - 1)) := ⟨_, rfl⟩
  obtain ⟨b3, h3⟩ : ∃ b, b = withinB p 0 1000000 := ⟨_, rfl⟩
  have e : badB f t p = (!b1 || (!b2 || !b3)) := by subst h1 h2 h3; rfl
  rw [e]; clear e
  have H1 := Lib.hid h1
  have H2 := Lib.hid h2
  have H3 := Lib.hid h3
  clear h1 h2 h3
  have hB := (Below.refl w.heap.size w).alloc (Nat.le_refl _) (Obj.cells #[Value.int IntKind.i64 f, Value.int IntKind.i64 t, Value.int IntKind.i64 p] 47)
  cases b1 <;> cases b2 <;> cases b3
  all_goals
    go_enter Try.func68, Try.ntmps68
    go_wp2_with (first
      | ((with_reducible refine (within_c t 1 60 _).mono ?_); rintro e w' ⟨rfl, rfl⟩; rw [← H1.out])
      | ((with_reducible refine (within_c f 0 (wrap64 (t - 1)) _).mono ?_); rintro e w' ⟨rfl, rfl⟩; rw [← H2.out])
      | ((with_reducible refine (within_c p 0 1000000 _).mono ?_); rintro e w' ⟨rfl, rfl⟩; rw [← H3.out]))
    go_ret
    exact ⟨rfl, hB⟩
end Go.Proofs.Ytpjobcnfjpbaeaa.A

namespace Go.Proofs.Ytpjobcnfjpbaeaa.A
open Go.RowKit Go.Proofs.YtpjobcnfjpbaeaaW.PrintWords Go.Proofs.YtpjobcnfjpbaeaaW.PrintLast Go.Proofs.YtpjobcnfjpbaeaaW.PrintMore
open Go.Proofs.Ytpjobcnfjpbaeaa.PA
theorem ret_int {k : IntKind} {a b : Int} (h : a = b) : Ending.returned (.int k a) = .returned (.int k b) := by rw [h]
abbrev bk (x : S47) : Value := .agg #[.int .i64 x.f0, .int .i64 x.f1, .int .i64 x.f2]
def Enters (g : Nat) : Prop := ∀ args w, (callFunc g args).run Try.prog w = .ok (.enter g args) w
def PredOf {α : Type} (g : Nat) (caps : Array Value) (enc : α → Value) (p : α → Bool) (w : World) : Prop :=
  ∀ (W : World) (x : α), Below w.heap.size w W → Calls Try.prog g (#[enc x] ++ caps) W fun e W' => e = .returned (.bool (p x)) ∧ Below W.heap.size W W'
def idxF {α : Type} (p : α → Bool) (xs : List α) : Int := match xs.findIdx? p with | some i => (i : Int) | none => -1
theorem at_bk {w W : World} {A : Option Addr} {n : Nat} {xs : List S47} (h : Kd.C k47 w A n xs) (hb : Below w.heap.size w W) (k : Nat) (hk : k < xs.length) : ∃ ad x, A = some ad ∧ Hid (xs[k]? = some x) ∧
    W.cell? (ad.add (k * 3)) = some (.int .i64 x.f0) ∧ W.cell? ⟨(ad.add (k * 3)).block, (ad.add (k * 3)).off + 1, none⟩ = some (.int .i64 x.f1) ∧ W.cell? ⟨(ad.add (k * 3)).block, (ad.add (k * 3)).off + 2, none⟩ = some (.int .i64 x.f2) := by
  have hl := h.1
  obtain ⟨ad, eA, h0, h1, h2⟩ := at_T47 h k (by omega) (by omega)
  rw [Int.toNat_natCast] at h0 h1 h2
  refine ⟨ad, rd_T47 xs k, eA, ?_, (hb.cell (World.block_lt_of_cell? w _ h0)).trans h0, (hb.cell (World.block_lt_of_cell? w _ h1)).trans h1, (hb.cell (World.block_lt_of_cell? w _ h2)).trans h2⟩
  show xs[k]? = some (xs.getD (k : Int).toNat z47)
  simp [hk]
theorem idxF_hit {α : Type} {p : α → Bool} {xs : List α} {k : Nat} {x : α} (h : (xs.take k).all (fun x => !p x) = true) (hx : xs[k]? = some x) (hp : p x = true) : idxF p xs = k := by
  have hk : k < xs.length := (List.getElem?_eq_some_iff.1 hx).1
  have e : xs.findIdx? p = some k := by
    rw [List.findIdx?_eq_some_iff_getElem]
    refine ⟨hk, ?_, fun j hj => ?_⟩
    · rw [(List.getElem?_eq_some_iff.1 hx).2]; exact hp
    · rw [List.all_eq_true] at h
      have := h (xs[j]'(by omega)) (by rw [List.mem_take_iff_getElem]; exact ⟨j, by omega, rfl⟩)
      simpa using this
  simp [idxF, e]
theorem idxF_miss {α : Type} {p : α → Bool} {xs : List α} (h : xs.all (fun x => !p x) = true) : idxF p xs = -1 := by
  have e : xs.findIdx? p = none := by
    rw [List.findIdx?_eq_none_iff]
    intro x hx
    rw [List.all_eq_true] at h
    simpa using h x hx
  simp [idxF, e]
theorem all_next {α : Type} {p : α → Bool} {xs : List α} {k : Nat} {x : α} (h : (xs.take k).all (fun x => !p x) = true) (hx : xs[k]? = some x) (hp : p x = false) : (xs.take (k + 1)).all (fun x => !p x) = true := by
  obtain ⟨hk, e⟩ := List.getElem?_eq_some_iff.1 hx
  rw [List.take_succ_eq_append_getElem hk, List.all_append, h, e]
  simp [hp]
set_option maxHeartbeats 400000 in
theorem idxBk_c (g : Nat) (caps : Array Value) (p : S47 → Bool) (A : Option Addr) (c : Nat) (xs : List S47) (w : World)
    (eg : Enters g) (hp : PredOf g caps bk p w) (hr : Kd.C k47 w A xs.length xs) :
    Calls Try.prog 75 #[.slice A xs.length c, .func (.func g) #[] caps] w fun e w' => e = .returned (.int .i64 (idxF p xs)) ∧ Below w.heap.size w w' := by
  have HR := Lib.hid hr
  have HP := Lib.hid hp
  have hl : xs.length ≤ 9223372036854775807 := hr.2.1
  clear hr hp
  unfold Enters at eg
  go_enter Try.func75, Try.ntmps75
  go_wp2_with fail
  go_loopw [5, 8] (fun _ i wr => ∃ k : Nat, i = .int .i64 k ∧ k ≤ xs.length ∧ Hid ((xs.take k).all (fun x => !p x) = true) ∧ Below w.heap.size w wr) (fun _ i _ => xs.length - (intOf i).toNat)
  case atStart => exact ⟨0, rfl, Nat.zero_le _, rfl, Below.refl _ _⟩
  case round =>
    obtain ⟨k, rfl, hk, HA, hB⟩ := hrel
    by_cases hlt : k < xs.length
    · obtain ⟨ad, x, eA, HX, h0, h1, h2⟩ := at_bk HR.out hB k hlt
      cases eA
      have hc := HP.out _ x hB
      obtain ⟨b, hb⟩ : ∃ b, p x = b := ⟨_, rfl⟩
      rw [hb] at hc
      have HPX := Lib.hid hb
      have HC := Lib.hid hc
      clear hb hc
      cases b
      · go_wp2_with ((with_reducible refine HC.out.mono ?_); rintro e w' ⟨rfl, hb1⟩)
        go_roundw
        case rel => exact ⟨k + 1, by go_num, by omega, all_next HA HX.out HPX.out, hB.trans (hb1.mono hB.size)⟩
        case measure => simp [intOf]; omega
      · go_wp2_with ((with_reducible refine HC.out.mono ?_); rintro e w' ⟨rfl, hb1⟩)
        go_ret
        exact ⟨ret_int (idxF_hit HA.out HX.out HPX.out).symm, hB.trans (hb1.mono hB.size)⟩
    · obtain rfl : k = xs.length := by omega
      go_wp2_with fail
      go_ret
      exact ⟨ret_int (idxF_miss (by simpa using HA.out)).symm, hB⟩
end Go.Proofs.Ytpjobcnfjpbaeaa.A

namespace Go.Proofs.Ytpjobcnfjpbaeaa.A
open Go.RowKit Go.Proofs.YtpjobcnfjpbaeaaW.PrintWords Go.Proofs.YtpjobcnfjpbaeaaW.PrintLast Go.Proofs.YtpjobcnfjpbaeaaW.PrintMore
open Go.Proofs.Ytpjobcnfjpbaeaa.PA
theorem idxF_range {α : Type} (p : α → Bool) (xs : List α) : -1 ≤ idxF p xs ∧ idxF p xs < xs.length ∧ (decide (0 ≤ idxF p xs) = xs.any p) := by
  unfold idxF
  cases h : xs.findIdx? p with
  | none =>
    rw [List.findIdx?_eq_none_iff] at h
    refine ⟨by simp, by simp only []; omega, ?_⟩
    have : xs.any p = false := by rw [List.any_eq_false]; intro x hx; simpa using h x hx
    rw [this]; rfl
  | some i =>
    rw [List.findIdx?_eq_some_iff_getElem] at h
    obtain ⟨hi, hp, _⟩ := h
    refine ⟨by simp only []; omega, by simp only []; omega, ?_⟩
    have : xs.any p = true := by rw [List.any_eq_true]; exact ⟨_, List.getElem_mem hi, hp⟩
    rw [this]; simp
theorem at_int {w W : World} {A : Option Addr} {n : Nat} {xs : List Int} (h : Kd.C (Kd.int .i64) w A n xs) (hb : Below w.heap.size w W) (k : Nat) (hk : k < xs.length) : ∃ ad x, A = some ad ∧ Hid (xs[k]? = some x) ∧
    W.cell? (ad.add k) = some (.int .i64 x) := by
  have hl := h.1
  obtain ⟨ad, eA, h0⟩ := Kd.at_int h k (by omega) (by omega)
  rw [Int.toNat_natCast] at h0
  refine ⟨ad, rd xs k, eA, ?_, (hb.cell (World.block_lt_of_cell? w _ h0)).trans h0⟩
  show xs[k]? = some (xs.getD (k : Int).toNat 0)
  simp [hk]
abbrev it (x : Int) : Value := .int .i64 x
set_option maxHeartbeats 400000 in
theorem idxInt_c (g : Nat) (caps : Array Value) (p : Int → Bool) (A : Option Addr) (c : Nat) (xs : List Int) (w : World)
    (eg : Enters g) (hp : PredOf g caps it p w) (hr : Kd.C (Kd.int .i64) w A xs.length xs) :
    Calls Try.prog 51 #[.slice A xs.length c, .func (.func g) #[] caps] w fun e w' => e = .returned (.int .i64 (idxF p xs)) ∧ Below w.heap.size w w' := by
  have HR := Lib.hid hr
  have HP := Lib.hid hp
  have hl : xs.length ≤ 9223372036854775807 := hr.2.1
  clear hr hp
  unfold Enters at eg
  go_enter Try.func51, Try.ntmps51
  go_wp2_with fail
  go_loopw [5, 8] (fun _ i wr => ∃ k : Nat, i = .int .i64 k ∧ k ≤ xs.length ∧ Hid ((xs.take k).all (fun x => !p x) = true) ∧ Below w.heap.size w wr) (fun _ i _ => xs.length - (intOf i).toNat)
  case atStart => exact ⟨0, rfl, Nat.zero_le _, rfl, Below.refl _ _⟩
  case round =>
    obtain ⟨k, rfl, hk, HA, hB⟩ := hrel
    by_cases hlt : k < xs.length
    · obtain ⟨ad, x, eA, HX, h0⟩ := at_int HR.out hB k hlt
      cases eA
      have hc := HP.out _ x hB
      obtain ⟨b, hb⟩ : ∃ b, p x = b := ⟨_, rfl⟩
      rw [hb] at hc
      have HPX := Lib.hid hb
      have HC := Lib.hid hc
      clear hb hc
      cases b
      · go_wp2_with ((with_reducible refine HC.out.mono ?_); rintro e w' ⟨rfl, hb1⟩)
        go_roundw
        case rel => exact ⟨k + 1, by go_num, by omega, all_next HA HX.out HPX.out, hB.trans (hb1.mono hB.size)⟩
        case measure => simp [intOf]; omega
      · go_wp2_with ((with_reducible refine HC.out.mono ?_); rintro e w' ⟨rfl, hb1⟩)
        go_ret
        exact ⟨ret_int (idxF_hit HA.out HX.out HPX.out).symm, hB.trans (hb1.mono hB.size)⟩
    · obtain rfl : k = xs.length := by omega
      go_wp2_with fail
      go_ret
      exact ⟨ret_int (idxF_miss (by simpa using HA.out)).symm, hB⟩
theorem ret_bool {a b : Bool} (h : a = b) : Ending.returned (.bool a) = .returned (.bool b) := by rw [h]
set_option maxHeartbeats 400000 in
theorem hasBk_c (g : Nat) (caps : Array Value) (p : S47 → Bool) (A : Option Addr) (c : Nat) (xs : List S47) (w : World)
    (eg : Enters g) (hp : PredOf g caps bk p w) (hr : Kd.C k47 w A xs.length xs) :
    Calls Try.prog 63 #[.slice A xs.length c, .func (.func g) #[] caps] w fun e w' => e = .returned (.bool (xs.any p)) ∧ Below w.heap.size w w' := by
  have HC := Lib.hid (idxBk_c g caps p A c xs w eg hp hr)
  have hi := idxF_range p xs
  obtain ⟨i, hie⟩ : ∃ i, idxF p xs = i := ⟨_, rfl⟩
  rw [hie] at HC hi
  obtain ⟨h1, h2, h3⟩ := hi
  have H3 := Lib.hid h3
  clear hr hp eg h3 hie
  go_enter Try.func63, Try.ntmps63
  go_wp2_with ((with_reducible refine HC.out.mono ?_); rintro e w' ⟨rfl, hb1⟩)
  go_ret
  exact ⟨ret_bool H3.out, hb1⟩
set_option maxHeartbeats 400000 in
theorem hasInt_c (g : Nat) (caps : Array Value) (p : Int → Bool) (A : Option Addr) (c : Nat) (xs : List Int) (w : World)
    (eg : Enters g) (hp : PredOf g caps it p w) (hr : Kd.C (Kd.int .i64) w A xs.length xs) :
    Calls Try.prog 56 #[.slice A xs.length c, .func (.func g) #[] caps] w fun e w' => e = .returned (.bool (xs.any p)) ∧ Below w.heap.size w w' := by
  have HC := Lib.hid (idxInt_c g caps p A c xs w eg hp hr)
  have hi := idxF_range p xs
  obtain ⟨i, hie⟩ : ∃ i, idxF p xs = i := ⟨_, rfl⟩
  rw [hie] at HC hi
  obtain ⟨h1, h2, h3⟩ := hi
  have H3 := Lib.hid h3
  clear hr hp eg h3 hie
  go_enter Try.func56, Try.ntmps56
  go_wp2_with ((with_reducible refine HC.out.mono ?_); rintro e w' ⟨rfl, hb1⟩)
  go_ret
  exact ⟨ret_bool H3.out, hb1⟩
def outB (lo hi n : Int) : Bool := !withinB n lo hi
set_option maxHeartbeats 400000 in
theorem badRoom_c (n : Int) (w : World) : Calls Try.prog 62 #[.int .i64 n] w fun e w' => e = .returned (.bool (outB 0 8 n)) ∧ w = w' := by
  unfold outB
  obtain ⟨b, h⟩ : ∃ b, withinB n 0 8 = b := ⟨_, rfl⟩
  rw [h]
  have H := Lib.hid h
  clear h
  go_enter Try.func62, Try.ntmps62
  go_wp2_with ((with_reducible refine (within_c n 0 8 _).mono ?_); rintro e w' ⟨rfl, rfl⟩; rw [H.out])
  go_ret
  exact ⟨rfl, rfl⟩
theorem enters_mk {f : FuncId} {fn : Func} {c : Code} (hf : Try.prog.funcs[f]? = some fn) (hname : (fn.name == "runtime.NumGoroutine") = false) (hb : fn.body = some c) : Enters f := by
  have h1 : fn.name ≠ "runtime.NumGoroutine" := by simpa using hname
  intro args w
  simp [callFunc, hf, h1, hb, mark]
theorem enters62 : Enters 62 := enters_mk Try.func62 (by kernel_rfl) rfl
theorem enters64 : Enters 64 := enters_mk Try.func64 (by kernel_rfl) rfl
theorem enters68 : Enters 68 := enters_mk Try.func68 (by kernel_rfl) rfl
theorem pred62 (w : World) : PredOf 62 #[] it (outB 0 8) w := fun W x _ => (badRoom_c x W).mono fun e w' ⟨h1, h2⟩ => ⟨h1, h2 ▸ Below.refl _ _⟩
theorem pred68 (w : World) : PredOf 68 #[] bk (fun x => badB x.f0 x.f1 x.f2) w := fun W x _ => badB_c x.f0 x.f1 x.f2 W
set_option maxHeartbeats 400000 in
theorem long_c (b : Nat) (A : Option Addr) (n c : Nat) (x : S47) (w : World) (hn : n ≤ 9223372036854775807) (hb : b < w.heap.size) (hc : w.cell? ⟨b, 0, none⟩ = some (.slice A n c)) :
    Calls Try.prog 64 #[bk x, .pointer (some ⟨b, 0, none⟩)] w fun e w' => e = .returned (.bool (decide ((n : Int) < x.f1))) ∧ Below w.heap.size w w' := by
  obtain ⟨f, t, p⟩ := x
  have hc' : (w.alloc (Obj.cells #[Value.int IntKind.i64 f, Value.int IntKind.i64 t, Value.int IntKind.i64 p] 47)).cell? ⟨b, 0, none⟩ = some (.slice A n c) := by
    rw [← hc]; exact ((Below.refl w.heap.size w).alloc (Nat.le_refl _) _).cell hb
  clear hc
  have hB := (Below.refl w.heap.size w).alloc (Nat.le_refl _) (Obj.cells #[Value.int IntKind.i64 f, Value.int IntKind.i64 t, Value.int IntKind.i64 p] 47)
  go_enter Try.func64, Try.ntmps64
  go_wp2_with fail
  go_ret
  exact ⟨rfl, hB⟩
end Go.Proofs.Ytpjobcnfjpbaeaa.A

namespace Go.Proofs.Ytpjobcnfjpbaeaa.A
open Go.RowKit Go.Proofs.YtpjobcnfjpbaeaaW.PrintWords Go.Proofs.YtpjobcnfjpbaeaaW.PrintLast Go.Proofs.YtpjobcnfjpbaeaaW.PrintMore
open Go.Proofs.Ytpjobcnfjpbaeaa.PA
def bad1 (x : S47) : Bool := badB x.f0 x.f1 x.f2
def areB (l : List S47) : Bool := decide (l.length ≤ 40) && !l.any bad1
set_option maxHeartbeats 400000 in
theorem areB_c (A : Option Addr) (c : Nat) (l : List S47) (w : World) (hr : Kd.C k47 w A l.length l) :
    Calls Try.prog 47 #[.slice A l.length c] w fun e w' => e = .returned (.bool (areB l)) ∧ Below w.heap.size w w' := by
  unfold areB
  have HC := Lib.hid (hasBk_c 68 #[] bad1 A c l w enters68 (pred68 w) hr)
  have hl : l.length ≤ 9223372036854775807 := hr.2.1
  clear hr
  obtain ⟨b, hb⟩ : ∃ b, l.any bad1 = b := ⟨_, rfl⟩
  rw [hb] at HC
  rw [hb]
  clear hb
  by_cases h : l.length ≤ 40
  · have h1 : decide (l.length ≤ 40) = true := decide_eq_true h
    go_enter Try.func47, Try.ntmps47
    go_wp2_with ((with_reducible refine HC.out.mono ?_); rintro e w' ⟨rfl, hb1⟩)
    go_ret
    exact ⟨ret_bool (by simp [h1]), hb1⟩
  · have h1 : decide (l.length ≤ 40) = false := decide_eq_false h
    go_enter Try.func47, Try.ntmps47
    go_wp2_with ((with_reducible refine HC.out.mono ?_); rintro e w' ⟨rfl, hb1⟩)
    go_ret
    exact ⟨ret_bool (by simp [h1]), Below.refl _ _⟩
def checkB (l : List S47) (rooms : List Int) : Bool :=
  areB l && withinB rooms.length 1 60 && !(rooms.any (outB 0 8) || l.any (fun x => decide ((rooms.length : Int) < x.f1)))
def okE (b : Bool) (e : Int) : Int := if b then 0 else e
theorem okE_t (e : Int) : okE true e = 0 := rfl
theorem okE_f (e : Int) : okE false e = e := rfl
set_option maxHeartbeats 1600000 in
theorem check_c (A : Option Addr) (c : Nat) (l : List S47) (A1 : Option Addr) (c1 : Nat) (rooms : List Int) (w : World) (hr : Kd.C k47 w A l.length l) (hr1 : Kd.C (Kd.int .i64) w A1 rooms.length rooms) :
    Calls Try.prog 41 #[.slice A l.length c, .slice A1 rooms.length c1] w fun e w' => e = .returned (.int .i64 (okE (checkB l rooms) 2)) ∧ Below w.heap.size w w' := by
  have hl : l.length ≤ 9223372036854775807 := hr.2.1
  have hl1 : rooms.length ≤ 9223372036854775807 := hr1.2.1
  have hB0 := (Below.refl w.heap.size w).alloc (Nat.le_refl _) (Obj.cells #[Value.slice A1 rooms.length c1] 23)
  have hcell : (w.alloc (Obj.cells #[Value.slice A1 rooms.length c1] 23)).cell? ⟨w.heap.size, 0, none⟩ = some (.slice A1 rooms.length c1) := by simp [go_sem]
  have hz0 : (w.alloc (Obj.cells #[Value.slice A1 rooms.length c1] 23)).heap.size = w.heap.size + 1 := by simp
  obtain ⟨w0, hw0⟩ : ∃ w0, w.alloc (Obj.cells #[Value.slice A1 rooms.length c1] 23) = w0 := ⟨_, rfl⟩
  rw [hw0] at hB0 hcell hz0
  have HW0 := Lib.hid hw0
  have hR0 := hr.imp_ hB0 (fun _ _ h => k47.K_below hB0 h)
  have hR1 := hr1.imp_ hB0 (fun _ _ h => (Kd.int .i64).K_below hB0 h)
  have HP : ∀ W, Below w0.heap.size w0 W → PredOf 64 #[.pointer (some ⟨w.heap.size, 0, none⟩)] bk (fun x => decide ((rooms.length : Int) < x.f1)) W := by
    intro W hW W' x hW'
    have hs : w.heap.size < W.heap.size := by have := hW.size; omega
    have hs' : w.heap.size < W'.heap.size := by have := hW'.size; omega
    refine long_c w.heap.size A1 rooms.length c1 x W' hl1 hs' ?_
    rw [hW'.cell hs, hW.cell (p := ⟨w.heap.size, 0, none⟩) (by show w.heap.size < _; omega), hcell]
  have H47 := Lib.hid (areB_c A c l w0 hR0)
  have H56 := fun W (hW : Below w0.heap.size w0 W) => Lib.hid (hasInt_c 62 #[] (outB 0 8) A1 c1 rooms W enters62 (pred62 W) (Kd.C_below hR1 hW))
  have H63 := fun W (hW : Below w0.heap.size w0 W) => Lib.hid (hasBk_c 64 #[.pointer (some ⟨w.heap.size, 0, none⟩)] _ A c l W enters64 (HP W hW) (Kd.C_below hR0 hW))
  unfold checkB
  obtain ⟨b1, e1⟩ : ∃ b, areB l = b := ⟨_, rfl⟩
  obtain ⟨b2, e2⟩ : ∃ b, withinB rooms.length 1 60 = b := ⟨_, rfl⟩
  obtain ⟨b3, e3⟩ : ∃ b, rooms.any (outB 0 8) = b := ⟨_, rfl⟩
  obtain ⟨b4, e4⟩ : ∃ b, l.any (fun x => decide ((rooms.length : Int) < x.f1)) = b := ⟨_, rfl⟩
  rw [e1] at H47
  have E2 := Lib.hid e2
  have E3 := Lib.hid e3
  have E4 := Lib.hid e4
  rw [e1, e2, e3, e4]
  clear e1 e2 e3 e4 hr hr1 HP hR0 hR1 hcell hw0
  have fin : ∀ {W : World}, Below w0.heap.size w0 W → Below w.heap.size w W := fun h => hB0.trans (h.mono hB0.size)
  have HC : Hid (w0.cell? ⟨w.heap.size, 0, none⟩ = some (.slice A1 rooms.length c1)) := by
    rw [← HW0.out]; show _ = _; simp [go_sem]
  have cellAt : ∀ {W : World}, Below w0.heap.size w0 W → W.cell? ⟨w.heap.size, 0, none⟩ = some (.slice A1 rooms.length c1) := fun h => (h.cell (p := ⟨w.heap.size, 0, none⟩) (by show w.heap.size < _; omega)).trans HC.out
  cases b1
  · go_enter Try.func41, Try.ntmps41
    go_wp2_with (rw [HW0.out]; (with_reducible refine H47.out.mono ?_); rintro e w' ⟨rfl, hb1⟩)
    go_ret
    exact ⟨rfl, fin hb1⟩
  · cases b2
    · go_enter Try.func41, Try.ntmps41
      go_wp2_with (first
        | (go_at_call 47; rw [HW0.out]; (with_reducible refine H47.out.mono ?_); rintro e w' ⟨rfl, hb1⟩; have hc1 := cellAt hb1)
        | (go_at_call 42; (with_reducible refine (within_c rooms.length 1 60 _).mono ?_); rintro e w' ⟨rfl, rfl⟩; rw [E2.out]))
      go_ret
      exact ⟨rfl, fin hb1⟩
    · cases b3
      · go_enter Try.func41, Try.ntmps41
        go_wp2_with (first
          | (go_at_call 47; rw [HW0.out]; (with_reducible refine H47.out.mono ?_); rintro e w' ⟨rfl, hb1⟩; have hc1 := cellAt hb1)
          | (go_at_call 42; (with_reducible refine (within_c rooms.length 1 60 _).mono ?_); rintro e w' ⟨rfl, rfl⟩; rw [E2.out])
          | (go_at_call 56; (with_reducible refine (H56 _ hb1).out.mono ?_); rintro e w2 ⟨rfl, hb2⟩; rw [E3.out]; have hb3 := hb1.trans (hb2.mono hb1.size); have hc2 := cellAt hb3)
          | (go_at_call 63; (with_reducible refine (H63 _ hb3).out.mono ?_); rintro e w3 ⟨rfl, hb4⟩; rw [E4.out]; cases b4))
        all_goals
          go_ret
          exact ⟨rfl, fin (hb3.trans (hb4.mono hb3.size))⟩
      · go_enter Try.func41, Try.ntmps41
        go_wp2_with (first
          | (go_at_call 47; rw [HW0.out]; (with_reducible refine H47.out.mono ?_); rintro e w' ⟨rfl, hb1⟩; have hc1 := cellAt hb1)
          | (go_at_call 42; (with_reducible refine (within_c rooms.length 1 60 _).mono ?_); rintro e w' ⟨rfl, rfl⟩; rw [E2.out])
          | (go_at_call 56; (with_reducible refine (H56 _ hb1).out.mono ?_); rintro e w2 ⟨rfl, hb2⟩; rw [E3.out]; have hb3 := hb1.trans (hb2.mono hb1.size); have hc2 := cellAt hb3))
        go_ret
        exact ⟨rfl, fin hb3⟩
end Go.Proofs.Ytpjobcnfjpbaeaa.A

namespace Go.Proofs.Ytpjobcnfjpbaeaa.R
open Go Go.RowKit
section
variable {P : Program} {ops : Array Oper} {Q : Exit → Act → World → Prop} {md : Region.Mode} {S : World → Prop} {T : Array Bool → World → Prop}
def YieldsS (P : Program) (ops : Array Oper) (S : World → Prop) (o : Oper) (v : Value) (a : Act) : Prop := ∀ w, S w → YieldsAt P ops w o v a
theorem YieldsS.of_same {o : Oper} {v : Value} {a a' : Act} (hy : YieldsS P ops S o v a) (he : execOp a'.eval o = execOp a.eval o)
    (hw : Region.wanted o (yielded ops a'.tmps) = Region.wanted o (yielded ops a.tmps)) : YieldsS P ops S o v a' := fun w hS => (hy w hS).of_same he hw
theorem YieldsS.wpOp {i : Nat} {o : Oper} {v : Value} {a : Act} (hi : ops[i]? = some o) (hy : YieldsS P ops S o v a)
    {K : Act → World → Prop} {w : World} (hS : S w) (h : K (a.put o.dst v) w) : wpOp P ops Q i K a w :=
  wpOp_of_stOp (K := fun a' => K a' w) (fun _ h => h) ((hy w hS).stOp hi h)
theorem wpOp_putS {j : Nat} {oi oj : Oper} {v : Value} (hj : ops[j]? = some oj) (hap : oi.apart ops oj = true)
    (hsi : ∀ cs b, oi.op ≠ .select cs b) (hsj : ∀ cs b, oj.op ≠ .select cs b)
    (hQ : ∀ c a w, Q (.panic c) (a.put oi.dst v) w → Q (.panic c) a w) {K : Act → World → Prop} {a : Act} {w : World}
    (hy : YieldsS P ops S oi v a) (h : wpOp P ops Q j K (a.put oi.dst v) w) :
    wpOp P ops Q j (fun a' w' => YieldsS P ops S oi v a' ∧ K (a'.put oi.dst v) w') a w := by
  obtain ⟨h1, h2, h3⟩ := Oper.apart_spec hap
  have keep : ∀ (a : Act), YieldsS P ops S oi v a → ∀ u, YieldsS P ops S oi v (a.put oj.dst u) := fun a hy u =>
    hy.of_same (execOp_put oi hsi a oj.dst u h3) (wanted_put oi a oj.dst u h3)
  have keepD : ∀ d, YieldsS P ops S oi v { a with defers := d :: a.defers } := fun d => hy.of_same rfl rfl
  unfold wpOp at *
  simp only [hj] at *
  rw [wanted_put oj a oi.dst v h1] at h
  split
  · rename_i hw
    simp only [hw, if_true] at h
    rcases h with h | ⟨hasks, hlets⟩
    case inr => exact .inr ⟨by unfold Oper.asks at *; rw [execOp_put oj hsj a oi.dst v h1] at hasks; exact hasks, hlets⟩
    refine .inl ?_
    unfold Oper.wp at *
    rw [execOp_put oj hsj a oi.dst v h1] at h
    generalize (execOp a.eval oj).run P w = r at *
    cases r with
    | ok n w' =>
      cases n <;> simp only [Oper.upon] at h ⊢
      case value u => exact ⟨keep a hy u, by rw [← Act.put_comm a v u h2]; exact h⟩
      case skip => exact ⟨keep a hy _, by rw [← Act.put_comm a v undef h2]; exact h⟩
      case defer d =>
        refine ⟨keep _ (keepD d) _, ?_⟩
        rw [← Act.put_comm _ v undef h2, ← Act.put_defers]
        exact h
      case enter f args =>
        refine Calls.mono h fun e w'' he => ?_
        cases e with
        | returned u => exact ⟨keep a hy u, by rw [← Act.put_comm a v u h2]; exact he⟩
        | panicked c => exact hQ _ _ _ he
        | outgrown => exact he
      case row row args => exact Rows.mono h fun u w'' he => ⟨keep a hy u, by rw [← Act.put_comm a v u h2]; exact he⟩
    | halt x w' =>
      cases x <;> simp only [Oper.upon] at h ⊢
      case panic u => exact hQ _ _ _ h
  · rename_i hw
    simp only [hw] at h
    exact ⟨keep a hy _, by rw [← Act.put_comm a v undef h2]; exact h⟩
def wpAnyT (P : Program) (md : Region.Mode) (ops : Array Oper) (Q : Exit → Act → World → Prop) (T : Array Bool → World → Prop) : Nat → Array Bool → Act → World → Prop
  | 0, listed, a, w => Region.ready md ops listed = [] ∧ Q .normal a w
  | fuel + 1, listed, a, w =>
    (Region.ready md ops listed = [] → Q .normal a w) ∧
    ∀ i ∈ Region.ready md ops listed, wpOp P ops Q i (fun a' w' => T (listed.setIfInBounds i true) w' ∧ wpAnyT P md ops Q T fuel (listed.setIfInBounds i true) a' w') a w
theorem wpAny_of_T : ∀ (fuel : Nat) (listed : Array Bool) (a : Act) (w : World), wpAnyT P md ops Q T fuel listed a w → wpAny P md ops Q fuel listed a w
  | 0, _, _, _, h => h
  | fuel + 1, _, _, _, h => ⟨h.1, fun i hi => wpOp_mono (fun a' w' h' => wpAny_of_T fuel _ a' w' h'.2) (h.2 i hi)⟩
theorem wpAnyT_first {i : Nat} {oi : Oper} {v : Value} {J : Array Bool → Prop} (hi : ops[i]? = some oi) (hsel : ∀ (j : Nat) (o : Oper) cs b, ops[j]? = some o → o.op ≠ .select cs b)
    (hQ : ∀ c a w, Q (.panic c) (a.put oi.dst v) w → Q (.panic c) a w)
    (hT : ∀ l w, T (l.setIfInBounds i true) w ↔ T l w) (hY : ∀ l w, J l → T l w → S w) (hJ : ∀ l j, J l → i ∈ Region.ready md ops l → j ∈ Region.ready md ops l → j ≠ i → J (l.setIfInBounds j true)) :
    ∀ (fuel : Nat) (listed : Array Bool) (a : Act) (w : World),
      (∀ j oj, ops[j]? = some oj → j ≠ i → listed.getD j true = false → (∀ e ∈ oj.after, Region.binds md e = true → e.on ≠ i) → oi.apart ops oj = true) →
      i ∈ Region.ready md ops listed → YieldsS P ops S oi v a → T listed w → J listed →
      wpAnyT P md ops Q T fuel (listed.setIfInBounds i true) (a.put oi.dst v) w → wpAnyT P md ops Q T (fuel + 1) listed a w := by
  intro fuel
  induction fuel with
  | zero =>
    intro listed a w _ hr hy hTl hl H
    refine ⟨fun h => (by rw [h] at hr; cases hr), fun j hj => ?_⟩
    by_cases hji : j = i
    · subst hji; exact hy.wpOp hi (hY _ _ hl hTl) ⟨(hT _ _).2 hTl, H⟩
    · have := ready_mono hj hji
      rw [H.1] at this
      cases this
  | succ fuel ih =>
    intro listed a w hfree hr hy hTl hl H
    refine ⟨fun h => (by rw [h] at hr; cases hr), fun j hj => ?_⟩
    by_cases hji : j = i
    · subst hji; exact hy.wpOp hi (hY _ _ hl hTl) ⟨(hT _ _).2 hTl, H⟩
    · have h1 := H.2 j (ready_mono hj hji)
      obtain ⟨hjun, oj, hoj, hall⟩ := mem_ready.1 hj
      have hnot : ∀ e ∈ oj.after, Region.binds md e = true → e.on ≠ i := fun e he hb heq => by
        have h1 := hall e he hb
        rw [heq, getD_both (mem_ready.1 hr).1] at h1
        cases h1
      have h2 := wpOp_putS hoj (hfree j oj hoj hji hjun hnot) (fun cs b => hsel i oi cs b hi) (fun cs b => hsel j oj cs b hoj) hQ hy h1
      have hfree' : ∀ k ok, ops[k]? = some ok → k ≠ i → (listed.setIfInBounds j true).getD k true = false →
          (∀ e ∈ ok.after, Region.binds md e = true → e.on ≠ i) → oi.apart ops ok = true := fun k ok hk hki hun hno => by
        refine hfree k ok hk hki ?_ hno
        by_cases hjk : j = k
        · subst hjk; exact hjun
        · rw [getD_set_ne true hjk] at hun; exact hun
      refine wpOp_mono (fun a' w' h3 => ?_) h2
      obtain ⟨hy', hT', h4⟩ := h3
      rw [Array.setIfInBounds_comm _ _ (Ne.symm hji)] at hT' h4
      have hT'' := (hT _ _).1 hT'
      exact ⟨hT'', ih (listed.setIfInBounds j true) a' w' hfree' (ready_mono hr (Ne.symm hji)) hy' hT'' (hJ _ _ hl hr hj hji) h4⟩
def Till (S S1 : World → Prop) (m0 m1 : Nat) (listed : Array Bool) (w : World) : Prop := (listed.getD m0 false = false → S w) ∧ (listed.getD m1 false = false → S1 w)
def seqC (md : Region.Mode) (ops : Array Oper) : List Nat → Array Bool → Bool
  | [], listed => (Region.ready md ops listed).isEmpty
  | c :: C, listed => decide (Region.ready md ops listed = [c]) && seqC md ops C (listed.setIfInBounds c true)
def waitsC (md : Region.Mode) (ops : Array Oper) (m i : Nat) : Bool := decide (ops.size ≤ m) || Region.waitsFor md ops m i
def floatC1 (md : Region.Mode) (ops : Array Oper) (m1 : Nat) (C : List Nat) : List Nat → Array Bool → Bool
  | [], listed => seqC md ops C listed
  | i :: F, listed => (Region.ready md ops listed).contains i && Region.free md ops listed i && waitsC md ops m1 i && !listed.getD m1 false && floatC1 md ops m1 C F (listed.setIfInBounds i true)
def floatC (md : Region.Mode) (ops : Array Oper) (m0 m1 : Nat) (F1 C : List Nat) : List Nat → Array Bool → Bool
  | [], listed => floatC1 md ops m1 C F1 listed
  | i :: F, listed => (Region.ready md ops listed).contains i && Region.free md ops listed i && waitsC md ops m0 i && waitsC md ops m1 i && !listed.getD m0 false && !listed.getD m1 false && floatC md ops m0 m1 F1 C F (listed.setIfInBounds i true)
def dstC (n : Nat) : List Oper → Bool
  | [] => true
  | o :: l => (match o.dst with | some d => decide (d < n) && l.all (fun o' => o'.dst != some d) | none => false) && dstC n l
def pickC (ops : Array Oper) (F : List Nat) : List Oper := F.filterMap (ops[·]?)
def wpSeq (P : Program) (ops : Array Oper) (Q : Exit → Act → World → Prop) (S S1 : World → Prop) : List (Oper × Bool × Bool) → Act → World → Prop
  | [], a, w => Q .normal a w
  | (o, s, s1) :: rest, a, w => if Region.wanted o (yielded ops a.tmps) then o.wp P a w (fun a' w' => ((s = true → S w') ∧ (s1 = true → S1 w')) ∧ wpSeq P ops Q S S1 rest a' w') Q ∨ (o.asks P a w ∧ LetsOut Q)
      else ((s = true → S w) ∧ (s1 = true → S1 w)) ∧ wpSeq P ops Q S S1 rest (a.put o.dst undef) w
section
variable {S1 : World → Prop}
theorem wpSeq_nil {a : Act} {w : World} (h : Q .normal a w) : wpSeq P ops Q S S1 [] a w := h
theorem wpSeq_step {o : Oper} {s s1 : Bool} {rest : List (Oper × Bool × Bool)} {a : Act} {w : World}
    (h : ∀ K : Act → World → Prop, (∀ a' w', ((s = true → S w') ∧ (s1 = true → S1 w')) → wpSeq P ops Q S S1 rest a' w' → K a' w') → if Region.wanted o (yielded ops a.tmps) then o.wp P a w K Q else K (a.put o.dst undef) w) : wpSeq P ops Q S S1 ((o, s, s1) :: rest) a w := by
  have := h (fun a' w' => ((s = true → S w') ∧ (s1 = true → S1 w')) ∧ wpSeq P ops Q S S1 rest a' w') (fun a' w' hS h => ⟨hS, h⟩)
  unfold wpSeq
  split
  · rename_i hw; rw [if_pos hw] at this; exact .inl this
  · rename_i hw; rw [if_neg hw] at this; exact this
theorem wpSeq_same {o : Oper} {rest : List (Oper × Bool × Bool)} {a : Act} {w : World}
    (h : ∀ K : Act → World → Prop, (∀ a' w', S w' → wpSeq P ops Q S S rest a' w' → K a' w') → if Region.wanted o (yielded ops a.tmps) then o.wp P a w K Q else K (a.put o.dst undef) w) : wpSeq P ops Q S S ((o, true, true) :: rest) a w :=
  wpSeq_step fun K hK => h K fun a' w' h1 => hK a' w' ⟨fun _ => h1, fun _ => h1⟩
theorem wpSeq_one {o : Oper} {rest : List (Oper × Bool × Bool)} {a : Act} {w : World}
    (h : ∀ K : Act → World → Prop, (∀ a' w', S1 w' → wpSeq P ops Q S S1 rest a' w' → K a' w') → if Region.wanted o (yielded ops a.tmps) then o.wp P a w K Q else K (a.put o.dst undef) w) : wpSeq P ops Q S S1 ((o, false, true) :: rest) a w :=
  wpSeq_step fun K hK => h K fun a' w' h1 => hK a' w' ⟨(fun h => by cases h), fun _ => h1⟩
theorem wpSeq_tail : ∀ (l : List (Oper × Bool × Bool)) {a : Act} {w : World}, l.all (fun p => !p.2.1 && !p.2.2) = true → wpList P ops Q (l.map (·.1)) a w → wpSeq P ops Q S S1 l a w
  | [], _, _, _, h => h
  | (o, s, s1) :: rest, a, w, hl, h => by
    simp only [List.all_cons, Bool.and_eq_true, Bool.not_eq_true'] at hl
    obtain ⟨⟨rfl, rfl⟩, hl⟩ := hl
    simp only [List.map_cons, wpList] at h
    unfold wpSeq
    split
    · rename_i hw
      rw [if_pos hw] at h
      rcases h with h | h
      · exact .inl (Oper.wp_mono (fun a' w' h' => ⟨⟨(fun h => by cases h), (fun h => by cases h)⟩, wpSeq_tail rest (by simpa using hl) h'⟩) h)
      · exact .inr h
    · rename_i hw
      rw [if_neg hw] at h
      exact ⟨⟨(fun h => by cases h), (fun h => by cases h)⟩, wpSeq_tail rest (by simpa using hl) h⟩
end
def chainOf (ops : Array Oper) (m0 m1 : Nat) : List Nat → Bool → Bool → List (Oper × Bool × Bool)
  | [], _, _ => []
  | c :: C, s, s1 => match ops[c]? with | some o => (o, s && c != m0, s1 && c != m1) :: chainOf ops m0 m1 C (s && c != m0) (s1 && c != m1) | none => []
theorem wpAnyT_seq {S1 : World → Prop} {m0 m1 : Nat} : ∀ (C : List Nat) (listed : Array Bool) (s s1 : Bool) (a : Act) (w : World), (s = false → listed.getD m0 false = true) → (s1 = false → listed.getD m1 false = true) → seqC md ops C listed = true → (∀ c ∈ C, c < ops.size) →
    listed.size = ops.size → wpSeq P ops Q S S1 (chainOf ops m0 m1 C s s1) a w → wpAnyT P md ops Q (Till S S1 m0 m1) C.length listed a w
  | [], listed, s, s1, a, w, _, _, hB, _, _, h => ⟨by simpa [seqC] using hB, h⟩
  | c :: C, listed, s, s1, a, w, hs, hs1, hB, hlt, hsz, h => by
    have hc := hlt c (List.mem_cons_self)
    have h0 : ops[c]? = some ops[c] := Array.getElem?_eq_getElem hc
    simp only [seqC, Bool.and_eq_true, decide_eq_true_eq] at hB
    simp only [chainOf, h0, wpSeq] at h
    refine ⟨fun h1 => (by rw [hB.1] at h1; cases h1), fun i hi => ?_⟩
    rw [hB.1] at hi
    have hik : i = c := by simpa using hi
    subst hik
    have set' : ∀ (s : Bool) (m : Nat), (s = false → listed.getD m false = true) → (s && i != m) = false → (listed.setIfInBounds i true).getD m false = true := by
      intro s m hs h2
      by_cases hm : i = m
      · subst hm; simp [hsz, hc]
      · have : s = false := by simpa [hm] using h2
        exact getD_set_true (hs this)
    have step : ∀ a' w', (((s && i != m0) = true → S w') ∧ ((s1 && i != m1) = true → S1 w')) ∧ wpSeq P ops Q S S1 (chainOf ops m0 m1 C (s && i != m0) (s1 && i != m1)) a' w' →
        Till S S1 m0 m1 (listed.setIfInBounds i true) w' ∧ wpAnyT P md ops Q (Till S S1 m0 m1) C.length (listed.setIfInBounds i true) a' w' := by
      intro a' w' ⟨⟨h1, h1'⟩, h2⟩
      refine ⟨⟨fun h3 => h1 ?_, fun h3 => h1' ?_⟩, wpAnyT_seq C _ _ _ a' w' (set' s m0 hs) (set' s1 m1 hs1) hB.2 (fun c hc => hlt c (List.mem_cons_of_mem _ hc)) (by simp [hsz]) h2⟩
      · cases h4 : (s && i != m0) with
        | true => rfl
        | false => rw [set' s m0 hs h4] at h3; cases h3
      · cases h4 : (s1 && i != m1) with
        | true => rfl
        | false => rw [set' s1 m1 hs1 h4] at h3; cases h3
    refine wpOp_mono step ?_
    unfold wpOp
    simp only [h0]
    split
    · rename_i hw; rw [if_pos hw] at h; exact h
    · rename_i hw; rw [if_neg hw] at h; exact h
theorem put_size (a : Act) (d : Option Tmp) (v : Value) : (a.put d v).tmps.size = a.tmps.size := by cases d <;> simp [Act.put]
theorem still_keeps {A : Act} {w : World} : ∀ (l : List Oper) (a : Act), wpStill P ops w (fun a' => a' = A) l a → ∀ d, (∀ o ∈ l, o.dst ≠ some d) → A.tmps[d]? = a.tmps[d]? := by
  intro l
  induction l with
  | nil => intro a h d _; rw [show a = A from h]
  | cons o l ih =>
    intro a h d hd
    have hput : ∀ v, (a.put o.dst v).tmps[d]? = a.tmps[d]? := by
      intro v
      cases hdo : o.dst with
      | none => rfl
      | some e =>
        have : e ≠ d := fun h => hd o List.mem_cons_self (by rw [hdo, h])
        simp [Act.put, Array.getElem?_setIfInBounds_ne this]
    have hnext : ∀ v, wpStill P ops w (fun a' => a' = A) l (a.put o.dst v) → A.tmps[d]? = a.tmps[d]? := fun v h2 => (ih _ h2 d (fun o ho => hd o (List.mem_cons_of_mem _ ho))).trans (hput v)
    simp only [wpStill] at h
    split at h
    · unfold Oper.still at h
      generalize (execOp a.eval o).run P w = r at h
      cases r with
      | ok n w' =>
        cases n <;> simp only [Oper.stillUpon] at h
        case value u => exact hnext u h.2
        case skip => exact hnext _ h.2
        case enter f args => obtain ⟨_, v, _, h2⟩ := h; exact hnext v h2
      | halt x w' => simp only [Oper.stillUpon] at h
    · exact hnext _ h
theorem yields_all {S : World → Prop} {A : Act} {w0 : World} (hS : S w0) {i : Nat} {o : Oper} {d : Tmp} {rest : List Oper} {a : Act} (h0 : ops[i]? = some o) (hdo : o.dst = some d) (hdlt : d < a.tmps.size) (hdn : ∀ o' ∈ rest, o'.dst ≠ some d)
    (hst : ∀ w', S w' → wpStill P ops w' (fun a' => a' = A) (o :: rest) a) : ∃ v, YieldsS P ops S o v a ∧ ∀ w', S w' → wpStill P ops w' (fun a' => a' = A) rest (a.put o.dst v) := by
  have hy : ∀ w', S w' → ∃ v, YieldsAt P ops w' o v a ∧ wpStill P ops w' (fun a' => a' = A) rest (a.put o.dst v) := fun w' hw' => by
    have h1 : stOp P ops w' i (wpStill P ops w' (fun a' => a' = A) rest) a := by unfold stOp; simp only [h0]; exact hst w' hw'
    exact yieldsAt_of_stOp h0 h1
  have hv : ∀ w' v, wpStill P ops w' (fun a' => a' = A) rest (a.put o.dst v) → A.tmps[d]? = some v := fun w' v h => by
    rw [still_keeps _ _ h d hdn, hdo]
    simp [Act.put, hdlt]
  obtain ⟨v, hyv, hnv⟩ := hy w0 hS
  have hA := hv w0 v hnv
  have hall : ∀ w', S w' → YieldsAt P ops w' o v a ∧ wpStill P ops w' (fun a' => a' = A) rest (a.put o.dst v) := fun w' hw' => by
    obtain ⟨v', h1, h2⟩ := hy w' hw'
    have := hv w' v' h2
    rw [hA] at this
    obtain rfl := Option.some.inj this
    exact ⟨h1, h2⟩
  exact ⟨v, fun w' hw' => (hall w' hw').1, fun w' hw' => (hall w' hw').2⟩
theorem waits_ne {m i : Nat} {l : Array Bool} (hw : waitsC md ops m i = true) (hr : i ∈ Region.ready md ops l) {j : Nat} (hj : j ∈ Region.ready md ops l) : j ≠ m := by
  intro e
  subst e
  obtain ⟨hun, o, ho, hall⟩ := mem_ready.1 hj
  simp only [waitsC, Bool.or_eq_true, decide_eq_true_eq] at hw
  rcases hw with hm | hm
  · have := (Array.getElem?_eq_some_iff.1 ho).1; omega
  · obtain ⟨o', ho', e, he, hb, hon⟩ := Region.waitsFor_spec hm
    have : o' = o := Option.some.inj (ho'.symm.trans ho)
    subst this
    have h2 := hall e he hb
    rw [hon, getD_both (mem_ready.1 hr).1] at h2
    cases h2
section
variable {S1 : World → Prop} {m0 m1 : Nat}
theorem wpAnyT_float1 (hsel : Region.noSelect ops = true) (hQ : ∀ c a (d : Tmp) v w, Q (.panic c) (a.put (some d) v) w → Q (.panic c) a w) {C : List Nat} {A : Act} {w0 : World} (hS : S w0) (hS1 : S1 w0) :
    ∀ (F : List Nat) (listed : Array Bool) (a : Act), floatC1 md ops m1 C F listed = true → (∀ c ∈ F, c < ops.size ∧ c ≠ m0) → listed.size = ops.size →
      dstC a.tmps.size (pickC ops F) = true → (∀ w', S1 w' → wpStill P ops w' (fun a' => a' = A) (pickC ops F) a) →
      (∀ listed', listed'.size = ops.size → seqC md ops C listed' = true → wpAnyT P md ops Q (Till S S1 m0 m1) C.length listed' A w0) →
      wpAnyT P md ops Q (Till S S1 m0 m1) (F.length + C.length) listed a w0
  | [], listed, a, hB, _, hsz, _, hst, hC => by
    have : a = A := hst w0 hS1
    subst this
    simpa using hC listed hsz hB
  | i :: F, listed, a, hB, hlt, hsz, hd, hst, hC => by
    obtain ⟨hc, hcm⟩ := hlt i (List.mem_cons_self)
    have h0 : ops[i]? = some ops[i] := Array.getElem?_eq_getElem hc
    have hp : pickC ops (i :: F) = ops[i] :: pickC ops F := by simp [pickC, h0]
    rw [hp] at hd
    simp only [hp] at hst
    simp only [floatC1, Bool.and_eq_true, Bool.not_eq_true'] at hB
    obtain ⟨⟨⟨⟨hr, hf⟩, hm⟩, hl⟩, hB'⟩ := hB
    obtain ⟨o, ho⟩ : ∃ o, ops[i] = o := ⟨_, rfl⟩
    rw [ho] at h0 hd
    simp only [ho] at hst
    have hri : i ∈ Region.ready md ops listed := by simpa using hr
    cases hdo : o.dst with
    | none => simp [dstC, hdo] at hd
    | some d =>
      simp only [dstC, hdo, Bool.and_eq_true, decide_eq_true_eq, List.all_eq_true] at hd
      obtain ⟨⟨hdlt, hdn⟩, hd'⟩ := hd
      obtain ⟨v, hy, hn⟩ := yields_all hS1 h0 hdo hdlt (fun o' ho' => by simpa using hdn o' ho') hst
      have him : i ≠ m1 := waits_ne hm hri hri
      rw [List.length_cons, show F.length + 1 + C.length = (F.length + C.length) + 1 by omega]
      exact wpAnyT_first (J := fun l => l.getD m1 false = false) h0 (Region.noSelect_spec hsel) (fun c a w => by rw [hdo]; exact hQ c a d v w)
        (fun l w => by unfold Till; rw [getD_set_ne false hcm, getD_set_ne false him]) (fun l w hJ hT => hT.2 hJ) (fun l j hJ hr hj _ => by rw [getD_set_ne false (waits_ne hm hr hj)]; exact hJ)
        (F.length + C.length) listed a w0 (Region.free_spec h0 hf) hri hy ⟨fun _ => hS, fun _ => hS1⟩ hl
        (wpAnyT_float1 hsel hQ hS hS1 F _ _ hB' (fun c hc => hlt c (List.mem_cons_of_mem _ hc)) (by simp [hsz]) (by rw [put_size]; exact hd') hn hC)
theorem wpAnyT_float (hsel : Region.noSelect ops = true) (hQ : ∀ c a (d : Tmp) v w, Q (.panic c) (a.put (some d) v) w → Q (.panic c) a w) {F1 C : List Nat} {A1 A : Act} {w0 : World} (hS : S w0) (hS1 : S1 w0)
    (hF1 : ∀ c ∈ F1, c < ops.size ∧ c ≠ m0) (hd1 : dstC A1.tmps.size (pickC ops F1) = true) (hst1 : ∀ w', S1 w' → wpStill P ops w' (fun a' => a' = A) (pickC ops F1) A1) :
    ∀ (F : List Nat) (listed : Array Bool) (a : Act), floatC md ops m0 m1 F1 C F listed = true → (∀ c ∈ F, c < ops.size) → listed.size = ops.size →
      dstC a.tmps.size (pickC ops F) = true → (∀ w', S w' ∧ S1 w' → wpStill P ops w' (fun a' => a' = A1) (pickC ops F) a) →
      (∀ listed', listed'.size = ops.size → seqC md ops C listed' = true → wpAnyT P md ops Q (Till S S1 m0 m1) C.length listed' A w0) →
      wpAnyT P md ops Q (Till S S1 m0 m1) (F.length + (F1.length + C.length)) listed a w0
  | [], listed, a, hB, _, hsz, _, hst, hC => by
    have : a = A1 := hst w0 ⟨hS, hS1⟩
    subst this
    simp only [List.length_nil, Nat.zero_add]
    exact wpAnyT_float1 hsel hQ hS hS1 F1 listed a hB hF1 hsz hd1 hst1 hC
  | i :: F, listed, a, hB, hlt, hsz, hd, hst, hC => by
    have hc := hlt i (List.mem_cons_self)
    have h0 : ops[i]? = some ops[i] := Array.getElem?_eq_getElem hc
    have hp : pickC ops (i :: F) = ops[i] :: pickC ops F := by simp [pickC, h0]
    rw [hp] at hd
    simp only [hp] at hst
    simp only [floatC, Bool.and_eq_true, Bool.not_eq_true'] at hB
    obtain ⟨⟨⟨⟨⟨⟨hr, hf⟩, hm0⟩, hm⟩, hl0⟩, hl⟩, hB'⟩ := hB
    obtain ⟨o, ho⟩ : ∃ o, ops[i] = o := ⟨_, rfl⟩
    rw [ho] at h0 hd
    simp only [ho] at hst
    have hri : i ∈ Region.ready md ops listed := by simpa using hr
    cases hdo : o.dst with
    | none => simp [dstC, hdo] at hd
    | some d =>
      simp only [dstC, hdo, Bool.and_eq_true, decide_eq_true_eq, List.all_eq_true] at hd
      obtain ⟨⟨hdlt, hdn⟩, hd'⟩ := hd
      obtain ⟨v, hy, hn⟩ := yields_all (S := fun w => S w ∧ S1 w) ⟨hS, hS1⟩ h0 hdo hdlt (fun o' ho' => by simpa using hdn o' ho') hst
      rw [List.length_cons, show F.length + 1 + (F1.length + C.length) = (F.length + (F1.length + C.length)) + 1 by omega]
      exact wpAnyT_first (J := fun l => l.getD m0 false = false ∧ l.getD m1 false = false) h0 (Region.noSelect_spec hsel) (fun c a w => by rw [hdo]; exact hQ c a d v w)
        (fun l w => by unfold Till; rw [getD_set_ne false (waits_ne hm0 hri hri), getD_set_ne false (waits_ne hm hri hri)]) (fun l w hJ hT => ⟨hT.1 hJ.1, hT.2 hJ.2⟩)
        (fun l j hJ hr hj _ => by rw [getD_set_ne false (waits_ne hm0 hr hj), getD_set_ne false (waits_ne hm hr hj)]; exact hJ)
        _ listed a w0 (Region.free_spec h0 hf) hri hy ⟨fun _ => hS, fun _ => hS1⟩ ⟨hl0, hl⟩
        (wpAnyT_float hsel hQ hS hS1 hF1 hd1 hst1 F _ _ hB' (fun c hc => hlt c (List.mem_cons_of_mem _ hc)) (by simp [hsz]) (by rw [put_size]; exact hd') hn hC)
end
def textB (ops : Array Oper) (F F1 C : List Nat) (m0 m1 : Nat) : Bool :=
  Region.noSelect ops && decide (F.length + (F1.length + C.length) = ops.size) && F.all (fun c => decide (c < ops.size)) && F1.all (fun c => decide (c < ops.size) && c != m0) && C.all (fun c => decide (c < ops.size)) && floatC .any ops m0 m1 F1 C F (Array.replicate ops.size false)
theorem wp_region_text2 {id : Nat} {a : Act} {w : World} (F F1 C : List Nat) (m0 m1 : Nat) (S S1 : World → Prop) (A1 A : Act) (hm : P.follows .mixedOrders = true) (hB : textB ops F F1 C m0 m1 = true)
    (hd : dstC a.tmps.size (pickC ops F) = true) (hd1 : dstC A1.tmps.size (pickC ops F1) = true) (hQ : ∀ c a (d : Tmp) v w, Q (.panic c) (a.put (some d) v) w → Q (.panic c) a w) (hS : S w.drew) (hS1 : S1 w.drew)
    (hF : ∀ w', S w' ∧ S1 w' → wpStill P ops w' (fun a' => a' = A1) (pickC ops F) a) (hF1 : ∀ w', S1 w' → wpStill P ops w' (fun a' => a' = A) (pickC ops F1) A1)
    (hC : wpSeq P ops Q S S1 (chainOf ops m0 m1 C true true) A w.drew) : (Code.region id ops true).wp P Q a w := by
  simp only [textB, Bool.and_eq_true, decide_eq_true_eq, List.all_eq_true, bne_iff_ne] at hB
  obtain ⟨⟨⟨⟨⟨hsel, hlen⟩, hFl⟩, hF1l⟩, hCl⟩, hfl⟩ := hB
  refine wp_region_any hm (wpAny_of_T (T := Till S S1 m0 m1) _ _ _ _ ?_)
  rw [← hlen]
  exact wpAnyT_float hsel hQ hS hS1 hF1l hd1 hF1 F _ a (by rw [hlen]; exact hfl) hFl (by simp [hlen]) hd hF
    (fun listed' hsz hseq => wpAnyT_seq C listed' true true A _ (fun h => by cases h) (fun h => by cases h) hseq hCl hsz hC)
theorem wp_region_text {id : Nat} {a : Act} {w : World} (F C : List Nat) (m0 : Nat) (S : World → Prop) (A : Act) (hm : P.follows .mixedOrders = true) (hB : textB ops F [] C m0 m0 = true)
    (hd : dstC a.tmps.size (pickC ops F) = true) (hQ : ∀ c a (d : Tmp) v w, Q (.panic c) (a.put (some d) v) w → Q (.panic c) a w) (hS : S w.drew)
    (hF : ∀ w', S w' → wpStill P ops w' (fun a' => a' = A) (pickC ops F) a)
    (hC : wpSeq P ops Q S S (chainOf ops m0 m0 C true true) A w.drew) : (Code.region id ops true).wp P Q a w :=
  wp_region_text2 F [] C m0 m0 S S A A hm hB hd rfl hQ hS hS (fun w' h => hF w' h.1) (fun _ _ => rfl) hC
end
section
variable {P : Program} {ops : Array Oper} {w : World} {Q : Act → Prop} {o : Oper} {rest : List Oper} {a : Act}
theorem bft : (false == true) = false := rfl
theorem btf : (true == false) = false := rfl
theorem wpStill_no {j : Nat} {want b : Bool} (hg : o.guard = some (j, want)) (hy : yielded ops a.tmps j = some b) (hb : (b == want) = false) (h : wpStill P ops w Q rest (a.put o.dst undef)) : wpStill P ops w Q (o :: rest) a := by
  have : Region.wanted o (yielded ops a.tmps) = false := by simp only [Region.wanted, hg, hy]; exact hb
  unfold wpStill
  rw [this]
  exact h
theorem wpStill_yes {j : Nat} {want : Bool} (hg : o.guard = some (j, want)) (hy : yielded ops a.tmps j = some want) (h : ∀ K : Act → Prop, (∀ a, wpStill P ops w Q rest a → K a) → o.still P a w K) : wpStill P ops w Q (o :: rest) a := by
  have : Region.wanted o (yielded ops a.tmps) = true := by simp [Region.wanted, hg, hy]
  unfold wpStill
  rw [this]
  exact h _ (fun _ h => h)
theorem wpStill_plain (hg : o.guard = none) (h : ∀ K : Act → Prop, (∀ a, wpStill P ops w Q rest a → K a) → o.still P a w K) : wpStill P ops w Q (o :: rest) a := by
  have : Region.wanted o (yielded ops a.tmps) = true := by simp [Region.wanted, hg]
  unfold wpStill
  rw [this]
  exact h _ (fun _ h => h)
end
structure Keeps (X : List Nat) (w w' : World) : Prop where
  os : w'.os = w.os
  tape : w'.tape = w.tape
  output : w'.output = w.output
  size : w.heap.size ≤ w'.heap.size
  block : ∀ k, k < w.heap.size → k ∉ X → w'.heap[k]? = w.heap[k]?
section
variable {X : List Nat} {w w1 w2 : World}
theorem Keeps.refl (X : List Nat) (w : World) : Keeps X w w := ⟨rfl, rfl, rfl, Nat.le_refl _, fun _ _ _ => rfl⟩
theorem Keeps.cell (h : Keeps X w w1) {a : Addr} {v : Value} (hc : w.cell? a = some v) (hx : a.block ∉ X) : w1.cell? a = some v := by
  rw [World.cell?_of_block (w := w) (h.block a.block (World.block_lt_of_cell? w a hc) hx), hc]
theorem Keeps.drew (h : Keeps X w w1) : Keeps X w w1.drew := ⟨h.os, h.tape, h.output, h.size, h.block⟩
theorem Keeps.trans {Y : List Nat} (h : Keeps X w w1) (h2 : Keeps Y w1 w2) (hY : ∀ k, k ∈ Y → k < w.heap.size → k ∈ X) : Keeps X w w2 :=
  ⟨h2.os.trans h.os, h2.tape.trans h.tape, h2.output.trans h.output, Nat.le_trans h.size h2.size, fun k hk hx => by rw [h2.block k (by have := h.size; omega) (fun hy => hx (hY k hy hk))]; exact h.block k hk hx⟩
theorem Keeps.of_below (X : List Nat) (h : Below w.heap.size w w1) : Keeps X w w1 := ⟨h.os, h.tape, h.output, h.size, fun k hk _ => h.block k hk⟩
theorem Keeps.to_below (h : Keeps X w w1) {B : Nat} (hB : B ≤ w.heap.size) (hX : ∀ k, k ∈ X → B ≤ k) : Below B w w1 :=
  ⟨h.os, h.tape, h.output, h.size, fun k hk => h.block k (by omega) (fun hx => by have := hX k hx; omega)⟩
theorem Keeps.mono {Y : List Nat} (h : Keeps X w w1) (hX : ∀ k, k ∈ X → k ∈ Y) : Keeps Y w w1 := ⟨h.os, h.tape, h.output, h.size, fun k hk hx => h.block k hk (fun h' => hx (hX k h'))⟩
theorem Keeps.alloc (h : Keeps X w w1) (o : Obj) : Keeps X w (w1.alloc o) :=
  h.trans (Keeps.of_below X ((Below.refl _ _).alloc (Nat.le_refl _) _)) (fun _ hk _ => hk)
theorem Keeps.below (h : Keeps X w w1) (hb : Below w1.heap.size w1 w2) : Keeps X w w2 := h.trans (Keeps.of_below X hb) (fun _ hk _ => hk)
theorem Keeps.grown (h : Keeps X w w1) {row : Option Nat} (hg : w1.grownBy w2 row) (hr : ∀ k, row = some k → k < w.heap.size → k ∈ X) : Keeps X w w2 :=
  ⟨hg.os.trans h.os, hg.tape.trans h.tape, hg.output.trans h.output, Nat.le_trans h.size hg.size, fun k hk hx => by rw [hg.block k (by have := h.size; omega) (fun e => hx (hr k e.symm hk))]; exact h.block k hk hx⟩
theorem Keeps.setCell (h : Keeps X w w1) {p : Addr} (hp : p.block < w.heap.size → p.block ∈ X) (u : Value) : Keeps X w (w1.setCell p u) := by
  refine ⟨h.os, h.tape, h.output, by rw [show (w1.setCell p u).heap.size = w1.heap.size by simp [World.setCell]]; exact h.size, fun k hk hx => ?_⟩
  have hne : k ≠ p.block := by rintro rfl; exact hx (hp hk)
  rw [Below.heap_setCell _ _ _ _ hne]
  exact h.block k hk hx
theorem Keeps.allocs (h : Keeps X w w1) (hs : w1.heap.size = w.heap.size) (o : Obj) : Keeps X (w.alloc o) (w1.alloc o) := by
  refine ⟨h.os, h.tape, h.output, by simp [hs], fun k hk hx => ?_⟩
  simp at hk
  show (w1.heap.push o)[k]? = (w.heap.push o)[k]?
  rw [Array.getElem?_push, Array.getElem?_push, hs]
  split
  · rfl
  · exact h.block k (by omega) hx
end
end Go.Proofs.Ytpjobcnfjpbaeaa.R

namespace Go.Proofs.Ytpjobcnfjpbaeaa.A
open Go.RowKit Go.Proofs.YtpjobcnfjpbaeaaW.PrintWords Go.Proofs.YtpjobcnfjpbaeaaW.PrintLast Go.Proofs.YtpjobcnfjpbaeaaW.PrintMore
open Go.Proofs.Ytpjobcnfjpbaeaa.PA
def arcC (a : S106) : List Value := [.int .i64 a.f0, .int .i64 a.f1, .int .i64 a.f2, .int .i64 a.f3]
def arcsC (l : List S106) : List Value := l.flatMap arcC
theorem arcsC_len (l : List S106) : (arcsC l).length = l.length * 4 := by
  induction l with
  | nil => rfl
  | cons a l ih => simp only [arcsC, List.flatMap_cons, List.length_append, List.length_cons] at ih ⊢; rw [ih]; simp [arcC]; omega
def FlowAt (w : World) (base b : Nat) (n : Int) (arcs : List S106) : Prop :=
  base ≤ b ∧ ∃ v, w.heap[b]? = some (.cells #[.int .i64 n, v] 109 (0, 0)) ∧ v.ownBlock ≠ some b ∧ w.ownsRow base 106 4 v arcs.length (arcsC arcs)
def FlowApart (w : World) (b : Nat) (n : Int) (k : Nat) : Prop := k < w.heap.size ∧ k ≠ b ∧ ∀ v, w.heap[b]? = some (.cells #[.int .i64 n, v] 109 (0, 0)) → v.ownBlock ≠ some k
def FlowFrame (w w' : World) (b : Nat) (n : Int) : Prop := ∀ k, FlowApart w b n k → w'.heap[k]? = w.heap[k]? ∧ FlowApart w' b n k
theorem FlowFrame.trans {w w1 w2 : World} {b : Nat} {n : Int} (h : FlowFrame w w1 b n) (h1 : FlowFrame w1 w2 b n) : FlowFrame w w2 b n := fun k hk =>
  let ⟨a, c⟩ := h k hk; let ⟨d, e⟩ := h1 k c; ⟨d.trans a, e⟩
theorem FlowFrame.refl (w : World) (b : Nat) (n : Int) : FlowFrame w w b n := fun _ hk => ⟨rfl, hk⟩
def addF (arcs : List S106) (f t r g back : Int) : List S106 := arcs ++ [⟨f, t, r, g⟩, ⟨t, f, back, IntKind.i64.wrap (-g)⟩]
theorem info106 : (Try.prog.info? 106).map (fun i => (i.zero, i.size, i.bytes)) = some (some (.agg #[.int .i64 0, .int .i64 0, .int .i64 0, .int .i64 0]), 4, 32) := by kernel_rfl
set_option maxRecDepth 100000 in
set_option maxHeartbeats 3200000 in
theorem add_c (base b : Nat) (n : Int) (arcs : List S106) (f t r g back : Int) (w : World) (hF : FlowAt w base b n arcs) (hlen : arcs.length ≤ 100000) :
    Calls Try.prog 91 #[.pointer (some ⟨b, 0, none⟩), .agg #[.int .i64 f, .int .i64 t, .int .i64 r, .int .i64 g], .int .i64 back] w fun e w' =>
      e = .returned (.tuple #[]) ∧ FlowAt w' base b n (addF arcs f t r g back) ∧ Below base w w' ∧ FlowFrame w w' b n := by
  obtain ⟨hb, v, hblk, hne, hown⟩ := hF
  obtain ⟨i0, hi0, hz0, hz1, hz2⟩ := info_parts info106
  have hbs : b < w.heap.size := by
    rcases Nat.lt_or_ge b w.heap.size with h | h
    · exact h
    · rw [Array.getElem?_eq_none h] at hblk; cases hblk
  have hc1 : w.cell? ⟨b, 1, none⟩ = some v := by simp [World.cell?, hblk]
  have hz : ∀ o, (w.alloc o).heap.size = w.heap.size + 1 := fun o => by simp
  have hW1 : ∀ w', R.Keeps (v.ownBlock.toList) (w.alloc (Obj.cells #[Value.int IntKind.i64 f, Value.int IntKind.i64 t, Value.int IntKind.i64 r, Value.int IntKind.i64 g] 106)) w' →
      w'.cell? ⟨b, 1, none⟩ = some v ∧ w'.cell? ⟨w.heap.size, 0, none⟩ = some (.int .i64 f) ∧ w'.cell? ⟨w.heap.size, 1, none⟩ = some (.int .i64 t) ∧ w'.cell? ⟨w.heap.size, 2, none⟩ = some (.int .i64 r) ∧ w'.cell? ⟨w.heap.size, 3, none⟩ = some (.int .i64 g) := by
    intro w' h
    have hx : ∀ k, v.ownBlock ≠ some k → k ∉ v.ownBlock.toList := fun k hk h2 => hk (by simpa using h2)
    have hx2 : w.heap.size ∉ v.ownBlock.toList := hx _ (fun e => by have := hown.lt _ e; omega)
    refine ⟨h.cell (a := ⟨b, 1, none⟩) ?_ (hx _ hne), h.cell (a := ⟨w.heap.size, 0, none⟩) ?_ hx2, h.cell (a := ⟨w.heap.size, 1, none⟩) ?_ hx2, h.cell (a := ⟨w.heap.size, 2, none⟩) ?_ hx2, h.cell (a := ⟨w.heap.size, 3, none⟩) ?_ hx2⟩
    · rw [← hc1]; exact ((Below.refl w.heap.size w).alloc (Nat.le_refl _) _).cell (p := ⟨b, 1, none⟩) hbs
    all_goals simp [go_sem]
  have HW1 := Lib.hid hW1
  clear hW1
  go_enter Try.func91, Try.ntmps91
  go_wp2_with fail
  apply R.wp_region_text [0, 1, 2, 3, 4, 5, 6, 7, 8, 9, 10, 11, 12, 13, 14] [15, 16, 17, 18, 19] 17 (R.Keeps (v.ownBlock.toList) (w.alloc (Obj.cells #[Value.int IntKind.i64 f, Value.int IntKind.i64 t, Value.int IntKind.i64 r, Value.int IntKind.i64 g] 106)))
  case hm => kernel_rfl
  case hB => kernel_rfl
  case hd => rfl
  case hQ => exact fun _ _ _ _ _ h => h
  case hS => exact (R.Keeps.refl _ _).drew
  case hF =>
    intro w' hS
    obtain ⟨g1, g2, g3, g4, g5⟩ := HW1.out w' hS
    have HS := Lib.hid hS
    clear hS
    simp only [R.pickC, List.filterMap_cons, List.getElem?_toArray, List.getElem?_cons_zero, List.getElem?_cons_succ, List.filterMap_nil]
    repeat still_step
    exact wpStill_nil rfl
  case hC =>
    simp only [R.chainOf, List.getElem?_toArray, List.getElem?_cons_zero, List.getElem?_cons_succ, Nat.reduceBNe, Bool.and_true, Bool.and_false, Bool.false_and]
    refine R.wpSeq_same (fun K hK => ?_)
    go_simp
    refine hK _ _ ((R.Keeps.refl _ _).alloc _).drew ?_
    clear hK K
    refine R.wpSeq_same (fun K hK => ?_)
    refine step_append_lies _ (by rfl) _ _ _ (by rfl) base 106 i0 _ 4 32 Try.underlying107 hi0 hz0 hz1 hz2 rfl (by omega) v arcs.length (arcsC arcs) (by rfl) (((hown.alloc _).alloc _).drew)
        ⟨w.heap.size + 1, 0, none⟩ 2 2 (arcC ⟨f, t, r, g⟩ ++ arcC ⟨t, f, back, IntKind.i64.wrap (-g)⟩) (by rfl) (by rfl) ?hnews ?hone
        (by omega) (by unfold maxLen; omega) (by omega) (by simp; omega) (w.heap.size + 2) (by simp) ?_
    case hnews =>
      have h8 : ((w.alloc (Obj.cells #[Value.int IntKind.i64 f, Value.int IntKind.i64 t, Value.int IntKind.i64 r, Value.int IntKind.i64 g] 106)).alloc (Obj.cells #[Value.int IntKind.i64 f, Value.int IntKind.i64 t, Value.int IntKind.i64 r, Value.int IntKind.i64 g, Value.int IntKind.i64 t, Value.int IntKind.i64 f, Value.int IntKind.i64 back, Value.int IntKind.i64 (IntKind.i64.wrap (-g))] 106)).heap[w.heap.size + 1]? = some (Obj.cells #[Value.int IntKind.i64 f, Value.int IntKind.i64 t, Value.int IntKind.i64 r, Value.int IntKind.i64 g, Value.int IntKind.i64 t, Value.int IntKind.i64 f, Value.int IntKind.i64 back, Value.int IntKind.i64 (IntKind.i64.wrap (-g))] 106) := by
        rw [← hz (Obj.cells #[Value.int IntKind.i64 f, Value.int IntKind.i64 t, Value.int IntKind.i64 r, Value.int IntKind.i64 g] 106), heap_alloc_new]
      exact fun j u hu => World.news_of_block h8 j u hu
    case hone =>
      intro u hu
      simp [arcC] at hu
      rcases hu with rfl | rfl | rfl | rfl | rfl | rfl | rfl | rfl <;> rfl
    intro gg cap w1 hown1 hgrow hat hlt
    refine hK _ _ (((R.Keeps.refl _ _).alloc _).drew.grown hgrow (fun k hk _ => by simp [hk])) ?_
    clear hK K
    have hb1 : w1.heap[b]? = some (.cells #[.int .i64 n, v] 109 (0, 0)) := by
      rw [hgrow.block b (by simp; omega) (Ne.symm hne)]
      show ((w.alloc _).alloc _).heap[b]? = _
      rw [Below.heap_alloc _ _ _ (by simp; omega), Below.heap_alloc _ _ _ hbs, hblk]
    have hc1' : w1.cell? ⟨b, 1, none⟩ = some v := by simp [World.cell?, hb1]
    have hfz : w1.frozen? ⟨b, 1, none⟩ = false := by simp [World.frozen?, hb1]
    refine R.wpSeq_tail _ rfl ?_
    simp only [List.map_cons, List.map_nil]
    go_wp2_with fail
    go_end0
    have hgb : gg ≠ b := by
      rcases hat with h | h
      · rintro rfl; exact hne h
      · omega
    have hbase : base ≤ gg := by
      rcases hat with h | h
      · exact (hown.lt _ h).1
      · omega
    have hB1 : Below base w w1 := by
      refine (((Below.refl base w).alloc (by omega) _).alloc (by simp; omega) _).drew.grown hgrow (by simp; omega) (fun k hk => (hown.lt _ hk).1)
    refine ⟨rfl, ⟨hb, .slice (some ⟨gg, 0, none⟩) (arcs.length + 2) cap, ?_, ?_, ?_⟩, hB1.setCell (p := ⟨b, 1, none⟩) hb _, ?_⟩
    · simp [World.setCell, Array.getElem?_modify, hb1]
    · simpa [Value.ownBlock] using hgb
    · have e : arcsC (addF arcs f t r g back) = arcsC arcs ++ (arcC ⟨f, t, r, g⟩ ++ arcC ⟨t, f, back, IntKind.i64.wrap (-g)⟩) := by simp [arcsC, addF]
      rw [e, show (addF arcs f t r g back).length = arcs.length + 2 by simp [addF]]
      refine own_move hown1 (fun k hk => ?_)
      have : gg = k := by simpa [Value.ownBlock] using hk
      subst this
      exact Below.heap_setCell _ _ _ _ hgb
    · intro k ⟨hk1, hk2, hk3⟩
      have hnk := hk3 v hblk
      have hs1 : w.heap.size + 2 ≤ w1.heap.size := by have := hgrow.size; simp at this; omega
      refine ⟨?_, by simp [World.setCell]; omega, hk2, ?_⟩
      · rw [Below.heap_setCell _ _ _ _ hk2, hgrow.block k (by simp; omega) (Ne.symm hnk)]
        show ((w.alloc _).alloc _).heap[k]? = _
        rw [Below.heap_alloc _ _ _ (by simp; omega), Below.heap_alloc _ _ _ hk1]
      · intro v' hv'
        have : (World.setCell w1 ⟨b, 1, none⟩ (.slice (some ⟨gg, 0, none⟩) (arcs.length + 2) cap)).heap[b]? = some (.cells #[.int .i64 n, .slice (some ⟨gg, 0, none⟩) (arcs.length + 2) cap] 109 (0, 0)) := by
          simp [World.setCell, Array.getElem?_modify, hb1]
        rw [this] at hv'
        simp at hv'
        subst hv'
        simp only [Value.ownBlock, ne_eq, Option.some.injEq]
        rintro rfl
        rcases hat with h | h
        · exact hnk h
        · omega
end Go.Proofs.Ytpjobcnfjpbaeaa.A

namespace Go.Proofs.Ytpjobcnfjpbaeaa.A
open Go.RowKit Go.Proofs.YtpjobcnfjpbaeaaW.PrintWords Go.Proofs.YtpjobcnfjpbaeaaW.PrintLast Go.Proofs.YtpjobcnfjpbaeaaW.PrintMore
open Go.Proofs.Ytpjobcnfjpbaeaa.PA
theorem FlowAt.open {w : World} {base b : Nat} {n : Int} {arcs : List S106} (h : FlowAt w base b n arcs) (hl : 0 < arcs.length) :
    ∃ g cap cur, base ≤ b ∧ base ≤ g ∧ g ≠ b ∧ w.heap[b]? = some (.cells #[.int .i64 n, .slice (some ⟨g, 0, none⟩) arcs.length cap] 109 (0, 0)) ∧ w.heap[g]? = some (.cells cur 106 (0, 0)) ∧
      arcs.length ≤ cap ∧ cap ≤ maxLen ∧ cur.size = cap * 4 ∧ cur.toList.take (arcs.length * 4) = arcsC arcs := by
  obtain ⟨hb, v, hblk, hne, hx, h⟩ := h
  rcases h with ⟨rfl, h0⟩ | ⟨g, cap, cur, rfl, hg, hh, h1, h2, h3, h4⟩
  · omega
  · exact ⟨g, cap, cur, hb, hg, by simpa [Value.ownBlock] using hne, hblk, hh, h1, h2, h3, h4⟩
theorem arcsC_get (l : List S106) : ∀ (k : Nat) (x : S106), l[k]? = some x → (arcsC l)[k * 4]? = some (.int .i64 x.f0) ∧ (arcsC l)[k * 4 + 1]? = some (.int .i64 x.f1) ∧ (arcsC l)[k * 4 + 2]? = some (.int .i64 x.f2) ∧ (arcsC l)[k * 4 + 3]? = some (.int .i64 x.f3) := by
  induction l with
  | nil => intro k x h; simp at h
  | cons a l ih =>
    intro k x h
    have e : arcsC (a :: l) = arcC a ++ arcsC l := rfl
    rw [e]
    cases k with
    | zero =>
      obtain rfl : a = x := by simpa using h
      simp [arcC]
    | succ k =>
      have h' := ih k x (by simpa using h)
      have h4 : (arcC a).length = 4 := rfl
      refine ⟨?_, ?_, ?_, ?_⟩
      · rw [List.getElem?_append_right (by rw [h4]; omega), h4, show (k + 1) * 4 - 4 = k * 4 by omega]; exact h'.1
      · rw [List.getElem?_append_right (by rw [h4]; omega), h4, show (k + 1) * 4 + 1 - 4 = k * 4 + 1 by omega]; exact h'.2.1
      · rw [List.getElem?_append_right (by rw [h4]; omega), h4, show (k + 1) * 4 + 2 - 4 = k * 4 + 2 by omega]; exact h'.2.2.1
      · rw [List.getElem?_append_right (by rw [h4]; omega), h4, show (k + 1) * 4 + 3 - 4 = k * 4 + 3 by omega]; exact h'.2.2.2
theorem arcsC_set (l : List S106) : ∀ (k : Nat) (x : S106) (r : Int), l[k]? = some x → (arcsC l).set (k * 4 + 2) (.int .i64 r) = arcsC (l.set k ⟨x.f0, x.f1, r, x.f3⟩) := by
  induction l with
  | nil => intro k x r h; simp at h
  | cons a l ih =>
    intro k x r h
    have e : ∀ a l, arcsC (a :: l) = arcC a ++ arcsC l := fun _ _ => rfl
    rw [e]
    cases k with
    | zero =>
      obtain rfl : a = x := by simpa using h
      simp [arcC, e]
    | succ k =>
      have h4 : (arcC a).length = 4 := rfl
      rw [List.set_append_right _ _ (by rw [h4]; omega), h4, show (k + 1) * 4 + 2 - 4 = k * 4 + 2 by omega, ih k x r (by simpa using h)]
      simp [e]
set_option maxRecDepth 100000 in
set_option maxHeartbeats 1600000 in
theorem send_c (base b : Nat) (n : Int) (arcs : List S106) (k j : Nat) (x y : S106) (w : World) (hF : FlowAt w base b n arcs) (hk : arcs[k]? = some x) (hj : arcs[j]? = some y) (hkj : k ≠ j) (hxor : bits BinOp.xor IntKind.i64 (k : Int) 1 = (j : Int)) (hlen : arcs.length ≤ 100000) :
    Calls Try.prog 92 #[.pointer (some ⟨b, 0, none⟩), .int .i64 k] w fun e w' =>
      e = .returned (.tuple #[]) ∧ FlowAt w' base b n ((arcs.set k ⟨x.f0, x.f1, wrap64 (x.f2 - 1), x.f3⟩).set j ⟨y.f0, y.f1, wrap64 (y.f2 + 1), y.f3⟩) ∧ Below base w w' ∧ FlowFrame w w' b n := by
  have hkl := (List.getElem?_eq_some_iff.1 hk).1
  obtain ⟨g, cap, cur, hb, hg, hgb, hblk, hrow, hc1, hc2, hcs, hct⟩ := hF.open (by omega)
  have hx := (arcsC_get arcs k x hk)
  have cellg : ∀ i u, (arcsC arcs)[i]? = some u → w.cell? ⟨g, i, none⟩ = some u := by
    intro i u h
    rw [← hct] at h
    have hi : i < arcs.length * 4 := by
      rcases Nat.lt_or_ge i (arcs.length * 4) with h' | h'
      · exact h'
      · rw [List.getElem?_eq_none (by rw [List.length_take]; omega)] at h; cases h
    rw [List.getElem?_take_of_lt hi] at h
    simp [World.cell?, hrow]
    simpa using h
  have hcell : w.cell? ⟨b, 1, none⟩ = some (.slice (some ⟨g, 0, none⟩) arcs.length cap) := by simp [World.cell?, hblk]
  have hkr : w.cell? ⟨g, k * 4 + 2, none⟩ = some (.int .i64 x.f2) := cellg _ _ hx.2.2.1
  have hkf : w.frozen? ⟨g, k * 4 + 2, none⟩ = false := by simp [World.frozen?, hrow]
  have hk64 : (k : Int) < arcs.length := by omega
  have hjl := (List.getElem?_eq_some_iff.1 hj).1
  have hj64 : (j : Int) < arcs.length := by omega
  have hy := (arcsC_get arcs j y hj)
  have hjr : w.cell? ⟨g, j * 4 + 2, none⟩ = some (.int .i64 y.f2) := cellg _ _ hy.2.2.1
  have hcell1 : (w.setCell ⟨g, k * 4 + 2, none⟩ (.int .i64 (wrap64 (x.f2 - 1)))).cell? ⟨b, 1, none⟩ = some (.slice (some ⟨g, 0, none⟩) arcs.length cap) := by
    rw [World.cell?_setCell_far _ _ _ _ hgb, hcell]
  have hjr1 : (w.setCell ⟨g, k * 4 + 2, none⟩ (.int .i64 (wrap64 (x.f2 - 1)))).cell? ⟨g, j * 4 + 2, none⟩ = some (.int .i64 y.f2) := by
    rw [World.cell?_setCell_other _ _ _ _ (by intro e; injection e with _ e2; omega), hjr]
  have hjf1 : (w.setCell ⟨g, k * 4 + 2, none⟩ (.int .i64 (wrap64 (x.f2 - 1)))).frozen? ⟨g, j * 4 + 2, none⟩ = false := by
    simp [World.frozen?, World.setCell, Array.getElem?_modify, hrow]
  have HF := Lib.hid hF
  have HK := Lib.hid hk
  have HJ := Lib.hid hj
  have HR := Lib.hid hrow
  have HB := Lib.hid hblk
  have HT := Lib.hid hct
  have HS := Lib.hid hcs
  clear hF hk hj hx hy cellg hrow hblk hct hcs hjr
  go_enter Try.func92, Try.ntmps92
  go_wp2_with fail
  go_end0
  refine ⟨rfl, ⟨hb, .slice (some ⟨g, 0, none⟩) arcs.length cap, ?_, by simpa [Value.ownBlock] using hgb, ?_⟩, (((Below.refl base w).setCell (p := ⟨g, k * 4 + 2, none⟩) hg _).setCell (p := ⟨g, j * 4 + 2, none⟩) hg _), ?_⟩
  · rw [Below.heap_setCell _ _ _ _ (Ne.symm hgb), Below.heap_setCell _ _ _ _ (Ne.symm hgb), HB.out]
  · have hown : w.ownsRow base 106 4 (.slice (some ⟨g, 0, none⟩) arcs.length cap) arcs.length (arcsC arcs) :=
      ⟨arcsC_len arcs, .inr ⟨g, cap, cur, rfl, hg, HR.out, hc1, hc2, HS.out, HT.out⟩⟩
    have h1 := ((hown.stored (k * 4 + 2) (.int .i64 (wrap64 (x.f2 - 1)))).1.stored (j * 4 + 2) (.int .i64 (wrap64 (y.f2 + 1)))).1
    rw [arcsC_set arcs k x _ HK.out, arcsC_set (arcs.set k _) j y _ (by rw [List.getElem?_set_ne hkj]; exact HJ.out)] at h1
    simpa using h1
  · intro i ⟨hi1, hi2, hi3⟩
    have hni : i ≠ g := by have := hi3 _ HB.out; rintro rfl; exact this rfl
    have e : ((w.setCell ⟨g, k * 4 + 2, none⟩ (.int .i64 (wrap64 (x.f2 - 1)))).setCell ⟨g, j * 4 + 2, none⟩ (.int .i64 (wrap64 (y.f2 + 1)))).heap[b]? = w.heap[b]? := by
      rw [Below.heap_setCell _ _ _ _ (Ne.symm hgb), Below.heap_setCell _ _ _ _ (Ne.symm hgb)]
    refine ⟨by rw [Below.heap_setCell _ _ _ _ hni, Below.heap_setCell _ _ _ _ hni], by simp [World.setCell]; omega, hi2, fun v hv => hi3 v (by rw [← e]; exact hv)⟩
end Go.Proofs.Ytpjobcnfjpbaeaa.A

namespace Go.Proofs.Ytpjobcnfjpbaeaa.A
open Go.RowKit Go.Proofs.YtpjobcnfjpbaeaaW.PrintWords Go.Proofs.YtpjobcnfjpbaeaaW.PrintLast Go.Proofs.YtpjobcnfjpbaeaaW.PrintMore
open Go.Proofs.Ytpjobcnfjpbaeaa.PA
def ints (xs : List Int) : List Value := xs.map (Value.int .i64)
def IntRow (w : World) (g : Nat) (xs : List Int) : Prop := w.heap[g]? = some (.cells (ints xs).toArray 3 (0, 0))
theorem IntRow.lt {w : World} {g : Nat} {xs : List Int} (h : IntRow w g xs) : g < w.heap.size := by
  rcases Nat.lt_or_ge g w.heap.size with h' | h'
  · exact h'
  · unfold IntRow at h; rw [Array.getElem?_eq_none h'] at h; cases h
theorem IntRow.cell {w : World} {g : Nat} {xs : List Int} (h : IntRow w g xs) {i : Nat} {x : Int} (hx : xs[i]? = some x) : w.cell? ⟨g, i, none⟩ = some (.int .i64 x) := by
  unfold IntRow at h
  simp [World.cell?, h, ints, hx]
theorem IntRow.free {w : World} {g : Nat} {xs : List Int} (h : IntRow w g xs) (i : Nat) : w.frozen? ⟨g, i, none⟩ = false := by
  unfold IntRow at h
  simp [World.frozen?, h]
theorem IntRow.set {w : World} {g : Nat} {xs : List Int} (h : IntRow w g xs) (i : Nat) (x : Int) : IntRow (w.setCell ⟨g, i, none⟩ (.int .i64 x)) g (xs.set i x) := by
  unfold IntRow at h ⊢
  simp [World.setCell, Array.getElem?_modify, h, ints, List.map_set]
theorem IntRow.far {w : World} {g : Nat} {xs : List Int} (h : IntRow w g xs) {p : Addr} (hp : g ≠ p.block) (u : Value) : IntRow (w.setCell p u) g xs := by
  unfold IntRow; rw [Below.heap_setCell _ _ _ _ hp]; exact h
theorem IntRow.keep {w w' : World} {g : Nat} {xs : List Int} (h : IntRow w g xs) {X : List Nat} (hk : R.Keeps X w w') (hx : g ∉ X) : IntRow w' g xs := (hk.block g h.lt hx).trans h
theorem IntRow.below {w w' : World} {g : Nat} {xs : List Int} (h : IntRow w g xs) (hk : Below w.heap.size w w') : IntRow w' g xs := (hk.block g h.lt).trans h
theorem IntRow.alloc {w : World} {g : Nat} {xs : List Int} (h : IntRow w g xs) (o : Obj) : IntRow (w.alloc o) g xs := by
  unfold IntRow; rw [Below.heap_alloc _ _ _ h.lt]; exact h
theorem IntRow.mk (w : World) (xs : List Int) : IntRow (w.alloc (.cells (ints xs).toArray 3)) w.heap.size xs := heap_alloc_new _ _
theorem ints_length (xs : List Int) : (ints xs).length = xs.length := by simp [ints]
theorem make_ints (m : Nat) (hm : m ≤ 1000000) (w : World) : (Instr.makeSlice 23 (.int .i64 (m : Int)) (.int .i64 (m : Int))).run Try.prog w =
    .ok (.slice (some ⟨w.heap.size, 0, none⟩) m m) (w.alloc (.cells (ints (List.replicate m 0)).toArray 3)) := by
  obtain ⟨i0, hi0, hz0, hz1, hz2⟩ := info_parts info3
  have h := run_make (P := Try.prog) w 23 3 i0 (.int .i64 0) Try.underlying23 hi0 hz0 .i64 .i64 m m (by omega) (by omega) (by rw [hz2]; omega) (by omega)
  rw [h, hz1]
  have e : madeCells (Value.int IntKind.i64 0).cells ((m : Int).toNat * 1) = (ints (List.replicate m 0)).toArray := by
    have h1 := toList_madeCells_one (.int .i64 0) m
    rw [show (m : Int).toNat * 1 = m by omega]
    apply Array.ext'
    rw [show (Value.int IntKind.i64 0).cells = #[.int .i64 0] from rfl, h1]
    simp [ints]
  rw [e]
  rfl
def gt0 (xs : List Int) (i : Int) : Int := xs.getD i.toNat 0
def imp (g : List Int) (a : S106) : Bool := decide (0 < a.f2) && (decide (-1099511627776 < gt0 g a.f0) && decide (gt0 g a.f1 < IntKind.i64.wrap (gt0 g a.f0 + a.f3)))
def relaxF : Nat → List S106 → List Int → List Int → Option (List Int × List Int)
  | 0, _, _, _ => none
  | k + 1, arcs, g, b => match arcs.findIdx? (imp g) with
    | none => some (g, b)
    | some i => relaxF k arcs (g.set (arcs.getD i z106).f1.toNat (IntKind.i64.wrap (gt0 g (arcs.getD i z106).f0 + (arcs.getD i z106).f3))) (b.set (arcs.getD i z106).f1.toNat i)
theorem findIdx_hit {α : Type} {p : α → Bool} {xs : List α} {k : Nat} {x : α} (h : (xs.take k).all (fun x => !p x) = true) (hx : xs[k]? = some x) (hp : p x = true) : xs.findIdx? p = some k := by
  have hk : k < xs.length := (List.getElem?_eq_some_iff.1 hx).1
  rw [List.findIdx?_eq_some_iff_getElem]
  refine ⟨hk, ?_, fun j hj => ?_⟩
  · rw [(List.getElem?_eq_some_iff.1 hx).2]; exact hp
  · rw [List.all_eq_true] at h
    have := h (xs[j]'(by omega)) (by rw [List.mem_take_iff_getElem]; exact ⟨j, by omega, rfl⟩)
    simpa using this
theorem findIdx_miss {α : Type} {p : α → Bool} {xs : List α} (h : xs.all (fun x => !p x) = true) : xs.findIdx? p = none := by
  rw [List.findIdx?_eq_none_iff]
  intro x hx
  rw [List.all_eq_true] at h
  simpa using h x hx
theorem relaxF_hit {k i : Nat} {arcs : List S106} {g b : List Int} {a : S106} {r : List Int × List Int} (h : relaxF (k + 1) arcs g b = some r) (hall : (arcs.take i).all (fun a => !imp g a) = true) (hx : arcs[i]? = some a) (hp : imp g a = true) :
    relaxF k arcs (g.set a.f1.toNat (IntKind.i64.wrap (gt0 g a.f0 + a.f3))) (b.set a.f1.toNat i) = some r := by
  unfold relaxF at h
  rw [findIdx_hit hall hx hp] at h
  have : arcs.getD i z106 = a := by simp [hx]
  simpa only [this] using h
theorem relaxF_done {k : Nat} {arcs : List S106} {g b : List Int} {r : List Int × List Int} (h : relaxF k arcs g b = some r) (hall : arcs.all (fun a => !imp g a) = true) : r = (g, b) := by
  cases k with
  | zero => simp [relaxF] at h
  | succ k =>
    unfold relaxF at h
    rw [findIdx_miss hall] at h
    simpa using h.symm
def ArcsIn (m : Nat) (arcs : List S106) : Prop := ∀ (i : Nat) (a : S106), arcs[i]? = some a → 0 ≤ a.f0 ∧ a.f0 < m ∧ 0 ≤ a.f1 ∧ a.f1 < m
end Go.Proofs.Ytpjobcnfjpbaeaa.A

namespace Go.Proofs.Ytpjobcnfjpbaeaa.A
open Go.RowKit Go.Proofs.YtpjobcnfjpbaeaaW.PrintWords Go.Proofs.YtpjobcnfjpbaeaaW.PrintLast Go.Proofs.YtpjobcnfjpbaeaaW.PrintMore
open Go.Proofs.Ytpjobcnfjpbaeaa.PA
theorem arc_cells {w : World} {g : Nat} {cur : Array Value} {arcs : List S106} {i : Nat} {x : S106} (hrow : w.heap[g]? = some (.cells cur 106 (0, 0))) (hct : cur.toList.take (arcs.length * 4) = arcsC arcs) (hx : arcs[i]? = some x) :
    w.cell? ⟨g, i * 4, none⟩ = some (.int .i64 x.f0) ∧ w.cell? ⟨g, i * 4 + 1, none⟩ = some (.int .i64 x.f1) ∧ w.cell? ⟨g, i * 4 + 2, none⟩ = some (.int .i64 x.f2) ∧ w.cell? ⟨g, i * 4 + 3, none⟩ = some (.int .i64 x.f3) := by
  have cellg : ∀ i u, (arcsC arcs)[i]? = some u → w.cell? ⟨g, i, none⟩ = some u := by
    intro i u h
    rw [← hct] at h
    have hi : i < arcs.length * 4 := by
      rcases Nat.lt_or_ge i (arcs.length * 4) with h' | h'
      · exact h'
      · rw [List.getElem?_eq_none (by rw [List.length_take]; omega)] at h; cases h
    rw [List.getElem?_take_of_lt hi] at h
    simp [World.cell?, hrow]
    simpa using h
  have h := arcsC_get arcs i x hx
  exact ⟨cellg _ _ h.1, cellg _ _ h.2.1, cellg _ _ h.2.2.1, cellg _ _ h.2.2.2⟩
set_option maxRecDepth 100000 in
set_option maxHeartbeats 3200000 in
theorem relax_c (base b gg m k : Nat) (n : Int) (arcs : List S106) (g0 g1 b1 : List Int) (w : World) (hF : FlowAt w base b n arcs) (hl : 0 < arcs.length) (hlen : arcs.length ≤ 100000)
    (hI : ArcsIn m arcs) (hm : g0.length = m) (hm1 : m ≤ 1000000) (hg : IntRow w gg g0) (hgb : ∀ v, w.heap[b]? = some (.cells #[.int .i64 n, v] 109 (0, 0)) → gg ≠ b ∧ v.ownBlock ≠ some gg)
    (h : relaxF k arcs g0 (List.replicate m 0) = some (g1, b1)) :
    Calls Try.prog 78 #[.pointer (some ⟨b, 0, none⟩), .slice (some ⟨gg, 0, none⟩) m m] w fun e w' =>
      e = .returned (.slice (some ⟨w.heap.size, 0, none⟩) m m) ∧ IntRow w' w.heap.size b1 ∧ IntRow w' gg g1 ∧ R.Keeps [gg] w w' := by
  obtain ⟨g, cap, cur, hb, hbg, hgb1, hblk, hrow, hc1, hc2, hcs, hct⟩ := hF.open hl
  obtain ⟨hgb2, hgg⟩ := hgb _ hblk
  have hgg' : g ≠ gg := by simpa [Value.ownBlock] using hgg
  have hmk := make_ints m hm1
  go_enter Try.func78, Try.ntmps78
  go_wp2_with fail
  go_step3
  go_wp2_with fail
  go_step3
  go_wp2_with fail
  have hK0 : R.Keeps [gg] w (w.alloc (Obj.cells (ints (List.replicate m 0)).toArray 3)) := (R.Keeps.refl _ _).alloc _
  have hrow0 : IntRow (w.alloc (Obj.cells (ints (List.replicate m 0)).toArray 3)) w.heap.size (List.replicate m 0) := IntRow.mk _ _
  have hg' := hg.alloc (Obj.cells (ints (List.replicate m 0)).toArray 3)
  have hggl := hg.lt
  obtain ⟨w0, hw0⟩ : ∃ w0, w0 = w.alloc (Obj.cells (ints (List.replicate m 0)).toArray 3) := ⟨_, rfl⟩
  rw [← hw0] at hK0 hrow0 hg' ⊢
  have H := Lib.hid h
  have HW0 := Lib.hid hw0
  have HB := Lib.hid hblk
  have HR := Lib.hid hrow
  have HT := Lib.hid hct
  have HS := Lib.hid hcs
  have HI := Lib.hid hI
  have HM := Lib.hid hm
  clear h hw0 hblk hrow hct hcs hgb hI hm hF
  go_loopg [] k (fun kq wr => ∃ (gn bn : List Int), Hid (relaxF kq arcs gn bn = some (g1, b1)) ∧ Hid (gn.length = m) ∧ Hid (bn.length = m) ∧ R.Keeps [gg] w wr ∧ IntRow wr w.heap.size bn ∧ IntRow wr gg gn)
  case atStart => exact ⟨g0, _, H, HM, List.length_replicate, hK0, hrow0, hg'⟩
  case round =>
    obtain ⟨gn, bn, HX, hgn, hbn, hK, hBn, hGn⟩ := hrel
    have hcell : wr.cell? ⟨b, 1, none⟩ = some (.slice (some ⟨g, 0, none⟩) arcs.length cap) := hK.cell (by simp [World.cell?, HB.out]) (by simpa using Ne.symm hgb2)
    go_wp2_with fail
    have HK := Lib.hid hK
    clear hK
    clear hcell
    cases gk with
    | zero => exact absurd HX.out (by simp [relaxF])
    | succ ko =>
    obtain ⟨wo, hwo⟩ : ∃ wo, wo = wr := ⟨_, rfl⟩
    rw [← hwo] at hBn hGn HK ⊢
    clear hwo
    go_loopg [16] arcs.length (fun q v16 wr => ∃ i : Nat, v16 = .int .i64 (i : Int) ∧ Hid (i + q = arcs.length) ∧ Hid ((arcs.take i).all (fun a => !imp gn a) = true) ∧ R.Keeps [] wo wr)
    case atStart => exact ⟨0, rfl, Nat.zero_add _, rfl, R.Keeps.refl _ _⟩
    case round =>
      obtain ⟨i, rfl, hiq, hall, hKi⟩ := hrel
      by_cases hlt : i < arcs.length
      · obtain ⟨x, hx⟩ : ∃ x, arcs[i]? = some x := ⟨_, List.getElem?_eq_getElem hlt⟩
        have hlt' : (i : Int) < arcs.length := by omega
        have hKo := HK.out
        obtain ⟨c0, c1, c2, c3⟩ := arc_cells HR.out HT.out hx
        have d0 := hKi.cell (hKo.cell c0 (by simpa using hgg')) (by simp)
        have d1 := hKi.cell (hKo.cell c1 (by simpa using hgg')) (by simp)
        have d2 := hKi.cell (hKo.cell c2 (by simpa using hgg')) (by simp)
        have d3 := hKi.cell (hKo.cell c3 (by simpa using hgg')) (by simp)
        obtain ⟨i0, i1, i2, i3⟩ := HI.out i x hx
        obtain ⟨f0, f1, r, e⟩ := x
        obtain ⟨p, rfl⟩ := Int.eq_ofNat_of_zero_le i0
        obtain ⟨q, rfl⟩ := Int.eq_ofNat_of_zero_le i2
        have i1' : (p : Int) < m := i1
        have i3' : (q : Int) < m := i3
        obtain ⟨gp, hgp⟩ : ∃ v, gn[p]? = some v := ⟨_, List.getElem?_eq_getElem (by rw [hgn.out]; omega)⟩
        obtain ⟨gq, hgq⟩ : ∃ v, gn[q]? = some v := ⟨_, List.getElem?_eq_getElem (by rw [hgn.out]; omega)⟩
        have himp : imp gn ⟨p, q, r, e⟩ = (decide (0 < r) && (decide (-1099511627776 < gp) && decide (gq < IntKind.i64.wrap (gp + e)))) := by
          simp [imp, gt0, hgp, hgq]
        have HIMP := Lib.hid himp
        have HX' := Lib.hid hx
        have HGP := Lib.hid hgp
        have HGQ := Lib.hid hgq
        have cB := (wr.alloc (Obj.cells #[Value.int IntKind.i64 p, Value.int IntKind.i64 q, Value.int IntKind.i64 r, Value.int IntKind.i64 e] 106)).cell? ⟨wr.heap.size, 0, none⟩
        have cells : ∀ w', R.Keeps [] (wr.alloc (Obj.cells #[Value.int IntKind.i64 p, Value.int IntKind.i64 q, Value.int IntKind.i64 r, Value.int IntKind.i64 e] 106)) w' →
            w'.cell? ⟨wr.heap.size, 0, none⟩ = some (.int .i64 p) ∧ w'.cell? ⟨wr.heap.size, 1, none⟩ = some (.int .i64 q) ∧ w'.cell? ⟨wr.heap.size, 2, none⟩ = some (.int .i64 r) ∧ w'.cell? ⟨wr.heap.size, 3, none⟩ = some (.int .i64 e) ∧
            w'.cell? ⟨gg, p, none⟩ = some (.int .i64 gp) ∧ w'.cell? ⟨gg, q, none⟩ = some (.int .i64 gq) := by
          intro w' h
          have hGn' := ((hGn.keep hKi (by simp)).alloc (Obj.cells #[Value.int IntKind.i64 p, Value.int IntKind.i64 q, Value.int IntKind.i64 r, Value.int IntKind.i64 e] 106)).keep h (by simp)
          refine ⟨h.cell (a := ⟨wr.heap.size, 0, none⟩) ?_ (by simp), h.cell (a := ⟨wr.heap.size, 1, none⟩) ?_ (by simp), h.cell (a := ⟨wr.heap.size, 2, none⟩) ?_ (by simp), h.cell (a := ⟨wr.heap.size, 3, none⟩) ?_ (by simp), hGn'.cell hgp, hGn'.cell hgq⟩
          all_goals simp [go_sem]
        have hsz : gg < wr.heap.size := by have h1 := hKo.size; have h2 := hKi.size; omega
        have CE := Lib.hid cells
        have HKi := Lib.hid hKi
        clear hKo c0 c1 c2 c3 hKi hx himp hgp hgq cells cB i0 i1 i2 i3
        go_wp2_with fail
        cases gk with
        | zero => exact absurd hiq.out (by omega)
        | succ k1_ =>
        by_cases k1 : 0 < r
        · by_cases k2 : -1099511627776 < gp
          · by_cases k3 : gq < IntKind.i64.wrap (gp + e)
            · have k1' : decide (0 < r) = true := decide_eq_true k1
              have k2' : decide (-1099511627776 < gp) = true := decide_eq_true k2
              have k3' : decide (gq < IntKind.i64.wrap (gp + e)) = true := decide_eq_true k3
              have HHIT : Hid (imp gn ⟨p, q, r, e⟩ = true) := HIMP.out.trans (by rw [k1', k2', k3']; rfl)
              apply R.wp_region_text [0, 1, 2, 3, 4, 5, 6, 7, 8, 9, 10, 11, 12, 13, 14, 15, 16, 17, 18, 19, 20, 21, 22, 23, 24, 25, 26] [] 27 (R.Keeps [] (wr.alloc (Obj.cells #[Value.int IntKind.i64 p, Value.int IntKind.i64 q, Value.int IntKind.i64 r, Value.int IntKind.i64 e] 106)))
              case hm => kernel_rfl
              case hB => kernel_rfl
              case hd => rfl
              case hQ => exact fun _ _ _ _ _ h => h
              case hS => exact (R.Keeps.refl _ _).drew
              case hF =>
                intro w' hS
                obtain ⟨z1, z2, z3, z4, z5, z6⟩ := CE.out w' hS
                have HS := Lib.hid hS
                clear hS
                simp only [R.pickC, List.filterMap_cons, List.getElem?_toArray, List.getElem?_cons_zero, List.getElem?_cons_succ, List.filterMap_nil]
                (with_reducible refine R.wpStill_plain rfl (fun K hK => ?_)); go_simp; with_reducible refine hK _ ?_; clear hK K
                (with_reducible refine R.wpStill_plain rfl (fun K hK => ?_)); go_simp; with_reducible refine hK _ ?_; clear hK K
                (with_reducible refine R.wpStill_plain rfl (fun K hK => ?_)); go_simp; with_reducible refine hK _ ?_; clear hK K
                (with_reducible refine R.wpStill_plain rfl (fun K hK => ?_)); go_simp; with_reducible refine hK _ ?_; clear hK K
                (with_reducible refine R.wpStill_yes (j := 3) (want := true) rfl (by kernel_rfl) (fun K hK => ?_)); go_simp; with_reducible refine hK _ ?_; clear hK K
                (with_reducible refine R.wpStill_yes (j := 3) (want := true) rfl (by kernel_rfl) (fun K hK => ?_)); go_simp; with_reducible refine hK _ ?_; clear hK K
                (with_reducible refine R.wpStill_yes (j := 3) (want := true) rfl (by kernel_rfl) (fun K hK => ?_)); go_simp; with_reducible refine hK _ ?_; clear hK K
                (with_reducible refine R.wpStill_yes (j := 3) (want := true) rfl (by kernel_rfl) (fun K hK => ?_)); go_simp; with_reducible refine hK _ ?_; clear hK K
                (with_reducible refine R.wpStill_yes (j := 3) (want := true) rfl (by kernel_rfl) (fun K hK => ?_)); go_simp; with_reducible refine hK _ ?_; clear hK K
                (with_reducible refine R.wpStill_yes (j := 3) (want := true) rfl (by kernel_rfl) (fun K hK => ?_)); go_simp; with_reducible refine hK _ ?_; clear hK K
                (with_reducible refine R.wpStill_plain rfl (fun K hK => ?_)); go_simp; with_reducible refine hK _ ?_; clear hK K
                (with_reducible refine R.wpStill_plain rfl (fun K hK => ?_)); go_simp; with_reducible refine hK _ ?_; clear hK K
                (with_reducible refine R.wpStill_yes (j := 11) (want := true) rfl (by kernel_rfl) (fun K hK => ?_)); go_simp; with_reducible refine hK _ ?_; clear hK K
                (with_reducible refine R.wpStill_yes (j := 11) (want := true) rfl (by kernel_rfl) (fun K hK => ?_)); go_simp; with_reducible refine hK _ ?_; clear hK K
                (with_reducible refine R.wpStill_yes (j := 11) (want := true) rfl (by kernel_rfl) (fun K hK => ?_)); go_simp; with_reducible refine hK _ ?_; clear hK K
                (with_reducible refine R.wpStill_yes (j := 11) (want := true) rfl (by kernel_rfl) (fun K hK => ?_)); go_simp; with_reducible refine hK _ ?_; clear hK K
                (with_reducible refine R.wpStill_yes (j := 11) (want := true) rfl (by kernel_rfl) (fun K hK => ?_)); go_simp; with_reducible refine hK _ ?_; clear hK K
                (with_reducible refine R.wpStill_yes (j := 11) (want := true) rfl (by kernel_rfl) (fun K hK => ?_)); go_simp; with_reducible refine hK _ ?_; clear hK K
                (with_reducible refine R.wpStill_yes (j := 11) (want := true) rfl (by kernel_rfl) (fun K hK => ?_)); go_simp; with_reducible refine hK _ ?_; clear hK K
                (with_reducible refine R.wpStill_yes (j := 11) (want := true) rfl (by kernel_rfl) (fun K hK => ?_)); go_simp; with_reducible refine hK _ ?_; clear hK K
                (with_reducible refine R.wpStill_yes (j := 11) (want := true) rfl (by kernel_rfl) (fun K hK => ?_)); go_simp; with_reducible refine hK _ ?_; clear hK K
                (with_reducible refine R.wpStill_yes (j := 11) (want := true) rfl (by kernel_rfl) (fun K hK => ?_)); go_simp; with_reducible refine hK _ ?_; clear hK K
                (with_reducible refine R.wpStill_yes (j := 11) (want := true) rfl (by kernel_rfl) (fun K hK => ?_)); go_simp; with_reducible refine hK _ ?_; clear hK K
                (with_reducible refine R.wpStill_yes (j := 11) (want := true) rfl (by kernel_rfl) (fun K hK => ?_)); go_simp; with_reducible refine hK _ ?_; clear hK K
                (with_reducible refine R.wpStill_yes (j := 11) (want := true) rfl (by kernel_rfl) (fun K hK => ?_)); go_simp; with_reducible refine hK _ ?_; clear hK K
                (with_reducible refine R.wpStill_yes (j := 11) (want := true) rfl (by kernel_rfl) (fun K hK => ?_)); go_simp; with_reducible refine hK _ ?_; clear hK K
                (with_reducible refine R.wpStill_plain rfl (fun K hK => ?_)); go_simp; with_reducible refine hK _ ?_; clear hK K
                exact wpStill_nil rfl
              case hC =>
                refine R.wpSeq_nil ?_
                go_wp2_with fail
                apply R.wp_region_text2 [0, 1, 2, 6, 7, 8, 9, 10, 11, 12, 13] [3, 4, 5, 14] [15, 16, 17, 18] 15 17 (R.Keeps [] (wr.alloc (Obj.cells #[Value.int IntKind.i64 p, Value.int IntKind.i64 q, Value.int IntKind.i64 r, Value.int IntKind.i64 e] 106))) (R.Keeps [gg] (wr.alloc (Obj.cells #[Value.int IntKind.i64 p, Value.int IntKind.i64 q, Value.int IntKind.i64 r, Value.int IntKind.i64 e] 106)))
                case hm => kernel_rfl
                case hB => kernel_rfl
                case hd => rfl
                case hQ => exact fun _ _ _ _ _ h => h
                case hS => exact (R.Keeps.refl _ _).drew.drew
                case hS1 => exact (R.Keeps.refl _ _).drew.drew
                case hF =>
                  intro w' hS
                  obtain ⟨z1, z2, z3, z4, z5, z6⟩ := CE.out w' hS.1
                  have HS := Lib.hid hS
                  clear hS
                  simp only [R.pickC, List.filterMap_cons, List.getElem?_toArray, List.getElem?_cons_zero, List.getElem?_cons_succ, List.filterMap_nil]
                  (with_reducible refine R.wpStill_plain rfl (fun K hK => ?_)); go_simp; with_reducible refine hK _ ?_; clear hK K
                  (with_reducible refine R.wpStill_plain rfl (fun K hK => ?_)); go_simp; with_reducible refine hK _ ?_; clear hK K
                  (with_reducible refine R.wpStill_plain rfl (fun K hK => ?_)); go_simp; with_reducible refine hK _ ?_; clear hK K
                  (with_reducible refine R.wpStill_plain rfl (fun K hK => ?_)); go_simp; with_reducible refine hK _ ?_; clear hK K
                  (with_reducible refine R.wpStill_plain rfl (fun K hK => ?_)); go_simp; with_reducible refine hK _ ?_; clear hK K
                  (with_reducible refine R.wpStill_plain rfl (fun K hK => ?_)); go_simp; with_reducible refine hK _ ?_; clear hK K
                  (with_reducible refine R.wpStill_plain rfl (fun K hK => ?_)); go_simp; with_reducible refine hK _ ?_; clear hK K
                  (with_reducible refine R.wpStill_plain rfl (fun K hK => ?_)); go_simp; with_reducible refine hK _ ?_; clear hK K
                  (with_reducible refine R.wpStill_plain rfl (fun K hK => ?_)); go_simp; with_reducible refine hK _ ?_; clear hK K
                  (with_reducible refine R.wpStill_plain rfl (fun K hK => ?_)); go_simp; with_reducible refine hK _ ?_; clear hK K
                  (with_reducible refine R.wpStill_plain rfl (fun K hK => ?_)); go_simp; with_reducible refine hK _ ?_; clear hK K
                  exact wpStill_nil rfl
                case hF1 =>
                  intro w' hS
                  have z2 := hS.cell (a := ⟨wr.heap.size, 1, none⟩) (CE.out _ (R.Keeps.refl _ _)).2.1 (by simp; omega)
                  have HS := Lib.hid hS
                  clear hS
                  simp only [R.pickC, List.filterMap_cons, List.getElem?_toArray, List.getElem?_cons_zero, List.getElem?_cons_succ, List.filterMap_nil]
                  (with_reducible refine R.wpStill_plain rfl (fun K hK => ?_)); go_simp; with_reducible refine hK _ ?_; clear hK K
                  (with_reducible refine R.wpStill_plain rfl (fun K hK => ?_)); go_simp; with_reducible refine hK _ ?_; clear hK K
                  (with_reducible refine R.wpStill_plain rfl (fun K hK => ?_)); go_simp; with_reducible refine hK _ ?_; clear hK K
                  (with_reducible refine R.wpStill_plain rfl (fun K hK => ?_)); go_simp; with_reducible refine hK _ ?_; clear hK K
                  exact wpStill_nil rfl
                case hd1 => rfl
                case hC =>
                  simp only [R.chainOf, List.getElem?_toArray, List.getElem?_cons_zero, List.getElem?_cons_succ, Nat.reduceBNe, Bool.and_true, Bool.and_false, Bool.false_and]
                  have HGn1 := ((hGn.keep HKi.out (by simp)).alloc (Obj.cells #[Value.int IntKind.i64 p, Value.int IntKind.i64 q, Value.int IntKind.i64 r, Value.int IntKind.i64 e] 106))
                  have HBn1 := hBn.keep HKi.out (by simp)
                  obtain ⟨bq, hbq⟩ : ∃ v, bn[q]? = some v := ⟨_, List.getElem?_eq_getElem (by rw [hbn.out]; omega)⟩
                  have e1 := HGn1.cell HGQ.out
                  have e2 := HGn1.free q
                  have HBn2 := (HBn1.far (p := ⟨gg, q, none⟩) (by show w.heap.size ≠ gg; omega) (.int .i64 (IntKind.i64.wrap (gp + e)))).alloc (Obj.cells #[Value.int IntKind.i64 p, Value.int IntKind.i64 q, Value.int IntKind.i64 r, Value.int IntKind.i64 e] 106)
                  have e3 := HBn2.cell hbq
                  have e4 := HBn2.free q
                  have HBQ := Lib.hid hbq
                  clear hbq
                  refine R.wpSeq_one (fun K hK => ?_)
                  go_simp
                  with_reducible refine hK _ _ (R.Keeps.refl _ _).drew.drew ?_
                  clear hK K
                  refine R.wpSeq_one (fun K hK => ?_)
                  go_simp
                  with_reducible refine hK _ _ ((((R.Keeps.refl [gg] wr).setCell (p := ⟨gg, q, none⟩) (fun _ => List.mem_singleton.2 rfl) (.int .i64 (IntKind.i64.wrap (gp + e)))).allocs (by simp [World.setCell]) _).drew.drew) ?_
                  clear hK K
                  rw [i64_w] at e3 e4
                  refine R.wpSeq_tail _ rfl ?_
                  simp only [List.map_cons, List.map_nil]
                  go_wp2_with fail
                  have HKA := HK.out.trans HKi.out (fun k h => by simp at h)
                  have HN := relaxF_hit HX.out hall.out HX'.out HHIT.out
                  rw [show gt0 gn (⟨(p : Int), q, r, e⟩ : S106).f0 = gp from by simp [gt0, HGP.out], i64_w] at HN
                  have HNN := Lib.hid HN
                  clear HN
                  go_roundg ko
                  case measure => omega
                  case rel => exact ⟨_, _, HNN.out, by rw [Hid, List.length_set]; exact hgn.out, by rw [Hid, List.length_set]; exact hbn.out, (((HKA.setCell (p := ⟨gg, q, none⟩) (fun _ => List.mem_singleton.2 rfl) _).alloc _).setCell (p := ⟨w.heap.size, q, none⟩) (fun h => absurd h (Nat.lt_irrefl _)) _).drew.drew, ((HBn1.far (p := ⟨gg, q, none⟩) (by show w.heap.size ≠ gg; omega) _).alloc _).set q i, (((hGn.keep HKi.out (by simp)).set q _).alloc _).far (p := ⟨w.heap.size, q, none⟩) (by show gg ≠ w.heap.size; omega) _⟩
            · have k1' : decide (0 < r) = true := decide_eq_true k1
              have k2' : decide (-1099511627776 < gp) = true := decide_eq_true k2
              have k3' : decide (gq < IntKind.i64.wrap (gp + e)) = false := decide_eq_false k3
              have HMISS : Hid (imp gn ⟨p, q, r, e⟩ = false) := HIMP.out.trans (by rw [k1', k2', k3']; rfl)
              apply R.wp_region_text [0, 1, 2, 3, 4, 5, 6, 7, 8, 9, 10, 11, 12, 13, 14, 15, 16, 17, 18, 19, 20, 21, 22, 23, 24, 25, 26] [] 27 (R.Keeps [] (wr.alloc (Obj.cells #[Value.int IntKind.i64 p, Value.int IntKind.i64 q, Value.int IntKind.i64 r, Value.int IntKind.i64 e] 106)))
              case hm => kernel_rfl
              case hB => kernel_rfl
              case hd => rfl
              case hQ => exact fun _ _ _ _ _ h => h
              case hS => exact (R.Keeps.refl _ _).drew
              case hF =>
                intro w' hS
                obtain ⟨z1, z2, z3, z4, z5, z6⟩ := CE.out w' hS
                have HS := Lib.hid hS
                clear hS
                simp only [R.pickC, List.filterMap_cons, List.getElem?_toArray, List.getElem?_cons_zero, List.getElem?_cons_succ, List.filterMap_nil]
                (with_reducible refine R.wpStill_plain rfl (fun K hK => ?_)); go_simp; with_reducible refine hK _ ?_; clear hK K
                (with_reducible refine R.wpStill_plain rfl (fun K hK => ?_)); go_simp; with_reducible refine hK _ ?_; clear hK K
                (with_reducible refine R.wpStill_plain rfl (fun K hK => ?_)); go_simp; with_reducible refine hK _ ?_; clear hK K
                (with_reducible refine R.wpStill_plain rfl (fun K hK => ?_)); go_simp; with_reducible refine hK _ ?_; clear hK K
                (with_reducible refine R.wpStill_yes (j := 3) (want := true) rfl (by kernel_rfl) (fun K hK => ?_)); go_simp; with_reducible refine hK _ ?_; clear hK K
                (with_reducible refine R.wpStill_yes (j := 3) (want := true) rfl (by kernel_rfl) (fun K hK => ?_)); go_simp; with_reducible refine hK _ ?_; clear hK K
                (with_reducible refine R.wpStill_yes (j := 3) (want := true) rfl (by kernel_rfl) (fun K hK => ?_)); go_simp; with_reducible refine hK _ ?_; clear hK K
                (with_reducible refine R.wpStill_yes (j := 3) (want := true) rfl (by kernel_rfl) (fun K hK => ?_)); go_simp; with_reducible refine hK _ ?_; clear hK K
                (with_reducible refine R.wpStill_yes (j := 3) (want := true) rfl (by kernel_rfl) (fun K hK => ?_)); go_simp; with_reducible refine hK _ ?_; clear hK K
                (with_reducible refine R.wpStill_yes (j := 3) (want := true) rfl (by kernel_rfl) (fun K hK => ?_)); go_simp; with_reducible refine hK _ ?_; clear hK K
                (with_reducible refine R.wpStill_plain rfl (fun K hK => ?_)); go_simp; with_reducible refine hK _ ?_; clear hK K
                (with_reducible refine R.wpStill_plain rfl (fun K hK => ?_)); go_simp; with_reducible refine hK _ ?_; clear hK K
                (with_reducible refine R.wpStill_yes (j := 11) (want := true) rfl (by kernel_rfl) (fun K hK => ?_)); go_simp; with_reducible refine hK _ ?_; clear hK K
                (with_reducible refine R.wpStill_yes (j := 11) (want := true) rfl (by kernel_rfl) (fun K hK => ?_)); go_simp; with_reducible refine hK _ ?_; clear hK K
                (with_reducible refine R.wpStill_yes (j := 11) (want := true) rfl (by kernel_rfl) (fun K hK => ?_)); go_simp; with_reducible refine hK _ ?_; clear hK K
                (with_reducible refine R.wpStill_yes (j := 11) (want := true) rfl (by kernel_rfl) (fun K hK => ?_)); go_simp; with_reducible refine hK _ ?_; clear hK K
                (with_reducible refine R.wpStill_yes (j := 11) (want := true) rfl (by kernel_rfl) (fun K hK => ?_)); go_simp; with_reducible refine hK _ ?_; clear hK K
                (with_reducible refine R.wpStill_yes (j := 11) (want := true) rfl (by kernel_rfl) (fun K hK => ?_)); go_simp; with_reducible refine hK _ ?_; clear hK K
                (with_reducible refine R.wpStill_yes (j := 11) (want := true) rfl (by kernel_rfl) (fun K hK => ?_)); go_simp; with_reducible refine hK _ ?_; clear hK K
                (with_reducible refine R.wpStill_yes (j := 11) (want := true) rfl (by kernel_rfl) (fun K hK => ?_)); go_simp; with_reducible refine hK _ ?_; clear hK K
                (with_reducible refine R.wpStill_yes (j := 11) (want := true) rfl (by kernel_rfl) (fun K hK => ?_)); go_simp; with_reducible refine hK _ ?_; clear hK K
                (with_reducible refine R.wpStill_yes (j := 11) (want := true) rfl (by kernel_rfl) (fun K hK => ?_)); go_simp; with_reducible refine hK _ ?_; clear hK K
                (with_reducible refine R.wpStill_yes (j := 11) (want := true) rfl (by kernel_rfl) (fun K hK => ?_)); go_simp; with_reducible refine hK _ ?_; clear hK K
                (with_reducible refine R.wpStill_yes (j := 11) (want := true) rfl (by kernel_rfl) (fun K hK => ?_)); go_simp; with_reducible refine hK _ ?_; clear hK K
                (with_reducible refine R.wpStill_yes (j := 11) (want := true) rfl (by kernel_rfl) (fun K hK => ?_)); go_simp; with_reducible refine hK _ ?_; clear hK K
                (with_reducible refine R.wpStill_yes (j := 11) (want := true) rfl (by kernel_rfl) (fun K hK => ?_)); go_simp; with_reducible refine hK _ ?_; clear hK K
                (with_reducible refine R.wpStill_plain rfl (fun K hK => ?_)); go_simp; with_reducible refine hK _ ?_; clear hK K
                exact wpStill_nil rfl
              case hC =>
                refine R.wpSeq_nil ?_
                go_wp2_with fail
                go_roundg k1_
                case measure => omega
                case rel => exact ⟨i + 1, by go_num, (by have := hiq.out; show i + 1 + k1_ = arcs.length; omega), all_next hall.out HX'.out HMISS.out, (HKi.out.alloc _).drew⟩
          · have k1' : decide (0 < r) = true := decide_eq_true k1
            have k2' : decide (-1099511627776 < gp) = false := decide_eq_false k2
            have HMISS : Hid (imp gn ⟨p, q, r, e⟩ = false) := HIMP.out.trans (by rw [k1', k2']; rfl)
            apply R.wp_region_text [0, 1, 2, 3, 4, 5, 6, 7, 8, 9, 10, 11, 12, 13, 14, 15, 16, 17, 18, 19, 20, 21, 22, 23, 24, 25, 26] [] 27 (R.Keeps [] (wr.alloc (Obj.cells #[Value.int IntKind.i64 p, Value.int IntKind.i64 q, Value.int IntKind.i64 r, Value.int IntKind.i64 e] 106)))
            case hm => kernel_rfl
            case hB => kernel_rfl
            case hd => rfl
            case hQ => exact fun _ _ _ _ _ h => h
            case hS => exact (R.Keeps.refl _ _).drew
            case hF =>
              intro w' hS
              obtain ⟨z1, z2, z3, z4, z5, z6⟩ := CE.out w' hS
              have HS := Lib.hid hS
              clear hS
              simp only [R.pickC, List.filterMap_cons, List.getElem?_toArray, List.getElem?_cons_zero, List.getElem?_cons_succ, List.filterMap_nil]
              (with_reducible refine R.wpStill_plain rfl (fun K hK => ?_)); go_simp; with_reducible refine hK _ ?_; clear hK K
              (with_reducible refine R.wpStill_plain rfl (fun K hK => ?_)); go_simp; with_reducible refine hK _ ?_; clear hK K
              (with_reducible refine R.wpStill_plain rfl (fun K hK => ?_)); go_simp; with_reducible refine hK _ ?_; clear hK K
              (with_reducible refine R.wpStill_plain rfl (fun K hK => ?_)); go_simp; with_reducible refine hK _ ?_; clear hK K
              (with_reducible refine R.wpStill_yes (j := 3) (want := true) rfl (by kernel_rfl) (fun K hK => ?_)); go_simp; with_reducible refine hK _ ?_; clear hK K
              (with_reducible refine R.wpStill_yes (j := 3) (want := true) rfl (by kernel_rfl) (fun K hK => ?_)); go_simp; with_reducible refine hK _ ?_; clear hK K
              (with_reducible refine R.wpStill_yes (j := 3) (want := true) rfl (by kernel_rfl) (fun K hK => ?_)); go_simp; with_reducible refine hK _ ?_; clear hK K
              (with_reducible refine R.wpStill_yes (j := 3) (want := true) rfl (by kernel_rfl) (fun K hK => ?_)); go_simp; with_reducible refine hK _ ?_; clear hK K
              (with_reducible refine R.wpStill_yes (j := 3) (want := true) rfl (by kernel_rfl) (fun K hK => ?_)); go_simp; with_reducible refine hK _ ?_; clear hK K
              (with_reducible refine R.wpStill_yes (j := 3) (want := true) rfl (by kernel_rfl) (fun K hK => ?_)); go_simp; with_reducible refine hK _ ?_; clear hK K
              (with_reducible refine R.wpStill_plain rfl (fun K hK => ?_)); go_simp; with_reducible refine hK _ ?_; clear hK K
              (with_reducible refine R.wpStill_plain rfl (fun K hK => ?_)); go_simp; with_reducible refine hK _ ?_; clear hK K
              (with_reducible refine R.wpStill_no (j := 11) (want := true) (b := false) rfl (by kernel_rfl) R.bft ?_); simp only [Act.put, List.setIfInBounds_toArray, List.set_cons_zero, List.set_cons_succ]
              (with_reducible refine R.wpStill_no (j := 11) (want := true) (b := false) rfl (by kernel_rfl) R.bft ?_); simp only [Act.put, List.setIfInBounds_toArray, List.set_cons_zero, List.set_cons_succ]
              (with_reducible refine R.wpStill_no (j := 11) (want := true) (b := false) rfl (by kernel_rfl) R.bft ?_); simp only [Act.put, List.setIfInBounds_toArray, List.set_cons_zero, List.set_cons_succ]
              (with_reducible refine R.wpStill_no (j := 11) (want := true) (b := false) rfl (by kernel_rfl) R.bft ?_); simp only [Act.put, List.setIfInBounds_toArray, List.set_cons_zero, List.set_cons_succ]
              (with_reducible refine R.wpStill_no (j := 11) (want := true) (b := false) rfl (by kernel_rfl) R.bft ?_); simp only [Act.put, List.setIfInBounds_toArray, List.set_cons_zero, List.set_cons_succ]
              (with_reducible refine R.wpStill_no (j := 11) (want := true) (b := false) rfl (by kernel_rfl) R.bft ?_); simp only [Act.put, List.setIfInBounds_toArray, List.set_cons_zero, List.set_cons_succ]
              (with_reducible refine R.wpStill_no (j := 11) (want := true) (b := false) rfl (by kernel_rfl) R.bft ?_); simp only [Act.put, List.setIfInBounds_toArray, List.set_cons_zero, List.set_cons_succ]
              (with_reducible refine R.wpStill_no (j := 11) (want := true) (b := false) rfl (by kernel_rfl) R.bft ?_); simp only [Act.put, List.setIfInBounds_toArray, List.set_cons_zero, List.set_cons_succ]
              (with_reducible refine R.wpStill_no (j := 11) (want := true) (b := false) rfl (by kernel_rfl) R.bft ?_); simp only [Act.put, List.setIfInBounds_toArray, List.set_cons_zero, List.set_cons_succ]
              (with_reducible refine R.wpStill_no (j := 11) (want := true) (b := false) rfl (by kernel_rfl) R.bft ?_); simp only [Act.put, List.setIfInBounds_toArray, List.set_cons_zero, List.set_cons_succ]
              (with_reducible refine R.wpStill_no (j := 11) (want := true) (b := false) rfl (by kernel_rfl) R.bft ?_); simp only [Act.put, List.setIfInBounds_toArray, List.set_cons_zero, List.set_cons_succ]
              (with_reducible refine R.wpStill_no (j := 11) (want := true) (b := false) rfl (by kernel_rfl) R.bft ?_); simp only [Act.put, List.setIfInBounds_toArray, List.set_cons_zero, List.set_cons_succ]
              (with_reducible refine R.wpStill_no (j := 11) (want := true) (b := false) rfl (by kernel_rfl) R.bft ?_); simp only [Act.put, List.setIfInBounds_toArray, List.set_cons_zero, List.set_cons_succ]
              (with_reducible refine R.wpStill_no (j := 11) (want := true) (b := false) rfl (by kernel_rfl) R.bft ?_); simp only [Act.put, List.setIfInBounds_toArray, List.set_cons_zero, List.set_cons_succ]
              (with_reducible refine R.wpStill_plain rfl (fun K hK => ?_)); go_simp; with_reducible refine hK _ ?_; clear hK K
              exact wpStill_nil rfl
            case hC =>
              refine R.wpSeq_nil ?_
              go_wp2_with fail
              go_roundg k1_
              case measure => omega
              case rel => exact ⟨i + 1, by go_num, (by have := hiq.out; show i + 1 + k1_ = arcs.length; omega), all_next hall.out HX'.out HMISS.out, (HKi.out.alloc _).drew⟩
        · have k1' : decide (0 < r) = false := decide_eq_false k1
          have HMISS : Hid (imp gn ⟨p, q, r, e⟩ = false) := HIMP.out.trans (by rw [k1']; rfl)
          apply R.wp_region_text [0, 1, 2, 3, 4, 5, 6, 7, 8, 9, 10, 11, 12, 13, 14, 15, 16, 17, 18, 19, 20, 21, 22, 23, 24, 25, 26] [] 27 (R.Keeps [] (wr.alloc (Obj.cells #[Value.int IntKind.i64 p, Value.int IntKind.i64 q, Value.int IntKind.i64 r, Value.int IntKind.i64 e] 106)))
          case hm => kernel_rfl
          case hB => kernel_rfl
          case hd => rfl
          case hQ => exact fun _ _ _ _ _ h => h
          case hS => exact (R.Keeps.refl _ _).drew
          case hF =>
            intro w' hS
            obtain ⟨z1, z2, z3, z4, z5, z6⟩ := CE.out w' hS
            have HS := Lib.hid hS
            clear hS
            simp only [R.pickC, List.filterMap_cons, List.getElem?_toArray, List.getElem?_cons_zero, List.getElem?_cons_succ, List.filterMap_nil]
            (with_reducible refine R.wpStill_plain rfl (fun K hK => ?_)); go_simp; with_reducible refine hK _ ?_; clear hK K
            (with_reducible refine R.wpStill_plain rfl (fun K hK => ?_)); go_simp; with_reducible refine hK _ ?_; clear hK K
            (with_reducible refine R.wpStill_plain rfl (fun K hK => ?_)); go_simp; with_reducible refine hK _ ?_; clear hK K
            (with_reducible refine R.wpStill_plain rfl (fun K hK => ?_)); go_simp; with_reducible refine hK _ ?_; clear hK K
            (with_reducible refine R.wpStill_no (j := 3) (want := true) (b := false) rfl (by kernel_rfl) R.bft ?_); simp only [Act.put, List.setIfInBounds_toArray, List.set_cons_zero, List.set_cons_succ]
            (with_reducible refine R.wpStill_no (j := 3) (want := true) (b := false) rfl (by kernel_rfl) R.bft ?_); simp only [Act.put, List.setIfInBounds_toArray, List.set_cons_zero, List.set_cons_succ]
            (with_reducible refine R.wpStill_no (j := 3) (want := true) (b := false) rfl (by kernel_rfl) R.bft ?_); simp only [Act.put, List.setIfInBounds_toArray, List.set_cons_zero, List.set_cons_succ]
            (with_reducible refine R.wpStill_no (j := 3) (want := true) (b := false) rfl (by kernel_rfl) R.bft ?_); simp only [Act.put, List.setIfInBounds_toArray, List.set_cons_zero, List.set_cons_succ]
            (with_reducible refine R.wpStill_no (j := 3) (want := true) (b := false) rfl (by kernel_rfl) R.bft ?_); simp only [Act.put, List.setIfInBounds_toArray, List.set_cons_zero, List.set_cons_succ]
            (with_reducible refine R.wpStill_no (j := 3) (want := true) (b := false) rfl (by kernel_rfl) R.bft ?_); simp only [Act.put, List.setIfInBounds_toArray, List.set_cons_zero, List.set_cons_succ]
            (with_reducible refine R.wpStill_plain rfl (fun K hK => ?_)); go_simp; with_reducible refine hK _ ?_; clear hK K
            (with_reducible refine R.wpStill_plain rfl (fun K hK => ?_)); go_simp; with_reducible refine hK _ ?_; clear hK K
            (with_reducible refine R.wpStill_no (j := 11) (want := true) (b := false) rfl (by kernel_rfl) R.bft ?_); simp only [Act.put, List.setIfInBounds_toArray, List.set_cons_zero, List.set_cons_succ]
            (with_reducible refine R.wpStill_no (j := 11) (want := true) (b := false) rfl (by kernel_rfl) R.bft ?_); simp only [Act.put, List.setIfInBounds_toArray, List.set_cons_zero, List.set_cons_succ]
            (with_reducible refine R.wpStill_no (j := 11) (want := true) (b := false) rfl (by kernel_rfl) R.bft ?_); simp only [Act.put, List.setIfInBounds_toArray, List.set_cons_zero, List.set_cons_succ]
            (with_reducible refine R.wpStill_no (j := 11) (want := true) (b := false) rfl (by kernel_rfl) R.bft ?_); simp only [Act.put, List.setIfInBounds_toArray, List.set_cons_zero, List.set_cons_succ]
            (with_reducible refine R.wpStill_no (j := 11) (want := true) (b := false) rfl (by kernel_rfl) R.bft ?_); simp only [Act.put, List.setIfInBounds_toArray, List.set_cons_zero, List.set_cons_succ]
            (with_reducible refine R.wpStill_no (j := 11) (want := true) (b := false) rfl (by kernel_rfl) R.bft ?_); simp only [Act.put, List.setIfInBounds_toArray, List.set_cons_zero, List.set_cons_succ]
            (with_reducible refine R.wpStill_no (j := 11) (want := true) (b := false) rfl (by kernel_rfl) R.bft ?_); simp only [Act.put, List.setIfInBounds_toArray, List.set_cons_zero, List.set_cons_succ]
            (with_reducible refine R.wpStill_no (j := 11) (want := true) (b := false) rfl (by kernel_rfl) R.bft ?_); simp only [Act.put, List.setIfInBounds_toArray, List.set_cons_zero, List.set_cons_succ]
            (with_reducible refine R.wpStill_no (j := 11) (want := true) (b := false) rfl (by kernel_rfl) R.bft ?_); simp only [Act.put, List.setIfInBounds_toArray, List.set_cons_zero, List.set_cons_succ]
            (with_reducible refine R.wpStill_no (j := 11) (want := true) (b := false) rfl (by kernel_rfl) R.bft ?_); simp only [Act.put, List.setIfInBounds_toArray, List.set_cons_zero, List.set_cons_succ]
            (with_reducible refine R.wpStill_no (j := 11) (want := true) (b := false) rfl (by kernel_rfl) R.bft ?_); simp only [Act.put, List.setIfInBounds_toArray, List.set_cons_zero, List.set_cons_succ]
            (with_reducible refine R.wpStill_no (j := 11) (want := true) (b := false) rfl (by kernel_rfl) R.bft ?_); simp only [Act.put, List.setIfInBounds_toArray, List.set_cons_zero, List.set_cons_succ]
            (with_reducible refine R.wpStill_no (j := 11) (want := true) (b := false) rfl (by kernel_rfl) R.bft ?_); simp only [Act.put, List.setIfInBounds_toArray, List.set_cons_zero, List.set_cons_succ]
            (with_reducible refine R.wpStill_no (j := 11) (want := true) (b := false) rfl (by kernel_rfl) R.bft ?_); simp only [Act.put, List.setIfInBounds_toArray, List.set_cons_zero, List.set_cons_succ]
            (with_reducible refine R.wpStill_plain rfl (fun K hK => ?_)); go_simp; with_reducible refine hK _ ?_; clear hK K
            exact wpStill_nil rfl
          case hC =>
            refine R.wpSeq_nil ?_
            go_wp2_with fail
            go_roundg k1_
            case measure => omega
            case rel => exact ⟨i + 1, by go_num, (by have := hiq.out; show i + 1 + k1_ = arcs.length; omega), all_next hall.out HX'.out HMISS.out, (HKi.out.alloc _).drew⟩
      · obtain rfl : i = arcs.length := by have := hiq.out; omega
        have HDONE := relaxF_done HX.out (by simpa using hall.out)
        have HKA := HK.out.trans hKi (fun k h => by simp at h)
        have HDN := Lib.hid HDONE
        clear HDONE
        go_wp2_with fail
        rw [Exit.noGoto_ret]
        go_ret
        have e2 := HDN.out
        obtain ⟨rfl, rfl⟩ := Prod.mk.injEq _ _ _ _ ▸ e2
        exact ⟨rfl, hBn.keep hKi (by simp), hGn.keep hKi (by simp), HKA⟩
end Go.Proofs.Ytpjobcnfjpbaeaa.A

namespace Go.Proofs.Ytpjobcnfjpbaeaa.A
open Go.RowKit Go.Proofs.YtpjobcnfjpbaeaaW.PrintWords Go.Proofs.YtpjobcnfjpbaeaaW.PrintLast Go.Proofs.YtpjobcnfjpbaeaaW.PrintMore
open Go.Proofs.Ytpjobcnfjpbaeaa.PA
def newK (rooms : List Int) : Nat → List S106
  | 0 => []
  | k + 1 => addF (newK rooms k) k (k + 1) 1048576 0 (rooms.getD k 0)
theorem newK_len (rooms : List Int) (k : Nat) : (newK rooms k).length = 2 * k := by
  induction k with
  | zero => rfl
  | succ k ih => simp [newK, addF, ih]; omega
theorem FlowAt.lt {w : World} {base b : Nat} {n : Int} {arcs : List S106} (h : FlowAt w base b n arcs) : b < w.heap.size := by
  obtain ⟨_, v, h, _⟩ := h
  rcases Nat.lt_or_ge b w.heap.size with h' | h'
  · exact h'
  · rw [Array.getElem?_eq_none h'] at h; cases h
set_option maxRecDepth 100000 in
set_option maxHeartbeats 800000 in
theorem newFlow_c (A : Option Addr) (c : Nat) (rooms : List Int) (w : World) (hr : Kd.C (Kd.int .i64) w A rooms.length rooms) (hlen : rooms.length ≤ 1000) :
    Calls Try.prog 76 #[.slice A rooms.length c] w fun e w' =>
      e = .returned (.pointer (some ⟨w.heap.size, 0, none⟩)) ∧ FlowAt w' w.heap.size w.heap.size rooms.length (newK rooms rooms.length) ∧ Below w.heap.size w w' := by
  have HR := Lib.hid hr
  clear hr
  go_enter Try.func76, Try.ntmps76
  go_wp2_with fail
  go_loopw [12] (fun v wr => ∃ k : Nat, v = .int .i64 (k : Int) ∧ k ≤ rooms.length ∧ Hid (FlowAt wr w.heap.size w.heap.size rooms.length (newK rooms k)) ∧ Below w.heap.size w wr) (fun v _ => rooms.length - (intOf v).toNat)
  case atStart =>
    refine ⟨0, rfl, Nat.zero_le _, ⟨Nat.le_refl _, .slice none 0 0, heap_alloc_new _ _, by simp [Value.ownBlock], own_nil _ _ _ _⟩, (Below.refl _ _).alloc (Nat.le_refl _) _⟩
  case round =>
    obtain ⟨k, rfl, hk, HF, hB⟩ := hrel
    by_cases hlt : k < rooms.length
    · obtain ⟨ad, x, eA, HX, h0⟩ := at_int HR.out hB k hlt
      cases eA
      have hc := add_c w.heap.size w.heap.size rooms.length (newK rooms k) k (k + 1) 1048576 0 x wr HF.out (by rw [newK_len]; omega)
      have HC := Lib.hid hc
      clear hc
      go_wp2_with ((with_reducible refine HC.out.mono ?_); rintro e w' ⟨rfl, hF', hB', _⟩)
      go_roundw
      case rel => exact ⟨k + 1, by go_num, by omega, by have : rooms.getD k 0 = x := (by have := HX.out; simp [this]); rw [Hid, newK, this]; exact hF', hB.trans hB'⟩
      case measure => simp [intOf]; omega
    · obtain rfl : k = rooms.length := by omega
      go_wp2_with fail
      go_ret
      exact ⟨rfl, HF.out, hB⟩
end Go.Proofs.Ytpjobcnfjpbaeaa.A

namespace Go.Proofs.Ytpjobcnfjpbaeaa.A
open Go.RowKit Go.Proofs.YtpjobcnfjpbaeaaW.PrintWords Go.Proofs.YtpjobcnfjpbaeaaW.PrintLast Go.Proofs.YtpjobcnfjpbaeaaW.PrintMore
open Go.Proofs.Ytpjobcnfjpbaeaa.PA
def twin (i : Nat) : Nat := if i % 2 = 0 then i + 1 else i - 1
theorem twin_xor (i : Nat) : i ^^^ 1 = twin i := by
  unfold twin
  apply Nat.eq_of_testBit_eq
  intro j
  rw [Nat.testBit_xor]
  cases j with
  | zero =>
    simp only [Nat.testBit_zero]
    split <;> rename_i h
    · simp [h]; omega
    · have : i % 2 = 1 := by omega
      simp [this]; omega
  | succ j =>
    have h1 : Nat.testBit 1 (j + 1) = false := by simp [Nat.testBit_succ]
    rw [h1, Bool.xor_false, Nat.testBit_succ, Nat.testBit_succ]
    congr 1
    split <;> omega
theorem xor_one (i : Nat) (hi : i < 1000000) : bits BinOp.xor IntKind.i64 (i : Int) 1 = (twin i : Int) := by
  have e : (BitVec.ofInt IntKind.i64.bits (i : Int) ^^^ BitVec.ofInt IntKind.i64.bits 1).toNat = twin i := by
    rw [BitVec.toNat_xor, ← twin_xor]
    have h1 : (BitVec.ofInt IntKind.i64.bits (i : Int)).toNat = i := by
      rw [BitVec.toNat_ofInt]
      show ((i : Int) % ((2 ^ 64 : Nat) : Int)).toNat = i
      have h64 : ((2 ^ 64 : Nat) : Int) = 18446744073709551616 := by decide
      have : (i : Int) % ((2 ^ 64 : Nat) : Int) = i := Int.emod_eq_of_lt (by omega) (by rw [h64]; omega)
      rw [this]; rfl
    have h2 : (BitVec.ofInt IntKind.i64.bits 1).toNat = 1 := by decide
    rw [h1, h2]
  unfold bits
  simp only
  rw [e, i64_w]
  unfold wrap64
  have : twin i ≤ i + 1 := by unfold twin; split <;> omega
  omega
def send2 (arcs : List S106) (i : Nat) : Option (List S106) := match arcs[i]?, arcs[twin i]? with
  | some x, some y => some ((arcs.set i ⟨x.f0, x.f1, wrap64 (x.f2 - 1), x.f3⟩).set (twin i) ⟨y.f0, y.f1, wrap64 (y.f2 + 1), y.f3⟩)
  | _, _ => none
def wayF : Nat → List S106 → List Int → Int → Int → Option (List S106)
  | 0, _, _, _, _ => none
  | k + 1, arcs, b, v, t => if v = t then some arcs else
    if 0 ≤ v ∧ v < b.length ∧ 0 ≤ gt0 b v then (send2 arcs (gt0 b v).toNat).bind fun arcs1 => match arcs1[(gt0 b v).toNat]? with
      | some a => wayF k arcs1 b a.f0 t
      | none => none
    else none
def takeF (k n : Nat) (arcs : List S106) (f t p : Int) : Option (List S106) :=
  (relaxF k arcs ((List.replicate (n + 1) (-1099511627776)).set t.toNat 0) (List.replicate (n + 1) 0)).bind fun gb =>
    if gt0 gb.1 f = -1099511627776 then some (addF arcs f t 1 p 0) else
    if IntKind.i64.wrap (gt0 gb.1 f + p) ≤ 0 then some (addF arcs f t 1 p 0) else
    (wayF k (addF arcs f t 1 p 0) gb.2 f t).bind fun arcs1 => send2 arcs1 arcs.length
end Go.Proofs.Ytpjobcnfjpbaeaa.A

namespace Go.Proofs.Ytpjobcnfjpbaeaa.A
open Go.RowKit Go.Proofs.YtpjobcnfjpbaeaaW.PrintWords Go.Proofs.YtpjobcnfjpbaeaaW.PrintLast Go.Proofs.YtpjobcnfjpbaeaaW.PrintMore
open Go.Proofs.Ytpjobcnfjpbaeaa.PA
def filled (m k : Nat) (x : Int) : List Int := List.replicate k x ++ List.replicate (m - k) 0
theorem filled_len {m k : Nat} (x : Int) (h : k ≤ m) : (filled m k x).length = m := by simp [filled]; omega
theorem filled_set {m k : Nat} (x : Int) (h : k < m) : (filled m k x).set k x = filled m (k + 1) x := by
  unfold filled
  rw [List.set_append_right _ _ (by simp)]
  obtain ⟨d, hd⟩ : ∃ d, m - k = d + 1 := ⟨m - k - 1, by omega⟩
  have hd' : m - (k + 1) = d := by omega
  rw [hd, hd', List.length_replicate, Nat.sub_self, List.replicate_succ, List.set_cons_zero]
  simp [List.replicate_succ', List.append_assoc]
theorem FlowAt.keep {w w' : World} {base b : Nat} {n : Int} {arcs : List S106} {X : List Nat} (h : FlowAt w base b n arcs) (hk : R.Keeps X w w') (hX : ∀ k, k ∈ X → k ≠ b ∧ ∀ v, w.heap[b]? = some (.cells #[.int .i64 n, v] 109 (0, 0)) → v.ownBlock ≠ some k) : FlowAt w' base b n arcs := by
  have hlt := h.lt
  obtain ⟨hb, v, hblk, hne, hown⟩ := h
  refine ⟨hb, v, ?_, hne, own_move hown (fun k hk' => hk.block k (hown.lt k hk').2 (fun hx => (hX k hx).2 v hblk hk'))⟩
  rw [hk.block b hlt (fun hx => (hX b hx).1 rfl), hblk]
theorem FlowAt.apart_new {w : World} {base b : Nat} {n : Int} {arcs : List S106} (h : FlowAt w base b n arcs) {k : Nat} (hk : w.heap.size ≤ k) : k ≠ b ∧ ∀ v, w.heap[b]? = some (.cells #[.int .i64 n, v] 109 (0, 0)) → v.ownBlock ≠ some k := by
  have hlt := h.lt
  obtain ⟨hb, v, hblk, hne, hown⟩ := h
  refine ⟨by omega, fun v' hv' e => ?_⟩
  rw [hblk] at hv'
  simp at hv'
  subst hv'
  have := (hown.lt k e).2
  omega
theorem relaxF_len {k : Nat} {arcs : List S106} {g b g1 b1 : List Int} {m : Nat} (h : relaxF k arcs g b = some (g1, b1)) (hg : g.length = m) (hb : b.length = m) : g1.length = m ∧ b1.length = m := by
  induction k generalizing g b with
  | zero => simp [relaxF] at h
  | succ k ih =>
    unfold relaxF at h
    split at h
    · simp at h; obtain ⟨rfl, rfl⟩ := h; exact ⟨hg, hb⟩
    · exact ih h (by simpa using hg) (by simpa using hb)
set_option maxRecDepth 100000 in
set_option maxHeartbeats 3200000 in
theorem take_c (base b k n : Nat) (arcs arcs' : List S106) (f t : Nat) (p : Int) (w : World) (hF : FlowAt w base b n arcs) (hl : 0 < arcs.length) (hlen : arcs.length ≤ 10000) (hn : n ≤ 1000)
    (hI : ArcsIn (n + 1) arcs) (hft : f < t) (htn : t ≤ n) (h : takeF k n arcs f t p = some arcs') :
    Calls Try.prog 77 #[.pointer (some ⟨b, 0, none⟩), .agg #[.int .i64 f, .int .i64 t, .int .i64 p]] w fun e w' =>
      e = .returned (.tuple #[]) ∧ FlowAt w' base b n arcs' ∧ Below base w w' := by
  have hbs := hF.lt
  have hbase : base ≤ b := hF.1
  have hc0 : w.cell? ⟨b, 0, none⟩ = some (.int .i64 n) := by
    obtain ⟨_, v, hblk, _⟩ := hF
    simp [World.cell?, hblk]
  have hmk := make_ints (n + 1) (by omega)
  rw [show ((n + 1 : Nat) : Int) = (n : Int) + 1 by omega] at hmk
  have HF := Lib.hid hF
  have HI := Lib.hid hI
  have H := Lib.hid h
  clear hF hI h
  have hK1 : R.Keeps [] w ((w.alloc (Obj.cells #[Value.int IntKind.i64 f, Value.int IntKind.i64 t, Value.int IntKind.i64 p] 47)).alloc (Obj.cells (ints (List.replicate (n + 1) 0)).toArray 3)) := ((R.Keeps.refl _ _).alloc _).alloc _
  have hR1 : IntRow ((w.alloc (Obj.cells #[Value.int IntKind.i64 f, Value.int IntKind.i64 t, Value.int IntKind.i64 p] 47)).alloc (Obj.cells (ints (List.replicate (n + 1) 0)).toArray 3)) (w.heap.size + 1) (filled (n + 1) 0 (-1099511627776)) := by
    have := IntRow.mk (w.alloc (Obj.cells #[Value.int IntKind.i64 f, Value.int IntKind.i64 t, Value.int IntKind.i64 p] 47)) (List.replicate (n + 1) 0)
    simpa [filled] using this
  have hB1 : ((w.alloc (Obj.cells #[Value.int IntKind.i64 f, Value.int IntKind.i64 t, Value.int IntKind.i64 p] 47)).alloc (Obj.cells (ints (List.replicate (n + 1) 0)).toArray 3)).heap[w.heap.size]? = some (.cells #[Value.int IntKind.i64 f, Value.int IntKind.i64 t, Value.int IntKind.i64 p] 47 (0, 0)) := by
    rw [Below.heap_alloc _ _ _ (by simp), heap_alloc_new]
  go_enter Try.func77, Try.ntmps77
  go_wp2_with fail
  go_loopw [17] (fun v wr => ∃ k : Nat, v = .int .i64 (k : Int) ∧ k ≤ n + 1 ∧ R.Keeps [] w wr ∧ w.heap.size + 2 ≤ wr.heap.size ∧ IntRow wr (w.heap.size + 1) (filled (n + 1) k (-1099511627776)) ∧ Hid (wr.heap[w.heap.size]? = some (.cells #[Value.int IntKind.i64 f, Value.int IntKind.i64 t, Value.int IntKind.i64 p] 47 (0, 0)))) (fun v _ => n + 1 - (intOf v).toNat)
  case atStart => exact ⟨0, rfl, Nat.zero_le _, hK1, by simp, hR1, hB1⟩
  case round =>
    obtain ⟨q, rfl, hq, hK, hszr, hR, hBk⟩ := hrel
    clear hK1 hR1 hB1
    by_cases hlt : q < n + 1
    · have e1 := hR.cell (i := q) (x := (filled (n + 1) q (-1099511627776))[q]'(by rw [filled_len _ hq]; omega)) (List.getElem?_eq_getElem _)
      have e2 := hR.free q
      have hlt' : (q : Int) < (n : Int) + 1 := by omega
      go_wp2_with fail
      go_roundw
      case rel =>
        refine ⟨q + 1, by go_num, by omega, hK.setCell (p := ⟨w.heap.size + 1, q, none⟩) (fun h => by simp at h; omega) _, by simp [World.setCell]; omega, ?_, ?_⟩
        · rw [← filled_set _ hlt]; exact hR.set q _
        · rw [Hid, Below.heap_setCell _ _ _ _ (by simp)]; exact hBk
      case measure => simp [intOf]; omega
    · obtain rfl : q = n + 1 := by omega
      have hfar : filled (n + 1) (n + 1) (-1099511627776) = List.replicate (n + 1) (-1099511627776) := by simp [filled]
      rw [hfar] at hR
      obtain ⟨gb, hrel, hrest⟩ := Option.bind_eq_some_iff.1 H.out
      obtain ⟨gR, bR⟩ := gb
      simp only at hrest
      have hRl : gR.length = n + 1 ∧ bR.length = n + 1 := relaxF_len hrel (by simp) (by simp)
      have e0 : wr.cell? ⟨w.heap.size, 0, none⟩ = some (.int .i64 f) := by simp [World.cell?, hBk.out]
      have e1 : wr.cell? ⟨w.heap.size, 1, none⟩ = some (.int .i64 t) := by simp [World.cell?, hBk.out]
      have e2 := hR.cell (i := t) (x := -1099511627776) (by rw [List.getElem?_replicate, if_pos (by omega)])
      have e3 := hR.free t
      have ht' : (t : Int) < (n : Int) + 1 := by omega
      have hF1 : FlowAt (wr.setCell ⟨w.heap.size + 1, t, none⟩ (.int .i64 0)) base b n arcs := by
        refine HF.out.keep (X := [w.heap.size + 1]) (R.Keeps.setCell (hK.mono (Y := [w.heap.size + 1]) (fun k hk => by simp at hk)) (fun _ => by simp) _) (fun k hk => HF.out.apart_new (by simp at hk; omega))
      have hR2 := hR.set t 0
      have hrc := relax_c base b (w.heap.size + 1) (n + 1) k n arcs ((List.replicate (n + 1) (-1099511627776)).set t 0) gR bR _ hF1 hl (by omega) HI.out (by simp) (by omega) hR2
        (fun v hv => have hz := HF.out.apart_new (k := w.heap.size + 1) (by omega); ⟨hz.1, hz.2 v (by rw [← hv, Below.heap_setCell _ _ _ _ (by show b ≠ w.heap.size + 1; omega)]; exact (hK.block b hbs (by simp)).symm)⟩) hrel
      have hBk2 : (wr.setCell ⟨w.heap.size + 1, t, none⟩ (.int .i64 0)).heap[w.heap.size]? = some (.cells #[Value.int IntKind.i64 f, Value.int IntKind.i64 t, Value.int IntKind.i64 p] 47 (0, 0)) := by
        rw [Below.heap_setCell _ _ _ _ (by show w.heap.size ≠ w.heap.size + 1; omega)]; exact hBk.out
      have hsz2 : (wr.setCell ⟨w.heap.size + 1, t, none⟩ (.int .i64 0)).heap.size = wr.heap.size := by simp [World.setCell]
      rw [hsz2] at hrc
      have hBl2 : Below base w (wr.setCell ⟨w.heap.size + 1, t, none⟩ (.int .i64 0)) :=
        (hK.to_below (by omega) (fun k hk => by simp at hk)).setCell (p := ⟨w.heap.size + 1, t, none⟩) (by show base ≤ w.heap.size + 1; omega) _
      have HRC := Lib.hid hrc
      have HF1 := Lib.hid hF1
      have HREST := Lib.hid hrest
      have HBK2 := Lib.hid hBk2
      clear hrc hF1 hrest hrel hBk hR hR2 hfar hBk2
      go_wp2_with fail
      refine HRC.out.mono ?_
      rintro e w3 ⟨rfl, hb3, hg3, hK3⟩
      have hF3 : FlowAt w3 base b n arcs := HF1.out.keep hK3 (fun k hk => by
        simp only [List.mem_singleton] at hk
        subst hk
        have hz := HF.out.apart_new (k := w.heap.size + 1) (by omega)
        exact ⟨hz.1, fun v hv => hz.2 v (by rw [← hv, Below.heap_setCell _ _ _ _ (by show b ≠ w.heap.size + 1; omega)]; exact (hK.block b hbs (by simp)).symm)⟩)
      have hbk3 : w3.heap[w.heap.size]? = some (.cells #[Value.int IntKind.i64 f, Value.int IntKind.i64 t, Value.int IntKind.i64 p] 47 (0, 0)) := by
        rw [hK3.block _ (by rw [hsz2]; omega) (by simp)]; exact HBK2.out
      have a0 : w3.cell? ⟨w.heap.size, 0, none⟩ = some (.int .i64 f) := by simp [World.cell?, hbk3]
      have a1 : w3.cell? ⟨w.heap.size, 1, none⟩ = some (.int .i64 t) := by simp [World.cell?, hbk3]
      have a2 : w3.cell? ⟨w.heap.size, 2, none⟩ = some (.int .i64 p) := by simp [World.cell?, hbk3]
      obtain ⟨g, cap, cur, _, hbg, hgb1, hblk, hrow, hc1, hc2, hcs, hct⟩ := hF3.open hl
      have a3 : w3.cell? ⟨b, 1, none⟩ = some (.slice (some ⟨g, 0, none⟩) arcs.length cap) := by simp [World.cell?, hblk]
      have hadd := add_c base b n arcs f t 1 p 0 w3 hF3 (by omega)
      have HADD := Lib.hid hadd
      have HF3 := Lib.hid hF3
      have HBK3 := Lib.hid hbk3
      have HBLK := Lib.hid hblk
      have HG3 := Lib.hid hg3
      have HB3 := Lib.hid hb3
      clear hadd hF3 hbk3 hblk hrow hcs hct hg3 hb3 e0 e1 e2 e3
      go_wp2_with fail
      refine HADD.out.mono ?_
      rintro e w4 ⟨rfl, hF4, hB4, hA4⟩
      have hb3w : w3.heap[b]? = w.heap[b]? := by
        rw [hK3.block b (by rw [hsz2]; omega) (by simp; omega), Below.heap_setCell _ _ _ _ (by show b ≠ w.heap.size + 1; omega)]; exact hK.block b hbs (by simp)
      have hs3 : wr.heap.size < w3.heap.size := HB3.out.lt
      have hap : ∀ k, w.heap.size ≤ k → k < w3.heap.size → FlowApart w3 b n k := fun k h1 h2 =>
        ⟨h2, (HF.out.apart_new h1).1, fun v hv => (HF.out.apart_new h1).2 v (by rw [← hb3w]; exact hv)⟩
      have hp0 := hA4 _ (hap w.heap.size (Nat.le_refl _) (by omega))
      have hp1 := hA4 _ (hap (w.heap.size + 1) (by omega) (by omega))
      have hp2 := hA4 _ (hap wr.heap.size (by omega) hs3)
      have hbk4 : w4.heap[w.heap.size]? = some (.cells #[Value.int IntKind.i64 f, Value.int IntKind.i64 t, Value.int IntKind.i64 p] 47 (0, 0)) := by rw [hp0.1]; exact HBK3.out
      have hg4 : IntRow w4 (w.heap.size + 1) gR := by unfold IntRow; rw [hp1.1]; exact HG3.out
      have hb4 : IntRow w4 wr.heap.size bR := by unfold IntRow; rw [hp2.1]; exact HB3.out
      obtain ⟨gf, hgf⟩ : ∃ v, gR[f]? = some v := ⟨_, List.getElem?_eq_getElem (by rw [hRl.1]; omega)⟩
      have hgt : gt0 gR (f : Int) = gf := by simp [gt0, hgf]
      have hre := HREST.out
      rw [hgt] at hre
      have cells : ∀ w', R.Keeps [] w4 w' → w'.cell? ⟨w.heap.size, 0, none⟩ = some (.int .i64 f) ∧ w'.cell? ⟨w.heap.size, 2, none⟩ = some (.int .i64 p) ∧ w'.cell? ⟨w.heap.size + 1, f, none⟩ = some (.int .i64 gf) := fun w' h =>
        ⟨h.cell (a := ⟨w.heap.size, 0, none⟩) (by simp [World.cell?, hbk4]) (by simp), h.cell (a := ⟨w.heap.size, 2, none⟩) (by simp [World.cell?, hbk4]) (by simp), (hg4.keep h (by simp)).cell hgf⟩
      have CE := Lib.hid cells
      have HRE := Lib.hid hre
      have HF4 := Lib.hid hF4
      have HBK4 := Lib.hid hbk4
      have HGF := Lib.hid hgf
      have HBW := Lib.hid hb3w
      clear cells hre hF4 hbk4 hgf hgt hb3w a0 a1 a2 a3
      have hf1 : (f : Int) < (n : Int) + 1 := by omega
      have HB4 : Below base w w4 := (hBl2.trans (hK3.to_below (by rw [hsz2]; omega) (fun k hk => by simp at hk; omega))).trans hB4
      go_wp2_with fail
      by_cases k1 : gf = -1099511627776
      · have k1' : (gf == -1099511627776) = true := by simp [k1]
        have hdone : arcs' = addF arcs f t 1 p 0 := by have := HRE.out; rw [if_pos k1] at this; exact (Option.some.inj this).symm
        subst hdone
        clear k1
        apply R.wp_region_text [0, 1, 2, 3, 4, 5, 6, 7, 8, 9, 10, 11, 12, 13, 14, 15, 16] [] 17 (R.Keeps [] w4)
        case hm => kernel_rfl
        case hB => kernel_rfl
        case hd => rfl
        case hQ => exact fun _ _ _ _ _ h => h
        case hS => exact (R.Keeps.refl _ _).drew
        case hF =>
          intro w' hS
          obtain ⟨z1, z2, z3⟩ := CE.out w' hS
          have HS := Lib.hid hS
          clear hS
          simp only [R.pickC, List.filterMap_cons, List.getElem?_toArray, List.getElem?_cons_zero, List.getElem?_cons_succ, List.filterMap_nil]
          (with_reducible refine R.wpStill_plain rfl (fun K hK => ?_)); go_simp; with_reducible refine hK _ ?_; clear hK K
          (with_reducible refine R.wpStill_plain rfl (fun K hK => ?_)); go_simp; with_reducible refine hK _ ?_; clear hK K
          (with_reducible refine R.wpStill_plain rfl (fun K hK => ?_)); go_simp; with_reducible refine hK _ ?_; clear hK K
          (with_reducible refine R.wpStill_plain rfl (fun K hK => ?_)); go_simp; with_reducible refine hK _ ?_; clear hK K
          (with_reducible refine R.wpStill_plain rfl (fun K hK => ?_)); go_simp; with_reducible refine hK _ ?_; clear hK K
          (with_reducible refine R.wpStill_plain rfl (fun K hK => ?_)); go_simp; with_reducible refine hK _ ?_; clear hK K
          (with_reducible refine R.wpStill_plain rfl (fun K hK => ?_)); go_simp; with_reducible refine hK _ ?_; clear hK K
          (with_reducible refine R.wpStill_no (j := 6) (want := false) (b := true) rfl (by kernel_rfl) R.btf ?_); simp only [Act.put, List.setIfInBounds_toArray, List.set_cons_zero, List.set_cons_succ]
          (with_reducible refine R.wpStill_no (j := 6) (want := false) (b := true) rfl (by kernel_rfl) R.btf ?_); simp only [Act.put, List.setIfInBounds_toArray, List.set_cons_zero, List.set_cons_succ]
          (with_reducible refine R.wpStill_no (j := 6) (want := false) (b := true) rfl (by kernel_rfl) R.btf ?_); simp only [Act.put, List.setIfInBounds_toArray, List.set_cons_zero, List.set_cons_succ]
          (with_reducible refine R.wpStill_no (j := 6) (want := false) (b := true) rfl (by kernel_rfl) R.btf ?_); simp only [Act.put, List.setIfInBounds_toArray, List.set_cons_zero, List.set_cons_succ]
          (with_reducible refine R.wpStill_no (j := 6) (want := false) (b := true) rfl (by kernel_rfl) R.btf ?_); simp only [Act.put, List.setIfInBounds_toArray, List.set_cons_zero, List.set_cons_succ]
          (with_reducible refine R.wpStill_no (j := 6) (want := false) (b := true) rfl (by kernel_rfl) R.btf ?_); simp only [Act.put, List.setIfInBounds_toArray, List.set_cons_zero, List.set_cons_succ]
          (with_reducible refine R.wpStill_no (j := 6) (want := false) (b := true) rfl (by kernel_rfl) R.btf ?_); simp only [Act.put, List.setIfInBounds_toArray, List.set_cons_zero, List.set_cons_succ]
          (with_reducible refine R.wpStill_no (j := 6) (want := false) (b := true) rfl (by kernel_rfl) R.btf ?_); simp only [Act.put, List.setIfInBounds_toArray, List.set_cons_zero, List.set_cons_succ]
          (with_reducible refine R.wpStill_no (j := 6) (want := false) (b := true) rfl (by kernel_rfl) R.btf ?_); simp only [Act.put, List.setIfInBounds_toArray, List.set_cons_zero, List.set_cons_succ]
          (with_reducible refine R.wpStill_plain rfl (fun K hK => ?_)); go_simp; with_reducible refine hK _ ?_; clear hK K
          exact wpStill_nil rfl
        case hC =>
          refine R.wpSeq_nil ?_
          go_wp2_with fail
          (try simp only [Exit.inBlock, Exit.then])
          refine bodyPost_ret (results_none rfl _ _ _) rfl ?_
          exact ⟨rfl, HF4.out, HB4.drew⟩
      · have k1' : (gf == -1099511627776) = false := by simp [k1]
        have hre2 := HRE.out
        rw [if_neg k1] at hre2
        clear k1
        by_cases k2 : IntKind.i64.wrap (gf + p) ≤ 0
        · rw [if_pos k2] at hre2
          have k2' : decide (IntKind.i64.wrap (gf + p) ≤ 0) = true := decide_eq_true k2
          have hdone : arcs' = addF arcs f t 1 p 0 := (Option.some.inj hre2).symm
          subst hdone
          clear k2 hre2
          apply R.wp_region_text [0, 1, 2, 3, 4, 5, 6, 7, 8, 9, 10, 11, 12, 13, 14, 15, 16] [] 17 (R.Keeps [] w4)
          case hm => kernel_rfl
          case hB => kernel_rfl
          case hd => rfl
          case hQ => exact fun _ _ _ _ _ h => h
          case hS => exact (R.Keeps.refl _ _).drew
          case hF =>
            intro w' hS
            obtain ⟨z1, z2, z3⟩ := CE.out w' hS
            have HS := Lib.hid hS
            clear hS
            simp only [R.pickC, List.filterMap_cons, List.getElem?_toArray, List.getElem?_cons_zero, List.getElem?_cons_succ, List.filterMap_nil]
            (with_reducible refine R.wpStill_plain rfl (fun K hK => ?_)); go_simp; with_reducible refine hK _ ?_; clear hK K
            (with_reducible refine R.wpStill_plain rfl (fun K hK => ?_)); go_simp; with_reducible refine hK _ ?_; clear hK K
            (with_reducible refine R.wpStill_plain rfl (fun K hK => ?_)); go_simp; with_reducible refine hK _ ?_; clear hK K
            (with_reducible refine R.wpStill_plain rfl (fun K hK => ?_)); go_simp; with_reducible refine hK _ ?_; clear hK K
            (with_reducible refine R.wpStill_plain rfl (fun K hK => ?_)); go_simp; with_reducible refine hK _ ?_; clear hK K
            (with_reducible refine R.wpStill_plain rfl (fun K hK => ?_)); go_simp; with_reducible refine hK _ ?_; clear hK K
            (with_reducible refine R.wpStill_plain rfl (fun K hK => ?_)); go_simp; with_reducible refine hK _ ?_; clear hK K
            (with_reducible refine R.wpStill_yes (j := 6) (want := false) rfl (by kernel_rfl) (fun K hK => ?_)); go_simp; with_reducible refine hK _ ?_; clear hK K
            (with_reducible refine R.wpStill_yes (j := 6) (want := false) rfl (by kernel_rfl) (fun K hK => ?_)); go_simp; with_reducible refine hK _ ?_; clear hK K
            (with_reducible refine R.wpStill_yes (j := 6) (want := false) rfl (by kernel_rfl) (fun K hK => ?_)); go_simp; with_reducible refine hK _ ?_; clear hK K
            (with_reducible refine R.wpStill_yes (j := 6) (want := false) rfl (by kernel_rfl) (fun K hK => ?_)); go_simp; with_reducible refine hK _ ?_; clear hK K
            (with_reducible refine R.wpStill_yes (j := 6) (want := false) rfl (by kernel_rfl) (fun K hK => ?_)); go_simp; with_reducible refine hK _ ?_; clear hK K
            (with_reducible refine R.wpStill_yes (j := 6) (want := false) rfl (by kernel_rfl) (fun K hK => ?_)); go_simp; with_reducible refine hK _ ?_; clear hK K
            (with_reducible refine R.wpStill_yes (j := 6) (want := false) rfl (by kernel_rfl) (fun K hK => ?_)); go_simp; with_reducible refine hK _ ?_; clear hK K
            (with_reducible refine R.wpStill_yes (j := 6) (want := false) rfl (by kernel_rfl) (fun K hK => ?_)); go_simp; with_reducible refine hK _ ?_; clear hK K
            (with_reducible refine R.wpStill_yes (j := 6) (want := false) rfl (by kernel_rfl) (fun K hK => ?_)); go_simp; with_reducible refine hK _ ?_; clear hK K
            (with_reducible refine R.wpStill_plain rfl (fun K hK => ?_)); go_simp; with_reducible refine hK _ ?_; clear hK K
            exact wpStill_nil rfl
          case hC =>
            refine R.wpSeq_nil ?_
            go_wp2_with fail
            (try simp only [Exit.inBlock, Exit.then])
            refine bodyPost_ret (results_none rfl _ _ _) rfl ?_
            exact ⟨rfl, HF4.out, HB4.drew⟩
        · rw [if_neg k2] at hre2
          have k2' : decide (IntKind.i64.wrap (gf + p) ≤ 0) = false := decide_eq_false k2
          obtain ⟨arcsE, hway, hsend⟩ := Option.bind_eq_some_iff.1 hre2
          have HWAY := Lib.hid hway
          have HSEND := Lib.hid hsend
          clear k2 hre2 hway hsend
          have y0 : w4.cell? ⟨w.heap.size, 0, none⟩ = some (.int .i64 f) := by simp [World.cell?, HBK4.out]
          apply R.wp_region_text [0, 1, 2, 3, 4, 5, 6, 7, 8, 9, 10, 11, 12, 13, 14, 15, 16] [] 17 (R.Keeps [] w4)
          case hm => kernel_rfl
          case hB => kernel_rfl
          case hd => rfl
          case hQ => exact fun _ _ _ _ _ h => h
          case hS => exact (R.Keeps.refl _ _).drew
          case hF =>
            intro w' hS
            obtain ⟨z1, z2, z3⟩ := CE.out w' hS
            have HS := Lib.hid hS
            clear hS
            simp only [R.pickC, List.filterMap_cons, List.getElem?_toArray, List.getElem?_cons_zero, List.getElem?_cons_succ, List.filterMap_nil]
            (with_reducible refine R.wpStill_plain rfl (fun K hK => ?_)); go_simp; with_reducible refine hK _ ?_; clear hK K
            (with_reducible refine R.wpStill_plain rfl (fun K hK => ?_)); go_simp; with_reducible refine hK _ ?_; clear hK K
            (with_reducible refine R.wpStill_plain rfl (fun K hK => ?_)); go_simp; with_reducible refine hK _ ?_; clear hK K
            (with_reducible refine R.wpStill_plain rfl (fun K hK => ?_)); go_simp; with_reducible refine hK _ ?_; clear hK K
            (with_reducible refine R.wpStill_plain rfl (fun K hK => ?_)); go_simp; with_reducible refine hK _ ?_; clear hK K
            (with_reducible refine R.wpStill_plain rfl (fun K hK => ?_)); go_simp; with_reducible refine hK _ ?_; clear hK K
            (with_reducible refine R.wpStill_plain rfl (fun K hK => ?_)); go_simp; with_reducible refine hK _ ?_; clear hK K
            (with_reducible refine R.wpStill_yes (j := 6) (want := false) rfl (by kernel_rfl) (fun K hK => ?_)); go_simp; with_reducible refine hK _ ?_; clear hK K
            (with_reducible refine R.wpStill_yes (j := 6) (want := false) rfl (by kernel_rfl) (fun K hK => ?_)); go_simp; with_reducible refine hK _ ?_; clear hK K
            (with_reducible refine R.wpStill_yes (j := 6) (want := false) rfl (by kernel_rfl) (fun K hK => ?_)); go_simp; with_reducible refine hK _ ?_; clear hK K
            (with_reducible refine R.wpStill_yes (j := 6) (want := false) rfl (by kernel_rfl) (fun K hK => ?_)); go_simp; with_reducible refine hK _ ?_; clear hK K
            (with_reducible refine R.wpStill_yes (j := 6) (want := false) rfl (by kernel_rfl) (fun K hK => ?_)); go_simp; with_reducible refine hK _ ?_; clear hK K
            (with_reducible refine R.wpStill_yes (j := 6) (want := false) rfl (by kernel_rfl) (fun K hK => ?_)); go_simp; with_reducible refine hK _ ?_; clear hK K
            (with_reducible refine R.wpStill_yes (j := 6) (want := false) rfl (by kernel_rfl) (fun K hK => ?_)); go_simp; with_reducible refine hK _ ?_; clear hK K
            (with_reducible refine R.wpStill_yes (j := 6) (want := false) rfl (by kernel_rfl) (fun K hK => ?_)); go_simp; with_reducible refine hK _ ?_; clear hK K
            (with_reducible refine R.wpStill_yes (j := 6) (want := false) rfl (by kernel_rfl) (fun K hK => ?_)); go_simp; with_reducible refine hK _ ?_; clear hK K
            (with_reducible refine R.wpStill_plain rfl (fun K hK => ?_)); go_simp; with_reducible refine hK _ ?_; clear hK K
            exact wpStill_nil rfl
          case hC =>
            refine R.wpSeq_nil ?_
            go_wp2_with fail
            obtain ⟨wo, rfl⟩ : ∃ wo : World, wo = wr := ⟨_, rfl⟩
            go_loopg [8] k (fun q v8 wq => ∃ (v : Int) (arcsq : List S106), v8 = .int .i64 v ∧ Hid (wayF q arcsq bR v t = some arcsE) ∧ Hid (FlowAt wq base b n arcsq) ∧ arcsq.length = arcs.length + 2 ∧ Below base w wq ∧
              Hid (wq.heap[w.heap.size]? = some (.cells #[Value.int IntKind.i64 f, Value.int IntKind.i64 t, Value.int IntKind.i64 p] 47 (0, 0))) ∧ Hid (IntRow wq wo.heap.size bR) ∧ Hid (FlowApart wq b n w.heap.size) ∧ Hid (FlowApart wq b n wo.heap.size))
            case atStart => exact ⟨f, _, rfl, HWAY, HF4, by simp [addF], HB4.drew, HBK4, hb4, hp0.2, hp2.2⟩
            case round =>
              obtain ⟨v, arcsq, rfl, HW, HFq, hlq, hBq, HBKq, HBYq, HA0, HA1⟩ := hrel
              have x1 : wr.cell? ⟨w.heap.size, 1, none⟩ = some (.int .i64 t) := by simp [World.cell?, HBKq.out]
              cases gk with
              | zero => exact absurd HW.out (by simp [wayF])
              | succ q1 =>
              have hw := HW.out
              unfold wayF at hw
              have hFo := HFq.out.open (by omega)
              by_cases hvt : v = t
              · rw [if_pos hvt] at hw
                obtain rfl := Option.some.inj hw
                have hvt' : (v != (t : Int)) = false := by simp [hvt]
                clear hvt hw HW
                have hs2 := HSEND.out
                unfold send2 at hs2
                split at hs2
                · rename_i X Y hX hY
                  have htw : arcs.length ≠ twin arcs.length := by unfold twin; split <;> omega
                  have hsc := send_c base b n arcsq arcs.length (twin arcs.length) X Y wr HFq.out hX hY htw (xor_one _ (by omega)) (by omega)
                  have HSC := Lib.hid hsc
                  have HS2 := Lib.hid hs2
                  clear hsc hs2 hX hY htw hFo
                  go_wp2_with fail
                  refine HSC.out.mono ?_
                  rintro e w5 ⟨rfl, hF5, hB5, _⟩
                  go_wp2_with fail
                  go_end0
                  obtain rfl := Option.some.inj HS2.out
                  exact ⟨rfl, hF5, hBq.trans hB5⟩
                · cases hs2
              · rw [if_neg hvt] at hw
                have hvt' : (v != (t : Int)) = true := by simp [hvt]
                clear hvt
                split at hw
                · rename_i hc
                  obtain ⟨v0, v1, v2⟩ := hc
                  obtain ⟨vn, rfl⟩ := Int.eq_ofNat_of_zero_le v0
                  have hvl : vn < bR.length := by omega
                  obtain ⟨x, hx⟩ : ∃ x, bR[vn]? = some x := ⟨_, List.getElem?_eq_getElem hvl⟩
                  have hgx : gt0 bR (vn : Int) = x := by simp [gt0, hx]
                  rw [hgx] at hw v2
                  obtain ⟨i, rfl⟩ := Int.eq_ofNat_of_zero_le v2
                  obtain ⟨arcs1, hsend1, hw1⟩ := Option.bind_eq_some_iff.1 hw
                  rw [Int.toNat_natCast] at hsend1 hw1
                  split at hw1
                  · rename_i a1 ha1
                    have hs2 := hsend1
                    unfold send2 at hs2
                    split at hs2
                    · rename_i X Y hX hY
                      have hil := (List.getElem?_eq_some_iff.1 hX).1
                      have htw : i ≠ twin i := by unfold twin; split <;> omega
                      have hsc := send_c base b n arcsq i (twin i) X Y wr HFq.out hX hY htw (xor_one _ (by omega)) (by omega)
                      obtain rfl := Option.some.inj hs2
                      have e1 := HBYq.out.cell hx
                      have hvn : (vn : Int) < (n : Int) + 1 := by have := hRl.2; omega
                      have HSC := Lib.hid hsc
                      have HW1 := Lib.hid hw1
                      have HA1' := Lib.hid ha1
                      have HX := Lib.hid hx
                      clear hsc hw1 ha1 hx hgx hw hsend1 hs2 hX hY htw v0 v1 v2 hFo HW
                      go_wp2_with fail
                      refine HSC.out.mono ?_
                      rintro e w5 ⟨rfl, hF5, hB5, hA5⟩
                      go_wp2_with fail
                      have hby5 : IntRow w5 wo.heap.size bR := by unfold IntRow; rw [(hA5 _ HA1.out).1]; exact HBYq.out
                      have hF5' := hF5.open (by simp; omega)
                      obtain ⟨g5, cap5, cur5, _, _, hgb5, hblk5, hrow5, hc15, hc25, hcs5, hct5⟩ := hF5'
                      have hil5 : (i : Int) < ((arcsq.set i ⟨X.f0, X.f1, wrap64 (X.f2 - 1), X.f3⟩).set (twin i) ⟨Y.f0, Y.f1, wrap64 (Y.f2 + 1), Y.f3⟩).length := by simp; omega
                      have cells5 : ∀ w', R.Keeps [] w5 w' → w'.cell? ⟨b, 1, none⟩ = some (.slice (some ⟨g5, 0, none⟩) ((arcsq.set i ⟨X.f0, X.f1, wrap64 (X.f2 - 1), X.f3⟩).set (twin i) ⟨Y.f0, Y.f1, wrap64 (Y.f2 + 1), Y.f3⟩).length cap5) ∧ w'.cell? ⟨g5, i * 4, none⟩ = some (.int .i64 a1.f0) ∧ w'.cell? ⟨wo.heap.size, vn, none⟩ = some (.int .i64 i) := fun w' h =>
                        ⟨h.cell (a := ⟨b, 1, none⟩) (by simp [World.cell?, hblk5]) (by simp), h.cell (a := ⟨g5, i * 4, none⟩) (arc_cells hrow5 hct5 HA1'.out).1 (by simp), (hby5.keep h (by simp)).cell HX.out⟩
                      obtain ⟨L5, hL5⟩ : ∃ L, ((arcsq.set i ⟨X.f0, X.f1, wrap64 (X.f2 - 1), X.f3⟩).set (twin i) ⟨Y.f0, Y.f1, wrap64 (Y.f2 + 1), Y.f3⟩).length = L := ⟨_, rfl⟩
                      rw [hL5] at cells5 hil5
                      have hL5' : L5 = arcs.length + 2 := by rw [← hL5]; simp; omega
                      have CE5 := Lib.hid cells5
                      have HF5 := Lib.hid hF5
                      have HL5 := Lib.hid hL5
                      have HL5' := Lib.hid hL5'
                      clear cells5 hF5 hblk5 hrow5 hcs5 hct5 hL5 hL5' x1 hc15 hc25
                      apply R.wp_region_text [0, 1, 2, 3, 4, 5, 6, 7, 8, 9, 10, 11] [] 12 (R.Keeps [] w5)
                      case hm => kernel_rfl
                      case hB => kernel_rfl
                      case hd => rfl
                      case hQ => exact fun _ _ _ _ _ h => h
                      case hS => exact (R.Keeps.refl _ _).drew
                      case hF =>
                        intro w' hS
                        obtain ⟨z1, z2, z3⟩ := CE5.out w' hS
                        have HS := Lib.hid hS
                        clear hS
                        simp only [R.pickC, List.filterMap_cons, List.getElem?_toArray, List.getElem?_cons_zero, List.getElem?_cons_succ, List.filterMap_nil]
                        (with_reducible refine R.wpStill_plain rfl (fun K hK => ?_)); go_simp; with_reducible refine hK _ ?_; clear hK K
                        (with_reducible refine R.wpStill_plain rfl (fun K hK => ?_)); go_simp; with_reducible refine hK _ ?_; clear hK K
                        (with_reducible refine R.wpStill_plain rfl (fun K hK => ?_)); go_simp; with_reducible refine hK _ ?_; clear hK K
                        (with_reducible refine R.wpStill_plain rfl (fun K hK => ?_)); go_simp; with_reducible refine hK _ ?_; clear hK K
                        (with_reducible refine R.wpStill_plain rfl (fun K hK => ?_)); go_simp; with_reducible refine hK _ ?_; clear hK K
                        (with_reducible refine R.wpStill_plain rfl (fun K hK => ?_)); go_simp; with_reducible refine hK _ ?_; clear hK K
                        (with_reducible refine R.wpStill_plain rfl (fun K hK => ?_)); go_simp; with_reducible refine hK _ ?_; clear hK K
                        (with_reducible refine R.wpStill_plain rfl (fun K hK => ?_)); go_simp; with_reducible refine hK _ ?_; clear hK K
                        (with_reducible refine R.wpStill_plain rfl (fun K hK => ?_)); go_simp; with_reducible refine hK _ ?_; clear hK K
                        (with_reducible refine R.wpStill_plain rfl (fun K hK => ?_)); go_simp; with_reducible refine hK _ ?_; clear hK K
                        (with_reducible refine R.wpStill_plain rfl (fun K hK => ?_)); go_simp; with_reducible refine hK _ ?_; clear hK K
                        (with_reducible refine R.wpStill_plain rfl (fun K hK => ?_)); go_simp; with_reducible refine hK _ ?_; clear hK K
                        exact wpStill_nil rfl
                      case hC =>
                        refine R.wpSeq_nil ?_
                        go_wp2_with fail
                        go_roundg q1
                        case measure => omega
                        case rel => exact ⟨_, _, rfl, HW1.out, HF5.out, HL5.out.trans HL5'.out, (hBq.trans hB5).drew, (by show w5.heap[w.heap.size]? = _; rw [(hA5 _ HA0.out).1]; exact HBKq.out), hby5, (hA5 _ HA0.out).2, (hA5 _ HA1.out).2⟩
                    · cases hs2
                  · cases hw1
                · cases hw
end Go.Proofs.Ytpjobcnfjpbaeaa.A

namespace Go.Proofs.Ytpjobcnfjpbaeaa.A
open Go.RowKit Go.Proofs.YtpjobcnfjpbaeaaW.PrintWords Go.Proofs.YtpjobcnfjpbaeaaW.PrintLast Go.Proofs.YtpjobcnfjpbaeaaW.PrintMore
open Go.Proofs.Ytpjobcnfjpbaeaa.PA
def Bk (n : Nat) (x : S47) : Prop := 0 ≤ x.f0 ∧ x.f0 < x.f1 ∧ x.f1 ≤ n
def takesF (k n : Nat) (arcs : List S106) : List S47 → Option (List S106)
  | [] => some arcs
  | x :: l => (takeF k n arcs x.f0 x.f1 x.f2).bind fun arcs1 => takesF k n arcs1 l
theorem takesF_snoc (k n : Nat) (arcs : List S106) (l : List S47) (x : S47) : takesF k n arcs (l ++ [x]) = (takesF k n arcs l).bind fun a => takeF k n a x.f0 x.f1 x.f2 := by
  induction l generalizing arcs with
  | nil => simp [takesF]
  | cons y l ih =>
    simp only [List.cons_append, takesF]
    cases h : takeF k n arcs y.f0 y.f1 y.f2 with
    | none => rfl
    | some a => simp only [Option.bind_some]; exact ih a
def moved (a : S106) (x : S47) : Bool := !a.f0 == x.f0 || (!a.f1 == x.f1 || (!a.f2 == 1 || !a.f3 == x.f2))
def takenK (n : Nat) (arcs : List S106) (l : List S47) : Nat → List Int
  | 0 => []
  | k + 1 => if moved (arcs.getD (2 * (n + k)) z106) (l.getD k z47) then takenK n arcs l k ++ [(k : Int)] else takenK n arcs l k
def pricesK (g : List Int) : Nat → List Int
  | 0 => []
  | k + 1 => pricesK g k ++ [wrap64 (g.getD (k + 1) 0 - g.getD k 0)]
def acceptF (k : Nat) (l : List S47) (rooms : List Int) : Option (List Int × List Int) :=
  (takesF k rooms.length (newK rooms rooms.length) l).bind fun arcs =>
    (relaxF k arcs (List.replicate (rooms.length + 1) 0) (List.replicate (rooms.length + 1) 0)).bind fun gb =>
      some (takenK rooms.length arcs l l.length, pricesK gb.1 rooms.length)
def SameEnds (a b : List S106) : Prop := a.length = b.length ∧ ∀ (i : Nat) (x y : S106), a[i]? = some x → b[i]? = some y → x.f0 = y.f0 ∧ x.f1 = y.f1 ∧ x.f3 = y.f3
theorem SameEnds.refl (a : List S106) : SameEnds a a := ⟨rfl, fun i x y h1 h2 => by rw [h1] at h2; obtain rfl := Option.some.inj h2; exact ⟨rfl, rfl, rfl⟩⟩
theorem SameEnds.trans {a b c : List S106} (h : SameEnds a b) (h1 : SameEnds b c) : SameEnds a c := ⟨h.1.trans h1.1, fun i x z hx hz => by
  have hi : i < b.length := by have := (List.getElem?_eq_some_iff.1 hx).1; have := h.1; omega
  obtain ⟨p, q, r⟩ := h.2 i x b[i] hx (List.getElem?_eq_getElem hi)
  obtain ⟨p', q', r'⟩ := h1.2 i b[i] z (List.getElem?_eq_getElem hi) hz
  exact ⟨p.trans p', q.trans q', r.trans r'⟩⟩
theorem SameEnds.set {a : List S106} {i : Nat} {x : S106} (h : a[i]? = some x) (r : Int) : SameEnds a (a.set i ⟨x.f0, x.f1, r, x.f3⟩) := ⟨by simp, fun j y z hy hz => by
  rw [List.getElem?_set] at hz
  split at hz
  · rename_i e
    subst e
    rw [h] at hy
    obtain rfl := Option.some.inj hy
    split at hz
    · obtain rfl := Option.some.inj hz; exact ⟨rfl, rfl, rfl⟩
    · cases hz
  · rw [hy] at hz; obtain rfl := Option.some.inj hz; exact ⟨rfl, rfl, rfl⟩⟩
theorem send2_ends {a b : List S106} {i : Nat} (h : send2 a i = some b) : SameEnds a b := by
  unfold send2 at h
  split at h
  · rename_i x y hx hy
    obtain rfl := Option.some.inj h
    have h1 := SameEnds.set hx (wrap64 (x.f2 - 1))
    have hne : i ≠ twin i := by unfold twin; split <;> omega
    have hy' : (a.set i ⟨x.f0, x.f1, wrap64 (x.f2 - 1), x.f3⟩)[twin i]? = some y := by rw [List.getElem?_set_ne hne]; exact hy
    exact h1.trans (SameEnds.set hy' _)
  · cases h
theorem wayF_ends {k : Nat} {a c : List S106} {b : List Int} {v t : Int} (h : wayF k a b v t = some c) : SameEnds a c := by
  induction k generalizing a v with
  | zero => simp [wayF] at h
  | succ k ih =>
    unfold wayF at h
    split at h
    · obtain rfl := Option.some.inj h; exact .refl _
    · split at h
      · obtain ⟨a1, h1, h2⟩ := Option.bind_eq_some_iff.1 h
        split at h2
        · exact (send2_ends h1).trans (ih h2)
        · cases h2
      · cases h
theorem takeF_ends {k n : Nat} {arcs arcs' : List S106} {f t p : Int} (h : takeF k n arcs f t p = some arcs') : SameEnds (addF arcs f t 1 p 0) arcs' := by
  obtain ⟨gb, _, h2⟩ := Option.bind_eq_some_iff.1 h
  split at h2
  · obtain rfl := Option.some.inj h2; exact .refl _
  · split at h2
    · obtain rfl := Option.some.inj h2; exact .refl _
    · obtain ⟨a1, h3, h4⟩ := Option.bind_eq_some_iff.1 h2
      exact (wayF_ends h3).trans (send2_ends h4)
theorem ArcsIn.ends {m : Nat} {a b : List S106} (h : ArcsIn m a) (he : SameEnds a b) : ArcsIn m b := fun i y hy => by
  have hi : i < a.length := by have := (List.getElem?_eq_some_iff.1 hy).1; have := he.1; omega
  obtain ⟨p, q, _⟩ := he.2 i a[i] y (List.getElem?_eq_getElem hi) hy
  have := h i a[i] (List.getElem?_eq_getElem hi)
  rw [← p, ← q]; exact this
theorem ArcsIn.add {m : Nat} {a : List S106} {f t r g b : Int} (h : ArcsIn m a) (hf : 0 ≤ f ∧ f < m) (ht : 0 ≤ t ∧ t < m) : ArcsIn m (addF a f t r g b) := fun i x hx => by
  unfold addF at hx
  rw [List.getElem?_append] at hx
  split at hx
  · exact h i x hx
  · rename_i hi
    obtain ⟨j, hj⟩ : ∃ j, i - a.length = j := ⟨_, rfl⟩
    rw [hj] at hx
    match j with
    | 0 => simp at hx; subst hx; exact ⟨hf.1, hf.2, ht.1, ht.2⟩
    | 1 => simp at hx; subst hx; exact ⟨ht.1, ht.2, hf.1, hf.2⟩
    | j + 2 => simp at hx
theorem newK_in (rooms : List Int) (m : Nat) : ∀ k, k < m → ArcsIn m (newK rooms k)
  | 0, _ => fun i x hx => by simp [newK] at hx
  | k + 1, hk => (newK_in rooms m k (by omega)).add (by omega) (by omega)
theorem takesF_keeps {k n : Nat} : ∀ {l : List S47} {arcs arcs' : List S106}, takesF k n arcs l = some arcs' → (∀ x ∈ l, Bk n x) → ArcsIn (n + 1) arcs → ArcsIn (n + 1) arcs' ∧ arcs'.length = arcs.length + 2 * l.length
  | [], arcs, arcs', h, _, hI => by simp [takesF] at h; subst h; exact ⟨hI, rfl⟩
  | x :: l, arcs, arcs', h, hl, hI => by
    obtain ⟨a1, h1, h2⟩ := Option.bind_eq_some_iff.1 h
    obtain ⟨b1, b2, b3⟩ := hl x List.mem_cons_self
    have he := takeF_ends h1
    have hI1 : ArcsIn (n + 1) a1 := (hI.add (by omega) (by omega)).ends he
    obtain ⟨h3, h4⟩ := takesF_keeps h2 (fun y hy => hl y (List.mem_cons_of_mem _ hy)) hI1
    refine ⟨h3, ?_⟩
    have := he.1
    simp [addF] at this
    simp [h4]
    omega
end Go.Proofs.Ytpjobcnfjpbaeaa.A
