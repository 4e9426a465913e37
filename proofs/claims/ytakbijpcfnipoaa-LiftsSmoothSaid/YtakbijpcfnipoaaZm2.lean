/- What the statements of this seat lean on: the functions that they reach, walked. -/
import Derived.Laws.StructEq
import Derived.Test.YtakbijpcfnipoaaProg
import Derived.Below
import Derived.Deep.Draws
import Derived.Deep.AppendLies
import Derived.Maps.AppendAt
import Derived.OwnWalk
import Derived.Laws.BytesArg
import Derived.Laws.MakeOwn
import Derived.Laws.OwnMore
import Derived.Deep.OwnRows
import Derived.Tactics
import Derived.Lib.ConvBytes
import Derived.Laws.Slices
import Derived.WalkKit
import Derived.KernelRfl
import Derived.RowKit3
import Derived.Deep.LoopGhost
import Derived.Deep.QuietTactic
import Derived.BigQuiet
import Derived.WideLaws
import Derived.Deep.DeepCutAuto
import Derived.Deep.CutBlock
import Derived.Deep.RegionHeld3
import Derived.Laws.Rows
import Derived.Lib.AppendStr
import Derived.ArgAppend
import Derived.Laws.IdiomCopy
import Derived.OrdersHeld
import Derived.Laws.BitsLemmas
import Derived.RowKit
import Derived.WalkSpells
import Derived.WalkLawsBesides
import Derived.Lib.Hide
import Derived.Still
import Derived.StillTail
import Derived.Test.YtakbijpcfnipoaaZm1
set_option linter.unusedSimpArgs false
set_option linter.unusedVariables false

namespace Go.Proofs.YtakbijpcfnipoaaW.PrintWords
open Go.RowKit
def Kept (w W : World) (S : Nat → Prop) : Prop := w.heap.size ≤ W.heap.size ∧ ∀ i, i < w.heap.size → ¬ S i → W.heap[i]? = w.heap[i]?
section
variable {w W W2 : World} {S S2 S' : Nat → Prop}
theorem Kept.refl (w : World) (S : Nat → Prop) : Kept w w S := ⟨Nat.le_refl _, fun _ _ _ => rfl⟩
theorem Kept.of_below (h : Below w.heap.size w W) (S : Nat → Prop) : Kept w W S := ⟨h.size, fun i hi _ => h.block i hi⟩
theorem Kept.mono (h : Kept w W S) (hs : ∀ k, S k → S' k) : Kept w W S' := ⟨h.1, fun i hi hn => h.2 i hi (fun hk => hn (hs i hk))⟩
theorem Kept.then_ (h : Kept w W S) (k : Kept W W2 S2) (hs : ∀ k, S2 k → S k ∨ w.heap.size ≤ k) : Kept w W2 S :=
  ⟨Nat.le_trans h.1 k.1, fun i hi hn => (k.2 i (Nat.lt_of_lt_of_le hi h.1) (fun h2 => (hs i h2).elim hn (fun h3 => by omega))).trans (h.2 i hi hn)⟩
theorem Kept.below (h : Kept w W S) (hb : Below W.heap.size W W2) : Kept w W2 S := h.then_ (Kept.of_below hb (fun _ => False)) (fun _ hk => hk.elim)
theorem Kept.alloc (h : Kept w W S) (o : Obj) : Kept w (W.alloc o) S := h.below (below_alloc (Below.refl _ _) o)
theorem Kept.drew (h : Kept w W S) : Kept w W.drew S := h
theorem Kept.drewN (h : Kept w W S) (m : Nat) : Kept w (W.drewN m) S := h
theorem Kept.setCell (h : Kept w W S) {p : Addr} (hp : S p.block ∨ w.heap.size ≤ p.block) (u : Value) : Kept w (W.setCell p u) S :=
  h.then_ (S2 := fun k => k = p.block) ⟨by simp [World.setCell], fun i _ hn => Below.heap_setCell W p u i hn⟩ (fun k hk => by rw [hk]; exact hp)
theorem Kept.keep {g : Nat} (h : KeepBut w W g none) (k : Kept W W2 S2) (hs : ∀ k, S2 k → w.heap.size ≤ k) : KeepBut w W2 g none :=
  ⟨Nat.le_trans h.1 k.1, fun i hi hg hr => (k.2 i (Nat.lt_of_lt_of_le hi h.1) (fun h2 => by have := hs i h2; omega)).trans (h.2 i hi hg hr)⟩
end
namespace Kd
section
variable {α : Type} {d : Kd α} {e base n c : Nat} {ok oki S S2 : Nat → Prop} {w w0 W W1 W2 : World} {v : Value} {A : Option Addr} {xs : List α} {i : Int} {cs : List Value}
end
end Kd
end Go.Proofs.YtakbijpcfnipoaaW.PrintWords

namespace Go.Proofs.YtakbijpcfnipoaaW.PrintWords
open Go.RowKit
def Foot (P : World → Prop) (W : World) (ok : Nat → Prop) : Prop := ∀ W' : World, (∀ k, ok k → k < W.heap.size → W'.heap[k]? = W.heap[k]?) → P W'
theorem heap_lt {W W1 : World} {k : Nat} (h : W1.heap[k]? = W.heap[k]?) (hlt : k < W.heap.size) : k < W1.heap.size := by
  rw [Array.getElem?_eq_getElem hlt] at h
  exact (Array.getElem?_eq_some_iff.1 h).1
namespace Foot
variable {P Q : World → Prop} {W W1 : World} {ok ok' : Nat → Prop}
theorem now (h : Foot P W ok) : P W := h W (fun _ _ _ => rfl)
theorem mono (h : Foot P W ok) (hok : ∀ k, ok k → ok' k) : Foot P W ok' := fun W' hW => h W' (fun k hk hlt => hW k (hok k hk) hlt)
theorem bound (h : Foot P W ok) : Foot P W (fun k => ok k ∧ k < W.heap.size) := fun W' hW => h W' (fun k hk hlt => hW k ⟨hk, hlt⟩ hlt)
theorem step (h : Foot P W ok) (hm : ∀ k, ok k → k < W.heap.size → W1.heap[k]? = W.heap[k]?) : Foot P W1 ok := fun W' hW => h W' (fun k hk hlt => (hW k hk (heap_lt (hm k hk hlt) hlt)).trans (hm k hk hlt))
theorem imp (h : Foot P W ok) (hi : ∀ W', P W' → Q W') : Foot Q W ok := fun W' hW => hi W' (h W' hW)
end Foot
namespace Kd
def F {α : Type} (d : Kd α) (W : World) (ok : Nat → Prop) (A : Option Addr) (n : Nat) (xs : List α) : Prop := Foot (fun W => d.C W A n xs) W ok
def FK {α : Type} (d : Kd α) (W : World) (ok : Nat → Prop) (x : α) (c : List Value) : Prop := Foot (fun W => d.K W x c) W ok
section
variable {α β : Type} {d : Kd α} {e base n n' cc g N : Nat} {ok ok' okp S : Nat → Prop} {w w0 w1 W W1 : World} {A A' : Option Addr} {u v v1 : Value} {xs : List α} {xs' : List β} {d' : Kd β} {x : α} {c : List Value}
theorem F_nil (d : Kd α) (W : World) (ok : Nat → Prop) : F d W ok none ([] : List α).length [] := fun W' _ => C_nil d W'
theorem FK_of_M (h : d.M W base ok x c) : FK d W ok x c := fun _ hW => d.K_of_M (M_step h hW)
end
end Kd
end Go.Proofs.YtakbijpcfnipoaaW.PrintWords

namespace Go.Proofs.YtakbijpcfnipoaaW.PrintWords
open Go.RowKit
namespace Kd
def chunks (sz : Nat) (n : Nat) (inner : List Value) : List (List Value) := (List.range n).map fun j => (inner.drop (j * sz)).take sz
theorem chunks_length (sz n : Nat) (inner : List Value) : (chunks sz n inner).length = n := by simp [chunks]
theorem chunks_at {sz n : Nat} {inner : List Value} {j : Nat} (hj : j < n) : (chunks sz n inner)[j]? = some ((inner.drop (j * sz)).take sz) := by simp [chunks, hj]
theorem chunks_get {sz n : Nat} {inner : List Value} {j : Nat} {c : List Value} (h : (chunks sz n inner)[j]? = some c) : c = (inner.drop (j * sz)).take sz := by
  have hj : j < n := by have := (List.getElem?_eq_some_iff.1 h).1; rwa [chunks_length] at this
  rw [chunks_at hj] at h
  injection h with h
  exact h.symm
theorem reps_raw {α : Type} {Rr : α → List Value → Prop} {sz : Nat} {xs : List α} {inner : List Value} (h : Reps Rr sz xs inner) (hR : ∀ x c, Rr x c → c.length = sz ∧ ∀ u ∈ c, u.oneCell' = true) : Reps (fun x cs => cs = x ∧ cs.length = sz ∧ ∀ u ∈ cs, u.oneCell' = true) sz (chunks sz xs.length inner) inner := by
  refine ⟨by rw [chunks_length]; exact h.1, fun j p hj => ?_⟩
  have hjl : j < xs.length := by have := (List.getElem?_eq_some_iff.1 hj).1; rwa [chunks_length] at this
  have hp := chunks_get hj
  exact ⟨hp.symm, hR _ _ (h.2 j _ (List.getElem?_eq_getElem hjl))⟩
section
variable {α : Type} {d : Kd α} {e base n cc g : Nat} {ok ok' okp S : Nat → Prop} {w w1 W W1 : World} {A : Option Addr} {u v v1 : Value} {xs : List α} {x : α} {c : List Value}
def N {α : Type} (d : Kd α) (e : Nat) (w : World) (base : Nat) (ok : Nat → Prop) (v : Value) (xs : List α) : Prop :=
  (∀ k, v.ownBlock = some k → ok k) ∧ ∃ rows : List (List Value), rows.length = xs.length ∧ (raw d.sz).R e w base (fun k => some k = v.ownBlock) v rows ∧ ∀ (j : Nat) (x : α) (c : List Value), xs[j]? = some x → rows[j]? = some c → FK d w (fun k => ok k ∧ some k ≠ v.ownBlock) x c
theorem R_N (h : d.R e w base ok v xs) : N d e w base ok v xs := by
  obtain ⟨h0, inner, ho, hr⟩ := h
  refine ⟨h0, chunks d.sz xs.length inner, chunks_length _ _ _, ⟨fun k hk => hk.symm, inner, by rw [chunks_length]; exact ho, reps_raw hr (fun x c hp => ⟨d.K_len (d.K_of_M hp), d.K_one (d.K_of_M hp)⟩)⟩, fun j x c hx hc => ?_⟩
  rw [chunks_get hc]
  exact FK_of_M (hr.2 j x hx)
theorem N_nil (d : Kd α) (e : Nat) (w : World) (base : Nat) (ok : Nat → Prop) : N d e w base ok (.slice none 0 0) [] := R_N (R_nil _ _ _ _ _)
end
end Kd
end Go.Proofs.YtakbijpcfnipoaaW.PrintWords

namespace Go.Proofs.YtakbijpcfnipoaaW.PrintWords
theorem Reps.one {α : Type} {R : α → List Value → Prop} {ps : List α} {cs : List Value} {p : α} {v : Value} (hp : R p [v]) (h : Reps R 1 ps cs) : Reps R 1 (p :: ps) (v :: cs) := by
  refine ⟨by simp [h.1], fun j q hq => ?_⟩
  cases j with
  | zero =>
    simp only [List.getElem?_cons_zero, Option.some.injEq] at hq
    subst hq
    simpa using hp
  | succ j =>
    simp only [List.getElem?_cons_succ] at hq
    have h1 := h.2 j q hq
    simpa [Nat.mul_one] using h1
theorem Reps.front {α : Type} {R : α → List Value → Prop} {size : Nat} {ps : List α} {cs c all : List Value} {p : α} (hp : R p c) (hc : c.length = size) (h : Reps R size ps cs) (ha : c ++ cs = all) : Reps R size (p :: ps) all := by
  subst ha
  refine ⟨by rw [List.length_append, hc, h.1, List.length_cons, Nat.succ_mul, Nat.add_comm], fun j q hq => ?_⟩
  cases j with
  | zero =>
    simp only [List.getElem?_cons_zero, Option.some.injEq] at hq
    subst hq
    rw [Nat.zero_mul, List.drop_zero, List.take_append_of_le_length (by omega), List.take_of_length_le (by omega)]
    exact hp
  | succ j =>
    simp only [List.getElem?_cons_succ] at hq
    have h1 := h.2 j q hq
    rw [Nat.succ_mul, List.drop_append, List.drop_of_length_le (by rw [hc]; exact Nat.le_add_left _ _), List.nil_append, hc, Nat.add_sub_cancel]
    exact h1
theorem Reps.c2 {α : Type} {R : α → List Value → Prop} {ps : List α} {cs : List Value} {p : α} {va vb : Value} (hp : R p [va, vb]) (h : Reps R 2 ps cs) : Reps R 2 (p :: ps) (va :: vb :: cs) := Reps.front hp rfl h rfl
theorem Reps.c3 {α : Type} {R : α → List Value → Prop} {ps : List α} {cs : List Value} {p : α} {va vb vc : Value} (hp : R p [va, vb, vc]) (h : Reps R 3 ps cs) : Reps R 3 (p :: ps) (va :: vb :: vc :: cs) := Reps.front hp rfl h rfl
theorem Reps.c4 {α : Type} {R : α → List Value → Prop} {ps : List α} {cs : List Value} {p : α} {va vb vc vd : Value} (hp : R p [va, vb, vc, vd]) (h : Reps R 4 ps cs) : Reps R 4 (p :: ps) (va :: vb :: vc :: vd :: cs) := Reps.front hp rfl h rfl
theorem Reps.c5 {α : Type} {R : α → List Value → Prop} {ps : List α} {cs : List Value} {p : α} {va vb vc vd ve : Value} (hp : R p [va, vb, vc, vd, ve]) (h : Reps R 5 ps cs) : Reps R 5 (p :: ps) (va :: vb :: vc :: vd :: ve :: cs) := Reps.front hp rfl h rfl
theorem Reps.c6 {α : Type} {R : α → List Value → Prop} {ps : List α} {cs : List Value} {p : α} {va vb vc vd ve vf : Value} (hp : R p [va, vb, vc, vd, ve, vf]) (h : Reps R 6 ps cs) : Reps R 6 (p :: ps) (va :: vb :: vc :: vd :: ve :: vf :: cs) := Reps.front hp rfl h rfl
theorem Reps.c7 {α : Type} {R : α → List Value → Prop} {ps : List α} {cs : List Value} {p : α} {va vb vc vd ve vf vg : Value} (hp : R p [va, vb, vc, vd, ve, vf, vg]) (h : Reps R 7 ps cs) : Reps R 7 (p :: ps) (va :: vb :: vc :: vd :: ve :: vf :: vg :: cs) := Reps.front hp rfl h rfl
theorem Reps.c9 {α : Type} {R : α → List Value → Prop} {ps : List α} {cs : List Value} {p : α} {va vb vc vd ve vf vg vh vi : Value} (hp : R p [va, vb, vc, vd, ve, vf, vg, vh, vi]) (h : Reps R 9 ps cs) : Reps R 9 (p :: ps) (va :: vb :: vc :: vd :: ve :: vf :: vg :: vh :: vi :: cs) := Reps.front hp rfl h rfl
theorem Reps.c10 {α : Type} {R : α → List Value → Prop} {ps : List α} {cs : List Value} {p : α} {va vb vc vd ve vf vg vh vi vj : Value} (hp : R p [va, vb, vc, vd, ve, vf, vg, vh, vi, vj]) (h : Reps R 10 ps cs) : Reps R 10 (p :: ps) (va :: vb :: vc :: vd :: ve :: vf :: vg :: vh :: vi :: vj :: cs) := Reps.front hp rfl h rfl
end Go.Proofs.YtakbijpcfnipoaaW.PrintWords

namespace Go.Proofs.YtakbijpcfnipoaaW.PrintLast
def up (b : Nat → Bool) (i : Nat) : Nat → Bool := fun j => if j = i then true else b j
section
variable {P : Program} {ops : Array Oper} {Q : Exit → Act → World → Prop} {md : Region.Mode} {T : Bool × List (List Nat × List Nat)} {B : List Nat} {O : List Nat} {b : Nat → Bool} {i j n : Nat}
theorem put_comm {a : Act} {s t : Tmp} {u v : Value} (h : s ≠ t) : (a.put (some s) u).put (some t) v = (a.put (some t) v).put (some s) u := by
  simp only [Act.put]
  rw [Array.setIfInBounds_comm _ _ h]
end
end Go.Proofs.YtakbijpcfnipoaaW.PrintLast

namespace Go.Proofs.YtakbijpcfnipoaaW.PrintMore
open Go.RowKit Go.Proofs.YtakbijpcfnipoaaW.PrintWords
namespace Kd
open Go.Proofs.YtakbijpcfnipoaaW.PrintWords.Kd
end Kd
namespace Kd
open Go.Proofs.YtakbijpcfnipoaaW.PrintWords.Kd
section
variable {α : Type} {d : Kd α} {e base g N : Nat} {ok : Nat → Prop} {W w1 : World} {u v : Value} {xs : List α}
end
end Kd
theorem max2_int (k k' : IntKind) (x y : Int) : Builtin.max2 (.int k x) (.int k' y) = pure (.int k (if x < y then y else x)) := by simp only [Builtin.max2, gt_iff_lt]
theorem min2_int (k k' : IntKind) (x y : Int) : Builtin.min2 (.int k x) (.int k' y) = pure (.int k (if y < x then y else x)) := by simp only [Builtin.min2]
theorem max_two (ats : Array TypeId) (ty : TypeId) (a b : Value) : Builtin.max_ ats ty #[a, b] = (Builtin.max2 a b >>= fun s => pure s) := by simp only [Builtin.max_, List.foldlM_cons, List.foldlM_nil]
theorem min_two (ats : Array TypeId) (ty : TypeId) (a b : Value) : Builtin.min_ ats ty #[a, b] = (Builtin.min2 a b >>= fun s => pure s) := by simp only [Builtin.min_, List.foldlM_cons, List.foldlM_nil]
theorem max_three (ats : Array TypeId) (ty : TypeId) (a b c : Value) : Builtin.max_ ats ty #[a, b, c] = (Builtin.max2 a b >>= fun s => Builtin.max2 s c >>= fun s => pure s) := by simp only [Builtin.max_, List.foldlM_cons, List.foldlM_nil]
theorem min_three (ats : Array TypeId) (ty : TypeId) (a b c : Value) : Builtin.min_ ats ty #[a, b, c] = (Builtin.min2 a b >>= fun s => Builtin.min2 s c >>= fun s => pure s) := by simp only [Builtin.min_, List.foldlM_cons, List.foldlM_nil]
theorem max_four (ats : Array TypeId) (ty : TypeId) (a b c d : Value) : Builtin.max_ ats ty #[a, b, c, d] = (Builtin.max2 a b >>= fun s => Builtin.max2 s c >>= fun s => Builtin.max2 s d >>= fun s => pure s) := by simp only [Builtin.max_, List.foldlM_cons, List.foldlM_nil]
theorem min_four (ats : Array TypeId) (ty : TypeId) (a b c d : Value) : Builtin.min_ ats ty #[a, b, c, d] = (Builtin.min2 a b >>= fun s => Builtin.min2 s c >>= fun s => Builtin.min2 s d >>= fun s => pure s) := by simp only [Builtin.min_, List.foldlM_cons, List.foldlM_nil]
end Go.Proofs.YtakbijpcfnipoaaW.PrintMore
namespace Go.Proofs.YtakbijpcfnipoaaW.PrintWords
open Go.RowKit
section
variable {P : Program} {ops : Array Oper} {rest : List Oper} {o : Oper} {a : Act} {Q : Exit → Act → World → Prop} {W : World}
theorem gate_callee {f : FuncId} {as_ : Array Operand} {ts : Array TypeId} (_ho : o.op = .call { callee := .value (.func f), args := as_, argTypes := ts }) (h : wpList P ops Q (o :: rest) a W) : wpList P ops Q (o :: rest) a W := h
theorem gate_builtin {b : Builtin} {xs : Array Operand} {ts : Array TypeId} (_ho : o.op = .call { callee := .builtin b, args := xs, argTypes := ts }) (h : wpList P ops Q (o :: rest) a W) : wpList P ops Q (o :: rest) a W := h
end
def mx (a b : Int) : Int := if a < b then b else a
def mn (a b : Int) : Int := if b < a then b else a
namespace Kd
section
variable {α : Type} {d : Kd α} {e base : Nat} {ok : Nat → Prop} {W w1 : World} {v : Value} {xs : List α}
end
section
variable {α : Type} {d : Kd α} {e base g n cap : Nat} {ok oki okp : Nat → Prop} {W : World} {xs : List α} {i : Int} {c : List Value}
end
section
variable {α : Type} {d : Kd α} {e base b b' g N : Nat} {ok ok1 : Nat → Prop} {W W2 w1 : World} {u v : Value} {xs ys : List α} {S : Nat → Prop}
end
end Kd
end Go.Proofs.YtakbijpcfnipoaaW.PrintWords
namespace Go.Proofs.YtakbijpcfnipoaaW.PrintWords
open Go.RowKit
namespace Kd
def V {α : Type} (d : Kd α) (_e : Nat) (W : World) (_base : Nat) (ok : Nat → Prop) (v : Value) (xs : List α) : Prop := ∃ A c, v = .slice A xs.length c ∧ xs.length ≤ c ∧ F d W ok A xs.length xs
section
variable {α β : Type} {d : Kd α} {e base base' n m c g N' lo hi : Nat} {ok ok' S : Nat → Prop} {w W w1 : World} {A : Option Addr} {ad : Addr} {u v v1 : Value} {xs : List α}
theorem V_nil (d : Kd α) (e : Nat) (W : World) (base : Nat) (ok : Nat → Prop) : V d e W base ok (.slice none 0 0) [] := ⟨none, 0, rfl, Nat.le_refl _, F_nil d W ok⟩
end
end Kd
end Go.Proofs.YtakbijpcfnipoaaW.PrintWords

namespace Go.Proofs.Ytakbijpcfnipoaa.PA
open Go.RowKit Go.Proofs.YtakbijpcfnipoaaW.PrintWords Go.Proofs.YtakbijpcfnipoaaW.PrintLast Go.Proofs.YtakbijpcfnipoaaW.PrintMore
attribute [local go_sem] max2_int min2_int max_two min_two max_three min_three max_four min_four
set_option linter.unusedVariables false
set_option linter.unusedSimpArgs false
def errW : Option Int → Value
 | none => .nilIface
 | some c => .iface 0 (.int .i64 c)
theorem errW_none : errW none = .nilIface := rfl
theorem errW_some (c : Int) : errW (some c) = .iface 0 (.int .i64 c) := rfl
theorem info3 : (Try.prog.info? 3).map (fun i => (i.zero, i.size, i.bytes)) = some (some (.int .i64 0), 1, 8) := by kernel_rfl
theorem info22 : (Try.prog.info? 22).map (fun i => (i.zero, i.size, i.bytes)) = some (some (.slice none 0 0), 1, 24) := by kernel_rfl
def rd_L1 (xs : List (List Int)) (i : Int) : (List Int) := xs.getD i.toNat ([] : List Int)
theorem at_L1 {w : World} {A : Option Addr} {n : Nat} {xs : List (List Int)} (h : Kd.C (Kd.slice 3 (Kd.int .i64)) w A n xs) (i : Int) (h0 : 0 ≤ i) (h1 : i < n) : ∃ ad A0 c0, A = some ad ∧ w.cell? (ad.add i.toNat) = some (.slice A0 (rd_L1 xs i).length c0) ∧ (rd_L1 xs i).length ≤ c0 ∧ (Kd.int .i64).C w A0 (rd_L1 xs i).length (rd_L1 xs i) := by
 obtain ⟨ad, c, e, _, hK, hc0⟩ := Kd.C_get h ([] : List Int) i h0 h1
 have hc : ∀ j u, c[j]? = some u → w.cell? (ad.add (i.toNat * 1 + j)) = some u := hc0
 obtain ⟨A0, c0, rfl, l0, g0⟩ := hK
 exact ⟨ad, A0, c0, e, by have hq := hc 0 _ rfl; rwa [Nat.mul_one, Nat.add_zero] at hq, l0, g0⟩
end Go.Proofs.Ytakbijpcfnipoaa.PA

set_option linter.unusedVariables false
set_option linter.unusedSimpArgs false
namespace Go.Proofs.Ytakbijpcfnipoaa.A
open Go.RowKit Go.Proofs.YtakbijpcfnipoaaW.PrintWords Go.Proofs.YtakbijpcfnipoaaW.PrintLast Go.Proofs.YtakbijpcfnipoaaW.PrintMore
open Go.Proofs.Ytakbijpcfnipoaa.PA
def withinB (n lo hi : Int) : Bool := decide (lo ≤ n) && decide (n ≤ hi)
theorem within_c (n lo hi : Int) (w : World) :
    Calls Try.prog 66 #[.int .i64 n, .int .i64 lo, .int .i64 hi] w fun e w' => e = .returned (.bool (withinB n lo hi)) ∧ w = w' := by
  unfold withinB
  by_cases h : lo ≤ n
  · have h1 : decide (lo ≤ n) = true := decide_eq_true h
    go_enter Try.func66, Try.ntmps66
    go_wp2
    go_ret
    exact ⟨by simp [h], rfl⟩
  · have h1 : decide (lo ≤ n) = false := decide_eq_false h
    go_enter Try.func66, Try.ntmps66
    go_wp2
    go_ret
    exact ⟨by simp [h], rfl⟩
theorem ret_int {k : IntKind} {a b : Int} (h : a = b) : Ending.returned (.int k a) = .returned (.int k b) := by rw [h]
def Enters (g : Nat) : Prop := ∀ args w, (callFunc g args).run Try.prog w = .ok (.enter g args) w
def PredOf {α : Type} (g : Nat) (caps : Array Value) (enc : α → Value) (p : α → Bool) (w : World) : Prop :=
  ∀ (W : World) (x : α), Below w.heap.size w W → Calls Try.prog g (#[enc x] ++ caps) W fun e W' => e = .returned (.bool (p x)) ∧ Below W.heap.size W W'
def idxF {α : Type} (p : α → Bool) (xs : List α) : Int := match xs.findIdx? p with | some i => (i : Int) | none => -1
theorem idxF_hit {α : Type} {p : α → Bool} {xs : List α} {k : Nat} {x : α} (h : (xs.take k).all (fun x => !p x) = true) (hx : xs[k]? = some x) (hp : p x = true) : idxF p xs = k := by
  have hk : k < xs.length := (List.getElem?_eq_some_iff.1 hx).1
  have e : xs.findIdx? p = some k := by
    rw [List.findIdx?_eq_some_iff_getElem]
    refine ⟨hk, ?_, fun j hj => ?_⟩
    · rw [(List.getElem?_eq_some_iff.1 hx).2]; exact hp
    · rw [List.all_eq_true] at h
      have := h (xs[j]'(by omega)) (by rw [List.mem_take_iff_getElem]; exact ⟨j, by omega, rfl⟩)
      simpa using this
  simp [idxF, e]
theorem idxF_miss {α : Type} {p : α → Bool} {xs : List α} (h : xs.all (fun x => !p x) = true) : idxF p xs = -1 := by
  have e : xs.findIdx? p = none := by
    rw [List.findIdx?_eq_none_iff]
    intro x hx
    rw [List.all_eq_true] at h
    simpa using h x hx
  simp [idxF, e]
theorem all_next {α : Type} {p : α → Bool} {xs : List α} {k : Nat} {x : α} (h : (xs.take k).all (fun x => !p x) = true) (hx : xs[k]? = some x) (hp : p x = false) : (xs.take (k + 1)).all (fun x => !p x) = true := by
  obtain ⟨hk, e⟩ := List.getElem?_eq_some_iff.1 hx
  rw [List.take_succ_eq_append_getElem hk, List.all_append, h, e]
  simp [hp]
set_option maxHeartbeats 400000 in
theorem idxF_range {α : Type} (p : α → Bool) (xs : List α) : -1 ≤ idxF p xs ∧ idxF p xs < xs.length ∧ (decide (0 ≤ idxF p xs) = xs.any p) := by
  unfold idxF
  cases h : xs.findIdx? p with
  | none =>
    rw [List.findIdx?_eq_none_iff] at h
    refine ⟨by simp, by simp only []; omega, ?_⟩
    have : xs.any p = false := by rw [List.any_eq_false]; intro x hx; simpa using h x hx
    rw [this]; rfl
  | some i =>
    rw [List.findIdx?_eq_some_iff_getElem] at h
    obtain ⟨hi, hp, _⟩ := h
    refine ⟨by simp only []; omega, by simp only []; omega, ?_⟩
    have : xs.any p = true := by rw [List.any_eq_true]; exact ⟨_, List.getElem_mem hi, hp⟩
    rw [this]; simp
theorem at_int {w W : World} {A : Option Addr} {n : Nat} {xs : List Int} (h : Kd.C (Kd.int .i64) w A n xs) (hb : Below w.heap.size w W) (k : Nat) (hk : k < xs.length) : ∃ ad x, A = some ad ∧ Hid (xs[k]? = some x) ∧
    W.cell? (ad.add k) = some (.int .i64 x) := by
  have hl := h.1
  obtain ⟨ad, eA, h0⟩ := Kd.at_int h k (by omega) (by omega)
  rw [Int.toNat_natCast] at h0
  refine ⟨ad, rd xs k, eA, ?_, (hb.cell (World.block_lt_of_cell? w _ h0)).trans h0⟩
  show xs[k]? = some (xs.getD (k : Int).toNat 0)
  simp [hk]
abbrev it (x : Int) : Value := .int .i64 x
set_option maxHeartbeats 400000 in
theorem idxInt_c (g : Nat) (caps : Array Value) (p : Int → Bool) (A : Option Addr) (c : Nat) (xs : List Int) (w : World)
    (eg : Enters g) (hp : PredOf g caps it p w) (hr : Kd.C (Kd.int .i64) w A xs.length xs) :
    Calls Try.prog 75 #[.slice A xs.length c, .func (.func g) #[] caps] w fun e w' => e = .returned (.int .i64 (idxF p xs)) ∧ Below w.heap.size w w' := by
  have HR := Lib.hid hr
  have HP := Lib.hid hp
  have hl : xs.length ≤ 9223372036854775807 := hr.2.1
  clear hr hp
  unfold Enters at eg
  go_enter Try.func75, Try.ntmps75
  go_wp2_with fail
  go_loopw [5, 8] (fun _ i wr => ∃ k : Nat, i = .int .i64 k ∧ k ≤ xs.length ∧ Hid ((xs.take k).all (fun x => !p x) = true) ∧ Below w.heap.size w wr) (fun _ i _ => xs.length - (intOf i).toNat)
  case atStart => exact ⟨0, rfl, Nat.zero_le _, rfl, Below.refl _ _⟩
  case round =>
    obtain ⟨k, rfl, hk, HA, hB⟩ := hrel
    by_cases hlt : k < xs.length
    · obtain ⟨ad, x, eA, HX, h0⟩ := at_int HR.out hB k hlt
      cases eA
      have hc := HP.out _ x hB
      obtain ⟨b, hb⟩ : ∃ b, p x = b := ⟨_, rfl⟩
      rw [hb] at hc
      have HPX := Lib.hid hb
      have HC := Lib.hid hc
      clear hb hc
      cases b
      · go_wp2_with ((with_reducible refine HC.out.mono ?_); rintro e w' ⟨rfl, hb1⟩)
        go_roundw
        case rel => exact ⟨k + 1, by go_num, by omega, all_next HA HX.out HPX.out, hB.trans (hb1.mono hB.size)⟩
        case measure => simp [intOf]; omega
      · go_wp2_with ((with_reducible refine HC.out.mono ?_); rintro e w' ⟨rfl, hb1⟩)
        go_ret
        exact ⟨ret_int (idxF_hit HA.out HX.out HPX.out).symm, hB.trans (hb1.mono hB.size)⟩
    · obtain rfl : k = xs.length := by omega
      go_wp2_with fail
      go_ret
      exact ⟨ret_int (idxF_miss (by simpa using HA.out)).symm, hB⟩
theorem ret_bool {a b : Bool} (h : a = b) : Ending.returned (.bool a) = .returned (.bool b) := by rw [h]
set_option maxHeartbeats 400000 in
set_option maxHeartbeats 400000 in
theorem hasInt_c (g : Nat) (caps : Array Value) (p : Int → Bool) (A : Option Addr) (c : Nat) (xs : List Int) (w : World)
    (eg : Enters g) (hp : PredOf g caps it p w) (hr : Kd.C (Kd.int .i64) w A xs.length xs) :
    Calls Try.prog 64 #[.slice A xs.length c, .func (.func g) #[] caps] w fun e w' => e = .returned (.bool (xs.any p)) ∧ Below w.heap.size w w' := by
  have HC := Lib.hid (idxInt_c g caps p A c xs w eg hp hr)
  have hi := idxF_range p xs
  obtain ⟨i, hie⟩ : ∃ i, idxF p xs = i := ⟨_, rfl⟩
  rw [hie] at HC hi
  obtain ⟨h1, h2, h3⟩ := hi
  have H3 := Lib.hid h3
  clear hr hp eg h3 hie
  go_enter Try.func64, Try.ntmps64
  go_wp2_with ((with_reducible refine HC.out.mono ?_); rintro e w' ⟨rfl, hb1⟩)
  go_ret
  exact ⟨ret_bool H3.out, hb1⟩
def outB (lo hi n : Int) : Bool := !withinB n lo hi
set_option maxHeartbeats 400000 in
set_option maxHeartbeats 400000 in
theorem enters_mk {f : FuncId} {fn : Func} {c : Code} (hf : Try.prog.funcs[f]? = some fn) (hname : (fn.name == "runtime.NumGoroutine") = false) (hb : fn.body = some c) : Enters f := by
  have h1 : fn.name ≠ "runtime.NumGoroutine" := by simpa using hname
  intro args w
  simp [callFunc, hf, h1, hb, mark]
set_option maxHeartbeats 400000 in
theorem out65 (w : World) : PredOf 65 #[] it (outB 0 30) w := by
  intro W x hW
  unfold outB
  have H := fun W => Lib.hid (within_c x 0 30 W)
  obtain ⟨b, hb⟩ : ∃ b, withinB x 0 30 = b := ⟨_, rfl⟩
  rw [hb] at H ⊢
  clear hb
  go_enter Try.func65, Try.ntmps65
  go_wp2_with ((with_reducible refine (H _).out.mono ?_); rintro e w' ⟨rfl, rfl⟩)
  go_ret
  exact ⟨rfl, Below.refl _ _⟩
theorem enters65 : Enters 65 := enters_mk Try.func65 (by kernel_rfl) rfl
def gtB (f n : Int) : Bool := decide (f < n)
set_option maxHeartbeats 400000 in
theorem gt76 (f : Int) (b : Nat) (w : World) (h : w.cell? ⟨b, 0, none⟩ = some (.int .i64 f)) (hb : b < w.heap.size) : PredOf 76 #[.pointer (some ⟨b, 0, none⟩)] it (gtB f) w := by
  intro W x hW
  have h1 := (hW.cell (p := ⟨b, 0, none⟩) hb).trans h
  unfold gtB
  by_cases c : f < x
  · go_enter Try.func76, Try.ntmps76
    go_wp2
    go_ret
    exact ⟨by simp [c], Below.refl _ _⟩
  · go_enter Try.func76, Try.ntmps76
    go_wp2
    go_ret
    exact ⟨by simp [c], Below.refl _ _⟩
theorem enters76 : Enters 76 := enters_mk Try.func76 (by kernel_rfl) rfl
end Go.Proofs.Ytakbijpcfnipoaa.A

set_option linter.unusedVariables false
set_option linter.unusedSimpArgs false
namespace Go.Proofs.Ytakbijpcfnipoaa.R
open Go Go.RowKit
section
variable {P : Program} {ops : Array Oper} {Q : Exit → Act → World → Prop} {md : Region.Mode} {S : World → Prop} {T : Array Bool → World → Prop}
def YieldsS (P : Program) (ops : Array Oper) (S : World → Prop) (o : Oper) (v : Value) (a : Act) : Prop := ∀ w, S w → YieldsAt P ops w o v a
theorem YieldsS.of_same {o : Oper} {v : Value} {a a' : Act} (hy : YieldsS P ops S o v a) (he : execOp a'.eval o = execOp a.eval o)
    (hw : Region.wanted o (yielded ops a'.tmps) = Region.wanted o (yielded ops a.tmps)) : YieldsS P ops S o v a' := fun w hS => (hy w hS).of_same he hw
theorem YieldsS.wpOp {i : Nat} {o : Oper} {v : Value} {a : Act} (hi : ops[i]? = some o) (hy : YieldsS P ops S o v a)
    {K : Act → World → Prop} {w : World} (hS : S w) (h : K (a.put o.dst v) w) : wpOp P ops Q i K a w :=
  wpOp_of_stOp (K := fun a' => K a' w) (fun _ h => h) ((hy w hS).stOp hi h)
theorem wpOp_putS {j : Nat} {oi oj : Oper} {v : Value} (hj : ops[j]? = some oj) (hap : oi.apart ops oj = true)
    (hsi : ∀ cs b, oi.op ≠ .select cs b) (hsj : ∀ cs b, oj.op ≠ .select cs b)
    (hQ : ∀ c a w, Q (.panic c) (a.put oi.dst v) w → Q (.panic c) a w) {K : Act → World → Prop} {a : Act} {w : World}
    (hy : YieldsS P ops S oi v a) (h : wpOp P ops Q j K (a.put oi.dst v) w) :
    wpOp P ops Q j (fun a' w' => YieldsS P ops S oi v a' ∧ K (a'.put oi.dst v) w') a w := by
  obtain ⟨h1, h2, h3⟩ := Oper.apart_spec hap
  have keep : ∀ (a : Act), YieldsS P ops S oi v a → ∀ u, YieldsS P ops S oi v (a.put oj.dst u) := fun a hy u =>
    hy.of_same (execOp_put oi hsi a oj.dst u h3) (wanted_put oi a oj.dst u h3)
  have keepD : ∀ d, YieldsS P ops S oi v { a with defers := d :: a.defers } := fun d => hy.of_same rfl rfl
  unfold wpOp at *
  simp only [hj] at *
  rw [wanted_put oj a oi.dst v h1] at h
  split
  · rename_i hw
    simp only [hw, if_true] at h
    rcases h with h | ⟨hasks, hlets⟩
    case inr => exact .inr ⟨by unfold Oper.asks at *; rw [execOp_put oj hsj a oi.dst v h1] at hasks; exact hasks, hlets⟩
    refine .inl ?_
    unfold Oper.wp at *
    rw [execOp_put oj hsj a oi.dst v h1] at h
    generalize (execOp a.eval oj).run P w = r at *
    cases r with
    | ok n w' =>
      cases n <;> simp only [Oper.upon] at h ⊢
      case value u => exact ⟨keep a hy u, by rw [← Act.put_comm a v u h2]; exact h⟩
      case skip => exact ⟨keep a hy _, by rw [← Act.put_comm a v undef h2]; exact h⟩
      case defer d =>
        refine ⟨keep _ (keepD d) _, ?_⟩
        rw [← Act.put_comm _ v undef h2, ← Act.put_defers]
        exact h
      case enter f args =>
        refine Calls.mono h fun e w'' he => ?_
        cases e with
        | returned u => exact ⟨keep a hy u, by rw [← Act.put_comm a v u h2]; exact he⟩
        | panicked c => exact hQ _ _ _ he
        | outgrown => exact he
      case row row args => exact Rows.mono h fun u w'' he => ⟨keep a hy u, by rw [← Act.put_comm a v u h2]; exact he⟩
    | halt x w' =>
      cases x <;> simp only [Oper.upon] at h ⊢
      case panic u => exact hQ _ _ _ h
  · rename_i hw
    simp only [hw] at h
    exact ⟨keep a hy _, by rw [← Act.put_comm a v undef h2]; exact h⟩
def wpAnyT (P : Program) (md : Region.Mode) (ops : Array Oper) (Q : Exit → Act → World → Prop) (T : Array Bool → World → Prop) : Nat → Array Bool → Act → World → Prop
  | 0, listed, a, w => Region.ready md ops listed = [] ∧ Q .normal a w
  | fuel + 1, listed, a, w =>
    (Region.ready md ops listed = [] → Q .normal a w) ∧
    ∀ i ∈ Region.ready md ops listed, wpOp P ops Q i (fun a' w' => T (listed.setIfInBounds i true) w' ∧ wpAnyT P md ops Q T fuel (listed.setIfInBounds i true) a' w') a w
theorem wpAny_of_T : ∀ (fuel : Nat) (listed : Array Bool) (a : Act) (w : World), wpAnyT P md ops Q T fuel listed a w → wpAny P md ops Q fuel listed a w
  | 0, _, _, _, h => h
  | fuel + 1, _, _, _, h => ⟨h.1, fun i hi => wpOp_mono (fun a' w' h' => wpAny_of_T fuel _ a' w' h'.2) (h.2 i hi)⟩
theorem wpAnyT_first {i : Nat} {oi : Oper} {v : Value} {J : Array Bool → Prop} (hi : ops[i]? = some oi) (hsel : ∀ (j : Nat) (o : Oper) cs b, ops[j]? = some o → o.op ≠ .select cs b)
    (hQ : ∀ c a w, Q (.panic c) (a.put oi.dst v) w → Q (.panic c) a w)
    (hT : ∀ l w, T (l.setIfInBounds i true) w ↔ T l w) (hY : ∀ l w, J l → T l w → S w) (hJ : ∀ l j, J l → i ∈ Region.ready md ops l → j ∈ Region.ready md ops l → j ≠ i → J (l.setIfInBounds j true)) :
    ∀ (fuel : Nat) (listed : Array Bool) (a : Act) (w : World),
      (∀ j oj, ops[j]? = some oj → j ≠ i → listed.getD j true = false → (∀ e ∈ oj.after, Region.binds md e = true → e.on ≠ i) → oi.apart ops oj = true) →
      i ∈ Region.ready md ops listed → YieldsS P ops S oi v a → T listed w → J listed →
      wpAnyT P md ops Q T fuel (listed.setIfInBounds i true) (a.put oi.dst v) w → wpAnyT P md ops Q T (fuel + 1) listed a w := by
  intro fuel
  induction fuel with
  | zero =>
    intro listed a w _ hr hy hTl hl H
    refine ⟨fun h => (by rw [h] at hr; cases hr), fun j hj => ?_⟩
    by_cases hji : j = i
    · subst hji; exact hy.wpOp hi (hY _ _ hl hTl) ⟨(hT _ _).2 hTl, H⟩
    · have := ready_mono hj hji
      rw [H.1] at this
      cases this
  | succ fuel ih =>
    intro listed a w hfree hr hy hTl hl H
    refine ⟨fun h => (by rw [h] at hr; cases hr), fun j hj => ?_⟩
    by_cases hji : j = i
    · subst hji; exact hy.wpOp hi (hY _ _ hl hTl) ⟨(hT _ _).2 hTl, H⟩
    · have h1 := H.2 j (ready_mono hj hji)
      obtain ⟨hjun, oj, hoj, hall⟩ := mem_ready.1 hj
      have hnot : ∀ e ∈ oj.after, Region.binds md e = true → e.on ≠ i := fun e he hb heq => by
        have h1 := hall e he hb
        rw [heq, getD_both (mem_ready.1 hr).1] at h1
        cases h1
      have h2 := wpOp_putS hoj (hfree j oj hoj hji hjun hnot) (fun cs b => hsel i oi cs b hi) (fun cs b => hsel j oj cs b hoj) hQ hy h1
      have hfree' : ∀ k ok, ops[k]? = some ok → k ≠ i → (listed.setIfInBounds j true).getD k true = false →
          (∀ e ∈ ok.after, Region.binds md e = true → e.on ≠ i) → oi.apart ops ok = true := fun k ok hk hki hun hno => by
        refine hfree k ok hk hki ?_ hno
        by_cases hjk : j = k
        · subst hjk; exact hjun
        · rw [getD_set_ne true hjk] at hun; exact hun
      refine wpOp_mono (fun a' w' h3 => ?_) h2
      obtain ⟨hy', hT', h4⟩ := h3
      rw [Array.setIfInBounds_comm _ _ (Ne.symm hji)] at hT' h4
      have hT'' := (hT _ _).1 hT'
      exact ⟨hT'', ih (listed.setIfInBounds j true) a' w' hfree' (ready_mono hr (Ne.symm hji)) hy' hT'' (hJ _ _ hl hr hj hji) h4⟩
def Till (S S1 : World → Prop) (m0 m1 : Nat) (listed : Array Bool) (w : World) : Prop := (listed.getD m0 false = false → S w) ∧ (listed.getD m1 false = false → S1 w)
def seqC (md : Region.Mode) (ops : Array Oper) : List Nat → Array Bool → Bool
  | [], listed => (Region.ready md ops listed).isEmpty
  | c :: C, listed => decide (Region.ready md ops listed = [c]) && seqC md ops C (listed.setIfInBounds c true)
def waitsC (md : Region.Mode) (ops : Array Oper) (m i : Nat) : Bool := decide (ops.size ≤ m) || Region.waitsFor md ops m i
def floatC1 (md : Region.Mode) (ops : Array Oper) (m1 : Nat) (C : List Nat) : List Nat → Array Bool → Bool
  | [], listed => seqC md ops C listed
  | i :: F, listed => (Region.ready md ops listed).contains i && Region.free md ops listed i && waitsC md ops m1 i && !listed.getD m1 false && floatC1 md ops m1 C F (listed.setIfInBounds i true)
def floatC (md : Region.Mode) (ops : Array Oper) (m0 m1 : Nat) (F1 C : List Nat) : List Nat → Array Bool → Bool
  | [], listed => floatC1 md ops m1 C F1 listed
  | i :: F, listed => (Region.ready md ops listed).contains i && Region.free md ops listed i && waitsC md ops m0 i && waitsC md ops m1 i && !listed.getD m0 false && !listed.getD m1 false && floatC md ops m0 m1 F1 C F (listed.setIfInBounds i true)
def dstC (n : Nat) : List Oper → Bool
  | [] => true
  | o :: l => (match o.dst with | some d => decide (d < n) && l.all (fun o' => o'.dst != some d) | none => false) && dstC n l
def pickC (ops : Array Oper) (F : List Nat) : List Oper := F.filterMap (ops[·]?)
def wpSeq (P : Program) (ops : Array Oper) (Q : Exit → Act → World → Prop) (S S1 : World → Prop) : List (Oper × Bool × Bool) → Act → World → Prop
  | [], a, w => Q .normal a w
  | (o, s, s1) :: rest, a, w => if Region.wanted o (yielded ops a.tmps) then o.wp P a w (fun a' w' => ((s = true → S w') ∧ (s1 = true → S1 w')) ∧ wpSeq P ops Q S S1 rest a' w') Q ∨ (o.asks P a w ∧ LetsOut Q)
      else ((s = true → S w) ∧ (s1 = true → S1 w)) ∧ wpSeq P ops Q S S1 rest (a.put o.dst undef) w
section
variable {S1 : World → Prop}
theorem wpSeq_nil {a : Act} {w : World} (h : Q .normal a w) : wpSeq P ops Q S S1 [] a w := h
theorem wpSeq_step {o : Oper} {s s1 : Bool} {rest : List (Oper × Bool × Bool)} {a : Act} {w : World}
    (h : ∀ K : Act → World → Prop, (∀ a' w', ((s = true → S w') ∧ (s1 = true → S1 w')) → wpSeq P ops Q S S1 rest a' w' → K a' w') → if Region.wanted o (yielded ops a.tmps) then o.wp P a w K Q else K (a.put o.dst undef) w) : wpSeq P ops Q S S1 ((o, s, s1) :: rest) a w := by
  have := h (fun a' w' => ((s = true → S w') ∧ (s1 = true → S1 w')) ∧ wpSeq P ops Q S S1 rest a' w') (fun a' w' hS h => ⟨hS, h⟩)
  unfold wpSeq
  split
  · rename_i hw; rw [if_pos hw] at this; exact .inl this
  · rename_i hw; rw [if_neg hw] at this; exact this
theorem wpSeq_same {o : Oper} {rest : List (Oper × Bool × Bool)} {a : Act} {w : World}
    (h : ∀ K : Act → World → Prop, (∀ a' w', S w' → wpSeq P ops Q S S rest a' w' → K a' w') → if Region.wanted o (yielded ops a.tmps) then o.wp P a w K Q else K (a.put o.dst undef) w) : wpSeq P ops Q S S ((o, true, true) :: rest) a w :=
  wpSeq_step fun K hK => h K fun a' w' h1 => hK a' w' ⟨fun _ => h1, fun _ => h1⟩
theorem wpSeq_tail : ∀ (l : List (Oper × Bool × Bool)) {a : Act} {w : World}, l.all (fun p => !p.2.1 && !p.2.2) = true → wpList P ops Q (l.map (·.1)) a w → wpSeq P ops Q S S1 l a w
  | [], _, _, _, h => h
  | (o, s, s1) :: rest, a, w, hl, h => by
    simp only [List.all_cons, Bool.and_eq_true, Bool.not_eq_true'] at hl
    obtain ⟨⟨rfl, rfl⟩, hl⟩ := hl
    simp only [List.map_cons, wpList] at h
    unfold wpSeq
    split
    · rename_i hw
      rw [if_pos hw] at h
      rcases h with h | h
      · exact .inl (Oper.wp_mono (fun a' w' h' => ⟨⟨(fun h => by cases h), (fun h => by cases h)⟩, wpSeq_tail rest (by simpa using hl) h'⟩) h)
      · exact .inr h
    · rename_i hw
      rw [if_neg hw] at h
      exact ⟨⟨(fun h => by cases h), (fun h => by cases h)⟩, wpSeq_tail rest (by simpa using hl) h⟩
end
def chainOf (ops : Array Oper) (m0 m1 : Nat) : List Nat → Bool → Bool → List (Oper × Bool × Bool)
  | [], _, _ => []
  | c :: C, s, s1 => match ops[c]? with | some o => (o, s && c != m0, s1 && c != m1) :: chainOf ops m0 m1 C (s && c != m0) (s1 && c != m1) | none => []
theorem wpAnyT_seq {S1 : World → Prop} {m0 m1 : Nat} : ∀ (C : List Nat) (listed : Array Bool) (s s1 : Bool) (a : Act) (w : World), (s = false → listed.getD m0 false = true) → (s1 = false → listed.getD m1 false = true) → seqC md ops C listed = true → (∀ c ∈ C, c < ops.size) →
    listed.size = ops.size → wpSeq P ops Q S S1 (chainOf ops m0 m1 C s s1) a w → wpAnyT P md ops Q (Till S S1 m0 m1) C.length listed a w
  | [], listed, s, s1, a, w, _, _, hB, _, _, h => ⟨by simpa [seqC] using hB, h⟩
  | c :: C, listed, s, s1, a, w, hs, hs1, hB, hlt, hsz, h => by
    have hc := hlt c (List.mem_cons_self)
    have h0 : ops[c]? = some ops[c] := Array.getElem?_eq_getElem hc
    simp only [seqC, Bool.and_eq_true, decide_eq_true_eq] at hB
    simp only [chainOf, h0, wpSeq] at h
    refine ⟨fun h1 => (by rw [hB.1] at h1; cases h1), fun i hi => ?_⟩
    rw [hB.1] at hi
    have hik : i = c := by simpa using hi
    subst hik
    have set' : ∀ (s : Bool) (m : Nat), (s = false → listed.getD m false = true) → (s && i != m) = false → (listed.setIfInBounds i true).getD m false = true := by
      intro s m hs h2
      by_cases hm : i = m
      · subst hm; simp [hsz, hc]
      · have : s = false := by simpa [hm] using h2
        exact getD_set_true (hs this)
    have step : ∀ a' w', (((s && i != m0) = true → S w') ∧ ((s1 && i != m1) = true → S1 w')) ∧ wpSeq P ops Q S S1 (chainOf ops m0 m1 C (s && i != m0) (s1 && i != m1)) a' w' →
        Till S S1 m0 m1 (listed.setIfInBounds i true) w' ∧ wpAnyT P md ops Q (Till S S1 m0 m1) C.length (listed.setIfInBounds i true) a' w' := by
      intro a' w' ⟨⟨h1, h1'⟩, h2⟩
      refine ⟨⟨fun h3 => h1 ?_, fun h3 => h1' ?_⟩, wpAnyT_seq C _ _ _ a' w' (set' s m0 hs) (set' s1 m1 hs1) hB.2 (fun c hc => hlt c (List.mem_cons_of_mem _ hc)) (by simp [hsz]) h2⟩
      · cases h4 : (s && i != m0) with
        | true => rfl
        | false => rw [set' s m0 hs h4] at h3; cases h3
      · cases h4 : (s1 && i != m1) with
        | true => rfl
        | false => rw [set' s1 m1 hs1 h4] at h3; cases h3
    refine wpOp_mono step ?_
    unfold wpOp
    simp only [h0]
    split
    · rename_i hw; rw [if_pos hw] at h; exact h
    · rename_i hw; rw [if_neg hw] at h; exact h
theorem put_size (a : Act) (d : Option Tmp) (v : Value) : (a.put d v).tmps.size = a.tmps.size := by cases d <;> simp [Act.put]
theorem still_keeps {A : Act} {w : World} : ∀ (l : List Oper) (a : Act), wpStill P ops w (fun a' => a' = A) l a → ∀ d, (∀ o ∈ l, o.dst ≠ some d) → A.tmps[d]? = a.tmps[d]? := by
  intro l
  induction l with
  | nil => intro a h d _; rw [show a = A from h]
  | cons o l ih =>
    intro a h d hd
    have hput : ∀ v, (a.put o.dst v).tmps[d]? = a.tmps[d]? := by
      intro v
      cases hdo : o.dst with
      | none => rfl
      | some e =>
        have : e ≠ d := fun h => hd o List.mem_cons_self (by rw [hdo, h])
        simp [Act.put, Array.getElem?_setIfInBounds_ne this]
    have hnext : ∀ v, wpStill P ops w (fun a' => a' = A) l (a.put o.dst v) → A.tmps[d]? = a.tmps[d]? := fun v h2 => (ih _ h2 d (fun o ho => hd o (List.mem_cons_of_mem _ ho))).trans (hput v)
    simp only [wpStill] at h
    split at h
    · unfold Oper.still at h
      generalize (execOp a.eval o).run P w = r at h
      cases r with
      | ok n w' =>
        cases n <;> simp only [Oper.stillUpon] at h
        case value u => exact hnext u h.2
        case skip => exact hnext _ h.2
        case enter f args => obtain ⟨_, v, _, h2⟩ := h; exact hnext v h2
      | halt x w' => simp only [Oper.stillUpon] at h
    · exact hnext _ h
theorem yields_all {S : World → Prop} {A : Act} {w0 : World} (hS : S w0) {i : Nat} {o : Oper} {d : Tmp} {rest : List Oper} {a : Act} (h0 : ops[i]? = some o) (hdo : o.dst = some d) (hdlt : d < a.tmps.size) (hdn : ∀ o' ∈ rest, o'.dst ≠ some d)
    (hst : ∀ w', S w' → wpStill P ops w' (fun a' => a' = A) (o :: rest) a) : ∃ v, YieldsS P ops S o v a ∧ ∀ w', S w' → wpStill P ops w' (fun a' => a' = A) rest (a.put o.dst v) := by
  have hy : ∀ w', S w' → ∃ v, YieldsAt P ops w' o v a ∧ wpStill P ops w' (fun a' => a' = A) rest (a.put o.dst v) := fun w' hw' => by
    have h1 : stOp P ops w' i (wpStill P ops w' (fun a' => a' = A) rest) a := by unfold stOp; simp only [h0]; exact hst w' hw'
    exact yieldsAt_of_stOp h0 h1
  have hv : ∀ w' v, wpStill P ops w' (fun a' => a' = A) rest (a.put o.dst v) → A.tmps[d]? = some v := fun w' v h => by
    rw [still_keeps _ _ h d hdn, hdo]
    simp [Act.put, hdlt]
  obtain ⟨v, hyv, hnv⟩ := hy w0 hS
  have hA := hv w0 v hnv
  have hall : ∀ w', S w' → YieldsAt P ops w' o v a ∧ wpStill P ops w' (fun a' => a' = A) rest (a.put o.dst v) := fun w' hw' => by
    obtain ⟨v', h1, h2⟩ := hy w' hw'
    have := hv w' v' h2
    rw [hA] at this
    obtain rfl := Option.some.inj this
    exact ⟨h1, h2⟩
  exact ⟨v, fun w' hw' => (hall w' hw').1, fun w' hw' => (hall w' hw').2⟩
theorem waits_ne {m i : Nat} {l : Array Bool} (hw : waitsC md ops m i = true) (hr : i ∈ Region.ready md ops l) {j : Nat} (hj : j ∈ Region.ready md ops l) : j ≠ m := by
  intro e
  subst e
  obtain ⟨hun, o, ho, hall⟩ := mem_ready.1 hj
  simp only [waitsC, Bool.or_eq_true, decide_eq_true_eq] at hw
  rcases hw with hm | hm
  · have := (Array.getElem?_eq_some_iff.1 ho).1; omega
  · obtain ⟨o', ho', e, he, hb, hon⟩ := Region.waitsFor_spec hm
    have : o' = o := Option.some.inj (ho'.symm.trans ho)
    subst this
    have h2 := hall e he hb
    rw [hon, getD_both (mem_ready.1 hr).1] at h2
    cases h2
section
variable {S1 : World → Prop} {m0 m1 : Nat}
theorem wpAnyT_float1 (hsel : Region.noSelect ops = true) (hQ : ∀ c a (d : Tmp) v w, Q (.panic c) (a.put (some d) v) w → Q (.panic c) a w) {C : List Nat} {A : Act} {w0 : World} (hS : S w0) (hS1 : S1 w0) :
    ∀ (F : List Nat) (listed : Array Bool) (a : Act), floatC1 md ops m1 C F listed = true → (∀ c ∈ F, c < ops.size ∧ c ≠ m0) → listed.size = ops.size →
      dstC a.tmps.size (pickC ops F) = true → (∀ w', S1 w' → wpStill P ops w' (fun a' => a' = A) (pickC ops F) a) →
      (∀ listed', listed'.size = ops.size → seqC md ops C listed' = true → wpAnyT P md ops Q (Till S S1 m0 m1) C.length listed' A w0) →
      wpAnyT P md ops Q (Till S S1 m0 m1) (F.length + C.length) listed a w0
  | [], listed, a, hB, _, hsz, _, hst, hC => by
    have : a = A := hst w0 hS1
    subst this
    simpa using hC listed hsz hB
  | i :: F, listed, a, hB, hlt, hsz, hd, hst, hC => by
    obtain ⟨hc, hcm⟩ := hlt i (List.mem_cons_self)
    have h0 : ops[i]? = some ops[i] := Array.getElem?_eq_getElem hc
    have hp : pickC ops (i :: F) = ops[i] :: pickC ops F := by simp [pickC, h0]
    rw [hp] at hd
    simp only [hp] at hst
    simp only [floatC1, Bool.and_eq_true, Bool.not_eq_true'] at hB
    obtain ⟨⟨⟨⟨hr, hf⟩, hm⟩, hl⟩, hB'⟩ := hB
    obtain ⟨o, ho⟩ : ∃ o, ops[i] = o := ⟨_, rfl⟩
    rw [ho] at h0 hd
    simp only [ho] at hst
    have hri : i ∈ Region.ready md ops listed := by simpa using hr
    cases hdo : o.dst with
    | none => simp [dstC, hdo] at hd
    | some d =>
      simp only [dstC, hdo, Bool.and_eq_true, decide_eq_true_eq, List.all_eq_true] at hd
      obtain ⟨⟨hdlt, hdn⟩, hd'⟩ := hd
      obtain ⟨v, hy, hn⟩ := yields_all hS1 h0 hdo hdlt (fun o' ho' => by simpa using hdn o' ho') hst
      have him : i ≠ m1 := waits_ne hm hri hri
      rw [List.length_cons, show F.length + 1 + C.length = (F.length + C.length) + 1 by omega]
      exact wpAnyT_first (J := fun l => l.getD m1 false = false) h0 (Region.noSelect_spec hsel) (fun c a w => by rw [hdo]; exact hQ c a d v w)
        (fun l w => by unfold Till; rw [getD_set_ne false hcm, getD_set_ne false him]) (fun l w hJ hT => hT.2 hJ) (fun l j hJ hr hj _ => by rw [getD_set_ne false (waits_ne hm hr hj)]; exact hJ)
        (F.length + C.length) listed a w0 (Region.free_spec h0 hf) hri hy ⟨fun _ => hS, fun _ => hS1⟩ hl
        (wpAnyT_float1 hsel hQ hS hS1 F _ _ hB' (fun c hc => hlt c (List.mem_cons_of_mem _ hc)) (by simp [hsz]) (by rw [put_size]; exact hd') hn hC)
theorem wpAnyT_float (hsel : Region.noSelect ops = true) (hQ : ∀ c a (d : Tmp) v w, Q (.panic c) (a.put (some d) v) w → Q (.panic c) a w) {F1 C : List Nat} {A1 A : Act} {w0 : World} (hS : S w0) (hS1 : S1 w0)
    (hF1 : ∀ c ∈ F1, c < ops.size ∧ c ≠ m0) (hd1 : dstC A1.tmps.size (pickC ops F1) = true) (hst1 : ∀ w', S1 w' → wpStill P ops w' (fun a' => a' = A) (pickC ops F1) A1) :
    ∀ (F : List Nat) (listed : Array Bool) (a : Act), floatC md ops m0 m1 F1 C F listed = true → (∀ c ∈ F, c < ops.size) → listed.size = ops.size →
      dstC a.tmps.size (pickC ops F) = true → (∀ w', S w' ∧ S1 w' → wpStill P ops w' (fun a' => a' = A1) (pickC ops F) a) →
      (∀ listed', listed'.size = ops.size → seqC md ops C listed' = true → wpAnyT P md ops Q (Till S S1 m0 m1) C.length listed' A w0) →
      wpAnyT P md ops Q (Till S S1 m0 m1) (F.length + (F1.length + C.length)) listed a w0
  | [], listed, a, hB, _, hsz, _, hst, hC => by
    have : a = A1 := hst w0 ⟨hS, hS1⟩
    subst this
    simp only [List.length_nil, Nat.zero_add]
    exact wpAnyT_float1 hsel hQ hS hS1 F1 listed a hB hF1 hsz hd1 hst1 hC
  | i :: F, listed, a, hB, hlt, hsz, hd, hst, hC => by
    have hc := hlt i (List.mem_cons_self)
    have h0 : ops[i]? = some ops[i] := Array.getElem?_eq_getElem hc
    have hp : pickC ops (i :: F) = ops[i] :: pickC ops F := by simp [pickC, h0]
    rw [hp] at hd
    simp only [hp] at hst
    simp only [floatC, Bool.and_eq_true, Bool.not_eq_true'] at hB
    obtain ⟨⟨⟨⟨⟨⟨hr, hf⟩, hm0⟩, hm⟩, hl0⟩, hl⟩, hB'⟩ := hB
    obtain ⟨o, ho⟩ : ∃ o, ops[i] = o := ⟨_, rfl⟩
    rw [ho] at h0 hd
    simp only [ho] at hst
    have hri : i ∈ Region.ready md ops listed := by simpa using hr
    cases hdo : o.dst with
    | none => simp [dstC, hdo] at hd
    | some d =>
      simp only [dstC, hdo, Bool.and_eq_true, decide_eq_true_eq, List.all_eq_true] at hd
      obtain ⟨⟨hdlt, hdn⟩, hd'⟩ := hd
      obtain ⟨v, hy, hn⟩ := yields_all (S := fun w => S w ∧ S1 w) ⟨hS, hS1⟩ h0 hdo hdlt (fun o' ho' => by simpa using hdn o' ho') hst
      rw [List.length_cons, show F.length + 1 + (F1.length + C.length) = (F.length + (F1.length + C.length)) + 1 by omega]
      exact wpAnyT_first (J := fun l => l.getD m0 false = false ∧ l.getD m1 false = false) h0 (Region.noSelect_spec hsel) (fun c a w => by rw [hdo]; exact hQ c a d v w)
        (fun l w => by unfold Till; rw [getD_set_ne false (waits_ne hm0 hri hri), getD_set_ne false (waits_ne hm hri hri)]) (fun l w hJ hT => ⟨hT.1 hJ.1, hT.2 hJ.2⟩)
        (fun l j hJ hr hj _ => by rw [getD_set_ne false (waits_ne hm0 hr hj), getD_set_ne false (waits_ne hm hr hj)]; exact hJ)
        _ listed a w0 (Region.free_spec h0 hf) hri hy ⟨fun _ => hS, fun _ => hS1⟩ ⟨hl0, hl⟩
        (wpAnyT_float hsel hQ hS hS1 hF1 hd1 hst1 F _ _ hB' (fun c hc => hlt c (List.mem_cons_of_mem _ hc)) (by simp [hsz]) (by rw [put_size]; exact hd') hn hC)
end
def textB (ops : Array Oper) (F F1 C : List Nat) (m0 m1 : Nat) : Bool :=
  Region.noSelect ops && decide (F.length + (F1.length + C.length) = ops.size) && F.all (fun c => decide (c < ops.size)) && F1.all (fun c => decide (c < ops.size) && c != m0) && C.all (fun c => decide (c < ops.size)) && floatC .any ops m0 m1 F1 C F (Array.replicate ops.size false)
theorem wp_region_text2 {id : Nat} {a : Act} {w : World} (F F1 C : List Nat) (m0 m1 : Nat) (S S1 : World → Prop) (A1 A : Act) (hm : P.follows .mixedOrders = true) (hB : textB ops F F1 C m0 m1 = true)
    (hd : dstC a.tmps.size (pickC ops F) = true) (hd1 : dstC A1.tmps.size (pickC ops F1) = true) (hQ : ∀ c a (d : Tmp) v w, Q (.panic c) (a.put (some d) v) w → Q (.panic c) a w) (hS : S w.drew) (hS1 : S1 w.drew)
    (hF : ∀ w', S w' ∧ S1 w' → wpStill P ops w' (fun a' => a' = A1) (pickC ops F) a) (hF1 : ∀ w', S1 w' → wpStill P ops w' (fun a' => a' = A) (pickC ops F1) A1)
    (hC : wpSeq P ops Q S S1 (chainOf ops m0 m1 C true true) A w.drew) : (Code.region id ops true).wp P Q a w := by
  simp only [textB, Bool.and_eq_true, decide_eq_true_eq, List.all_eq_true, bne_iff_ne] at hB
  obtain ⟨⟨⟨⟨⟨hsel, hlen⟩, hFl⟩, hF1l⟩, hCl⟩, hfl⟩ := hB
  refine wp_region_any hm (wpAny_of_T (T := Till S S1 m0 m1) _ _ _ _ ?_)
  rw [← hlen]
  exact wpAnyT_float hsel hQ hS hS1 hF1l hd1 hF1 F _ a (by rw [hlen]; exact hfl) hFl (by simp [hlen]) hd hF
    (fun listed' hsz hseq => wpAnyT_seq C listed' true true A _ (fun h => by cases h) (fun h => by cases h) hseq hCl hsz hC)
theorem wp_region_text {id : Nat} {a : Act} {w : World} (F C : List Nat) (m0 : Nat) (S : World → Prop) (A : Act) (hm : P.follows .mixedOrders = true) (hB : textB ops F [] C m0 m0 = true)
    (hd : dstC a.tmps.size (pickC ops F) = true) (hQ : ∀ c a (d : Tmp) v w, Q (.panic c) (a.put (some d) v) w → Q (.panic c) a w) (hS : S w.drew)
    (hF : ∀ w', S w' → wpStill P ops w' (fun a' => a' = A) (pickC ops F) a)
    (hC : wpSeq P ops Q S S (chainOf ops m0 m0 C true true) A w.drew) : (Code.region id ops true).wp P Q a w :=
  wp_region_text2 F [] C m0 m0 S S A A hm hB hd rfl hQ hS hS (fun w' h => hF w' h.1) (fun _ _ => rfl) hC
end
section
variable {P : Program} {ops : Array Oper} {w : World} {Q : Act → Prop} {o : Oper} {rest : List Oper} {a : Act}
theorem wpStill_yes {j : Nat} {want : Bool} (hg : o.guard = some (j, want)) (hy : yielded ops a.tmps j = some want) (h : ∀ K : Act → Prop, (∀ a, wpStill P ops w Q rest a → K a) → o.still P a w K) : wpStill P ops w Q (o :: rest) a := by
  have : Region.wanted o (yielded ops a.tmps) = true := by simp [Region.wanted, hg, hy]
  unfold wpStill
  rw [this]
  exact h _ (fun _ h => h)
theorem wpStill_plain (hg : o.guard = none) (h : ∀ K : Act → Prop, (∀ a, wpStill P ops w Q rest a → K a) → o.still P a w K) : wpStill P ops w Q (o :: rest) a := by
  have : Region.wanted o (yielded ops a.tmps) = true := by simp [Region.wanted, hg]
  unfold wpStill
  rw [this]
  exact h _ (fun _ h => h)
end
structure Keeps (X : List Nat) (w w' : World) : Prop where
  os : w'.os = w.os
  tape : w'.tape = w.tape
  output : w'.output = w.output
  size : w.heap.size ≤ w'.heap.size
  block : ∀ k, k < w.heap.size → k ∉ X → w'.heap[k]? = w.heap[k]?
section
variable {X : List Nat} {w w1 w2 : World}
theorem Keeps.refl (X : List Nat) (w : World) : Keeps X w w := ⟨rfl, rfl, rfl, Nat.le_refl _, fun _ _ _ => rfl⟩
theorem Keeps.cell (h : Keeps X w w1) {a : Addr} {v : Value} (hc : w.cell? a = some v) (hx : a.block ∉ X) : w1.cell? a = some v := by
  rw [World.cell?_of_block (w := w) (h.block a.block (World.block_lt_of_cell? w a hc) hx), hc]
theorem Keeps.drew (h : Keeps X w w1) : Keeps X w w1.drew := ⟨h.os, h.tape, h.output, h.size, h.block⟩
theorem Keeps.trans {Y : List Nat} (h : Keeps X w w1) (h2 : Keeps Y w1 w2) (hY : ∀ k, k ∈ Y → k < w.heap.size → k ∈ X) : Keeps X w w2 :=
  ⟨h2.os.trans h.os, h2.tape.trans h.tape, h2.output.trans h.output, Nat.le_trans h.size h2.size, fun k hk hx => by rw [h2.block k (by have := h.size; omega) (fun hy => hx (hY k hy hk))]; exact h.block k hk hx⟩
theorem Keeps.of_below (X : List Nat) (h : Below w.heap.size w w1) : Keeps X w w1 := ⟨h.os, h.tape, h.output, h.size, fun k hk _ => h.block k hk⟩
theorem Keeps.mono {Y : List Nat} (h : Keeps X w w1) (hX : ∀ k, k ∈ X → k ∈ Y) : Keeps Y w w1 := ⟨h.os, h.tape, h.output, h.size, fun k hk hx => h.block k hk (fun h' => hx (hX k h'))⟩
theorem Keeps.alloc (h : Keeps X w w1) (o : Obj) : Keeps X w (w1.alloc o) :=
  h.trans (Keeps.of_below X ((Below.refl _ _).alloc (Nat.le_refl _) _)) (fun _ hk _ => hk)
theorem Keeps.below (h : Keeps X w w1) (hb : Below w1.heap.size w1 w2) : Keeps X w w2 := h.trans (Keeps.of_below X hb) (fun _ hk _ => hk)
theorem Keeps.grown (h : Keeps X w w1) {row : Option Nat} (hg : w1.grownBy w2 row) (hr : ∀ k, row = some k → k < w.heap.size → k ∈ X) : Keeps X w w2 :=
  ⟨hg.os.trans h.os, hg.tape.trans h.tape, hg.output.trans h.output, Nat.le_trans h.size hg.size, fun k hk hx => by rw [hg.block k (by have := h.size; omega) (fun e => hx (hr k e.symm hk))]; exact h.block k hk hx⟩
theorem Keeps.setCell (h : Keeps X w w1) {p : Addr} (hp : p.block < w.heap.size → p.block ∈ X) (u : Value) : Keeps X w (w1.setCell p u) := by
  refine ⟨h.os, h.tape, h.output, by rw [show (w1.setCell p u).heap.size = w1.heap.size by simp [World.setCell]]; exact h.size, fun k hk hx => ?_⟩
  have hne : k ≠ p.block := by rintro rfl; exact hx (hp hk)
  rw [Below.heap_setCell _ _ _ _ hne]
  exact h.block k hk hx
end
end Go.Proofs.Ytakbijpcfnipoaa.R

namespace Go.Proofs.Ytakbijpcfnipoaa.PA
open Go.RowKit Go.Proofs.YtakbijpcfnipoaaW.PrintWords Go.Proofs.YtakbijpcfnipoaaW.PrintLast Go.Proofs.YtakbijpcfnipoaaW.PrintMore
attribute [local go_sem] max2_int min2_int max_two min_two max_three min_three max_four min_four
set_option linter.unusedVariables false
set_option linter.unusedSimpArgs false
def slices_Index_int_int.l0 : Nat → List Int → Int → Int → Int → Option (Int)
 | 0, _, _, _, _ => none
 | k + 1, x0, x1, x7, x8 => if x8 < x7 then (if 0 ≤ x8 then (if x8 < (x0.length : Int) then (if x1 = (rd x0 x8) then (some x8) else (slices_Index_int_int.l0 k x0 x1 x7 (wrap64 (x8 + 1)))) else (none)) else (none)) else (some (-1))
def slices_Index_int_int.f (k : Nat) (l0 : List Int) (a1 : Int) : Option (Int) := slices_Index_int_int.l0 k l0 a1 (l0.length : Int) 0
set_option maxHeartbeats 8000000 in
set_option maxRecDepth 100000 in
theorem slices_Index_int_int.calls (k : Nat) (A0 : Option Addr) (c0 : Nat) (l0 : List Int) (a1 : Int) (r : Int) (w : World) (hr0 : Kd.C (Kd.int .i64) w A0 l0.length l0) (hc0 : l0.length ≤ c0) (h : slices_Index_int_int.f k l0 a1 = some r) :
  Calls Try.prog 77 #[.slice A0 l0.length c0, .int .i64 a1] w fun e w' => e = .returned (.int .i64 r) ∧ Drawn0 w w' := by
 have HR0 := Aside0.mk hr0
 have HC0 := Aside0.mk hc0
 clear hr0 hc0
 have H : (slices_Index_int_int.l0 k l0 a1 (l0.length : Int) 0) = some r := h
 clear h
 have H' := Aside0.mk H
 clear H
 go_enter Try.func77, Try.ntmps77
 go_wp2
 go_loopg [8] k (fun kq v8 w' => ∃ (x8_1 : Int), v8 = .int .i64 x8_1 ∧ Aside0 (slices_Index_int_int.l0 kq l0 a1 (l0.length : Int) x8_1 = some r) ∧ Aside0 (kq ≤ k) ∧ Drawn0 w w')
 case atStart => exact ⟨(0), (by first | rfl | (simp; done) | (simp [*]; done)), H', ⟨Nat.le_refl _⟩, by repeat (first | exact Drawn0.refl _ | apply Drawn0.step)⟩
 case round =>
  clear H'
  try clear p2
  obtain ⟨x8_1, rfl, HA, HK1, ⟨m1, rfl⟩⟩ := hrel
  cases gk with
  | zero => exact absurd HA.out (by simp [slices_Index_int_int.l0])
  | succ k1 =>
   have H := HA.out
   clear HA
   simp only [slices_Index_int_int.l0] at H
   by_cases c3 : x8_1 < (l0.length : Int)
   ·
    rw [if_pos c3] at H
    have c3b0 : decide (x8_1 < (l0.length : Int)) = true := decide_eq_true c3
    clear c3
    by_cases c4 : 0 ≤ x8_1
    ·
     rw [if_pos c4] at H
     have c4b0 : decide (0 ≤ x8_1) = true := decide_eq_true c4
     clear c4
     by_cases c5 : x8_1 < (l0.length : Int)
     ·
      rw [if_pos c5] at H
      have c5b0 : decide (x8_1 < (l0.length : Int)) = true := decide_eq_true c5
      clear c5
      by_cases c6 : a1 = (rd l0 x8_1)
      ·
       rw [if_pos c6] at H
       have c6b0 : (a1 == (rd l0 x8_1)) = true := beq_iff_eq.mpr c6
       have c6b1 : (a1 != (rd l0 x8_1)) = false := bne_eq_false_iff_eq.mpr c6
       clear c6
       obtain rfl := Option.some.inj H
       have p114 : 0 ≤ (x8_1 : Int) := of_decide_eq_true (by first | (with_reducible assumption) | assumption)
       have q114 : x8_1 < (l0.length : Int) := of_decide_eq_true (by first | (with_reducible assumption) | assumption)
       obtain ⟨ad114, e114, hx114_0⟩ := Kd.at_int HR0.out x8_1 p114 q114
       cases e114
       replace p114 := eq_true p114
       replace q114 := eq_true q114
       go_wp2
       go_ret
       exact ⟨by first | rfl | (simp; done) | (simp [*]; done), by repeat (first | exact Drawn0.refl _ | apply Drawn0.step)⟩
      ·
       rw [if_neg c6] at H
       have c6b0 : (a1 == (rd l0 x8_1)) = false := beq_eq_false_iff_ne.mpr c6
       have c6b1 : (a1 != (rd l0 x8_1)) = true := bne_iff_ne.mpr c6
       have H' := Aside0.mk H
       clear H
       have p114 : 0 ≤ (x8_1 : Int) := of_decide_eq_true (by first | (with_reducible assumption) | assumption)
       have q114 : x8_1 < (l0.length : Int) := of_decide_eq_true (by first | (with_reducible assumption) | assumption)
       obtain ⟨ad114, e114, hx114_0⟩ := Kd.at_int HR0.out x8_1 p114 q114
       cases e114
       replace p114 := eq_true p114
       replace q114 := eq_true q114
       go_wp2
       go_roundg k1
       case measure => have := HK1.out; omega
       case rel => exact ⟨(wrap64 (x8_1 + 1)), (by first | rfl | (simp; done) | (simp [*]; done)), H', ⟨by have := HK1.out; omega⟩, by repeat (first | exact Drawn0.refl _ | apply Drawn0.step)⟩
     ·
      rw [if_neg c5] at H
      exact absurd H (by simp)
    ·
     rw [if_neg c4] at H
     exact absurd H (by simp)
   ·
    rw [if_neg c3] at H
    have c3b0 : decide (x8_1 < (l0.length : Int)) = false := decide_eq_false c3
    clear c3
    obtain rfl := Option.some.inj H
    go_wp2
    go_ret
    exact ⟨by first | rfl | (simp; done) | (simp [*]; done), by repeat (first | exact Drawn0.refl _ | apply Drawn0.step)⟩
end Go.Proofs.Ytakbijpcfnipoaa.PA

namespace Go.Proofs.Ytakbijpcfnipoaa.PA
open Go.RowKit Go.Proofs.YtakbijpcfnipoaaW.PrintWords Go.Proofs.YtakbijpcfnipoaaW.PrintLast Go.Proofs.YtakbijpcfnipoaaW.PrintMore
attribute [local go_sem] max2_int min2_int max_two min_two max_three min_three max_four min_four
set_option linter.unusedVariables false
set_option linter.unusedSimpArgs false
def slices_Contains_int_int.f (k : Nat) (l0 : List Int) (a1 : Int) : Option (Bool) := (slices_Index_int_int.f k l0 a1).bind fun t115 => (some (decide (t115 ≥ 0)))
set_option maxHeartbeats 8000000 in
set_option maxRecDepth 100000 in
theorem slices_Contains_int_int.calls (k : Nat) (A0 : Option Addr) (c0 : Nat) (l0 : List Int) (a1 : Int) (r : Bool) (w : World) (hr0 : Kd.C (Kd.int .i64) w A0 l0.length l0) (hc0 : l0.length ≤ c0) (h : slices_Contains_int_int.f k l0 a1 = some r) :
  Calls Try.prog 67 #[.slice A0 l0.length c0, .int .i64 a1] w fun e w' => e = .returned (.bool r) ∧ Drawn0 w w' := by
 have HR0 := Aside0.mk hr0
 have HC0 := Aside0.mk hc0
 clear hr0 hc0
 have H : ((slices_Index_int_int.f k l0 a1).bind fun t115 => (some (decide (t115 ≥ 0)))) = some r := h
 clear h
 replace H := Option.bind_eq_some_iff.mp H
 obtain ⟨t115, A30, H⟩ := H
 replace H : (some (decide (t115 ≥ 0))) = some r := H
 have A3 := Aside0.mk A30
 clear A30
 obtain rfl := Option.some.inj H
 go_enter Try.func67, Try.ntmps67
 go_wp2_with (first | ((with_reducible refine gate_callee (f := 77) rfl ?_); refine goesL_ (some 7) rfl rfl Try.func77 (by kernel_rfl) rfl #[.slice A0 l0.length c0, .int .i64 a1] rfl (by (try simp only [List.map_toArray, List.map_cons, List.map_nil]); first | done | rfl | (simp only [List.length_drop, List.length_take]; rfl)) ?_; (with_reducible refine (slices_Index_int_int.calls k _ _ l0 a1 t115 _ ?side1 ?side2 A3.out).mono ?_); (case side1 => repeat (first | exact HR0.out | (with_reducible refine Kd.C_alloc ?_ _) | (with_reducible refine Kd.C_drewN ?_ _) | (with_reducible refine Kd.C_drew ?_))); (case side2 => exact HC0.out); rintro e w' ⟨rfl, ⟨nd, rfl⟩⟩; refine ⟨_, rfl, ?_⟩))
 go_ret
 exact ⟨by first | rfl | (simp; done) | (simp [*]; done), by repeat (first | exact Drawn0.refl _ | apply Drawn0.step)⟩
end Go.Proofs.Ytakbijpcfnipoaa.PA

namespace Go.Proofs.Ytakbijpcfnipoaa.PA
open Go.RowKit Go.Proofs.YtakbijpcfnipoaaW.PrintWords Go.Proofs.YtakbijpcfnipoaaW.PrintLast Go.Proofs.YtakbijpcfnipoaaW.PrintMore
attribute [local go_sem] max2_int min2_int max_two min_two max_three min_three max_four min_four
set_option linter.unusedVariables false
set_option linter.unusedSimpArgs false
def lifts_total.l0 : Nat → Int → List Int → Int → Int → Option (Int)
 | 0, _, _, _, _ => none
 | k + 1, x3, x6, x7, x8 => if x8 < x7 then (if 0 ≤ x8 then (if x8 < (x6.length : Int) then (lifts_total.l0 k (wrap64 (x3 + (rd x6 x8))) x6 x7 (wrap64 (x8 + 1))) else (none)) else (none)) else (some x3)
def lifts_total.f (k : Nat) (l0 : List Int) : Option (Int) := lifts_total.l0 k 0 l0 (l0.length : Int) 0
set_option maxHeartbeats 8000000 in
set_option maxRecDepth 100000 in
theorem lifts_total.calls (k : Nat) (A0 : Option Addr) (c0 : Nat) (l0 : List Int) (r : Int) (w : World) (hr0 : Kd.C (Kd.int .i64) w A0 l0.length l0) (hc0 : l0.length ≤ c0) (h : lifts_total.f k l0 = some r) :
  Calls Try.prog 47 #[.slice A0 l0.length c0] w fun e w' => e = .returned (.int .i64 r) ∧ Drawn0 w w' := by
 have HR0 := Aside0.mk hr0
 have HC0 := Aside0.mk hc0
 clear hr0 hc0
 have H : (lifts_total.l0 k 0 l0 (l0.length : Int) 0) = some r := h
 clear h
 have H' := Aside0.mk H
 clear H
 go_enter Try.func47, Try.ntmps47
 go_wp2
 go_loopg [3, 8] k (fun kq v3 v8 w' => ∃ (x3_1 : Int) (x8_1 : Int), v3 = .int .i64 x3_1 ∧ v8 = .int .i64 x8_1 ∧ Aside0 (lifts_total.l0 kq x3_1 l0 (l0.length : Int) x8_1 = some r) ∧ Aside0 (kq ≤ k) ∧ Drawn0 w w')
 case atStart => exact ⟨(0), (0), (by first | rfl | (simp; done) | (simp [*]; done)), (by first | rfl | (simp; done) | (simp [*]; done)), H', ⟨Nat.le_refl _⟩, by repeat (first | exact Drawn0.refl _ | apply Drawn0.step)⟩
 case round =>
  clear H'
  obtain ⟨x3_1, x8_1, rfl, rfl, HA, HK1, ⟨m1, rfl⟩⟩ := hrel
  cases gk with
  | zero => exact absurd HA.out (by simp [lifts_total.l0])
  | succ k1 =>
   have H := HA.out
   clear HA
   simp only [lifts_total.l0] at H
   by_cases c2 : x8_1 < (l0.length : Int)
   ·
    rw [if_pos c2] at H
    have c2b0 : decide (x8_1 < (l0.length : Int)) = true := decide_eq_true c2
    clear c2
    by_cases c3 : 0 ≤ x8_1
    ·
     rw [if_pos c3] at H
     have c3b0 : decide (0 ≤ x8_1) = true := decide_eq_true c3
     clear c3
     by_cases c4 : x8_1 < (l0.length : Int)
     ·
      rw [if_pos c4] at H
      have c4b0 : decide (x8_1 < (l0.length : Int)) = true := decide_eq_true c4
      clear c4
      have H' := Aside0.mk H
      clear H
      have p116 : 0 ≤ (x8_1 : Int) := of_decide_eq_true (by first | (with_reducible assumption) | assumption)
      have q116 : x8_1 < (l0.length : Int) := of_decide_eq_true (by first | (with_reducible assumption) | assumption)
      obtain ⟨ad116, e116, hx116_0⟩ := Kd.at_int HR0.out x8_1 p116 q116
      cases e116
      replace p116 := eq_true p116
      replace q116 := eq_true q116
      go_wp2
      go_roundg k1
      case measure => have := HK1.out; omega
      case rel => exact ⟨(wrap64 (x3_1 + (rd l0 x8_1))), (wrap64 (x8_1 + 1)), (by first | rfl | (simp; done) | (simp [*]; done)), (by first | rfl | (simp; done) | (simp [*]; done)), H', ⟨by have := HK1.out; omega⟩, by repeat (first | exact Drawn0.refl _ | apply Drawn0.step)⟩
     ·
      rw [if_neg c4] at H
      exact absurd H (by simp)
    ·
     rw [if_neg c3] at H
     exact absurd H (by simp)
   ·
    rw [if_neg c2] at H
    have c2b0 : decide (x8_1 < (l0.length : Int)) = false := decide_eq_false c2
    clear c2
    obtain rfl := Option.some.inj H
    go_wp2
    go_ret
    exact ⟨by first | rfl | (simp; done) | (simp [*]; done), by repeat (first | exact Drawn0.refl _ | apply Drawn0.step)⟩
end Go.Proofs.Ytakbijpcfnipoaa.PA

namespace Go.Proofs.Ytakbijpcfnipoaa.PA
open Go.RowKit Go.Proofs.YtakbijpcfnipoaaW.PrintWords Go.Proofs.YtakbijpcfnipoaaW.PrintLast Go.Proofs.YtakbijpcfnipoaaW.PrintMore
attribute [local go_sem] max2_int min2_int max_two min_two max_three min_three max_four min_four
set_option linter.unusedVariables false
set_option linter.unusedSimpArgs false
def lifts_away.f (a0 : Int) (a1 : Int) : Option (Int) := some (mx (wrap64 (a0 - a1)) (wrap64 (a1 - a0)))
set_option maxHeartbeats 8000000 in
set_option maxRecDepth 100000 in
theorem lifts_away.calls (a0 : Int) (a1 : Int) (r : Int) (w : World) (h : lifts_away.f a0 a1 = some r) :
  Calls Try.prog 68 #[.int .i64 a0, .int .i64 a1] w fun e w' => e = .returned (.int .i64 r) ∧ Below w.heap.size w w' := by
 have HB := Aside0.mk (Below.refl w.heap.size w)
 have H : (some (mx (wrap64 (a0 - a1)) (wrap64 (a1 - a0)))) = some r := h
 clear h
 obtain ⟨ji3, hji3⟩ : ∃ j_ : Int, (mx (wrap64 (a0 - a1)) (wrap64 (a1 - a0))) = j_ := ⟨_, rfl⟩
 replace H : (some ji3) = some r := by first | (rw [hji3] at H; exact H) | (simp only [hji3] at H ⊢; exact H)
 have hji3_ : (if (wrap64 (a0 - a1)) < (wrap64 (a1 - a0)) then (wrap64 (a1 - a0)) else (wrap64 (a0 - a1))) = ji3 := hji3
 obtain rfl := Option.some.inj H
 go_enter Try.func68, Try.ntmps68
 go_wp2
 go_ret
 exact ⟨by first | rfl | (simp [errW_none, errW_some] <;> rfl) | (simp only [← hji3]; first | rfl | (simp [errW_none, errW_some] <;> rfl)) | (simp [*, errW_none, errW_some] <;> rfl), by repeat (first | (with_reducible first | exact HB.out | apply below_alloc | apply pw_below_drewN | apply below_drew1) | exact HB.out)⟩
end Go.Proofs.Ytakbijpcfnipoaa.PA

set_option linter.unusedVariables false
set_option linter.unusedSimpArgs false
namespace Go.Proofs.Ytakbijpcfnipoaa.A
open Go.RowKit Go.Proofs.YtakbijpcfnipoaaW.PrintWords Go.Proofs.YtakbijpcfnipoaaW.PrintLast Go.Proofs.YtakbijpcfnipoaaW.PrintMore
open Go.Proofs.Ytakbijpcfnipoaa.PA Go.Proofs.Ytakbijpcfnipoaa.Lf
theorem rdI (l : List Int) (i : Nat) : rd l (i : Int) = l.getD i 0 := by unfold rd; rw [Int.toNat_natCast]
theorem wrapN (i : Nat) (h : i < 1000000) : wrap64 ((i : Int) + 1) = ((i + 1 : Nat) : Int) := by unfold wrap64; omega
abbrev Fl (x : Int) : Prop := 0 ≤ x ∧ x ≤ 30
theorem away_c (a b : Int) (ha : Fl a) (hb : Fl b) (w : World) : Calls Try.prog 68 #[.int .i64 a, .int .i64 b] w fun e w' => e = .returned (.int .i64 (ab a b)) ∧ Below w.heap.size w w' := by
  refine lifts_away.calls a b (ab a b) w ?_
  unfold lifts_away.f ab mx
  have e1 : wrap64 (a - b) = a - b := by unfold wrap64; omega
  have e2 : wrap64 (b - a) = b - a := by unfold wrap64; omega
  rw [e1, e2]
  split
  · congr 1; omega
  · congr 1; omega
def sum : List Int → Int
  | [] => 0
  | x :: l => x + sum l
theorem sum_append : ∀ (l m : List Int), sum (l ++ m) = sum l + sum m
  | [], m => by simp [sum]
  | x :: l, m => by
    show x + sum (l ++ m) = x + sum l + sum m
    rw [sum_append l m]; omega
def Small (l : List Int) : Prop := ∀ x ∈ l, 0 ≤ x ∧ x ≤ 1000000
theorem sum_bd : ∀ {l : List Int}, Small l → 0 ≤ sum l ∧ sum l ≤ 1000000 * l.length
  | [], _ => by simp [sum]
  | x :: l, h => by
    have h1 := sum_bd (l := l) (fun y hy => h y (List.mem_cons_of_mem _ hy))
    have h2 := h x List.mem_cons_self
    show 0 ≤ x + sum l ∧ x + sum l ≤ 1000000 * ((l.length + 1 : Nat) : Int)
    omega
theorem total_ev {l : List Int} (hs : Small l) (hl : l.length ≤ 1000) : Ev (fun k => lifts_total.f k l) (sum l) := by
  have key : ∀ d i, i + d = l.length → Ev (fun k => lifts_total.l0 k (sum (l.take i)) l (l.length : Int) (i : Int)) (sum l) := by
    intro d
    induction d with
    | zero =>
      intro i hi
      obtain rfl : i = l.length := by omega
      refine Ev.step (f := fun _ => some (sum l)) (fun k => ?_) (Ev.now _)
      rw [lifts_total.l0, if_neg (by omega), List.take_length]
    | succ d ih =>
      intro i hi
      have hil : i < l.length := by omega
      have h1 := ih (i + 1) (by omega)
      have e : sum (l.take (i + 1)) = sum (l.take i) + l.getD i 0 := by
        rw [List.take_add_one, List.getElem?_eq_getElem hil, sum_append, List.getD_eq_getElem?_getD, List.getElem?_eq_getElem hil]
        simp [sum]
      have hb := sum_bd (l := l.take (i + 1)) (fun y hy => hs y (List.mem_of_mem_take hy))
      have hlt : (l.take (i + 1)).length ≤ 1000 := by rw [List.length_take]; omega
      rw [e] at h1 hb
      refine Ev.step (fun k => ?_) h1
      rw [lifts_total.l0, if_pos (by omega), if_pos (by omega), if_pos (by omega), rdI, wrapN i (by omega)]
      have : wrap64 (sum (l.take i) + l.getD i 0) = sum (l.take i) + l.getD i 0 := by unfold wrap64; omega
      rw [this]
  exact Ev.congr (fun _ => rfl) (key l.length 0 (by omega))
theorem total_c (A : Option Addr) (c : Nat) (l : List Int) (w : World) (hs : Small l) (hl : l.length ≤ 1000) (hr : Kd.C (Kd.int .i64) w A l.length l) (hc : l.length ≤ c) :
    Calls Try.prog 47 #[.slice A l.length c] w fun e w' => e = .returned (.int .i64 (sum l)) ∧ Below w.heap.size w w' := by
  obtain ⟨k, hk⟩ := (total_ev hs hl).rounds
  exact (lifts_total.calls k A c l (sum l) w hr hc hk).mono fun e w' ⟨he, nd, hw⟩ => ⟨he, by rw [hw]; exact ⟨rfl, rfl, rfl, Nat.le_refl _, fun _ _ => rfl⟩⟩
end Go.Proofs.Ytakbijpcfnipoaa.A

set_option linter.unusedVariables false
set_option linter.unusedSimpArgs false
namespace Go.Proofs.Ytakbijpcfnipoaa.A
open Go.RowKit Go.Proofs.YtakbijpcfnipoaaW.PrintWords Go.Proofs.YtakbijpcfnipoaaW.PrintLast Go.Proofs.YtakbijpcfnipoaaW.PrintMore
open Go.Proofs.Ytakbijpcfnipoaa.PA Go.Proofs.Ytakbijpcfnipoaa.Lf
abbrev sv (a b c : Int) : Value := .agg #[.int .i64 a, .int .i64 b, .int .i64 c]
abbrev hv (k a b c : Int) (v : Value) : Value := .agg #[.int .i64 k, .int .i64 a, .int .i64 b, .int .i64 c, v]
abbrev dL (a0 a1 a2 b0 b1 b2 : Int) : List Int := [ab a0 b0, ab a1 b1, ab a2 b2]
theorem below_new (w W : World) (h : Below w.heap.size w W) (o : Obj) : Below w.heap.size w (W.alloc o) := h.alloc h.size o
set_option maxHeartbeats 8000000 in
set_option maxRecDepth 100000 in
theorem dist3_c (k : Nat) (hk1 : 1 ≤ k) (hk3 : k ≤ 3) (s0 s1 s2 : Int) (A : Option Addr) (n c : Nat) (a0 a1 a2 b0 b1 b2 : Int) (fa0 : Fl a0) (fa1 : Fl a1) (fa2 : Fl a2) (fb0 : Fl b0) (fb1 : Fl b1) (fb2 : Fl b2) (w : World) :
    Calls Try.prog 48 #[hv k s0 s1 s2 (.slice A n c), sv a0 a1 a2, sv b0 b1 b2] w fun e w' => e = .returned (.int .i64 (sum ((dL a0 a1 a2 b0 b1 b2).take k))) ∧ Below w.heap.size w w' := by
  obtain ⟨d0, hd0⟩ : ∃ d, ab a0 b0 = d := ⟨_, rfl⟩
  obtain ⟨d1, hd1⟩ : ∃ d, ab a1 b1 = d := ⟨_, rfl⟩
  obtain ⟨d2, hd2⟩ : ∃ d, ab a2 b2 = d := ⟨_, rfl⟩
  have HA0 : Hid (∀ W, Calls Try.prog 68 #[.int .i64 a0, .int .i64 b0] W fun e w' => e = .returned (.int .i64 d0) ∧ Below W.heap.size W w') := Lib.hid (fun W => by rw [← hd0]; exact away_c a0 b0 fa0 fb0 W)
  have HA1 : Hid (∀ W, Calls Try.prog 68 #[.int .i64 a1, .int .i64 b1] W fun e w' => e = .returned (.int .i64 d1) ∧ Below W.heap.size W w') := Lib.hid (fun W => by rw [← hd1]; exact away_c a1 b1 fa1 fb1 W)
  have HA2 : Hid (∀ W, Calls Try.prog 68 #[.int .i64 a2, .int .i64 b2] W fun e w' => e = .returned (.int .i64 d2) ∧ Below W.heap.size W w') := Lib.hid (fun W => by rw [← hd2]; exact away_c a2 b2 fa2 fb2 W)
  obtain ⟨L, hL⟩ : ∃ L, dL a0 a1 a2 b0 b1 b2 = L := ⟨_, rfl⟩
  have HL0 : Hid (L[0]? = some d0) := Lib.hid (by rw [← hL, ← hd0]; rfl)
  have HL1 : Hid (L[1]? = some d1) := Lib.hid (by rw [← hL, ← hd1]; rfl)
  have HL2 : Hid (L[2]? = some d2) := Lib.hid (by rw [← hL, ← hd2]; rfl)
  have HSM : Hid (Small L) := by
    refine Lib.hid ?_
    rw [← hL]
    intro x hx
    simp only [dL, List.mem_cons, List.not_mem_nil, or_false] at hx
    unfold ab at hx
    omega
  have HLL : Hid (L.length = 3) := Lib.hid (by rw [← hL]; rfl)
  rw [hL]
  clear hL hd0 hd1 hd2
  obtain ⟨B, hB⟩ : ∃ B, w.heap.size = B := ⟨_, rfl⟩
  go_enter Try.func48, Try.ntmps48
  go_upto_region 2 with fail
  have hB1 : Below w.heap.size w (((w.alloc (Obj.cells #[Value.int IntKind.i64 ↑k, Value.int IntKind.i64 s0, Value.int IntKind.i64 s1, Value.int IntKind.i64 s2, Value.slice A n c] 54)).alloc (Obj.cells #[Value.int IntKind.i64 a0, Value.int IntKind.i64 a1, Value.int IntKind.i64 a2] 52)).alloc (Obj.cells #[Value.int IntKind.i64 b0, Value.int IntKind.i64 b1, Value.int IntKind.i64 b2] 52)) :=
    below_new _ _ (below_new _ _ (below_new _ _ (Below.refl _ _) _) _) _
  have hz1 : (((w.alloc (Obj.cells #[Value.int IntKind.i64 ↑k, Value.int IntKind.i64 s0, Value.int IntKind.i64 s1, Value.int IntKind.i64 s2, Value.slice A n c] 54)).alloc (Obj.cells #[Value.int IntKind.i64 a0, Value.int IntKind.i64 a1, Value.int IntKind.i64 a2] 52)).alloc (Obj.cells #[Value.int IntKind.i64 b0, Value.int IntKind.i64 b1, Value.int IntKind.i64 b2] 52)).heap.size = B + 3 := by simp [hB]
  have hk0 : (((w.alloc (Obj.cells #[Value.int IntKind.i64 ↑k, Value.int IntKind.i64 s0, Value.int IntKind.i64 s1, Value.int IntKind.i64 s2, Value.slice A n c] 54)).alloc (Obj.cells #[Value.int IntKind.i64 a0, Value.int IntKind.i64 a1, Value.int IntKind.i64 a2] 52)).alloc (Obj.cells #[Value.int IntKind.i64 b0, Value.int IntKind.i64 b1, Value.int IntKind.i64 b2] 52)).cell? ⟨B, 0, none⟩ = some (.int .i64 (k : Int)) := by rw [← hB]; simp [go_sem]
  have ha0 : (((w.alloc (Obj.cells #[Value.int IntKind.i64 ↑k, Value.int IntKind.i64 s0, Value.int IntKind.i64 s1, Value.int IntKind.i64 s2, Value.slice A n c] 54)).alloc (Obj.cells #[Value.int IntKind.i64 a0, Value.int IntKind.i64 a1, Value.int IntKind.i64 a2] 52)).alloc (Obj.cells #[Value.int IntKind.i64 b0, Value.int IntKind.i64 b1, Value.int IntKind.i64 b2] 52)).cell? ⟨B + 1, 0, none⟩ = some (.int .i64 a0) := by rw [← hB]; simp [go_sem]
  have ha1 : (((w.alloc (Obj.cells #[Value.int IntKind.i64 ↑k, Value.int IntKind.i64 s0, Value.int IntKind.i64 s1, Value.int IntKind.i64 s2, Value.slice A n c] 54)).alloc (Obj.cells #[Value.int IntKind.i64 a0, Value.int IntKind.i64 a1, Value.int IntKind.i64 a2] 52)).alloc (Obj.cells #[Value.int IntKind.i64 b0, Value.int IntKind.i64 b1, Value.int IntKind.i64 b2] 52)).cell? ⟨B + 1, 1, none⟩ = some (.int .i64 a1) := by rw [← hB]; simp [go_sem]
  have ha2 : (((w.alloc (Obj.cells #[Value.int IntKind.i64 ↑k, Value.int IntKind.i64 s0, Value.int IntKind.i64 s1, Value.int IntKind.i64 s2, Value.slice A n c] 54)).alloc (Obj.cells #[Value.int IntKind.i64 a0, Value.int IntKind.i64 a1, Value.int IntKind.i64 a2] 52)).alloc (Obj.cells #[Value.int IntKind.i64 b0, Value.int IntKind.i64 b1, Value.int IntKind.i64 b2] 52)).cell? ⟨B + 1, 2, none⟩ = some (.int .i64 a2) := by rw [← hB]; simp [go_sem]
  have hb0 : (((w.alloc (Obj.cells #[Value.int IntKind.i64 ↑k, Value.int IntKind.i64 s0, Value.int IntKind.i64 s1, Value.int IntKind.i64 s2, Value.slice A n c] 54)).alloc (Obj.cells #[Value.int IntKind.i64 a0, Value.int IntKind.i64 a1, Value.int IntKind.i64 a2] 52)).alloc (Obj.cells #[Value.int IntKind.i64 b0, Value.int IntKind.i64 b1, Value.int IntKind.i64 b2] 52)).cell? ⟨B + 1 + 1, 0, none⟩ = some (.int .i64 b0) := by rw [← hB]; simp [go_sem]
  have hb1 : (((w.alloc (Obj.cells #[Value.int IntKind.i64 ↑k, Value.int IntKind.i64 s0, Value.int IntKind.i64 s1, Value.int IntKind.i64 s2, Value.slice A n c] 54)).alloc (Obj.cells #[Value.int IntKind.i64 a0, Value.int IntKind.i64 a1, Value.int IntKind.i64 a2] 52)).alloc (Obj.cells #[Value.int IntKind.i64 b0, Value.int IntKind.i64 b1, Value.int IntKind.i64 b2] 52)).cell? ⟨B + 1 + 1, 1, none⟩ = some (.int .i64 b1) := by rw [← hB]; simp [go_sem]
  have hb2 : (((w.alloc (Obj.cells #[Value.int IntKind.i64 ↑k, Value.int IntKind.i64 s0, Value.int IntKind.i64 s1, Value.int IntKind.i64 s2, Value.slice A n c] 54)).alloc (Obj.cells #[Value.int IntKind.i64 a0, Value.int IntKind.i64 a1, Value.int IntKind.i64 a2] 52)).alloc (Obj.cells #[Value.int IntKind.i64 b0, Value.int IntKind.i64 b1, Value.int IntKind.i64 b2] 52)).cell? ⟨B + 1 + 1, 2, none⟩ = some (.int .i64 b2) := by rw [← hB]; simp [go_sem]
  generalize (((w.alloc (Obj.cells #[Value.int IntKind.i64 ↑k, Value.int IntKind.i64 s0, Value.int IntKind.i64 s1, Value.int IntKind.i64 s2, Value.slice A n c] 54)).alloc (Obj.cells #[Value.int IntKind.i64 a0, Value.int IntKind.i64 a1, Value.int IntKind.i64 a2] 52)).alloc (Obj.cells #[Value.int IntKind.i64 b0, Value.int IntKind.i64 b1, Value.int IntKind.i64 b2] 52)) = W1 at *
  have HC : Hid (∀ w', Below (B + 3) W1 w' → w'.cell? ⟨B, 0, none⟩ = some (.int .i64 (k : Int)) ∧ w'.cell? ⟨B + 1, 0, none⟩ = some (.int .i64 a0) ∧ w'.cell? ⟨B + 1, 1, none⟩ = some (.int .i64 a1) ∧ w'.cell? ⟨B + 1, 2, none⟩ = some (.int .i64 a2) ∧ w'.cell? ⟨B + 1 + 1, 0, none⟩ = some (.int .i64 b0) ∧ w'.cell? ⟨B + 1 + 1, 1, none⟩ = some (.int .i64 b1) ∧ w'.cell? ⟨B + 1 + 1, 2, none⟩ = some (.int .i64 b2)) :=
    Lib.hid (fun w' h => ⟨(h.cell (by show B < B + 3; omega)).trans hk0, (h.cell (by show B + 1 < B + 3; omega)).trans ha0, (h.cell (by show B + 1 < B + 3; omega)).trans ha1, (h.cell (by show B + 1 < B + 3; omega)).trans ha2, (h.cell (by show B + 1 + 1 < B + 3; omega)).trans hb0, (h.cell (by show B + 1 + 1 < B + 3; omega)).trans hb1, (h.cell (by show B + 1 + 1 < B + 3; omega)).trans hb2⟩)
  have HB1 := Lib.hid hB1
  have HBW := Lib.hid hB
  clear ha0 ha1 ha2 hb0 hb1 hb2 hB1 hB
  go_wp2_with fail
  clear hk0
  go_loopw [7, 8, 11] (fun v7 _ v11 wr => ∃ i : Nat, v11 = .int .i64 (i : Int) ∧ i ≤ k ∧ B + 3 ≤ wr.heap.size ∧ Hid (Kd.R (Kd.int .i64) 3 wr (B + 3) (fun _ => True) v7 (L.take i)) ∧ Hid (Below (B + 3) W1 wr)) (fun _ _ v11 _ => k - (intOf v11).toNat)
  case atStart => exact ⟨0, rfl, Nat.zero_le _, Nat.le_of_eq hz1.symm, Lib.hid (Kd.R_nil _ _ _ _ _), Lib.hid (Below.refl _ _)⟩
  case round =>
    rename World => wr
    obtain ⟨i, rfl, hi, hsz, HR, HB⟩ := hrel
    by_cases hlt : i < k
    · have hlt' : (i : Int) < (k : Int) := by omega
      have hi3 : i = 0 ∨ i = 1 ∨ i = 2 := by omega
      rcases hi3 with rfl | rfl | rfl
      · have HCE : Hid (∀ w', Below (B + 3) wr w' → w'.cell? ⟨B + 1, 0, none⟩ = some (.int .i64 a0) ∧ w'.cell? ⟨B + 1 + 1, 0, none⟩ = some (.int .i64 b0)) := Lib.hid (fun w' h => by obtain ⟨_, g0, g1, g2, g3, g4, g5⟩ := HC.out w' (HB.out.trans h); exact ⟨g0, g3⟩)
        go_wp2_with fail
        apply R.wp_region_text [0, 1, 2, 3, 4, 5, 6] [7, 8, 9, 10] 10 (fun w' => Below (B + 3) wr w')
        case hm => kernel_rfl
        case hB => kernel_rfl
        case hd => rfl
        case hQ => exact fun _ _ _ _ _ h => h
        case hS => exact (Below.refl _ _).drew
        case hF =>
          intro w' hS
          obtain ⟨y0, y1⟩ := HCE.out w' hS
          clear hS
          simp only [R.pickC, List.filterMap_cons, List.getElem?_toArray, List.getElem?_cons_zero, List.getElem?_cons_succ, List.filterMap_nil]
          (with_reducible refine R.wpStill_plain rfl (fun K hK => ?_)); go_simp; with_reducible refine hK _ ?_; clear hK K
          (with_reducible refine R.wpStill_plain rfl (fun K hK => ?_)); go_simp; with_reducible refine hK _ ?_; clear hK K
          (with_reducible refine R.wpStill_plain rfl (fun K hK => ?_)); go_simp; with_reducible refine hK _ ?_; clear hK K
          (with_reducible refine R.wpStill_plain rfl (fun K hK => ?_)); go_simp; with_reducible refine hK _ ?_; clear hK K
          (with_reducible refine R.wpStill_plain rfl (fun K hK => ?_)); go_simp; with_reducible refine hK _ ?_; clear hK K
          (with_reducible refine R.wpStill_plain rfl (fun K hK => ?_)); go_simp; with_reducible refine hK _ ?_; clear hK K
          (with_reducible refine R.wpStill_plain rfl (fun K hK => ?_)); go_simp; with_reducible refine hK _ ?_; clear hK K
          exact wpStill_nil rfl
        case hC =>
          simp only [R.chainOf, List.getElem?_toArray, List.getElem?_cons_zero, List.getElem?_cons_succ, Nat.reduceBNe, Bool.and_true, Bool.and_false, Bool.false_and]
          refine R.wpSeq_same (fun K hK => ?_)
          go_simp
          refine (HA0.out _).mono ?_
          rintro e w2 ⟨rfl, hb2⟩
          have hbx : Below wr.heap.size wr w2 := (Below.refl _ wr).drew.trans hb2
          have hS2 : Below (B + 3) wr w2 := hbx.mono hsz
          have hz2 : B + 3 ≤ w2.heap.size := Nat.le_trans hsz hS2.size
          have hO2 : Kd.R (Kd.int .i64) 3 w2 (B + 3) (fun _ => True) u7 (L.take 0) := Kd.R_below HR.out hbx
          refine hK _ _ hS2 ?_
          clear hK K hb2
          refine R.wpSeq_same (fun K hK => ?_)
          go_simp
          refine hK _ _ (hS2.alloc hz2 _) ?_
          clear hK K
          refine R.wpSeq_same (fun K hK => ?_)
          refine Kd.R_append_step (Kd.int .i64) (w0 := W1) (B + 3) (by rfl) (.tmp 14) (.tmp 22) 22 3 (.int .i64 0) 8 rfl Try.underlying22 info3 rfl (by decide) (by omega) _ (L.take 0) d0 [.int .i64 d0] (fun _ => True) (fun _ => False) (by rfl) (by rfl) ?aP (fun _ hk => hk.elim) (fun _ _ => trivial) hO2 (HB.out.trans hS2) hz2 (by rw [List.length_take]; omega) ?_
          case aP => exact rfl
          intro v1 w1 ho hb hg hat
          have hS4 : Below (B + 3) wr w1 := hS2.grown hg hz2 (fun k hk => ((Kd.R_bound hO2).1 k hk).2.1)
          refine hK _ _ hS4 ?_
          clear hK K
          refine R.wpSeq_tail _ rfl ?_
          simp only [List.map_cons, List.map_nil]
          go_wp2_with fail
          refine ⟨⟨0 + 1, by go_num, by omega, Nat.le_trans hz2 hg.size, Lib.hid (by rw [List.take_add_one, HL0.out]; exact ho), Lib.hid (HB.out.trans hS4)⟩, by simp [intOf]; omega⟩
      · have HCE : Hid (∀ w', Below (B + 3) wr w' → w'.cell? ⟨B + 1, 1, none⟩ = some (.int .i64 a1) ∧ w'.cell? ⟨B + 1 + 1, 1, none⟩ = some (.int .i64 b1)) := Lib.hid (fun w' h => by obtain ⟨_, g0, g1, g2, g3, g4, g5⟩ := HC.out w' (HB.out.trans h); exact ⟨g1, g4⟩)
        go_wp2_with fail
        apply R.wp_region_text [0, 1, 2, 3, 4, 5, 6] [7, 8, 9, 10] 10 (fun w' => Below (B + 3) wr w')
        case hm => kernel_rfl
        case hB => kernel_rfl
        case hd => rfl
        case hQ => exact fun _ _ _ _ _ h => h
        case hS => exact (Below.refl _ _).drew
        case hF =>
          intro w' hS
          obtain ⟨y0, y1⟩ := HCE.out w' hS
          clear hS
          simp only [R.pickC, List.filterMap_cons, List.getElem?_toArray, List.getElem?_cons_zero, List.getElem?_cons_succ, List.filterMap_nil]
          (with_reducible refine R.wpStill_plain rfl (fun K hK => ?_)); go_simp; with_reducible refine hK _ ?_; clear hK K
          (with_reducible refine R.wpStill_plain rfl (fun K hK => ?_)); go_simp; with_reducible refine hK _ ?_; clear hK K
          (with_reducible refine R.wpStill_plain rfl (fun K hK => ?_)); go_simp; with_reducible refine hK _ ?_; clear hK K
          (with_reducible refine R.wpStill_plain rfl (fun K hK => ?_)); go_simp; with_reducible refine hK _ ?_; clear hK K
          (with_reducible refine R.wpStill_plain rfl (fun K hK => ?_)); go_simp; with_reducible refine hK _ ?_; clear hK K
          (with_reducible refine R.wpStill_plain rfl (fun K hK => ?_)); go_simp; with_reducible refine hK _ ?_; clear hK K
          (with_reducible refine R.wpStill_plain rfl (fun K hK => ?_)); go_simp; with_reducible refine hK _ ?_; clear hK K
          exact wpStill_nil rfl
        case hC =>
          simp only [R.chainOf, List.getElem?_toArray, List.getElem?_cons_zero, List.getElem?_cons_succ, Nat.reduceBNe, Bool.and_true, Bool.and_false, Bool.false_and]
          refine R.wpSeq_same (fun K hK => ?_)
          go_simp
          refine (HA1.out _).mono ?_
          rintro e w2 ⟨rfl, hb2⟩
          have hbx : Below wr.heap.size wr w2 := (Below.refl _ wr).drew.trans hb2
          have hS2 : Below (B + 3) wr w2 := hbx.mono hsz
          have hz2 : B + 3 ≤ w2.heap.size := Nat.le_trans hsz hS2.size
          have hO2 : Kd.R (Kd.int .i64) 3 w2 (B + 3) (fun _ => True) u7 (L.take 1) := Kd.R_below HR.out hbx
          refine hK _ _ hS2 ?_
          clear hK K hb2
          refine R.wpSeq_same (fun K hK => ?_)
          go_simp
          refine hK _ _ (hS2.alloc hz2 _) ?_
          clear hK K
          refine R.wpSeq_same (fun K hK => ?_)
          refine Kd.R_append_step (Kd.int .i64) (w0 := W1) (B + 3) (by rfl) (.tmp 14) (.tmp 22) 22 3 (.int .i64 0) 8 rfl Try.underlying22 info3 rfl (by decide) (by omega) _ (L.take 1) d1 [.int .i64 d1] (fun _ => True) (fun _ => False) (by rfl) (by rfl) ?aP (fun _ hk => hk.elim) (fun _ _ => trivial) hO2 (HB.out.trans hS2) hz2 (by rw [List.length_take]; omega) ?_
          case aP => exact rfl
          intro v1 w1 ho hb hg hat
          have hS4 : Below (B + 3) wr w1 := hS2.grown hg hz2 (fun k hk => ((Kd.R_bound hO2).1 k hk).2.1)
          refine hK _ _ hS4 ?_
          clear hK K
          refine R.wpSeq_tail _ rfl ?_
          simp only [List.map_cons, List.map_nil]
          go_wp2_with fail
          refine ⟨⟨1 + 1, by go_num, by omega, Nat.le_trans hz2 hg.size, Lib.hid (by rw [List.take_add_one, HL1.out]; exact ho), Lib.hid (HB.out.trans hS4)⟩, by simp [intOf]; omega⟩
      · have HCE : Hid (∀ w', Below (B + 3) wr w' → w'.cell? ⟨B + 1, 2, none⟩ = some (.int .i64 a2) ∧ w'.cell? ⟨B + 1 + 1, 2, none⟩ = some (.int .i64 b2)) := Lib.hid (fun w' h => by obtain ⟨_, g0, g1, g2, g3, g4, g5⟩ := HC.out w' (HB.out.trans h); exact ⟨g2, g5⟩)
        go_wp2_with fail
        apply R.wp_region_text [0, 1, 2, 3, 4, 5, 6] [7, 8, 9, 10] 10 (fun w' => Below (B + 3) wr w')
        case hm => kernel_rfl
        case hB => kernel_rfl
        case hd => rfl
        case hQ => exact fun _ _ _ _ _ h => h
        case hS => exact (Below.refl _ _).drew
        case hF =>
          intro w' hS
          obtain ⟨y0, y1⟩ := HCE.out w' hS
          clear hS
          simp only [R.pickC, List.filterMap_cons, List.getElem?_toArray, List.getElem?_cons_zero, List.getElem?_cons_succ, List.filterMap_nil]
          (with_reducible refine R.wpStill_plain rfl (fun K hK => ?_)); go_simp; with_reducible refine hK _ ?_; clear hK K
          (with_reducible refine R.wpStill_plain rfl (fun K hK => ?_)); go_simp; with_reducible refine hK _ ?_; clear hK K
          (with_reducible refine R.wpStill_plain rfl (fun K hK => ?_)); go_simp; with_reducible refine hK _ ?_; clear hK K
          (with_reducible refine R.wpStill_plain rfl (fun K hK => ?_)); go_simp; with_reducible refine hK _ ?_; clear hK K
          (with_reducible refine R.wpStill_plain rfl (fun K hK => ?_)); go_simp; with_reducible refine hK _ ?_; clear hK K
          (with_reducible refine R.wpStill_plain rfl (fun K hK => ?_)); go_simp; with_reducible refine hK _ ?_; clear hK K
          (with_reducible refine R.wpStill_plain rfl (fun K hK => ?_)); go_simp; with_reducible refine hK _ ?_; clear hK K
          exact wpStill_nil rfl
        case hC =>
          simp only [R.chainOf, List.getElem?_toArray, List.getElem?_cons_zero, List.getElem?_cons_succ, Nat.reduceBNe, Bool.and_true, Bool.and_false, Bool.false_and]
          refine R.wpSeq_same (fun K hK => ?_)
          go_simp
          refine (HA2.out _).mono ?_
          rintro e w2 ⟨rfl, hb2⟩
          have hbx : Below wr.heap.size wr w2 := (Below.refl _ wr).drew.trans hb2
          have hS2 : Below (B + 3) wr w2 := hbx.mono hsz
          have hz2 : B + 3 ≤ w2.heap.size := Nat.le_trans hsz hS2.size
          have hO2 : Kd.R (Kd.int .i64) 3 w2 (B + 3) (fun _ => True) u7 (L.take 2) := Kd.R_below HR.out hbx
          refine hK _ _ hS2 ?_
          clear hK K hb2
          refine R.wpSeq_same (fun K hK => ?_)
          go_simp
          refine hK _ _ (hS2.alloc hz2 _) ?_
          clear hK K
          refine R.wpSeq_same (fun K hK => ?_)
          refine Kd.R_append_step (Kd.int .i64) (w0 := W1) (B + 3) (by rfl) (.tmp 14) (.tmp 22) 22 3 (.int .i64 0) 8 rfl Try.underlying22 info3 rfl (by decide) (by omega) _ (L.take 2) d2 [.int .i64 d2] (fun _ => True) (fun _ => False) (by rfl) (by rfl) ?aP (fun _ hk => hk.elim) (fun _ _ => trivial) hO2 (HB.out.trans hS2) hz2 (by rw [List.length_take]; omega) ?_
          case aP => exact rfl
          intro v1 w1 ho hb hg hat
          have hS4 : Below (B + 3) wr w1 := hS2.grown hg hz2 (fun k hk => ((Kd.R_bound hO2).1 k hk).2.1)
          refine hK _ _ hS4 ?_
          clear hK K
          refine R.wpSeq_tail _ rfl ?_
          simp only [List.map_cons, List.map_nil]
          go_wp2_with fail
          refine ⟨⟨2 + 1, by go_num, by omega, Nat.le_trans hz2 hg.size, Lib.hid (by rw [List.take_add_one, HL2.out]; exact ho), Lib.hid (HB.out.trans hS4)⟩, by simp [intOf]; omega⟩
    · obtain rfl : i = k := by omega
      have hge : ¬ (i : Int) < (i : Int) := by omega
      obtain ⟨A7, c7, e7, hc7, hr7⟩ := Kd.R_reads HR.out
      subst e7
      obtain ⟨M, hM⟩ : ∃ M, L.take i = M := ⟨_, rfl⟩
      have hml : M.length ≤ 1000 := by rw [← hM, List.length_take]; omega
      have hms : Small M := by rw [← hM]; exact fun x hx => HSM.out x (List.mem_of_mem_take hx)
      rw [hM] at hr7 hc7 ⊢
      have HM := Lib.hid hM
      have HT := Lib.hid (total_c A7 c7 M wr hms hml hr7 hc7)
      have HBB : Hid (Below w.heap.size w wr) := Lib.hid (HB1.out.trans (HB.out.mono (by rw [HBW.out]; omega)))
      clear hr7 hc7 hml hms HSM HA0 HA1 HA2 HL0 HL1 HL2 HR HB HC hM
      go_wp2_with (go_at_call 47; (with_reducible refine HT.out.mono ?_); rintro e w' ⟨rfl, hb⟩)
      go_ret
      exact ⟨by rw [HM.out]; rfl, HBB.out.trans (hb.mono HBB.out.size)⟩
theorem sum_dist : ∀ (k : Nat) (a0 a1 a2 b0 b1 b2 : Int), k ≤ 3 → sum ((dL a0 a1 a2 b0 b1 b2).take k) = dist ([a0, a1, a2].take k) ([b0, b1, b2].take k) := by
  intro k a0 a1 a2 b0 b1 b2 hk
  match k, hk with
  | 0, _ => rfl
  | 1, _ => simp [sum, dist]
  | 2, _ => simp [sum, dist]
  | 3, _ => simp [sum, dist]
end Go.Proofs.Ytakbijpcfnipoaa.A

set_option linter.unusedVariables false
set_option linter.unusedSimpArgs false
namespace Go.Proofs.Ytakbijpcfnipoaa.A
open Go.RowKit Go.Proofs.YtakbijpcfnipoaaW.PrintWords Go.Proofs.YtakbijpcfnipoaaW.PrintLast Go.Proofs.YtakbijpcfnipoaaW.PrintMore
open Go.Proofs.Ytakbijpcfnipoaa.PA Go.Proofs.Ytakbijpcfnipoaa.Lf
theorem contains_ev {l : List Int} {x : Int} (hl : l.length ≤ 100000) : Ev (fun k => slices_Contains_int_int.f k l x) (l.contains x) := by
  have key : ∀ d i, i + d = l.length → ∃ r, Ev (fun k => slices_Index_int_int.l0 k l x (l.length : Int) (i : Int)) r ∧ decide (r ≥ 0) = (l.drop i).contains x := by
    intro d
    induction d with
    | zero =>
      intro i hi
      obtain rfl : i = l.length := by omega
      refine ⟨-1, Ev.step (f := fun _ => some (-1)) (fun k => ?_) (Ev.now _), by simp⟩
      rw [slices_Index_int_int.l0, if_neg (by omega)]
    | succ d ih =>
      intro i hi
      have hil : i < l.length := by omega
      have eD : l.drop i = l.getD i 0 :: l.drop (i + 1) := by
        rw [List.drop_eq_getElem_cons hil, List.getD_eq_getElem?_getD, List.getElem?_eq_getElem hil]
        rfl
      by_cases c : x = l.getD i 0
      · refine ⟨(i : Int), Ev.step (f := fun _ => some (i : Int)) (fun k => ?_) (Ev.now _), ?_⟩
        · rw [slices_Index_int_int.l0, if_pos (by omega), if_pos (by omega), if_pos (by omega), rdI, if_pos c]
        · rw [eD, ← c, List.contains_cons, decide_eq_true (by omega)]
          simp
      · obtain ⟨r, h1, h2⟩ := ih (i + 1) (by omega)
        refine ⟨r, Ev.step (fun k => ?_) h1, ?_⟩
        · rw [slices_Index_int_int.l0, if_pos (by omega), if_pos (by omega), if_pos (by omega), rdI, if_neg c, wrapN i (by omega)]
        · rw [h2, eD, List.contains_cons]
          have : (x == l.getD i 0) = false := by simpa using c
          rw [this, Bool.false_or]
  obtain ⟨r, h1, h2⟩ := key l.length 0 (by omega)
  rw [List.drop_zero] at h2
  rw [← h2]
  exact Ev.bind h1 (Ev.now _)
theorem contains_c (A : Option Addr) (c : Nat) (l : List Int) (x : Int) (w : World) (hl : l.length ≤ 100000) (hr : Kd.C (Kd.int .i64) w A l.length l) (hc : l.length ≤ c) :
    Calls Try.prog 67 #[.slice A l.length c, .int .i64 x] w fun e w' => e = .returned (.bool (l.contains x)) ∧ Below w.heap.size w w' := by
  obtain ⟨k, hk⟩ := (contains_ev (x := x) hl).rounds
  exact (slices_Contains_int_int.calls k A c l x (l.contains x) w hr hc hk).mono fun e w' ⟨he, nd, hw⟩ => ⟨he, by rw [hw]; exact ⟨rfl, rfl, rfl, Nat.le_refl _, fun _ _ => rfl⟩⟩
abbrev T3 (k : Nat) (a b c : Int) : List Int := [a, b, c].take k
theorem t3_len {k : Nat} (h : k ≤ 3) (a b c : Int) : (T3 k a b c).length = k := by simp [T3]; omega
theorem t3_C {w : World} {B k : Nat} {a b c : Int} (hk : k ≤ 3) (h0 : w.cell? ⟨B, 0, none⟩ = some (.int .i64 a)) (h1 : w.cell? ⟨B, 1, none⟩ = some (.int .i64 b)) (h2 : w.cell? ⟨B, 2, none⟩ = some (.int .i64 c)) :
    Kd.C (Kd.int .i64) w (some ⟨B, 0, none⟩) k (T3 k a b c) := by
  refine ⟨t3_len hk a b c, by omega, fun _ => ⟨⟨B, 0, none⟩, rfl, fun j p hj => ⟨[.int .i64 p], rfl, rfl, fun i u hu => ?_⟩⟩⟩
  have hi : i = 0 := by
    have := (List.getElem?_eq_some_iff.1 hu).1
    simpa using this
  subst hi
  simp at hu
  subst hu
  rw [List.getElem?_take] at hj
  split at hj
  · next hjk =>
    have hj3 : j = 0 ∨ j = 1 ∨ j = 2 := by omega
    rcases hj3 with rfl | rfl | rfl
    · simp at hj; subst hj; exact h0
    · simp at hj; subst hj
      show w.cell? ((⟨B, 0, none⟩ : Addr).add (1 * 1 + 0)) = _
      simpa [Addr.add] using h1
    · simp at hj; subst hj
      show w.cell? ((⟨B, 0, none⟩ : Addr).add (2 * 1 + 0)) = _
      simpa [Addr.add] using h2
  · cases hj
set_option maxHeartbeats 4000000 in
set_option maxRecDepth 100000 in
theorem has_c (k : Nat) (hk3 : k ≤ 3) (s0 s1 s2 : Int) (A : Option Addr) (n c : Nat) (a0 a1 a2 f : Int) (w : World) :
    Calls Try.prog 46 #[hv k s0 s1 s2 (.slice A n c), sv a0 a1 a2, .int .i64 f] w fun e w' => e = .returned (.bool ((T3 k a0 a1 a2).contains f)) ∧ Below w.heap.size w w' := by
  obtain ⟨r, hr⟩ : ∃ r, (T3 k a0 a1 a2).contains f = r := ⟨_, rfl⟩
  rw [hr]
  obtain ⟨B, hB⟩ : ∃ B, w.heap.size = B := ⟨_, rfl⟩
  have hk3' : (k : Int) ≤ 3 := by omega
  have hk0' : (0 : Int) ≤ (k : Int) := by omega
  go_enter Try.func46, Try.ntmps46
  go_upto_region 1 with fail
  have hB1 : Below w.heap.size w ((w.alloc (Obj.cells #[Value.int IntKind.i64 ↑k, Value.int IntKind.i64 s0, Value.int IntKind.i64 s1, Value.int IntKind.i64 s2, Value.slice A n c] 54)).alloc (Obj.cells #[Value.int IntKind.i64 a0, Value.int IntKind.i64 a1, Value.int IntKind.i64 a2] 52)) :=
    below_new _ _ (below_new _ _ (Below.refl _ _) _) _
  have hk0 : ((w.alloc (Obj.cells #[Value.int IntKind.i64 ↑k, Value.int IntKind.i64 s0, Value.int IntKind.i64 s1, Value.int IntKind.i64 s2, Value.slice A n c] 54)).alloc (Obj.cells #[Value.int IntKind.i64 a0, Value.int IntKind.i64 a1, Value.int IntKind.i64 a2] 52)).cell? ⟨B, 0, none⟩ = some (.int .i64 (k : Int)) := by rw [← hB]; simp [go_sem]
  have hC : Kd.C (Kd.int .i64) ((w.alloc (Obj.cells #[Value.int IntKind.i64 ↑k, Value.int IntKind.i64 s0, Value.int IntKind.i64 s1, Value.int IntKind.i64 s2, Value.slice A n c] 54)).alloc (Obj.cells #[Value.int IntKind.i64 a0, Value.int IntKind.i64 a1, Value.int IntKind.i64 a2] 52)) (some ⟨B + 1, 0, none⟩) k (T3 k a0 a1 a2) :=
    t3_C hk3 (by rw [← hB]; simp [go_sem]) (by rw [← hB]; simp [go_sem]) (by rw [← hB]; simp [go_sem])
  generalize ((w.alloc (Obj.cells #[Value.int IntKind.i64 ↑k, Value.int IntKind.i64 s0, Value.int IntKind.i64 s1, Value.int IntKind.i64 s2, Value.slice A n c] 54)).alloc (Obj.cells #[Value.int IntKind.i64 a0, Value.int IntKind.i64 a1, Value.int IntKind.i64 a2] 52)) = W1 at *
  have HT : Hid (Calls Try.prog 67 #[.slice (some ⟨B + 1, 0, none⟩) k 3, .int .i64 f] W1 fun e w' => e = .returned (.bool r) ∧ Below W1.heap.size W1 w') := by
    refine Lib.hid ?_
    obtain ⟨M, hM⟩ : ∃ M, T3 k a0 a1 a2 = M := ⟨_, rfl⟩
    have hml : M.length = k := by rw [← hM]; exact t3_len hk3 _ _ _
    rw [hM] at hC hr
    have := contains_c (some ⟨B + 1, 0, none⟩) 3 M f W1 (by omega) (by rw [hml]; exact hC) (by omega)
    rwa [hml, hr] at this
  have HB1 := Lib.hid hB1
  clear hC hB1 hB hr
  go_wp2_with (go_at_call 67; (with_reducible refine HT.out.mono ?_); rintro e w' ⟨rfl, hb⟩)
  go_ret
  exact ⟨rfl, HB1.out.trans (hb.mono HB1.out.size)⟩
set_option maxRecDepth 100000 in
set_option maxHeartbeats 1600000 in
theorem clone_c (A : Option Addr) (c : Nat) (l : List Int) (w : World) (hr : Kd.C (Kd.int .i64) w A l.length l) (hcc : l.length ≤ c) (hl : l.length ≤ 1000) :
    Calls Try.prog 70 #[.slice A l.length c] w fun e w' => ∃ v, e = .returned v ∧ Kd.R (Kd.int .i64) 3 w' w.heap.size (fun _ => True) v l ∧ Below w.heap.size w w' := by
  obtain ⟨i0, hi0, hz0, hz1, hz2⟩ := info_parts info3
  have HR := Lib.hid hr
  clear hr
  have q22 : ∀ (w : World) (a : Option Addr) (n c n' c' : Nat), (binOp .eql 22 (.slice a n c) (.slice none n' c')).run Try.prog w = .ok (.bool a.isNone) w := fun w a n c n' c' => Lib.run_eql_slice_nil w _ _ a n c n' c' Try.underlying22
  cases A with
  | none =>
    obtain rfl : l = [] := by
      cases l with
      | nil => rfl
      | cons x xs => exact absurd (HR.out.2.2 (by simp)) (by simp)
    go_enter Try.func70, Try.ntmps70
    go_wp2_with fail
    go_ret
    exact ⟨_, rfl, Kd.R_nil _ _ _ _ _, Below.refl _ _⟩
  | some ad =>
    have hown0 : (w.alloc (Obj.cells #[] 3)).ownsRow w.heap.size 3 1 (.slice (some ⟨w.heap.size, 0, none⟩) 0 0) 0 [] :=
      ⟨rfl, .inr ⟨w.heap.size, 0, #[], rfl, Nat.le_refl _, heap_alloc_new _ _, Nat.le_refl _, Nat.zero_le _, rfl, rfl⟩⟩
    have HO0 := Lib.hid hown0
    clear hown0
    go_enter Try.func70, Try.ntmps70
    go_wp2_with (at_builtin; refine Kd.R_append_rows (Kd.int .i64) (w0 := w) w.heap.size rfl (.tmp 5) (.tmp 6) 22 3 (.int .i64 0) 8 rfl Try.underlying22 info3 rfl (by decide) (by omega) _ ([] : List Int) l _ _ _ (fun _ => True) (fun _ => False) rfl rfl ?aO ?aR (fun _ _ h => h) (fun _ h => h.elim) (fun _ _ => trivial) ?aB ?aS ?aL ?_)
    case aO => exact Kd.R_of_own HO0.out (fun _ _ => trivial)
    case aR => exact Kd.C_below HR.out ((Below.refl _ _).alloc (Nat.le_refl _) _)
    case aB => exact (Below.refl _ _).alloc (Nat.le_refl _) _
    case aS => simp
    case aL => simp; omega
    intro v1 w1 ho hb hg hat
    have HO := Lib.hid ho
    clear ho
    go_wp2_with fail
    go_ret
    exact ⟨_, rfl, HO.out, hb⟩
end Go.Proofs.Ytakbijpcfnipoaa.A

set_option linter.unusedVariables false
set_option linter.unusedSimpArgs false
namespace Go.Proofs.Ytakbijpcfnipoaa.A
open Go.RowKit Go.Proofs.YtakbijpcfnipoaaW.PrintWords Go.Proofs.YtakbijpcfnipoaaW.PrintLast Go.Proofs.YtakbijpcfnipoaaW.PrintMore
open Go.Proofs.Ytakbijpcfnipoaa.PA Go.Proofs.Ytakbijpcfnipoaa.Lf
def posB : List Int → Bool
  | [x] => withinB x 0 30
  | [x, y] => withinB x 0 30 && (withinB y 0 30 && decide (x ≤ y))
  | [x, y, z] => withinB x 0 30 && (withinB y 0 30 && (decide (x ≤ y) && (withinB z 0 30 && decide (y ≤ z))))
  | _ => false
theorem withinB_iff {x : Int} : withinB x 0 30 = true ↔ Fl x := by simp [withinB, Fl]
theorem posB_iff {l : List Int} : posB l = true ↔ 1 ≤ l.length ∧ l.length ≤ 3 ∧ Pos l.length l := by
  match l with
  | [] => simp [posB]
  | [x] =>
    simp only [posB, withinB_iff]
    constructor
    · intro h; exact ⟨by simp, by simp, mk1 h.1 h.2⟩
    · rintro ⟨_, _, h⟩; exact h.rng x (by simp)
  | [x, y] =>
    simp only [posB, withinB_iff, Bool.and_eq_true, decide_eq_true_eq]
    constructor
    · rintro ⟨h1, h2, h3⟩; exact ⟨by simp, by simp, mk2 h1.1 h3 h2.2⟩
    · rintro ⟨_, _, h⟩; exact ⟨h.rng x (by simp), h.rng y (by simp), by have := h.srt; simpa [Srt] using this⟩
  | [x, y, z] =>
    simp only [posB, withinB_iff, Bool.and_eq_true, decide_eq_true_eq]
    constructor
    · rintro ⟨h1, h2, h3, h4, h5⟩; exact ⟨by simp, by simp, mk3 h1.1 h3 h5 h4.2⟩
    · rintro ⟨_, _, h⟩
      have hs := h.srt
      simp [Srt] at hs
      exact ⟨h.rng x (by simp), h.rng y (by simp), hs.1.1, h.rng z (by simp), hs.2⟩
  | _ :: _ :: _ :: _ :: l => simp [posB]
theorem mem1 {w : World} {A : Option Addr} {l : List Int} (h : Kd.C (Kd.int .i64) w A l.length l) (hl : 0 < l.length) : ∃ ad, A = some ad ∧ ∀ j x, l[j]? = some x → w.cell? (ad.add j) = some (.int .i64 x) ∧ (ad.add j).block < w.heap.size := by
  obtain ⟨ad, e, hc⟩ := h.2.2 hl
  refine ⟨ad, e, fun j x hj => ?_⟩
  obtain ⟨c, hc1, hc2, hc3⟩ := hc j x hj
  have h9 : c = [.int .i64 x] := hc2
  subst h9
  have h8 := hc3 0 _ rfl
  have h7 : w.cell? (ad.add j) = some (.int .i64 x) := by
    have e9 : j * (Kd.int .i64).sz + 0 = j := by show j * 1 + 0 = j; omega
    rwa [e9] at h8
  exact ⟨h7, World.block_lt_of_cell? w _ h7⟩
theorem ad_flat {ad : Addr} : ad.add 0 = ad := by simp [Addr.add]
set_option maxHeartbeats 8000000 in
set_option maxRecDepth 100000 in
theorem spots1_c (A : Option Addr) (c : Nat) (x : Int) (w : World) (hr : Kd.C (Kd.int .i64) w A 1 [x]) :
    Calls Try.prog 45 #[.slice A 1 c] w fun e w' => e = .returned (.tuple #[if posB [x] then sv x 0 0 else sv 0 0 0, .bool (posB [x])]) ∧ Below w.heap.size w w' := by
  obtain ⟨ad, rfl, HM⟩ := mem1 (l := [x]) hr (by simp)
  have hm0 := (HM 0 x rfl).1
  have HWL := fun W => Lib.hid (within_c 1 1 3 W)
  have hwl : withinB 1 1 3 = true := by decide
  rw [hwl] at HWL
  clear hwl
  have HW0 := fun W => Lib.hid (within_c x 0 30 W)
  unfold posB
  obtain ⟨B, hB⟩ : ∃ B, w.heap.size = B := ⟨_, rfl⟩
  go_enter Try.func45, Try.ntmps45
  go_upto_region 4 with (go_at_call 66; (first | ((with_reducible refine (HWL _).out.mono ?_)) | ((with_reducible refine (HW0 _).out.mono ?_))); rintro e w' ⟨rfl, rfl⟩)
  have hB1 : Below w.heap.size w ((w.alloc (Obj.cells #[Value.int IntKind.i64 0, Value.int IntKind.i64 0, Value.int IntKind.i64 0] 52)).alloc (Obj.cells #[Value.int IntKind.i64 0, Value.int IntKind.i64 0, Value.int IntKind.i64 0] 52)) := below_new _ _ (below_new _ _ (Below.refl _ _) _) _
  have hmm : ∀ j v, (ad.add j).block < w.heap.size → w.cell? (ad.add j) = some v → ((w.alloc (Obj.cells #[Value.int IntKind.i64 0, Value.int IntKind.i64 0, Value.int IntKind.i64 0] 52)).alloc (Obj.cells #[Value.int IntKind.i64 0, Value.int IntKind.i64 0, Value.int IntKind.i64 0] 52)).cell? (ad.add j) = some v := fun j v h1 h2 => (hB1.cell h1).trans h2
  replace hm0 := hmm 0 _ (HM 0 x rfl).2 (HM 0 x rfl).1
  rw [ad_flat] at hm0
  have cr0 : ((w.alloc (Obj.cells #[Value.int IntKind.i64 0, Value.int IntKind.i64 0, Value.int IntKind.i64 0] 52)).alloc (Obj.cells #[Value.int IntKind.i64 0, Value.int IntKind.i64 0, Value.int IntKind.i64 0] 52)).cell? ⟨B, 0, none⟩ = some (.int .i64 0) := by rw [← hB]; simp [go_sem]
  have fr0 : ((w.alloc (Obj.cells #[Value.int IntKind.i64 0, Value.int IntKind.i64 0, Value.int IntKind.i64 0] 52)).alloc (Obj.cells #[Value.int IntKind.i64 0, Value.int IntKind.i64 0, Value.int IntKind.i64 0] 52)).frozen? ⟨B, 0, none⟩ = false := by rw [← hB]; simp [go_sem]
  have cr1 : ((w.alloc (Obj.cells #[Value.int IntKind.i64 0, Value.int IntKind.i64 0, Value.int IntKind.i64 0] 52)).alloc (Obj.cells #[Value.int IntKind.i64 0, Value.int IntKind.i64 0, Value.int IntKind.i64 0] 52)).cell? ⟨B, 1, none⟩ = some (.int .i64 0) := by rw [← hB]; simp [go_sem]
  have fr1 : ((w.alloc (Obj.cells #[Value.int IntKind.i64 0, Value.int IntKind.i64 0, Value.int IntKind.i64 0] 52)).alloc (Obj.cells #[Value.int IntKind.i64 0, Value.int IntKind.i64 0, Value.int IntKind.i64 0] 52)).frozen? ⟨B, 1, none⟩ = false := by rw [← hB]; simp [go_sem]
  have cr2 : ((w.alloc (Obj.cells #[Value.int IntKind.i64 0, Value.int IntKind.i64 0, Value.int IntKind.i64 0] 52)).alloc (Obj.cells #[Value.int IntKind.i64 0, Value.int IntKind.i64 0, Value.int IntKind.i64 0] 52)).cell? ⟨B, 2, none⟩ = some (.int .i64 0) := by rw [← hB]; simp [go_sem]
  have fr2 : ((w.alloc (Obj.cells #[Value.int IntKind.i64 0, Value.int IntKind.i64 0, Value.int IntKind.i64 0] 52)).alloc (Obj.cells #[Value.int IntKind.i64 0, Value.int IntKind.i64 0, Value.int IntKind.i64 0] 52)).frozen? ⟨B, 2, none⟩ = false := by rw [← hB]; simp [go_sem]
  have co0 : ((w.alloc (Obj.cells #[Value.int IntKind.i64 0, Value.int IntKind.i64 0, Value.int IntKind.i64 0] 52)).alloc (Obj.cells #[Value.int IntKind.i64 0, Value.int IntKind.i64 0, Value.int IntKind.i64 0] 52)).cell? ⟨B + 1, 0, none⟩ = some (.int .i64 0) := by rw [← hB]; simp [go_sem]
  have fo0 : ((w.alloc (Obj.cells #[Value.int IntKind.i64 0, Value.int IntKind.i64 0, Value.int IntKind.i64 0] 52)).alloc (Obj.cells #[Value.int IntKind.i64 0, Value.int IntKind.i64 0, Value.int IntKind.i64 0] 52)).frozen? ⟨B + 1, 0, none⟩ = false := by rw [← hB]; simp [go_sem]
  have co1 : ((w.alloc (Obj.cells #[Value.int IntKind.i64 0, Value.int IntKind.i64 0, Value.int IntKind.i64 0] 52)).alloc (Obj.cells #[Value.int IntKind.i64 0, Value.int IntKind.i64 0, Value.int IntKind.i64 0] 52)).cell? ⟨B + 1, 1, none⟩ = some (.int .i64 0) := by rw [← hB]; simp [go_sem]
  have fo1 : ((w.alloc (Obj.cells #[Value.int IntKind.i64 0, Value.int IntKind.i64 0, Value.int IntKind.i64 0] 52)).alloc (Obj.cells #[Value.int IntKind.i64 0, Value.int IntKind.i64 0, Value.int IntKind.i64 0] 52)).frozen? ⟨B + 1, 1, none⟩ = false := by rw [← hB]; simp [go_sem]
  have co2 : ((w.alloc (Obj.cells #[Value.int IntKind.i64 0, Value.int IntKind.i64 0, Value.int IntKind.i64 0] 52)).alloc (Obj.cells #[Value.int IntKind.i64 0, Value.int IntKind.i64 0, Value.int IntKind.i64 0] 52)).cell? ⟨B + 1, 2, none⟩ = some (.int .i64 0) := by rw [← hB]; simp [go_sem]
  have fo2 : ((w.alloc (Obj.cells #[Value.int IntKind.i64 0, Value.int IntKind.i64 0, Value.int IntKind.i64 0] 52)).alloc (Obj.cells #[Value.int IntKind.i64 0, Value.int IntKind.i64 0, Value.int IntKind.i64 0] 52)).frozen? ⟨B + 1, 2, none⟩ = false := by rw [← hB]; simp [go_sem]
  generalize ((w.alloc (Obj.cells #[Value.int IntKind.i64 0, Value.int IntKind.i64 0, Value.int IntKind.i64 0] 52)).alloc (Obj.cells #[Value.int IntKind.i64 0, Value.int IntKind.i64 0, Value.int IntKind.i64 0] 52)) = W1 at *
  have HB1 := Lib.hid hB1
  have HBB := Lib.hid hB
  clear hB1 hmm hB
  cases h0 : withinB x 0 30 with
  | false =>
    rw [h0] at HW0
    go_wp2_with fail
    refine wp_loop_rounds 2 ?_
    rw [rounds_succ]
    go_wp2_with (go_at_call 66; (first | ((with_reducible refine (HWL _).out.mono ?_)) | ((with_reducible refine (HW0 _).out.mono ?_))); rintro e w' ⟨rfl, rfl⟩)
    all_goals (refine bodyPost_ret (v := .tuple #[sv 0 0 0, .bool false]) (by simp [results, Try.results45, go_sem, cr0, cr1, cr2]) rfl ⟨by first | rfl | (rw [gd]; rfl) | (rw [gd]; simp), ?_⟩; (repeat (refine Below.setCell ?_ (by show w.heap.size ≤ _; rw [HBB.out]; simp) _)); exact HB1.out)
  | true =>
    rw [h0] at HW0
    go_wp2_with fail
    refine wp_loop_rounds 2 ?_
    rw [rounds_succ]
    go_wp2_with (go_at_call 66; (first | ((with_reducible refine (HWL _).out.mono ?_)) | ((with_reducible refine (HW0 _).out.mono ?_))); rintro e w' ⟨rfl, rfl⟩)
    rw [rounds_succ]
    go_wp2_with (go_at_call 66; (first | ((with_reducible refine (HWL _).out.mono ?_)) | ((with_reducible refine (HW0 _).out.mono ?_))); rintro e w' ⟨rfl, rfl⟩)
    all_goals (refine bodyPost_ret (v := .tuple #[sv x 0 0, .bool true]) (by simp [results, Try.results45, go_sem, cr0, cr1, cr2]) rfl ⟨by first | rfl | (rw [gd]; rfl) | (rw [gd]; simp), ?_⟩; (repeat (refine Below.setCell ?_ (by show w.heap.size ≤ _; rw [HBB.out]; simp) _)); exact HB1.out)
set_option maxHeartbeats 8000000 in
set_option maxRecDepth 100000 in
theorem spots2_c (A : Option Addr) (c : Nat) (x y : Int) (w : World) (hr : Kd.C (Kd.int .i64) w A 2 [x, y]) :
    Calls Try.prog 45 #[.slice A 2 c] w fun e w' => e = .returned (.tuple #[if posB [x, y] then sv x y 0 else sv 0 0 0, .bool (posB [x, y])]) ∧ Below w.heap.size w w' := by
  obtain ⟨ad, rfl, HM⟩ := mem1 (l := [x, y]) hr (by simp)
  have hm0 := (HM 0 x rfl).1
  have hm1 := (HM 1 y rfl).1
  have HWL := fun W => Lib.hid (within_c 2 1 3 W)
  have hwl : withinB 2 1 3 = true := by decide
  rw [hwl] at HWL
  clear hwl
  have HW0 := fun W => Lib.hid (within_c x 0 30 W)
  have HW1 := fun W => Lib.hid (within_c y 0 30 W)
  unfold posB
  obtain ⟨B, hB⟩ : ∃ B, w.heap.size = B := ⟨_, rfl⟩
  go_enter Try.func45, Try.ntmps45
  go_upto_region 4 with (go_at_call 66; (first | ((with_reducible refine (HWL _).out.mono ?_)) | ((with_reducible refine (HW0 _).out.mono ?_)) | ((with_reducible refine (HW1 _).out.mono ?_))); rintro e w' ⟨rfl, rfl⟩)
  have hB1 : Below w.heap.size w ((w.alloc (Obj.cells #[Value.int IntKind.i64 0, Value.int IntKind.i64 0, Value.int IntKind.i64 0] 52)).alloc (Obj.cells #[Value.int IntKind.i64 0, Value.int IntKind.i64 0, Value.int IntKind.i64 0] 52)) := below_new _ _ (below_new _ _ (Below.refl _ _) _) _
  have hmm : ∀ j v, (ad.add j).block < w.heap.size → w.cell? (ad.add j) = some v → ((w.alloc (Obj.cells #[Value.int IntKind.i64 0, Value.int IntKind.i64 0, Value.int IntKind.i64 0] 52)).alloc (Obj.cells #[Value.int IntKind.i64 0, Value.int IntKind.i64 0, Value.int IntKind.i64 0] 52)).cell? (ad.add j) = some v := fun j v h1 h2 => (hB1.cell h1).trans h2
  replace hm0 := hmm 0 _ (HM 0 x rfl).2 (HM 0 x rfl).1
  replace hm1 := hmm 1 _ (HM 1 y rfl).2 (HM 1 y rfl).1
  rw [ad_flat] at hm0
  rw [show ad.add 1 = ⟨ad.block, ad.off + 1, none⟩ by simp [Addr.add]] at hm1
  have cr0 : ((w.alloc (Obj.cells #[Value.int IntKind.i64 0, Value.int IntKind.i64 0, Value.int IntKind.i64 0] 52)).alloc (Obj.cells #[Value.int IntKind.i64 0, Value.int IntKind.i64 0, Value.int IntKind.i64 0] 52)).cell? ⟨B, 0, none⟩ = some (.int .i64 0) := by rw [← hB]; simp [go_sem]
  have fr0 : ((w.alloc (Obj.cells #[Value.int IntKind.i64 0, Value.int IntKind.i64 0, Value.int IntKind.i64 0] 52)).alloc (Obj.cells #[Value.int IntKind.i64 0, Value.int IntKind.i64 0, Value.int IntKind.i64 0] 52)).frozen? ⟨B, 0, none⟩ = false := by rw [← hB]; simp [go_sem]
  have cr1 : ((w.alloc (Obj.cells #[Value.int IntKind.i64 0, Value.int IntKind.i64 0, Value.int IntKind.i64 0] 52)).alloc (Obj.cells #[Value.int IntKind.i64 0, Value.int IntKind.i64 0, Value.int IntKind.i64 0] 52)).cell? ⟨B, 1, none⟩ = some (.int .i64 0) := by rw [← hB]; simp [go_sem]
  have fr1 : ((w.alloc (Obj.cells #[Value.int IntKind.i64 0, Value.int IntKind.i64 0, Value.int IntKind.i64 0] 52)).alloc (Obj.cells #[Value.int IntKind.i64 0, Value.int IntKind.i64 0, Value.int IntKind.i64 0] 52)).frozen? ⟨B, 1, none⟩ = false := by rw [← hB]; simp [go_sem]
  have cr2 : ((w.alloc (Obj.cells #[Value.int IntKind.i64 0, Value.int IntKind.i64 0, Value.int IntKind.i64 0] 52)).alloc (Obj.cells #[Value.int IntKind.i64 0, Value.int IntKind.i64 0, Value.int IntKind.i64 0] 52)).cell? ⟨B, 2, none⟩ = some (.int .i64 0) := by rw [← hB]; simp [go_sem]
  have fr2 : ((w.alloc (Obj.cells #[Value.int IntKind.i64 0, Value.int IntKind.i64 0, Value.int IntKind.i64 0] 52)).alloc (Obj.cells #[Value.int IntKind.i64 0, Value.int IntKind.i64 0, Value.int IntKind.i64 0] 52)).frozen? ⟨B, 2, none⟩ = false := by rw [← hB]; simp [go_sem]
  have co0 : ((w.alloc (Obj.cells #[Value.int IntKind.i64 0, Value.int IntKind.i64 0, Value.int IntKind.i64 0] 52)).alloc (Obj.cells #[Value.int IntKind.i64 0, Value.int IntKind.i64 0, Value.int IntKind.i64 0] 52)).cell? ⟨B + 1, 0, none⟩ = some (.int .i64 0) := by rw [← hB]; simp [go_sem]
  have fo0 : ((w.alloc (Obj.cells #[Value.int IntKind.i64 0, Value.int IntKind.i64 0, Value.int IntKind.i64 0] 52)).alloc (Obj.cells #[Value.int IntKind.i64 0, Value.int IntKind.i64 0, Value.int IntKind.i64 0] 52)).frozen? ⟨B + 1, 0, none⟩ = false := by rw [← hB]; simp [go_sem]
  have co1 : ((w.alloc (Obj.cells #[Value.int IntKind.i64 0, Value.int IntKind.i64 0, Value.int IntKind.i64 0] 52)).alloc (Obj.cells #[Value.int IntKind.i64 0, Value.int IntKind.i64 0, Value.int IntKind.i64 0] 52)).cell? ⟨B + 1, 1, none⟩ = some (.int .i64 0) := by rw [← hB]; simp [go_sem]
  have fo1 : ((w.alloc (Obj.cells #[Value.int IntKind.i64 0, Value.int IntKind.i64 0, Value.int IntKind.i64 0] 52)).alloc (Obj.cells #[Value.int IntKind.i64 0, Value.int IntKind.i64 0, Value.int IntKind.i64 0] 52)).frozen? ⟨B + 1, 1, none⟩ = false := by rw [← hB]; simp [go_sem]
  have co2 : ((w.alloc (Obj.cells #[Value.int IntKind.i64 0, Value.int IntKind.i64 0, Value.int IntKind.i64 0] 52)).alloc (Obj.cells #[Value.int IntKind.i64 0, Value.int IntKind.i64 0, Value.int IntKind.i64 0] 52)).cell? ⟨B + 1, 2, none⟩ = some (.int .i64 0) := by rw [← hB]; simp [go_sem]
  have fo2 : ((w.alloc (Obj.cells #[Value.int IntKind.i64 0, Value.int IntKind.i64 0, Value.int IntKind.i64 0] 52)).alloc (Obj.cells #[Value.int IntKind.i64 0, Value.int IntKind.i64 0, Value.int IntKind.i64 0] 52)).frozen? ⟨B + 1, 2, none⟩ = false := by rw [← hB]; simp [go_sem]
  generalize ((w.alloc (Obj.cells #[Value.int IntKind.i64 0, Value.int IntKind.i64 0, Value.int IntKind.i64 0] 52)).alloc (Obj.cells #[Value.int IntKind.i64 0, Value.int IntKind.i64 0, Value.int IntKind.i64 0] 52)) = W1 at *
  have HB1 := Lib.hid hB1
  have HBB := Lib.hid hB
  have hs10 : (W1.setCell ⟨B + 1, 0, none⟩ (.int .i64 x)).cell? ad = some (.int .i64 x) := by
    have h9 := (show Below w.heap.size w (W1.setCell ⟨B + 1, 0, none⟩ (.int .i64 x)) by (repeat (refine Below.setCell ?_ (by show w.heap.size ≤ _; rw [hB]; simp) _)); exact hB1)
    have h8 := (h9.cell (HM 0 x rfl).2).trans (HM 0 x rfl).1
    rw [ad_flat] at h8
    exact h8
  have hs11 : (W1.setCell ⟨B + 1, 0, none⟩ (.int .i64 x)).cell? ⟨ad.block, ad.off + 1, none⟩ = some (.int .i64 y) := by
    have h9 := (show Below w.heap.size w (W1.setCell ⟨B + 1, 0, none⟩ (.int .i64 x)) by (repeat (refine Below.setCell ?_ (by show w.heap.size ≤ _; rw [hB]; simp) _)); exact hB1)
    have h8 := (h9.cell (HM 1 y rfl).2).trans (HM 1 y rfl).1
    rw [show ad.add 1 = ⟨ad.block, ad.off + 1, none⟩ by simp [Addr.add]] at h8
    exact h8
  clear hB1 hmm hB
  cases h0 : withinB x 0 30 with
  | false =>
    rw [h0] at HW0
    go_wp2_with fail
    refine wp_loop_rounds 3 ?_
    rw [rounds_succ]
    go_wp2_with (go_at_call 66; (first | ((with_reducible refine (HWL _).out.mono ?_)) | ((with_reducible refine (HW0 _).out.mono ?_)) | ((with_reducible refine (HW1 _).out.mono ?_))); rintro e w' ⟨rfl, rfl⟩)
    all_goals (refine bodyPost_ret (v := .tuple #[sv 0 0 0, .bool false]) (by simp [results, Try.results45, go_sem, cr0, cr1, cr2]) rfl ⟨by first | rfl | (rw [gd]; rfl) | (rw [gd]; simp), ?_⟩; (repeat (refine Below.setCell ?_ (by show w.heap.size ≤ _; rw [HBB.out]; simp) _)); exact HB1.out)
  | true =>
    rw [h0] at HW0
    cases h1 : withinB y 0 30 with
    | false =>
      rw [h1] at HW1
      go_wp2_with fail
      refine wp_loop_rounds 3 ?_
      rw [rounds_succ]
      go_wp2_with (go_at_call 66; (first | ((with_reducible refine (HWL _).out.mono ?_)) | ((with_reducible refine (HW0 _).out.mono ?_)) | ((with_reducible refine (HW1 _).out.mono ?_))); rintro e w' ⟨rfl, rfl⟩)
      rw [rounds_succ]
      go_wp2_with (go_at_call 66; (first | ((with_reducible refine (HWL _).out.mono ?_)) | ((with_reducible refine (HW0 _).out.mono ?_)) | ((with_reducible refine (HW1 _).out.mono ?_))); rintro e w' ⟨rfl, rfl⟩)
      all_goals (refine bodyPost_ret (v := .tuple #[sv 0 0 0, .bool false]) (by simp [results, Try.results45, go_sem, cr0, cr1, cr2]) rfl ⟨by first | rfl | (rw [gd]; rfl) | (rw [gd]; simp), ?_⟩; (repeat (refine Below.setCell ?_ (by show w.heap.size ≤ _; rw [HBB.out]; simp) _)); exact HB1.out)
    | true =>
      rw [h1] at HW1
      by_cases g1 : x ≤ y
      · have g1' : ¬ x > y := by omega
        go_wp2_with fail
        refine wp_loop_rounds 3 ?_
        rw [rounds_succ]
        go_wp2_with (go_at_call 66; (first | ((with_reducible refine (HWL _).out.mono ?_)) | ((with_reducible refine (HW0 _).out.mono ?_)) | ((with_reducible refine (HW1 _).out.mono ?_))); rintro e w' ⟨rfl, rfl⟩)
        rw [rounds_succ]
        go_wp2_with (go_at_call 66; (first | ((with_reducible refine (HWL _).out.mono ?_)) | ((with_reducible refine (HW0 _).out.mono ?_)) | ((with_reducible refine (HW1 _).out.mono ?_))); rintro e w' ⟨rfl, rfl⟩)
        rw [rounds_succ]
        go_wp2_with (go_at_call 66; (first | ((with_reducible refine (HWL _).out.mono ?_)) | ((with_reducible refine (HW0 _).out.mono ?_)) | ((with_reducible refine (HW1 _).out.mono ?_))); rintro e w' ⟨rfl, rfl⟩)
        all_goals (refine bodyPost_ret (v := .tuple #[sv x y 0, .bool true]) (by simp [results, Try.results45, go_sem, cr0, cr1, cr2]) rfl ⟨by first | rfl | (rw [gd]; rfl) | (rw [gd]; simp), ?_⟩; (repeat (refine Below.setCell ?_ (by show w.heap.size ≤ _; rw [HBB.out]; simp) _)); exact HB1.out)
      · have g1' : x > y := by omega
        have gd := decide_eq_false g1
        go_wp2_with fail
        refine wp_loop_rounds 3 ?_
        rw [rounds_succ]
        go_wp2_with (go_at_call 66; (first | ((with_reducible refine (HWL _).out.mono ?_)) | ((with_reducible refine (HW0 _).out.mono ?_)) | ((with_reducible refine (HW1 _).out.mono ?_))); rintro e w' ⟨rfl, rfl⟩)
        rw [rounds_succ]
        go_wp2_with (go_at_call 66; (first | ((with_reducible refine (HWL _).out.mono ?_)) | ((with_reducible refine (HW0 _).out.mono ?_)) | ((with_reducible refine (HW1 _).out.mono ?_))); rintro e w' ⟨rfl, rfl⟩)
        all_goals (refine bodyPost_ret (v := .tuple #[sv 0 0 0, .bool false]) (by simp [results, Try.results45, go_sem, cr0, cr1, cr2]) rfl ⟨by first | rfl | (rw [gd]; rfl) | (rw [gd]; simp), ?_⟩; (repeat (refine Below.setCell ?_ (by show w.heap.size ≤ _; rw [HBB.out]; simp) _)); exact HB1.out)
set_option maxHeartbeats 8000000 in
set_option maxRecDepth 100000 in
theorem spots3_c (A : Option Addr) (c : Nat) (x y z : Int) (w : World) (hr : Kd.C (Kd.int .i64) w A 3 [x, y, z]) :
    Calls Try.prog 45 #[.slice A 3 c] w fun e w' => e = .returned (.tuple #[if posB [x, y, z] then sv x y z else sv 0 0 0, .bool (posB [x, y, z])]) ∧ Below w.heap.size w w' := by
  obtain ⟨ad, rfl, HM⟩ := mem1 (l := [x, y, z]) hr (by simp)
  have hm0 := (HM 0 x rfl).1
  have hm1 := (HM 1 y rfl).1
  have hm2 := (HM 2 z rfl).1
  have HWL := fun W => Lib.hid (within_c 3 1 3 W)
  have hwl : withinB 3 1 3 = true := by decide
  rw [hwl] at HWL
  clear hwl
  have HW0 := fun W => Lib.hid (within_c x 0 30 W)
  have HW1 := fun W => Lib.hid (within_c y 0 30 W)
  have HW2 := fun W => Lib.hid (within_c z 0 30 W)
  unfold posB
  obtain ⟨B, hB⟩ : ∃ B, w.heap.size = B := ⟨_, rfl⟩
  go_enter Try.func45, Try.ntmps45
  go_upto_region 4 with (go_at_call 66; (first | ((with_reducible refine (HWL _).out.mono ?_)) | ((with_reducible refine (HW0 _).out.mono ?_)) | ((with_reducible refine (HW1 _).out.mono ?_)) | ((with_reducible refine (HW2 _).out.mono ?_))); rintro e w' ⟨rfl, rfl⟩)
  have hB1 : Below w.heap.size w ((w.alloc (Obj.cells #[Value.int IntKind.i64 0, Value.int IntKind.i64 0, Value.int IntKind.i64 0] 52)).alloc (Obj.cells #[Value.int IntKind.i64 0, Value.int IntKind.i64 0, Value.int IntKind.i64 0] 52)) := below_new _ _ (below_new _ _ (Below.refl _ _) _) _
  have hmm : ∀ j v, (ad.add j).block < w.heap.size → w.cell? (ad.add j) = some v → ((w.alloc (Obj.cells #[Value.int IntKind.i64 0, Value.int IntKind.i64 0, Value.int IntKind.i64 0] 52)).alloc (Obj.cells #[Value.int IntKind.i64 0, Value.int IntKind.i64 0, Value.int IntKind.i64 0] 52)).cell? (ad.add j) = some v := fun j v h1 h2 => (hB1.cell h1).trans h2
  replace hm0 := hmm 0 _ (HM 0 x rfl).2 (HM 0 x rfl).1
  replace hm1 := hmm 1 _ (HM 1 y rfl).2 (HM 1 y rfl).1
  replace hm2 := hmm 2 _ (HM 2 z rfl).2 (HM 2 z rfl).1
  rw [ad_flat] at hm0
  rw [show ad.add 1 = ⟨ad.block, ad.off + 1, none⟩ by simp [Addr.add]] at hm1
  rw [show ad.add 2 = ⟨ad.block, ad.off + 2, none⟩ by simp [Addr.add]] at hm2
  have cr0 : ((w.alloc (Obj.cells #[Value.int IntKind.i64 0, Value.int IntKind.i64 0, Value.int IntKind.i64 0] 52)).alloc (Obj.cells #[Value.int IntKind.i64 0, Value.int IntKind.i64 0, Value.int IntKind.i64 0] 52)).cell? ⟨B, 0, none⟩ = some (.int .i64 0) := by rw [← hB]; simp [go_sem]
  have fr0 : ((w.alloc (Obj.cells #[Value.int IntKind.i64 0, Value.int IntKind.i64 0, Value.int IntKind.i64 0] 52)).alloc (Obj.cells #[Value.int IntKind.i64 0, Value.int IntKind.i64 0, Value.int IntKind.i64 0] 52)).frozen? ⟨B, 0, none⟩ = false := by rw [← hB]; simp [go_sem]
  have cr1 : ((w.alloc (Obj.cells #[Value.int IntKind.i64 0, Value.int IntKind.i64 0, Value.int IntKind.i64 0] 52)).alloc (Obj.cells #[Value.int IntKind.i64 0, Value.int IntKind.i64 0, Value.int IntKind.i64 0] 52)).cell? ⟨B, 1, none⟩ = some (.int .i64 0) := by rw [← hB]; simp [go_sem]
  have fr1 : ((w.alloc (Obj.cells #[Value.int IntKind.i64 0, Value.int IntKind.i64 0, Value.int IntKind.i64 0] 52)).alloc (Obj.cells #[Value.int IntKind.i64 0, Value.int IntKind.i64 0, Value.int IntKind.i64 0] 52)).frozen? ⟨B, 1, none⟩ = false := by rw [← hB]; simp [go_sem]
  have cr2 : ((w.alloc (Obj.cells #[Value.int IntKind.i64 0, Value.int IntKind.i64 0, Value.int IntKind.i64 0] 52)).alloc (Obj.cells #[Value.int IntKind.i64 0, Value.int IntKind.i64 0, Value.int IntKind.i64 0] 52)).cell? ⟨B, 2, none⟩ = some (.int .i64 0) := by rw [← hB]; simp [go_sem]
  have fr2 : ((w.alloc (Obj.cells #[Value.int IntKind.i64 0, Value.int IntKind.i64 0, Value.int IntKind.i64 0] 52)).alloc (Obj.cells #[Value.int IntKind.i64 0, Value.int IntKind.i64 0, Value.int IntKind.i64 0] 52)).frozen? ⟨B, 2, none⟩ = false := by rw [← hB]; simp [go_sem]
  have co0 : ((w.alloc (Obj.cells #[Value.int IntKind.i64 0, Value.int IntKind.i64 0, Value.int IntKind.i64 0] 52)).alloc (Obj.cells #[Value.int IntKind.i64 0, Value.int IntKind.i64 0, Value.int IntKind.i64 0] 52)).cell? ⟨B + 1, 0, none⟩ = some (.int .i64 0) := by rw [← hB]; simp [go_sem]
  have fo0 : ((w.alloc (Obj.cells #[Value.int IntKind.i64 0, Value.int IntKind.i64 0, Value.int IntKind.i64 0] 52)).alloc (Obj.cells #[Value.int IntKind.i64 0, Value.int IntKind.i64 0, Value.int IntKind.i64 0] 52)).frozen? ⟨B + 1, 0, none⟩ = false := by rw [← hB]; simp [go_sem]
  have co1 : ((w.alloc (Obj.cells #[Value.int IntKind.i64 0, Value.int IntKind.i64 0, Value.int IntKind.i64 0] 52)).alloc (Obj.cells #[Value.int IntKind.i64 0, Value.int IntKind.i64 0, Value.int IntKind.i64 0] 52)).cell? ⟨B + 1, 1, none⟩ = some (.int .i64 0) := by rw [← hB]; simp [go_sem]
  have fo1 : ((w.alloc (Obj.cells #[Value.int IntKind.i64 0, Value.int IntKind.i64 0, Value.int IntKind.i64 0] 52)).alloc (Obj.cells #[Value.int IntKind.i64 0, Value.int IntKind.i64 0, Value.int IntKind.i64 0] 52)).frozen? ⟨B + 1, 1, none⟩ = false := by rw [← hB]; simp [go_sem]
  have co2 : ((w.alloc (Obj.cells #[Value.int IntKind.i64 0, Value.int IntKind.i64 0, Value.int IntKind.i64 0] 52)).alloc (Obj.cells #[Value.int IntKind.i64 0, Value.int IntKind.i64 0, Value.int IntKind.i64 0] 52)).cell? ⟨B + 1, 2, none⟩ = some (.int .i64 0) := by rw [← hB]; simp [go_sem]
  have fo2 : ((w.alloc (Obj.cells #[Value.int IntKind.i64 0, Value.int IntKind.i64 0, Value.int IntKind.i64 0] 52)).alloc (Obj.cells #[Value.int IntKind.i64 0, Value.int IntKind.i64 0, Value.int IntKind.i64 0] 52)).frozen? ⟨B + 1, 2, none⟩ = false := by rw [← hB]; simp [go_sem]
  generalize ((w.alloc (Obj.cells #[Value.int IntKind.i64 0, Value.int IntKind.i64 0, Value.int IntKind.i64 0] 52)).alloc (Obj.cells #[Value.int IntKind.i64 0, Value.int IntKind.i64 0, Value.int IntKind.i64 0] 52)) = W1 at *
  have HB1 := Lib.hid hB1
  have HBB := Lib.hid hB
  have hs10 : (W1.setCell ⟨B + 1, 0, none⟩ (.int .i64 x)).cell? ad = some (.int .i64 x) := by
    have h9 := (show Below w.heap.size w (W1.setCell ⟨B + 1, 0, none⟩ (.int .i64 x)) by (repeat (refine Below.setCell ?_ (by show w.heap.size ≤ _; rw [hB]; simp) _)); exact hB1)
    have h8 := (h9.cell (HM 0 x rfl).2).trans (HM 0 x rfl).1
    rw [ad_flat] at h8
    exact h8
  have hs11 : (W1.setCell ⟨B + 1, 0, none⟩ (.int .i64 x)).cell? ⟨ad.block, ad.off + 1, none⟩ = some (.int .i64 y) := by
    have h9 := (show Below w.heap.size w (W1.setCell ⟨B + 1, 0, none⟩ (.int .i64 x)) by (repeat (refine Below.setCell ?_ (by show w.heap.size ≤ _; rw [hB]; simp) _)); exact hB1)
    have h8 := (h9.cell (HM 1 y rfl).2).trans (HM 1 y rfl).1
    rw [show ad.add 1 = ⟨ad.block, ad.off + 1, none⟩ by simp [Addr.add]] at h8
    exact h8
  have hs12 : (W1.setCell ⟨B + 1, 0, none⟩ (.int .i64 x)).cell? ⟨ad.block, ad.off + 2, none⟩ = some (.int .i64 z) := by
    have h9 := (show Below w.heap.size w (W1.setCell ⟨B + 1, 0, none⟩ (.int .i64 x)) by (repeat (refine Below.setCell ?_ (by show w.heap.size ≤ _; rw [hB]; simp) _)); exact hB1)
    have h8 := (h9.cell (HM 2 z rfl).2).trans (HM 2 z rfl).1
    rw [show ad.add 2 = ⟨ad.block, ad.off + 2, none⟩ by simp [Addr.add]] at h8
    exact h8
  have hs20 : ((W1.setCell ⟨B + 1, 0, none⟩ (.int .i64 x)).setCell ⟨B + 1, 1, none⟩ (.int .i64 y)).cell? ad = some (.int .i64 x) := by
    have h9 := (show Below w.heap.size w ((W1.setCell ⟨B + 1, 0, none⟩ (.int .i64 x)).setCell ⟨B + 1, 1, none⟩ (.int .i64 y)) by (repeat (refine Below.setCell ?_ (by show w.heap.size ≤ _; rw [hB]; simp) _)); exact hB1)
    have h8 := (h9.cell (HM 0 x rfl).2).trans (HM 0 x rfl).1
    rw [ad_flat] at h8
    exact h8
  have hs21 : ((W1.setCell ⟨B + 1, 0, none⟩ (.int .i64 x)).setCell ⟨B + 1, 1, none⟩ (.int .i64 y)).cell? ⟨ad.block, ad.off + 1, none⟩ = some (.int .i64 y) := by
    have h9 := (show Below w.heap.size w ((W1.setCell ⟨B + 1, 0, none⟩ (.int .i64 x)).setCell ⟨B + 1, 1, none⟩ (.int .i64 y)) by (repeat (refine Below.setCell ?_ (by show w.heap.size ≤ _; rw [hB]; simp) _)); exact hB1)
    have h8 := (h9.cell (HM 1 y rfl).2).trans (HM 1 y rfl).1
    rw [show ad.add 1 = ⟨ad.block, ad.off + 1, none⟩ by simp [Addr.add]] at h8
    exact h8
  have hs22 : ((W1.setCell ⟨B + 1, 0, none⟩ (.int .i64 x)).setCell ⟨B + 1, 1, none⟩ (.int .i64 y)).cell? ⟨ad.block, ad.off + 2, none⟩ = some (.int .i64 z) := by
    have h9 := (show Below w.heap.size w ((W1.setCell ⟨B + 1, 0, none⟩ (.int .i64 x)).setCell ⟨B + 1, 1, none⟩ (.int .i64 y)) by (repeat (refine Below.setCell ?_ (by show w.heap.size ≤ _; rw [hB]; simp) _)); exact hB1)
    have h8 := (h9.cell (HM 2 z rfl).2).trans (HM 2 z rfl).1
    rw [show ad.add 2 = ⟨ad.block, ad.off + 2, none⟩ by simp [Addr.add]] at h8
    exact h8
  clear hB1 hmm hB
  cases h0 : withinB x 0 30 with
  | false =>
    rw [h0] at HW0
    go_wp2_with fail
    refine wp_loop_rounds 4 ?_
    rw [rounds_succ]
    go_wp2_with (go_at_call 66; (first | ((with_reducible refine (HWL _).out.mono ?_)) | ((with_reducible refine (HW0 _).out.mono ?_)) | ((with_reducible refine (HW1 _).out.mono ?_)) | ((with_reducible refine (HW2 _).out.mono ?_))); rintro e w' ⟨rfl, rfl⟩)
    all_goals (refine bodyPost_ret (v := .tuple #[sv 0 0 0, .bool false]) (by simp [results, Try.results45, go_sem, cr0, cr1, cr2]) rfl ⟨by first | rfl | (rw [gd]; rfl) | (rw [gd]; simp), ?_⟩; (repeat (refine Below.setCell ?_ (by show w.heap.size ≤ _; rw [HBB.out]; simp) _)); exact HB1.out)
  | true =>
    rw [h0] at HW0
    cases h1 : withinB y 0 30 with
    | false =>
      rw [h1] at HW1
      go_wp2_with fail
      refine wp_loop_rounds 4 ?_
      rw [rounds_succ]
      go_wp2_with (go_at_call 66; (first | ((with_reducible refine (HWL _).out.mono ?_)) | ((with_reducible refine (HW0 _).out.mono ?_)) | ((with_reducible refine (HW1 _).out.mono ?_)) | ((with_reducible refine (HW2 _).out.mono ?_))); rintro e w' ⟨rfl, rfl⟩)
      rw [rounds_succ]
      go_wp2_with (go_at_call 66; (first | ((with_reducible refine (HWL _).out.mono ?_)) | ((with_reducible refine (HW0 _).out.mono ?_)) | ((with_reducible refine (HW1 _).out.mono ?_)) | ((with_reducible refine (HW2 _).out.mono ?_))); rintro e w' ⟨rfl, rfl⟩)
      all_goals (refine bodyPost_ret (v := .tuple #[sv 0 0 0, .bool false]) (by simp [results, Try.results45, go_sem, cr0, cr1, cr2]) rfl ⟨by first | rfl | (rw [gd]; rfl) | (rw [gd]; simp), ?_⟩; (repeat (refine Below.setCell ?_ (by show w.heap.size ≤ _; rw [HBB.out]; simp) _)); exact HB1.out)
    | true =>
      rw [h1] at HW1
      by_cases g1 : x ≤ y
      · have g1' : ¬ x > y := by omega
        cases h2 : withinB z 0 30 with
        | false =>
          rw [h2] at HW2
          go_wp2_with fail
          refine wp_loop_rounds 4 ?_
          rw [rounds_succ]
          go_wp2_with (go_at_call 66; (first | ((with_reducible refine (HWL _).out.mono ?_)) | ((with_reducible refine (HW0 _).out.mono ?_)) | ((with_reducible refine (HW1 _).out.mono ?_)) | ((with_reducible refine (HW2 _).out.mono ?_))); rintro e w' ⟨rfl, rfl⟩)
          rw [rounds_succ]
          go_wp2_with (go_at_call 66; (first | ((with_reducible refine (HWL _).out.mono ?_)) | ((with_reducible refine (HW0 _).out.mono ?_)) | ((with_reducible refine (HW1 _).out.mono ?_)) | ((with_reducible refine (HW2 _).out.mono ?_))); rintro e w' ⟨rfl, rfl⟩)
          rw [rounds_succ]
          go_wp2_with (go_at_call 66; (first | ((with_reducible refine (HWL _).out.mono ?_)) | ((with_reducible refine (HW0 _).out.mono ?_)) | ((with_reducible refine (HW1 _).out.mono ?_)) | ((with_reducible refine (HW2 _).out.mono ?_))); rintro e w' ⟨rfl, rfl⟩)
          all_goals (refine bodyPost_ret (v := .tuple #[sv 0 0 0, .bool false]) (by simp [results, Try.results45, go_sem, cr0, cr1, cr2]) rfl ⟨by first | rfl | (rw [gd]; rfl) | (rw [gd]; simp), ?_⟩; (repeat (refine Below.setCell ?_ (by show w.heap.size ≤ _; rw [HBB.out]; simp) _)); exact HB1.out)
        | true =>
          rw [h2] at HW2
          by_cases g2 : y ≤ z
          · have g2' : ¬ y > z := by omega
            go_wp2_with fail
            refine wp_loop_rounds 4 ?_
            rw [rounds_succ]
            go_wp2_with (go_at_call 66; (first | ((with_reducible refine (HWL _).out.mono ?_)) | ((with_reducible refine (HW0 _).out.mono ?_)) | ((with_reducible refine (HW1 _).out.mono ?_)) | ((with_reducible refine (HW2 _).out.mono ?_))); rintro e w' ⟨rfl, rfl⟩)
            rw [rounds_succ]
            go_wp2_with (go_at_call 66; (first | ((with_reducible refine (HWL _).out.mono ?_)) | ((with_reducible refine (HW0 _).out.mono ?_)) | ((with_reducible refine (HW1 _).out.mono ?_)) | ((with_reducible refine (HW2 _).out.mono ?_))); rintro e w' ⟨rfl, rfl⟩)
            rw [rounds_succ]
            go_wp2_with (go_at_call 66; (first | ((with_reducible refine (HWL _).out.mono ?_)) | ((with_reducible refine (HW0 _).out.mono ?_)) | ((with_reducible refine (HW1 _).out.mono ?_)) | ((with_reducible refine (HW2 _).out.mono ?_))); rintro e w' ⟨rfl, rfl⟩)
            rw [rounds_succ]
            go_wp2_with (go_at_call 66; (first | ((with_reducible refine (HWL _).out.mono ?_)) | ((with_reducible refine (HW0 _).out.mono ?_)) | ((with_reducible refine (HW1 _).out.mono ?_)) | ((with_reducible refine (HW2 _).out.mono ?_))); rintro e w' ⟨rfl, rfl⟩)
            all_goals (refine bodyPost_ret (v := .tuple #[sv x y z, .bool true]) (by simp [results, Try.results45, go_sem, cr0, cr1, cr2]) rfl ⟨by first | rfl | (rw [gd]; rfl) | (rw [gd]; simp), ?_⟩; (repeat (refine Below.setCell ?_ (by show w.heap.size ≤ _; rw [HBB.out]; simp) _)); exact HB1.out)
          · have g2' : y > z := by omega
            have gd := decide_eq_false g2
            go_wp2_with fail
            refine wp_loop_rounds 4 ?_
            rw [rounds_succ]
            go_wp2_with (go_at_call 66; (first | ((with_reducible refine (HWL _).out.mono ?_)) | ((with_reducible refine (HW0 _).out.mono ?_)) | ((with_reducible refine (HW1 _).out.mono ?_)) | ((with_reducible refine (HW2 _).out.mono ?_))); rintro e w' ⟨rfl, rfl⟩)
            rw [rounds_succ]
            go_wp2_with (go_at_call 66; (first | ((with_reducible refine (HWL _).out.mono ?_)) | ((with_reducible refine (HW0 _).out.mono ?_)) | ((with_reducible refine (HW1 _).out.mono ?_)) | ((with_reducible refine (HW2 _).out.mono ?_))); rintro e w' ⟨rfl, rfl⟩)
            rw [rounds_succ]
            go_wp2_with (go_at_call 66; (first | ((with_reducible refine (HWL _).out.mono ?_)) | ((with_reducible refine (HW0 _).out.mono ?_)) | ((with_reducible refine (HW1 _).out.mono ?_)) | ((with_reducible refine (HW2 _).out.mono ?_))); rintro e w' ⟨rfl, rfl⟩)
            all_goals (refine bodyPost_ret (v := .tuple #[sv 0 0 0, .bool false]) (by simp [results, Try.results45, go_sem, cr0, cr1, cr2]) rfl ⟨by first | rfl | (rw [gd]; rfl) | (rw [gd]; simp), ?_⟩; (repeat (refine Below.setCell ?_ (by show w.heap.size ≤ _; rw [HBB.out]; simp) _)); exact HB1.out)
      · have g1' : x > y := by omega
        have gd := decide_eq_false g1
        go_wp2_with fail
        refine wp_loop_rounds 4 ?_
        rw [rounds_succ]
        go_wp2_with (go_at_call 66; (first | ((with_reducible refine (HWL _).out.mono ?_)) | ((with_reducible refine (HW0 _).out.mono ?_)) | ((with_reducible refine (HW1 _).out.mono ?_)) | ((with_reducible refine (HW2 _).out.mono ?_))); rintro e w' ⟨rfl, rfl⟩)
        rw [rounds_succ]
        go_wp2_with (go_at_call 66; (first | ((with_reducible refine (HWL _).out.mono ?_)) | ((with_reducible refine (HW0 _).out.mono ?_)) | ((with_reducible refine (HW1 _).out.mono ?_)) | ((with_reducible refine (HW2 _).out.mono ?_))); rintro e w' ⟨rfl, rfl⟩)
        all_goals (refine bodyPost_ret (v := .tuple #[sv 0 0 0, .bool false]) (by simp [results, Try.results45, go_sem, cr0, cr1, cr2]) rfl ⟨by first | rfl | (rw [gd]; rfl) | (rw [gd]; simp), ?_⟩; (repeat (refine Below.setCell ?_ (by show w.heap.size ≤ _; rw [HBB.out]; simp) _)); exact HB1.out)
set_option maxHeartbeats 4000000 in
set_option maxRecDepth 100000 in
theorem spotsN_c (A : Option Addr) (c : Nat) (l : List Int) (w : World) (h : withinB l.length 1 3 = false) :
    Calls Try.prog 45 #[.slice A l.length c] w fun e w' => e = .returned (.tuple #[sv 0 0 0, .bool false]) ∧ Below w.heap.size w w' := by
  obtain ⟨n, hn⟩ : ∃ n, l.length = n := ⟨_, rfl⟩
  rw [hn] at h ⊢
  have HWL := fun W => Lib.hid (within_c n 1 3 W)
  rw [h] at HWL
  clear h hn
  obtain ⟨B, hB⟩ : ∃ B, w.heap.size = B := ⟨_, rfl⟩
  go_enter Try.func45, Try.ntmps45
  go_wp2_with (go_at_call 66; (with_reducible refine (HWL _).out.mono ?_); rintro e w' ⟨rfl, rfl⟩)
  all_goals (refine bodyPost_ret (v := .tuple #[sv 0 0 0, .bool false]) (by simp [results, Try.results45, go_sem, hB]) rfl ⟨rfl, ?_⟩; (repeat (refine Below.setCell ?_ (by show w.heap.size ≤ _; rw [hB]; simp) _)); exact below_new _ _ (Below.refl _ _) _)
def pad (l : List Int) : Value := sv (l.getD 0 0) (l.getD 1 0) (l.getD 2 0)
theorem spots_c (A : Option Addr) (c : Nat) (l : List Int) (w : World) (hr : Kd.C (Kd.int .i64) w A l.length l) :
    Calls Try.prog 45 #[.slice A l.length c] w fun e w' => e = .returned (.tuple #[if posB l then pad l else sv 0 0 0, .bool (posB l)]) ∧ Below w.heap.size w w' := by
  match l, hr with
  | [], _ => exact spotsN_c A c [] w (by decide)
  | [x], hr => exact spots1_c A c x w hr
  | [x, y], hr => exact spots2_c A c x y w hr
  | [x, y, z], hr => exact spots3_c A c x y z w hr
  | a :: b :: d :: e :: l, _ => exact spotsN_c A c (a :: b :: d :: e :: l) w (by simp [withinB]; omega)
end Go.Proofs.Ytakbijpcfnipoaa.A
