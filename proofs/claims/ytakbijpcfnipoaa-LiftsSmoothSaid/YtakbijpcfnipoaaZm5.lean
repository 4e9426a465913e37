/- What the statements of this seat lean on: the functions that they reach, walked. -/
import Derived.RangeFuncNested
import Derived.RangeFuncBound
import Derived.RangeFuncLeaves
import Derived.OrdersIn
import Derived.WalkKit
import Derived.OwnWalkIn
import Derived.TacticsInMore
import Derived.LoopIn
import Derived.Laws.EntriesVeiled
import Derived.Maps.OwnSet
import Derived.Maps.OwnIn
import Derived.Maps.Ext
import Derived.DeepKeys4
import Derived.ChangeKeys
import Derived.Maps.RangeWalk
import Derived.Test.YtakbijpcfnipoaaZm4
set_option linter.unusedSimpArgs false
set_option linter.unusedVariables false

set_option linter.unusedVariables false
set_option linter.unusedSimpArgs false
namespace Go.Proofs.Ytakbijpcfnipoaa.A
open Go.RowKit Go.Proofs.YtakbijpcfnipoaaW.PrintWords Go.Proofs.YtakbijpcfnipoaaW.PrintLast Go.Proofs.YtakbijpcfnipoaaW.PrintMore
open Go.Proofs.Ytakbijpcfnipoaa.PA Go.Proofs.Ytakbijpcfnipoaa.Lf
theorem wrap_id {x : Int} (h0 : -1000000 ≤ x) (h1 : x ≤ 1000000) : wrap64 x = x := by unfold wrap64; omega
theorem ret_sv {a b c a' b' c' : Int} (h0 : a = a') (h1 : b = b') (h2 : c = c') : Ending.returned (sv a b c) = .returned (sv a' b' c') := by rw [h0, h1, h2]
theorem careful1 (s0 s1 s2 : Int) (A : Option Addr) (n c : Nat) (x f : Int) (w : World) :
    Calls Try.prog 57 #[hv (1 : Nat) s0 s1 s2 (.slice A n c), sv x 0 0, .int .i64 f] w fun e w' => e = .returned (pad (Lf.serve [x] f)) ∧ Below w.heap.size w w' := by
  rw [serve1]
  by_cases h : f = x
  · subst h
    exact care1_has s0 s1 s2 A n c f 0 0 f (by simp [T3]) w
  · have hh : (T3 1 x 0 0).contains f = false := by simpa [T3] using h
    by_cases h2 : f < x
    · exact care1_lo s0 s1 s2 A n c x 0 0 f hh h2 w
    · exact care1_hi s0 s1 s2 A n c x 0 0 f hh h2 (by omega) w
theorem careful2 (s0 s1 s2 : Int) (A : Option Addr) (n c : Nat) (x y f : Int) (hx : Fl x) (hy : Fl y) (hf : Fl f) (hxy : x ≤ y) (w : World) :
    Calls Try.prog 57 #[hv (2 : Nat) s0 s1 s2 (.slice A n c), sv x y 0, .int .i64 f] w fun e w' => e = .returned (pad (Lf.serve [x, y] f)) ∧ Below w.heap.size w w' := by
  rw [serve2 hxy]
  by_cases h : f = x ∨ f = y
  · rw [if_pos h]
    exact care2_has s0 s1 s2 A n c x y 0 f (by simpa [T3] using h) w
  · have hh : (T3 2 x y 0).contains f = false := by simpa [T3] using h
    rw [if_neg h]
    by_cases h2 : f < x
    · rw [if_pos h2]
      exact care2_lo s0 s1 s2 A n c x y 0 f hh h2 w
    · rw [if_neg h2]
      by_cases h3 : y < f
      · rw [if_pos h3]
        exact care2_hi s0 s1 s2 A n c x y 0 f hh h2 h3 w
      · rw [if_neg h3]
        have hid : idxF (gtB f) (T3 2 x y 0) = 1 := by
          have e1 : gtB f x = false := by simp [gtB]; omega
          have e2 : gtB f y = true := by simp [gtB]; omega
          simp [idxF, T3, List.findIdx?_cons, e1, e2]
        refine (care2_mid1 s0 s1 s2 A n c x y 0 f hh h2 h3 hid _ rfl w).mono fun e w' ⟨he, hb⟩ => ⟨he.trans (ret_sv ?_ ?_ rfl), hb⟩
        · have e1 := wrap_id (x := y - f) (by omega) (by omega)
          have e2 := wrap_id (x := f - x) (by omega) (by omega)
          rw [e1, e2]
          exact wrap_id (by omega) (by omega)
        · have e1 := wrap_id (x := y - f) (by omega) (by omega)
          have e2 := wrap_id (x := f - x) (by omega) (by omega)
          rw [e1, e2]
          exact wrap_id (by omega) (by omega)
theorem careful3 (s0 s1 s2 : Int) (A : Option Addr) (n c : Nat) (x y z f : Int) (hx : Fl x) (hy : Fl y) (hz : Fl z) (hf : Fl f) (hxy : x ≤ y) (hyz : y ≤ z) (w : World) :
    Calls Try.prog 57 #[hv (3 : Nat) s0 s1 s2 (.slice A n c), sv x y z, .int .i64 f] w fun e w' => e = .returned (pad (Lf.serve [x, y, z] f)) ∧ Below w.heap.size w w' := by
  rw [serve3 hxy hyz]
  by_cases h : f = x ∨ f = y ∨ f = z
  · rw [if_pos h]
    exact care3_has s0 s1 s2 A n c x y z f (by simpa [T3] using h) w
  · have hh : (T3 3 x y z).contains f = false := by simpa [T3] using h
    rw [if_neg h]
    by_cases h2 : f < x
    · rw [if_pos h2]
      exact care3_lo s0 s1 s2 A n c x y z f hh h2 w
    · rw [if_neg h2]
      have e1 : gtB f x = false := by simp [gtB]; omega
      by_cases h3 : z < f
      · rw [if_pos h3]
        exact care3_hi s0 s1 s2 A n c x y z f hh h2 h3 w
      · rw [if_neg h3]
        by_cases h4 : f < y
        · rw [if_pos h4]
          have hid : idxF (gtB f) (T3 3 x y z) = 1 := by
            have e2 : gtB f y = true := by simp [gtB]; omega
            simp [idxF, T3, List.findIdx?_cons, e1, e2]
          refine (care3_mid1 s0 s1 s2 A n c x y z f hh h2 h3 hid _ rfl w).mono fun e w' ⟨he, hb⟩ => ⟨he.trans (ret_sv ?_ ?_ rfl), hb⟩
          · have e1 := wrap_id (x := y - f) (by omega) (by omega)
            have e2 := wrap_id (x := f - x) (by omega) (by omega)
            rw [e1, e2]
            exact wrap_id (by omega) (by omega)
          · have e1 := wrap_id (x := y - f) (by omega) (by omega)
            have e2 := wrap_id (x := f - x) (by omega) (by omega)
            rw [e1, e2]
            exact wrap_id (by omega) (by omega)
        · rw [if_neg h4]
          have hid : idxF (gtB f) (T3 3 x y z) = 2 := by
            have e2 : gtB f y = false := by simp [gtB]; omega
            have e3 : gtB f z = true := by simp [gtB]; omega
            simp [idxF, T3, List.findIdx?_cons, e1, e2, e3]
          refine (care3_mid2 s0 s1 s2 A n c x y z f hh h2 h3 hid _ rfl w).mono fun e w' ⟨he, hb⟩ => ⟨he.trans (ret_sv rfl ?_ ?_), hb⟩
          · have e1 := wrap_id (x := z - f) (by omega) (by omega)
            have e2 := wrap_id (x := f - y) (by omega) (by omega)
            rw [e1, e2]
            exact wrap_id (by omega) (by omega)
          · have e1 := wrap_id (x := z - f) (by omega) (by omega)
            have e2 := wrap_id (x := f - y) (by omega) (by omega)
            rw [e1, e2]
            exact wrap_id (by omega) (by omega)
theorem careful_c {k : Nat} (hk1 : 1 ≤ k) (hk3 : k ≤ 3) (s0 s1 s2 : Int) (A : Option Addr) (n c : Nat) {s : List Int} (hs : Pos k s) (f : Int) (hf : Fl f) (w : World) :
    Calls Try.prog 57 #[hv k s0 s1 s2 (.slice A n c), pad s, .int .i64 f] w fun e w' => e = .returned (pad (Lf.serve s f)) ∧ Below w.heap.size w w' := by
  rcases kCases hk1 hk3 with rfl | rfl | rfl
  · obtain ⟨x, rfl, x0, x1⟩ := pos1 hs
    exact careful1 s0 s1 s2 A n c x f w
  · obtain ⟨x, y, rfl, x0, x1, x2⟩ := pos2 hs
    exact careful2 s0 s1 s2 A n c x y f ⟨x0, by omega⟩ ⟨by omega, x2⟩ hf x1 w
  · obtain ⟨x, y, z, rfl, x0, x1, x2, x3⟩ := pos3 hs
    exact careful3 s0 s1 s2 A n c x y z f ⟨x0, by omega⟩ ⟨by omega, by omega⟩ ⟨by omega, x3⟩ hf x1 x2 w
end Go.Proofs.Ytakbijpcfnipoaa.A

namespace Go.Proofs.Ytakbijpcfnipoaa.A
open Go.RowKit Go.Proofs.YtakbijpcfnipoaaW.PrintWords Go.Proofs.YtakbijpcfnipoaaW.PrintLast Go.Proofs.YtakbijpcfnipoaaW.PrintMore
open Go.Proofs.Ytakbijpcfnipoaa.PA Go.Proofs.Ytakbijpcfnipoaa.Lf
set_option linter.unusedVariables false
set_option linter.unusedSimpArgs false
def costs (p : Nat → List Int) : Nat → Int
  | 0 => 0
  | i + 1 => costs p i + dist (p i) (p (i + 1))
def outs (p : Nat → List Int) (i : Nat) : List (List Int) := (List.range i).map (fun j => p (j + 1))
theorem outs_succ (p : Nat → List Int) (i : Nat) : outs p (i + 1) = outs p i ++ [p (i + 1)] := by
  unfold outs; rw [List.range_succ, List.map_append]; rfl
theorem outs_len (p : Nat → List Int) (i : Nat) : (outs p i).length = i := by simp [outs]
theorem dist_bd {k : Nat} (hk3 : k ≤ 3) {a b : List Int} (ha : Pos k a) (hb : Pos k b) : 0 ≤ dist a b ∧ dist a b ≤ 90 := by
  refine ⟨dist_nonneg a b, ?_⟩
  have key : ∀ (a b : List Int), (∀ x ∈ a, Fl x) → (∀ x ∈ b, Fl x) → dist a b ≤ 30 * a.length := by
    intro a
    induction a with
    | nil => intro b _ _; simp [dist]
    | cons x a ih =>
      intro b h1 h2
      cases b with
      | nil => simp [dist]; omega
      | cons y b =>
        have := ih b (fun z hz => h1 z (List.mem_cons_of_mem _ hz)) (fun z hz => h2 z (List.mem_cons_of_mem _ hz))
        have h3 := h1 x List.mem_cons_self
        have h4 := h2 y List.mem_cons_self
        have : ab x y ≤ 30 := by unfold ab; omega
        show ab x y + dist a b ≤ 30 * ((a.length + 1 : Nat) : Int)
        omega
  have := key a b ha.rng hb.rng
  rw [ha.len] at this
  omega
theorem costs_bd {k n : Nat} (hk3 : k ≤ 3) {p : Nat → List Int} (hp : ∀ i, i ≤ n → Pos k (p i)) : ∀ i, i ≤ n → 0 ≤ costs p i ∧ costs p i ≤ 90 * i
  | 0, _ => by simp [costs]
  | i + 1, h => by
    have h1 := costs_bd hk3 hp i (by omega)
    have h2 := dist_bd hk3 (hp i (by omega)) (hp (i + 1) h)
    unfold costs
    omega
theorem dist_pad {k : Nat} (hk1 : 1 ≤ k) (hk3 : k ≤ 3) (s0 s1 s2 : Int) (A : Option Addr) (n c : Nat) {a b : List Int} (ha : Pos k a) (hb : Pos k b) (w : World) :
    Calls Try.prog 48 #[hv k s0 s1 s2 (.slice A n c), pad a, pad b] w fun e w' => e = .returned (.int .i64 (dist a b)) ∧ Below w.heap.size w w' := by
  have hf : ∀ {s : List Int}, Pos k s → ∀ j, Fl (s.getD j 0) := by
    intro s hs j
    by_cases h : j < s.length
    · rw [List.getD_eq_getElem?_getD, List.getElem?_eq_getElem h]
      exact hs.rng _ (List.getElem_mem h)
    · rw [getD_out (by omega)]
      exact ⟨by omega, by omega⟩
  have h := dist3_c k hk1 hk3 s0 s1 s2 A n c _ _ _ _ _ _ (hf ha 0) (hf ha 1) (hf ha 2) (hf hb 0) (hf hb 1) (hf hb 2) w
  rw [sum_dist _ _ _ _ _ _ _ hk3] at h
  rw [show List.take k [a.getD 0 0, a.getD 1 0, a.getD 2 0] = a from t3_self ha.len hk3, show List.take k [b.getD 0 0, b.getD 1 0, b.getD 2 0] = b from t3_self hb.len hk3] at h
  exact h
structure HallAt (B : Nat) (k s0 s1 s2 : Int) (v : Value) (W : World) : Prop where
  h0 : W.cell? ⟨B, 0, none⟩ = some (.int .i64 k)
  h1 : W.cell? ⟨B, 1, none⟩ = some (.int .i64 s0)
  h2 : W.cell? ⟨B, 2, none⟩ = some (.int .i64 s1)
  h3 : W.cell? ⟨B, 3, none⟩ = some (.int .i64 s2)
  h4 : W.cell? ⟨B, 4, none⟩ = some v
theorem HallAt.of {B : Nat} {k s0 s1 s2 : Int} {v : Value} {W W' : World} (h : HallAt B k s0 s1 s2 v W) (hb : W'.heap[B]? = W.heap[B]?) : HallAt B k s0 s1 s2 v W' :=
  ⟨(World.cell?_of_block hb).trans h.h0, (World.cell?_of_block hb).trans h.h1, (World.cell?_of_block hb).trans h.h2, (World.cell?_of_block hb).trans h.h3, (World.cell?_of_block hb).trans h.h4⟩
theorem HallAt.lt {B : Nat} {k s0 s1 s2 : Int} {v : Value} {W : World} (h : HallAt B k s0 s1 s2 v W) : B < W.heap.size := World.block_lt_of_cell? W _ h.h0
structure SpotsAt (B : Nat) (a b c : Int) (W : World) : Prop where
  h0 : W.cell? ⟨B, 0, none⟩ = some (.int .i64 a)
  h1 : W.cell? ⟨B, 1, none⟩ = some (.int .i64 b)
  h2 : W.cell? ⟨B, 2, none⟩ = some (.int .i64 c)
  f0 : W.frozen? ⟨B, 0, none⟩ = false
  f1 : W.frozen? ⟨B, 1, none⟩ = false
  f2 : W.frozen? ⟨B, 2, none⟩ = false
  hc : ∃ cs e fr, W.heap[B]? = some (.cells cs e fr)
theorem SpotsAt.of {B : Nat} {a b c : Int} {W W' : World} (h : SpotsAt B a b c W) (hb : W'.heap[B]? = W.heap[B]?) : SpotsAt B a b c W' :=
  ⟨(World.cell?_of_block hb).trans h.h0, (World.cell?_of_block hb).trans h.h1, (World.cell?_of_block hb).trans h.h2, (World.frozen?_of_block hb).trans h.f0, (World.frozen?_of_block hb).trans h.f1, (World.frozen?_of_block hb).trans h.f2, by rw [hb]; exact h.hc⟩
theorem SpotsAt.lt {B : Nat} {a b c : Int} {W : World} (h : SpotsAt B a b c W) : B < W.heap.size := World.block_lt_of_cell? W _ h.h0
theorem SpotsAt.new (W : World) (a b c : Int) : SpotsAt W.heap.size a b c (W.alloc (Obj.cells #[Value.int IntKind.i64 a, Value.int IntKind.i64 b, Value.int IntKind.i64 c] 52)) := by
  refine ⟨by simp [go_sem], by simp [go_sem], by simp [go_sem], by simp [go_sem], by simp [go_sem], by simp [go_sem], ⟨_, _, _, heap_alloc_new W _⟩⟩
theorem SpotsAt.put {B : Nat} {a b c : Int} {W : World} (h : SpotsAt B a b c W) (x y z : Int) :
    SpotsAt B x y z (((W.setCell ⟨B, 0, none⟩ (.int .i64 x)).setCell ⟨B, 1, none⟩ (.int .i64 y)).setCell ⟨B, 2, none⟩ (.int .i64 z)) := by
  obtain ⟨cs, e, fr, hh⟩ := h.hc
  refine ⟨by simp [go_sem, h.h0], by simp [go_sem, h.h1], by simp [go_sem, h.h2], by simp [h.f0], by simp [h.f1], by simp [h.f2], ?_⟩
  simp only [World.setCell]
  simp [Array.getElem?_modify, hh]
theorem grown_put {B : Nat} {W : World} (x y z : Value) : W.grownBy (((W.setCell ⟨B, 0, none⟩ x).setCell ⟨B, 1, none⟩ y).setCell ⟨B, 2, none⟩ z) (some B) := by
  refine ⟨rfl, rfl, rfl, by simp [World.setCell], fun b hb hne => ?_⟩
  have : b ≠ B := fun e => hne (by rw [e])
  rw [Below.heap_setCell _ _ _ _ this, Below.heap_setCell _ _ _ _ this, Below.heap_setCell _ _ _ _ this]
theorem grown_of {W W' : World} (h : Below W.heap.size W W') : W.grownBy W' none := ⟨h.os, h.tape, h.output, h.size, fun k hk _ => h.block k hk⟩
theorem two_C {W : World} (x y : Int) : Kd.C (Kd.int .i64) (W.alloc (Obj.cells #[.int .i64 x, .int .i64 y] 3)) (some ⟨W.heap.size, 0, none⟩) 2 [x, y] := by
  refine ⟨rfl, by decide, fun _ => ⟨_, rfl, fun j q hj => ⟨[.int .i64 q], rfl, rfl, fun i u hu => ?_⟩⟩⟩
  have hi : i = 0 := by
    have := (List.getElem?_eq_some_iff.1 hu).1
    simpa using this
  subst hi
  simp at hu
  subst hu
  have hj2 : j < 2 := (List.getElem?_eq_some_iff.1 hj).1
  have hj3 : j = 0 ∨ j = 1 := by omega
  rcases hj3 with rfl | rfl
  · simp at hj; subst hj
    simp [go_sem, Addr.add]
  · simp at hj; subst hj
    show (W.alloc _).cell? ((⟨W.heap.size, 0, none⟩ : Addr).add (1 * 1 + 0)) = _
    simp [go_sem, Addr.add]
theorem total2_c (W : World) (q d : Int) (hq : 0 ≤ q ∧ q ≤ 1000000) (hd : 0 ≤ d ∧ d ≤ 1000000) :
    Calls Try.prog 47 #[.slice (some ⟨W.heap.size, 0, none⟩) 2 2] (W.alloc (Obj.cells #[.int .i64 q, .int .i64 d] 3)) fun e w' => e = .returned (.int .i64 (q + d)) ∧ Below W.heap.size W w' := by
  have h := total_c (some ⟨W.heap.size, 0, none⟩) 2 [q, d] (W.alloc (Obj.cells #[.int .i64 q, .int .i64 d] 3)) (by intro x hx; simp at hx; omega) (by simp) (two_C q d) (by simp)
  refine Calls.mono h ?_
  rintro e w' ⟨rfl, hb⟩
  refine ⟨by simp [sum], ?_⟩
  exact ((Below.refl _ W).alloc (Nat.le_refl _) _).trans (hb.mono (by simp))
set_option maxHeartbeats 8000000 in
set_option maxRecDepth 100000 in
theorem sched_c {k : Nat} (hk1 : 1 ≤ k) (hk3 : k ≤ 3) (s0 s1 s2 : Int) (C : Option Addr) (n cc : Nat) (hn : n ≤ 40) (p : Nat → List Int) (hp : ∀ i, i ≤ n → Pos k (p i)) (hp0 : pad (p 0) = sv s0 s1 s2) (c : Nat → Int) (hc : ∀ i, i < n → Fl (c i))
    (g : Nat) (bound caps : Array Value) (eg : Enters g) (row : Option Nat) (I : Nat → World → Prop) (w : World)
    (HCALL : 0 < n → ∃ ad, C = some ad ∧ ∀ i W, i < n → w.grownBy W row → W.cell? (ad.add i) = some (.int .i64 (c i)))
    (HSERVE : ∀ i W, i < n → w.grownBy W row → I i W → Calls Try.prog g (bound ++ (#[pad (p i), .int .i64 (c i)] ++ caps)) W fun e W' => e = .returned (pad (p (i + 1))) ∧ W.grownBy W' row ∧ I (i + 1) W')
    (hrow : ∀ b, row = some b → b < w.heap.size)
    (hI : ∀ i W W' r, I i W → W.grownBy W' r → (∀ b, r = some b → w.heap.size ≤ b ∧ ∃ cs e fr, W.heap[b]? = some (.cells cs e fr)) → I i W') (h0 : I 0 w) :
    Calls Try.prog 56 #[hv k s0 s1 s2 (.slice C n cc), .func (.func g) bound caps] w fun e w' => ∃ v, e = .returned (.tuple #[v, .int .i64 (costs p n)]) ∧ Kd.S (Kd.slice 3 (Kd.int .i64)) 22 w' w.heap.size (fun _ => True) v (outs p n) ∧ w.grownBy w' row ∧ I n w' := by
  obtain ⟨B, hB⟩ : ∃ B, w.heap.size = B := ⟨_, rfl⟩
  unfold Enters at eg
  go_enter Try.func56, Try.ntmps56
  go_upto_region 4 with fail
  have hH : HallAt B (k : Int) s0 s1 s2 (.slice C n cc) ((w.alloc (Obj.cells #[Value.int IntKind.i64 ↑k, Value.int IntKind.i64 s0, Value.int IntKind.i64 s1, Value.int IntKind.i64 s2, Value.slice C n cc] 54)).alloc (Obj.cells #[Value.int IntKind.i64 s0, Value.int IntKind.i64 s1, Value.int IntKind.i64 s2] 52)) := ⟨by rw [← hB]; simp [go_sem], by rw [← hB]; simp [go_sem], by rw [← hB]; simp [go_sem], by rw [← hB]; simp [go_sem], by rw [← hB]; simp [go_sem]⟩
  have hN : SpotsAt (B + 1) s0 s1 s2 ((w.alloc (Obj.cells #[Value.int IntKind.i64 ↑k, Value.int IntKind.i64 s0, Value.int IntKind.i64 s1, Value.int IntKind.i64 s2, Value.slice C n cc] 54)).alloc (Obj.cells #[Value.int IntKind.i64 s0, Value.int IntKind.i64 s1, Value.int IntKind.i64 s2] 52)) := by
    have := SpotsAt.new (w.alloc (Obj.cells #[Value.int IntKind.i64 ↑k, Value.int IntKind.i64 s0, Value.int IntKind.i64 s1, Value.int IntKind.i64 s2, Value.slice C n cc] 54)) s0 s1 s2
    have hz : (w.alloc (Obj.cells #[Value.int IntKind.i64 ↑k, Value.int IntKind.i64 s0, Value.int IntKind.i64 s1, Value.int IntKind.i64 s2, Value.slice C n cc] 54)).heap.size = B + 1 := by simp [hB]
    rwa [hz] at this
  have hG : w.grownBy ((w.alloc (Obj.cells #[Value.int IntKind.i64 ↑k, Value.int IntKind.i64 s0, Value.int IntKind.i64 s1, Value.int IntKind.i64 s2, Value.slice C n cc] 54)).alloc (Obj.cells #[Value.int IntKind.i64 s0, Value.int IntKind.i64 s1, Value.int IntKind.i64 s2] 52)) none := (World.grownBy_alloc _ _ _).trans (World.grownBy_alloc _ _ _)
  have hz1 : ((w.alloc (Obj.cells #[Value.int IntKind.i64 ↑k, Value.int IntKind.i64 s0, Value.int IntKind.i64 s1, Value.int IntKind.i64 s2, Value.slice C n cc] 54)).alloc (Obj.cells #[Value.int IntKind.i64 s0, Value.int IntKind.i64 s1, Value.int IntKind.i64 s2] 52)).heap.size = B + 2 := by simp [hB]
  generalize ((w.alloc (Obj.cells #[Value.int IntKind.i64 ↑k, Value.int IntKind.i64 s0, Value.int IntKind.i64 s1, Value.int IntKind.i64 s2, Value.slice C n cc] 54)).alloc (Obj.cells #[Value.int IntKind.i64 s0, Value.int IntKind.i64 s1, Value.int IntKind.i64 s2] 52)) = W1 at *
  have HG1 : Hid (w.grownBy W1 row) := Lib.hid ⟨hG.os, hG.tape, hG.output, hG.size, fun b hb _ => hG.block b hb (by simp)⟩
  have HI1 := Lib.hid (hI 0 w W1 none h0 hG (by simp))
  have HH := Lib.hid hH
  have HN1 : Hid (∃ a0 a1 a2, pad (p 0) = sv a0 a1 a2 ∧ SpotsAt (B + 1) a0 a1 a2 W1) := Lib.hid ⟨s0, s1, s2, hp0, hN⟩
  have HSV := Lib.hid HSERVE
  have HII := Lib.hid hI
  have HCA := Lib.hid HCALL
  have HPP := Lib.hid hp
  have HFL := Lib.hid hc
  have HBB := Lib.hid hB
  have HRW := Lib.hid hrow
  have hh0 := hH.h0
  have hh4 := hH.h4
  clear HSERVE hI HCALL hp hc hG hH hN hp0 h0 hB hrow
  go_wp2_with fail
  clear hh0 hh4
  go_loopw [6, 7, 10, 11, 17] (fun v6 v7 _ _ v17 wr => ∃ i : Nat, v17 = .int .i64 (i : Int) ∧ v7 = .int .i64 (costs p i) ∧ i ≤ n ∧ B + 2 ≤ wr.heap.size ∧ Hid (Kd.S (Kd.slice 3 (Kd.int .i64)) 22 wr (B + 2) (fun _ => True) v6 (outs p i)) ∧ Hid (HallAt B (k : Int) s0 s1 s2 (.slice C n cc) wr) ∧ Hid (∃ a0 a1 a2, pad (p i) = sv a0 a1 a2 ∧ SpotsAt (B + 1) a0 a1 a2 wr) ∧ Hid (w.grownBy wr row) ∧ Hid (I i wr)) (fun _ _ _ _ v17 _ => n - (intOf v17).toNat)
  case atStart => exact ⟨0, rfl, rfl, Nat.zero_le _, Nat.le_of_eq hz1.symm, Lib.hid (Kd.S_nil _ _ _ _ _), HH, HN1, HG1, HI1⟩
  case round =>
    rename World => wr
    obtain ⟨i, rfl, rfl, hi, hsz, HO, HHr, HNr, HGr, HIr⟩ := hrel
    clear HH HN1 HG1 HI1
    by_cases hlt : i < n
    · have hlt' : (i : Int) < (n : Int) := by omega
      have hi0 : (0 : Int) ≤ (i : Int) := by omega
      obtain ⟨ad, rfl, hca⟩ := HCA.out (by omega)
      have hcl := hca i wr hlt HGr.out
      obtain ⟨a0, a1, a2, ea, hN⟩ := HNr.out
      have hS := HSV.out i wr hlt HGr.out HIr.out
      rw [ea] at hS
      obtain ⟨b0, b1, b2, eb⟩ : ∃ b0 b1 b2, pad (p (i + 1)) = sv b0 b1 b2 := ⟨_, _, _, rfl⟩
      rw [eb] at hS
      obtain ⟨fl, hfl⟩ : ∃ fl, c i = fl := ⟨_, rfl⟩
      rw [hfl] at hcl hS
      have HS := Lib.hid hS
      have hn0 := hN.h0
      have hn1 := hN.h1
      have hn2 := hN.h2
      have HNN := Lib.hid hN
      have HEA := Lib.hid ea
      have HEB := Lib.hid eb
      have HEB2 := Lib.hid eb
      clear hca hS hN ea eb hfl HNr
      go_upto_region 8 with ((with_reducible refine HS.out.mono ?_); rintro e w2 ⟨rfl, hg2, hI2⟩)
      have hHw2 := hg2.block B (by have := HHr.out.lt; exact this) (fun e => by have := HRW.out B e.symm; rw [HBB.out] at this; omega)
      have hNw2 := hg2.block (B + 1) (by omega) (fun e => by have := HRW.out (B + 1) e.symm; rw [HBB.out] at this; omega)
      have hO2 : Kd.S (Kd.slice 3 (Kd.int .i64)) 22 w2 (B + 2) (fun _ => True) u6 (outs p i) := by
        have h9 := Kd.S_grown (Kd.S_bound HO.out) hg2 (fun b hb e => by have := HRW.out b e.symm; rw [HBB.out] at this; omega)
        exact Kd.S_mono h9 (fun _ _ => trivial)
      have hG2 := HGr.out.trans hg2
      have hz2 : B + 2 ≤ w2.heap.size := Nat.le_trans hsz hg2.size
      have hT := SpotsAt.new w2 b0 b1 b2
      have hgt : w2.grownBy (w2.alloc (Obj.cells #[Value.int IntKind.i64 b0, Value.int IntKind.i64 b1, Value.int IntKind.i64 b2] 52)) none := World.grownBy_alloc _ _ _
      obtain ⟨T, hTe⟩ : ∃ T, w2.heap.size = T := ⟨_, rfl⟩
      have hz3 : (w2.alloc (Obj.cells #[Value.int IntKind.i64 b0, Value.int IntKind.i64 b1, Value.int IntKind.i64 b2] 52)).heap.size = T + 1 := by simp [hTe]
      have hTB : B + 2 ≤ T := by omega
      rw [hTe] at hT ⊢
      generalize (w2.alloc (Obj.cells #[Value.int IntKind.i64 b0, Value.int IntKind.i64 b1, Value.int IntKind.i64 b2] 52)) = w3 at *
      have hH3 := (HHr.out.of hHw2).of (hgt.block B (by omega) (by simp))
      have hN3 := (HNN.out.of hNw2).of (hgt.block (B + 1) (by omega) (by simp))
      have hO3 := Kd.S_grown hO2 hgt (fun _ _ => by simp)
      have hI3 := HII.out (i + 1) w2 w3 none hI2 hgt (by simp)
      have hgn : ∀ {X Y : World}, X.grownBy Y none → X.grownBy Y row := fun h => ⟨h.os, h.tape, h.output, h.size, fun b hb _ => h.block b hb (by simp)⟩
      have HG3 := Lib.hid (hG2.trans (hgn hgt))
      have HD := Lib.hid (dist_pad hk1 hk3 s0 s1 s2 (some ad) n cc (HPP.out i hi) (HPP.out (i + 1) hlt) w3)
      rw [HEA.out, HEB.out] at HD
      have HCB := Lib.hid (And.intro (costs_bd hk3 HPP.out i hi) (dist_bd hk3 (HPP.out i hi) (HPP.out (i + 1) hlt)))
      have HCS : Hid (costs p (i + 1) = costs p i + dist (p i) (p (i + 1))) := Lib.hid rfl
      obtain ⟨d, hd⟩ : ∃ d, dist (p i) (p (i + 1)) = d := ⟨_, rfl⟩
      rw [hd] at HD HCB HCS
      obtain ⟨q, hq⟩ : ∃ q, costs p i = q := ⟨_, rfl⟩
      rw [hq] at HCB HCS ⊢
      have HI3 := Lib.hid hI3
      have HO3 := Lib.hid hO3
      have HH3 := Lib.hid hH3
      have HN3 := Lib.hid hN3
      have HT3 := Lib.hid hT
      obtain ⟨h30, h31, h32, h33, h34⟩ := hH3
      obtain ⟨n30, n31, n32, _, _, _, _⟩ := hN3
      obtain ⟨t30, t31, t32, _, _, _, _⟩ := hT
      clear hg2 hI2 hHw2 hNw2 hO2 hG2 hgt hO3 hI3 hn0 hn1 hn2 hcl HS HO HHr HNN HGr HIr HSV hd hq hTe
      have HT2 : Hid (∀ W : World, Calls Try.prog 47 #[.slice (some ⟨W.heap.size, 0, none⟩) 2 2] (W.alloc (Obj.cells #[.int .i64 q, .int .i64 d] 3)) fun e w' => e = .returned (.int .i64 (q + d)) ∧ Below W.heap.size W w') := by
        refine Lib.hid (fun W => ?_)
        obtain ⟨⟨g1, g2⟩, g3, g4⟩ := HCB.out
        exact total2_c W q d ⟨g1, by omega⟩ ⟨g3, by omega⟩
      go_upto_region 9 with (first | (go_at_call 48; (with_reducible refine HD.out.mono ?_); rintro e w4 ⟨rfl, hb4⟩) | (go_at_call 47; (with_reducible refine (HT2.out _).mono ?_); rintro e w6 ⟨rfl, hb6⟩))
      have hb36 : Below w3.heap.size w3 w6 := hb4.trans (hb6.mono hb4.size)
      have hg36 := grown_of hb36
      have hH6 := HH3.out.of (hb36.block B (by omega))
      have hN6 := HN3.out.of (hb36.block (B + 1) (by omega))
      have hT6 := HT3.out.of (hb36.block T (by omega))
      have hO6 := Kd.S_below HO3.out hb36
      have hI6 := HII.out (i + 1) w3 w6 none HI3.out hg36 (by simp)
      have hG6 := HG3.out.trans (hgn hg36)
      have hz6 : T + 1 ≤ w6.heap.size := by have := hb36.size; omega
      clear h30 h31 h32 h33 h34 n30 n31 n32 t30 t31 t32 hb4 hb6 hb36 hg36 HO3 HH3 HN3 HT3 HI3 HG3 HD HT2 hz3
      have t60 := hT6.h0
      have t61 := hT6.h1
      have t62 := hT6.h2
      have n60 := hN6.h0
      have n61 := hN6.h1
      have n62 := hN6.h2
      have n63 := hN6.f0
      have n64 := hN6.f1
      have n65 := hN6.f2
      have hN7 := hN6.put b0 b1 b2
      have hg7 := grown_put (B := B + 1) (W := w6) (.int .i64 b0) (.int .i64 b1) (.int .i64 b2)
      have hI7 := HII.out (i + 1) w6 _ _ hI6 hg7 (fun b hb => by injection hb with hb; subst hb; exact ⟨by rw [HBB.out]; omega, hN6.hc⟩)
      have hH7 := hH6.of (hg7.block B (by omega) (by simp))
      have hO7 := Kd.S_grown (Kd.S_bound hO6) hg7 (fun b hb e => by injection e with e; omega)
      have hG7 : w.grownBy (((w6.setCell ⟨B + 1, 0, none⟩ (.int .i64 b0)).setCell ⟨B + 1, 1, none⟩ (.int .i64 b1)).setCell ⟨B + 1, 2, none⟩ (.int .i64 b2)) row := by
        refine ⟨hg7.os.trans hG6.os, hg7.tape.trans hG6.tape, hg7.output.trans hG6.output, Nat.le_trans hG6.size hg7.size, fun b hb hne => ?_⟩
        rw [HBB.out] at hb
        exact (hg7.block b (by omega) (fun e => by injection e with e; omega)).trans (hG6.block b (by rw [HBB.out]; exact hb) hne)
      have hz7 : T + 1 ≤ (((w6.setCell ⟨B + 1, 0, none⟩ (.int .i64 b0)).setCell ⟨B + 1, 1, none⟩ (.int .i64 b1)).setCell ⟨B + 1, 2, none⟩ (.int .i64 b2)).heap.size := Nat.le_trans hz6 hg7.size
      have HKeep := Lib.hid (And.intro hN7 (And.intro hI7 (And.intro hH7 (And.intro hO7 (And.intro hG7 hz7)))))
      clear hN7 hI7 hH7 hO7 hG7 hz7 hg7 hN6 hT6 hH6 hO6 hI6 hG6
      go_upto_region 10 with fail
      generalize (((w6.setCell ⟨B + 1, 0, none⟩ (.int .i64 b0)).setCell ⟨B + 1, 1, none⟩ (.int .i64 b1)).setCell ⟨B + 1, 2, none⟩ (.int .i64 b2)) = w7 at *
      obtain ⟨hN7, hI7, hH7, hO7, hG7, hz7⟩ := HKeep.out
      clear HKeep t60 t61 t62 n60 n61 n62 n63 n64 n65
      obtain ⟨P, hP⟩ : ∃ P, p (i + 1) = P := ⟨_, rfl⟩
      have hPl : P.length = k := by rw [← hP]; exact (HPP.out (i + 1) hlt).len
      have hPC : Kd.C (Kd.int .i64) w7 (some ⟨B + 1, 0, none⟩) k P := by
        have h9 := t3_C (k := k) hk3 hN7.h0 hN7.h1 hN7.h2
        have e9 : T3 k b0 b1 b2 = P := by
          have h8 := HEB.out
          rw [hP] at h8
          unfold pad at h8
          injection h8 with h8
          injection h8 with h8
          have e1 : P.getD 0 0 = b0 := by injection h8 with h8; injection h8
          have e2 : P.getD 1 0 = b1 := by injection h8 with _ h8; injection h8 with h8; injection h8
          have e3 : P.getD 2 0 = b2 := by injection h8 with _ h8; injection h8 with _ h8; injection h8 with h8; injection h8
          rw [← e1, ← e2, ← e3]
          exact t3_self hPl hk3
        rwa [e9] at h9
      have HCL : Hid (Calls Try.prog 70 #[.slice (some ⟨B + 1, 0, none⟩) k 3] w7 fun e w' => ∃ v, e = .returned v ∧ Kd.R (Kd.int .i64) 3 w' w7.heap.size (fun _ => True) v P ∧ Below w7.heap.size w7 w') := by
        refine Lib.hid ?_
        have := clone_c (some ⟨B + 1, 0, none⟩) 3 P w7 (by rw [hPl]; exact hPC) (by omega) (by omega)
        rwa [hPl] at this
      have HOS : Hid (outs p (i + 1) = outs p i ++ [P]) := Lib.hid (by rw [outs_succ, hP])
      have hol := outs_len p i
      obtain ⟨os, hos⟩ : ∃ os, outs p i = os := ⟨_, rfl⟩
      rw [hos] at hol hO7 HOS
      have HOL := Lib.hid hol
      have HN7 := Lib.hid hN7
      have HH7 := Lib.hid hH7
      have HI7 := Lib.hid hI7
      have HG7 := Lib.hid hG7
      have HO7 := Lib.hid hO7
      have h70 := hH7.h0
      have hk3' : (k : Int) ≤ 3 := by omega
      have hk0' : (0 : Int) ≤ (k : Int) := by omega
      clear hPC hPl hP hos hol hN7 hH7 hI7 hG7 hO7 HEB HEA HCB
      go_wp2_with (first | (go_at_call 70; (with_reducible refine HCL.out.mono ?_); rintro e w8 ⟨vc, rfl, hRc, hb8⟩; obtain ⟨Av, cv, ev⟩ := Kd.R_slice hRc; subst ev) | (at_builtin; refine Kd.S_append (Kd.slice 3 (Kd.int .i64)) (w0 := w8) (B + 2) rfl (.tmp 33) (.tmp 38) 23 22 (.slice none 0 0) 24 rfl Try.underlying23 info22 rfl (by decide) (by omega) _ os P [.slice Av P.length cv] (fun _ => True) (fun b => w7.heap.size ≤ b) rfl rfl ?aP ?aK (fun _ _ => trivial) ?aO ?aB ?aS ?aL ?_))
      case aP => exact ⟨_, rfl, Kd.R_lower (Kd.R_mono (Kd.R_bound hRc) (fun b hb => hb.2.1)) (by omega)⟩
      case aK =>
        intro b hb
        refine ⟨trivial, fun e => ?_⟩
        have := ((Kd.R_bound (Kd.S_R HO7.out)).1 b e.symm).2.2.1
        omega
      case aO => exact Kd.S_mono (Kd.S_old HO7.out hb8) (fun b hb => ⟨trivial, by omega⟩)
      case aB => exact Below.refl _ _
      case aS => have := hb8.size; omega
      case aL => rw [HOL.out]; omega
      intro v1 w1 hS1 hB1 hG1 _
      have hg8 := grown_of hb8
      have hH8 := HH7.out.of (hb8.block B (by omega))
      have hN8 := HN7.out.of (hb8.block (B + 1) (by omega))
      have hI8 := HII.out (i + 1) w7 w8 none HI7.out hg8 (by simp)
      have hob : ∀ b, u6.ownBlock = some b → B + 2 ≤ b ∧ b < w7.heap.size := fun b hb => by
        have := (Kd.R_bound (Kd.S_R HO7.out)).1 b hb
        exact ⟨this.2.1, this.2.2.1⟩
      have hH1 := hH8.of (hG1.block B (by have := hb8.size; omega) (fun e => by have := hob B e.symm; omega))
      have hN1 := hN8.of (hG1.block (B + 1) (by have := hb8.size; omega) (fun e => by have := hob (B + 1) e.symm; omega))
      have hI1 := HII.out (i + 1) w8 w1 _ hI8 hG1 (fun b hb => ⟨by have := hob b hb; rw [HBB.out]; omega, by
        obtain ⟨cells, hcs⟩ := Kd.S_typed (Kd.S_below HO7.out hb8) b hb
        exact ⟨_, _, _, hcs⟩⟩)
      have hG81 : w.grownBy w1 row := by
        have h8 := HG7.out.trans (hgn hg8)
        refine ⟨hG1.os.trans h8.os, hG1.tape.trans h8.tape, hG1.output.trans h8.output, Nat.le_trans h8.size hG1.size, fun b hb hne => ?_⟩
        rw [HBB.out] at hb
        exact (hG1.block b (by have := hb8.size; omega) (fun e => by have := hob b e.symm; omega)).trans (h8.block b (by rw [HBB.out]; exact hb) hne)
      have hz1' : B + 2 ≤ w1.heap.size := by have := hG1.size; have := hb8.size; omega
      have HS1 : Hid (Kd.S (Kd.slice 3 (Kd.int .i64)) 22 w1 (B + 2) (fun _ => True) v1 (outs p (i + 1))) := Lib.hid (by rw [HOS.out]; exact hS1)
      have HFIN := Lib.hid (And.intro hH1 (And.intro hN1 (And.intro hI1 hG81)))
      clear hS1 hB1 hG1 hg8 hH8 hN8 hI8 hob hH1 hN1 hI1 hG81 hb8 hRc
      go_wp2_with fail
      refine ⟨⟨i + 1, by go_num, by rw [HCS.out], by omega, hz1', HS1, Lib.hid HFIN.out.1, Lib.hid ⟨b0, b1, b2, HEB2.out, HFIN.out.2.1⟩, Lib.hid HFIN.out.2.2.2, Lib.hid HFIN.out.2.2.1⟩, by simp [intOf]; omega⟩
    · obtain rfl : i = n := by omega
      have hge : ¬ (i : Int) < (i : Int) := by omega
      go_wp2_with fail
      go_ret2
      exact ⟨_, rfl, Kd.S_lower HO.out (by rw [HBB.out]; omega), HGr.out, HIr.out⟩
end Go.Proofs.Ytakbijpcfnipoaa.A

set_option linter.unusedVariables false
set_option linter.unusedSimpArgs false
namespace Go.Proofs.Ytakbijpcfnipoaa.A
open Go.Proofs.Ytakbijpcfnipoaa.Lf
def pth (st : List Int → Int → List Int) (s : List Int) (c : List Int) (i : Nat) : List Int := (c.take i).foldl st s
def runL (st : List Int → Int → List Int) : List Int → List Int → List (List Int)
  | _, [] => []
  | s, f :: c => st s f :: runL st (st s f) c
theorem pth_succ (st : List Int → Int → List Int) (s : List Int) {c : List Int} {i : Nat} (h : i < c.length) : pth st s c (i + 1) = st (pth st s c i) (c.getD i 0) := by
  unfold pth
  rw [List.take_add_one, List.getElem?_eq_getElem h, List.foldl_append, List.getD_eq_getElem?_getD, List.getElem?_eq_getElem h]
  rfl
theorem pth_cons (st : List Int → Int → List Int) (s : List Int) (f : Int) (c : List Int) (i : Nat) : pth st s (f :: c) (i + 1) = pth st (st s f) c i := rfl
theorem outs_pth (st : List Int → Int → List Int) : ∀ (c : List Int) (s : List Int), outs (pth st s c) c.length = runL st s c
  | [], _ => rfl
  | f :: c, s => by
    have ih := outs_pth st c (st s f)
    unfold runL
    rw [← ih]
    unfold outs
    rw [List.length_cons, List.range_succ_eq_map, List.map_cons, List.map_map]
    rfl
theorem costs_shift (p : Nat → List Int) : ∀ i, costs p (i + 1) = dist (p 0) (p 1) + costs (fun j => p (j + 1)) i
  | 0 => by simp [costs]
  | i + 1 => by
    have ih := costs_shift p i
    rw [costs, ih, costs]
    omega
theorem costs_pth (st : List Int → Int → List Int) : ∀ (c : List Int) (s : List Int), costs (pth st s c) c.length = cost s (runL st s c)
  | [], _ => rfl
  | f :: c, s => by
    have ih := costs_pth st c (st s f)
    rw [List.length_cons, costs_shift]
    show dist s (st s f) + costs (pth st (st s f) c) c.length = dist s (st s f) + cost (st s f) (runL st (st s f) c)
    rw [ih]
theorem run_pos {k : Nat} {st : List Int → Int → List Int} (hst : ∀ s f, Pos k s → Fl f → Pos k (st s f)) : ∀ {c : List Int} {s : List Int}, Pos k s → (∀ f ∈ c, Fl f) → ∀ i, Pos k (pth st s c i)
  | [], s, hs, _, i => by unfold pth; simpa using hs
  | f :: c, s, hs, hc, 0 => hs
  | f :: c, s, hs, hc, i + 1 => by
    rw [pth_cons]
    exact run_pos hst (hst s f hs (hc f List.mem_cons_self)) (fun g hg => hc g (List.mem_cons_of_mem _ hg)) i
theorem callB_iff {c : List Int} : callB c = true ↔ c.length ≤ 40 ∧ ∀ f ∈ c, Fl f := by
  simp only [callB, outB, Bool.and_eq_true, decide_eq_true_eq, Bool.not_eq_true', List.any_eq_false, Bool.not_eq_true', withinB]
  constructor
  · rintro ⟨h1, h2⟩
    refine ⟨h1, fun f hf => ?_⟩
    have := h2 f hf
    simpa [Fl] using this
  · rintro ⟨h1, h2⟩
    refine ⟨h1, fun f hf => ?_⟩
    have := h2 f hf
    simpa [Fl] using this
end Go.Proofs.Ytakbijpcfnipoaa.A

set_option linter.unusedVariables false
set_option linter.unusedSimpArgs false
namespace Go.Proofs.Ytakbijpcfnipoaa.A
open Go.RowKit
def KeptC (k0 B : Nat) (W W' : World) : Prop := W.heap.size ≤ W'.heap.size ∧ ∀ k, (k = k0 ∨ B ≤ k) → k < W.heap.size → W'.heap[k]? = W.heap[k]?
theorem KeptC.refl (k0 B : Nat) (W : World) : KeptC k0 B W W := ⟨Nat.le_refl _, fun _ _ _ => rfl⟩
theorem KeptC.trans {k0 B : Nat} {X Y Z : World} (h : KeptC k0 B X Y) (k : KeptC k0 B Y Z) : KeptC k0 B X Z := ⟨Nat.le_trans h.1 k.1, fun i hi hs => (k.2 i hi (Nat.lt_of_lt_of_le hs h.1)).trans (h.2 i hi hs)⟩
theorem KeptC.grown {k0 B : Nat} {W W' : World} {row : Option Nat} (hg : W.grownBy W' row) (hr : ∀ r, row = some r → r ≠ k0 ∧ r < B) : KeptC k0 B W W' :=
  ⟨hg.size, fun k hk hs => hg.block k hs (fun e => by have := hr k e.symm; omega)⟩
theorem KeptC.from {k0 B B' : Nat} {W W' : World} (h : KeptC k0 B W W') (hB : B ≤ B') : KeptC k0 B' W W' := ⟨h.1, fun k hk => h.2 k (by omega)⟩
def AbidesC {β : Type} (B : Nat) (J : β → World → Prop) : Prop := ∀ s W W' row, J s W → W.grownBy W' row → (∀ r, row = some r → B ≤ r) → J s W'
theorem AbidesC.from {β : Type} {B B' : Nat} {J : β → World → Prop} (h : AbidesC B J) (hB : B ≤ B') : AbidesC B' J := fun s W W' row hs hg hr => h s W W' row hs hg (fun r e => Nat.le_trans hB (hr r e))
def SeqOwn {α : Type} (F : Fence) (n : Nat) (P : Program) (g : Nat) (lb : Array Value) (encs : α → Array Value) (xs : List α) (k0 : Nat) (w : World) : Prop :=
  ∀ (l : Nat) (J : List α → World → Prop) (W : World), w.heap.size ≤ W.heap.size → W.heap[k0]? = w.heap[k0]? → AbidesC W.heap.size J →
    (∀ pre x W1, J pre W1 → (pre ++ [x]) <+: xs → YieldAt F (n - 1) P l (encs x) W1 fun e W' => e = .returned (.bool true) ∧ J (pre ++ [x]) W' ∧ KeptC k0 W.heap.size W1 W') →
    J [] W →
    CallsIn F n P g (#[.func (.yield l) #[] #[]] ++ lb) W fun e W' => (∃ v, e = .returned v) ∧ J xs W'
variable {F : Fence} {n : Nat} {P : Program}
theorem wpIn_rangeFunc_C {α : Type} {g : Operand} {ps : Array Tmp} {assign body : Code} {Q : Exit → Act → World → Prop} {a : Act} {w : World}
    (hro : F.round = none) (h1 : 1 ≤ n) {gf : Nat} {lb : Array Value} (hg : a.eval g = .func (.func gf) #[] lb) (hFg : F.fn gf) (eg : ∀ args w, (callFunc gf args).run P w = .ok (.enter gf args) w)
    {encs : α → Array Value} {xs : List α} {k0 : Nat} (hk0 : k0 < w.heap.size) (hseq : SeqOwn F (n - 1) P gf lb encs xs k0 w) (hps : ∀ x, (encs x).size = ps.size)
    (I : List α → World → Prop) (hI : AbidesC w.heap.size I) (h0 : I [] w)
    (hround : ∀ (l : Nat) (pre : List α) (x : α) (W : World), I pre W → w.heap.size < l → l < W.heap.size → (pre ++ [x]) <+: xs →
      assign.wpIn (F.inRound l) (n - 1 - 1) P (Exit.then (fun a' W1 => KeptC k0 w.heap.size W W1 ∧
        ∀ W2, W1.grownBy W2 (some l) → body.wpIn (F.inRound l) (n - 1 - 1) P (fun e _ W3 => e = .normal ∧ KeptC k0 w.heap.size W2 W3 ∧ I (pre ++ [x]) W3) a' W2) (fun _ _ _ => False))
        { tmps := (ps.zip (encs x)).foldl (fun t (p, v) => t.setIfInBounds p v) a.tmps, defers := [] } W)
    (hdone : ∀ (D : Nat) (W : World), w.heap.size ≤ D → I xs W → W.heap[D]? = some (.deferred (some [])) → Q .normal { a with defers := { target := .collected D, args := #[] } :: a.defers } W) :
    (Code.rangeFunc g ps assign body).wpIn F n P Q a w := by
  refine wpIn_rangeFunc ?_
  intro fn hfn
  rw [hro]
  obtain ⟨rec, hrec⟩ : ∃ rec : LoopState → Option Code → Loop, rec = fun st pe => { state := st, pending := pe, fn, tmps := a.tmps, params := ps, assign, body, defers := w.heap.size } := ⟨_, rfl⟩
  obtain ⟨W1, hW1⟩ : ∃ W1, (w.alloc (.deferred (some []))).alloc (.loop (rec .ready none)) = W1 := ⟨_, rfl⟩
  have hL1 : W1.heap[w.heap.size + 1]? = some (.loop (rec .ready none)) := by
    rw [← hW1]; have := World.alloc_heap_new (w.alloc (.deferred (some []))) (.loop (rec .ready none)); rwa [World.size_alloc] at this
  have hK1 : W1.heap[w.heap.size]? = some (.deferred (some [])) := by
    rw [← hW1]; exact (Below.heap_alloc _ _ _ (by simp)).trans (World.alloc_heap_new w _)
  have hz1 : W1.heap.size = w.heap.size + 2 := by rw [← hW1]; simp
  have hb1 : Below w.heap.size w W1 := by
    rw [← hW1]; exact (((Below.refl _ w).alloc (Nat.le_refl _) _).alloc (by simp) _)
  have hI1 : I [] W1 := by
    rw [← hW1]; exact hI _ _ _ none (hI _ _ _ none h0 (World.grownBy_alloc _ _ _) (fun r e => by cases e)) (World.grownBy_alloc _ _ _) (fun r e => by cases e)
  refine ⟨w.heap.size + 1, [{ target := .collected w.heap.size, args := #[] }], W1, { target := .fn (.func gf) lb, args := #[.func (.yield (w.heap.size + 1)) #[] #[]] }, W1, gf,
    #[.func (.yield (w.heap.size + 1)) #[] #[]] ++ lb, W1, ?_, ?_, ?_, ?_, fun _ => h1, ?_⟩
  · rw [← hW1, hrec]; exact run_enterLoop_outer _ _ _ _ _
  · simp only [resolve, hg]
    simp [go_sem]
  · intro f' hf'; simp [Target.leads] at hf'; subst hf'; exact hFg
  · simp [invoke, go_sem, eg]
  · refine (hseq (w.heap.size + 1)
      (fun pre W => I pre W ∧ W.heap[w.heap.size + 1]? = some (.loop (rec .ready none)) ∧ W.heap[w.heap.size]? = some (.deferred (some [])))
      W1 (by omega) (hb1.block _ hk0)
      (fun s A B row hs hg' hr => ⟨hI s A B row hs.1 hg' (fun r e => by have := hr r e; omega),
        (hg'.block _ (Array.getElem?_eq_some_iff.1 hs.2.1).1 (fun e => by have := hr _ e.symm; omega)).trans hs.2.1,
        (hg'.block _ (Array.getElem?_eq_some_iff.1 hs.2.2).1 (fun e => by have := hr _ e.symm; omega)).trans hs.2.2⟩)
      ?_ ⟨hI1, hL1, hK1⟩).mono ?_
    ·
      rintro pre x W ⟨hi, hl, hk⟩ hpre
      have hlt : w.heap.size + 1 < W.heap.size := (Array.getElem?_eq_some_iff.1 hl).1
      have hy := run_yield (P := P) (args := encs x) hl (by rw [hrec]; exact hps x)
      rw [hrec] at hy
      refine ⟨fn, _, assign, body, hy, roundIn_of_wpIn hfn (wpIn_mono (hround _ pre x W hi (by omega) hlt hpre) ?_)⟩
      clear hy
      rintro e a' Wa hq
      cases e with
      | normal =>
        obtain ⟨hka, hbody⟩ := hq
        have hl' := (hka.2 (w.heap.size + 1) (.inr (by omega)) hlt).trans hl
        have hk' := (hka.2 (w.heap.size) (.inr (by omega)) (by omega)).trans hk
        have hlta : w.heap.size + 1 < Wa.heap.size := (Array.getElem?_eq_some_iff.1 hl').1
        refine ⟨_, run_beginRound hl' (by rw [hrec]), ?_⟩
        have hg2 : Wa.grownBy (Wa.putObj (w.heap.size + 1) (.loop { rec .ready none with state := .busy })) (some (w.heap.size + 1)) := grownBy_putObj' _ _ _
        have hl2 : (Wa.putObj (w.heap.size + 1) (.loop { rec .ready none with state := .busy })).heap[w.heap.size + 1]? = some (.loop { rec .ready none with state := .busy }) := World.putObj_heap_same hlta
        have hk2 : (Wa.putObj (w.heap.size + 1) (.loop { rec .ready none with state := .busy })).heap[w.heap.size]? = some (.deferred (some [])) := (World.putObj_heap_other (by omega)).trans hk'
        refine wpIn_mono (hbody _ hg2) ?_
        rintro e a3 W3 ⟨rfl, hk3, hi3⟩
        have hs2 : w.heap.size + 1 < (Wa.putObj (w.heap.size + 1) (.loop { rec .ready none with state := .busy })).heap.size := (Array.getElem?_eq_some_iff.1 hl2).1
        have hl3 := (hk3.2 (w.heap.size + 1) (.inr (by omega)) hs2).trans hl2
        have hkk3 := (hk3.2 (w.heap.size) (.inr (Nat.le_refl _)) (Nat.lt_of_succ_lt hs2)).trans hk2
        have hlt3 : w.heap.size + 1 < W3.heap.size := (Array.getElem?_eq_some_iff.1 hl3).1
        have hr := run_endRound (P := P) none hl3
        rw [hrec] at hr
        have hg3 : W3.grownBy (W3.putObj (w.heap.size + 1) (.loop (rec .ready none))) (some (w.heap.size + 1)) := grownBy_putObj' _ _ _
        have hrow : ∀ r, some (w.heap.size + 1) = some r → r ≠ k0 ∧ r < W1.heap.size := fun r e => by cases e; exact ⟨by omega, by omega⟩
        refine ⟨_, _, hr, rfl, ⟨?_, ?_, ?_⟩, ?_⟩
        · have := hI _ _ _ _ hi3 hg3 (fun r e => by cases e; omega)
          rw [hrec] at this; exact this
        · have := World.putObj_heap_same (o := .loop (rec .ready none)) hlt3
          rw [hrec] at this ⊢; exact this
        · have := (World.putObj_heap_other (w := W3) (k := w.heap.size) (r := w.heap.size + 1) (o := .loop (rec .ready none)) (by omega)).trans hkk3
          rw [hrec] at this; exact this
        · have := ((hka.from (B' := W1.heap.size) (by omega)).trans (KeptC.grown hg2 hrow)).trans ((hk3.from (B' := W1.heap.size) (by omega)).trans (KeptC.grown hg3 hrow))
          rw [hrec] at this; exact this
      | ret => exact hq.elim
      | exit id => exact hq.elim
      | goto t => exact hq.elim
      | panic ch => exact hq.elim
      | outgrown => exact hq.elim
    ·
      rintro e W2 ⟨⟨v, rfl⟩, hi, hl, hk⟩
      have hr := run_endLoop (P := P) hl (by rw [hrec]; simp)
      have hg3 : W2.grownBy (W2.putObj (w.heap.size + 1) (.loop (rec .exhausted none))) (some (w.heap.size + 1)) := grownBy_putObj' _ _ _
      refine ⟨none, _, by rw [hrec] at hr; exact hr, hdone _ _ (Nat.le_refl _) (hI _ _ _ _ hi (grownBy_putObj' _ _ _) (fun r e => by cases e; omega)) ((World.putObj_heap_other (by omega)).trans hk)⟩
end Go.Proofs.Ytakbijpcfnipoaa.A

set_option linter.unusedVariables false
set_option linter.unusedSimpArgs false
namespace Go.Proofs.Ytakbijpcfnipoaa.A
open Go.RowKit
def noDefer (ops : Array Oper) : Bool := ops.toList.all fun o => match o.op with | .defer _ => false | _ => true
theorem noDefer_spec {ops : Array Oper} (h : noDefer ops = true) {i : Nat} {o : Oper} (ho : ops[i]? = some o) (c : Call) : o.op ≠ .defer c := by
  unfold noDefer at h
  rw [List.all_eq_true] at h
  have := h o (by rw [← Array.getElem?_toList] at ho; exact List.mem_of_getElem? ho)
  intro e
  rw [e] at this
  cases this
section
variable {P : Program} {ops : Array Oper} {Q : Exit → Act → World → Prop}
theorem oper_in_round {l n : Nat} {o : Oper} {a : Act} {w : World} {K K' : Act → World → Prop} (hd : ∀ c, o.op ≠ .defer c) (hK : ∀ a w, K a w → K' a w) (h : o.wp P a w K Q) : o.wpIn (Fence.wide.inRound l) n P a w K' Q := by
  have hw : ∀ k : Nat, ((Fence.wide.inRound l).depth.isSome = true → 1 ≤ k) := fun k h => by cases h
  refine ⟨fun _ _ => trivial, ?_⟩
  rw [Fence.inRound_round, Oper.semAt_some _ _ _ hd]
  unfold Oper.wp at h
  generalize (execOp a.eval o).run P w = r at *
  cases r with
  | ok x w' =>
    cases x <;> simp only [Oper.upon, Oper.uponIn] at h ⊢
    all_goals first
      | exact hK _ _ h
      | exact ⟨hw _, (callsIn_wide (n := n - 1)).2 (h.mono (fun e w'' he => by cases e <;> first | exact hK _ _ he | exact he))⟩
      | exact ⟨hw _, fun c cs _ => let ⟨v, w', r, s⟩ := h c cs; ⟨v, w', hK _ _ r, stepsIn_wide.2 s⟩⟩
      | exact h.elim
  | halt x w' => cases x <;> simp only [Oper.upon, Oper.uponIn] at h ⊢ <;> exact h
theorem ops_in_round {l n : Nat} (hd : noDefer ops = true) (hQ : ¬ LetsOut Q) : ∀ (is : List Nat) (a : Act) (w : World), wpOps P ops Q is a w → wpOpsIn (Fence.wide.inRound l) n P ops Q is a w
  | [], a, w, h => h
  | i :: rest, a, w, h => by
    simp only [wpOps] at h
    simp only [wpOpsIn]
    cases ho : ops[i]? with
    | none =>
      simp only [ho] at h ⊢
      exact ops_in_round hd hQ rest a w h
    | some o =>
      simp only [ho] at h ⊢
      split at h
      · rename_i hw
        rw [if_pos hw]
        exact oper_in_round (noDefer_spec hd ho) (fun a w => ops_in_round hd hQ rest a w) (h.resolve_right (fun h => hQ h.2))
      · rename_i hw
        rw [if_neg hw]
        exact ⟨fun _ _ => trivial, ops_in_round hd hQ rest _ w h⟩
theorem wpAny_text {a : Act} {w : World} (F C : List Nat) (m0 : Nat) (S : World → Prop) (A : Act) (hB : R.textB ops F [] C m0 m0 = true)
    (hd : R.dstC a.tmps.size (R.pickC ops F) = true) (hQ : ∀ c a (d : Tmp) v w, Q (.panic c) (a.put (some d) v) w → Q (.panic c) a w) (hS : S w)
    (hF : ∀ w', S w' → wpStill P ops w' (fun a' => a' = A) (R.pickC ops F) a)
    (hC : R.wpSeq P ops Q S S (R.chainOf ops m0 m0 C true true) A w) : wpAny P .any ops Q ops.size (Array.replicate ops.size false) a w := by
  simp only [R.textB, Bool.and_eq_true, decide_eq_true_eq, List.all_eq_true, bne_iff_ne] at hB
  obtain ⟨⟨⟨⟨⟨hsel, hlen⟩, hFl⟩, hF1l⟩, hCl⟩, hfl⟩ := hB
  refine R.wpAny_of_T (T := R.Till S S m0 m0) _ _ _ _ ?_
  rw [← hlen]
  exact R.wpAnyT_float hsel hQ hS hS (F1 := []) (A1 := A) (A := A) hF1l rfl (fun _ _ => rfl) F _ a (by rw [hlen]; exact hfl) hFl (by simpa using hlen) hd (fun w' h => hF w' h.1)
    (fun listed' hsz hseq => R.wpAnyT_seq C listed' true true A _ (fun h => by cases h) (fun h => by cases h) hseq hCl hsz hC)
theorem wpIn_region_text {l n id : Nat} {a : Act} {w : World} (F C : List Nat) (m0 : Nat) (S : World → Prop) (A : Act) (hm : P.follows .mixedOrders = true) (hB : R.textB ops F [] C m0 m0 = true) (hnd : noDefer ops = true) (hlo : ¬ LetsOut Q)
    (hd : R.dstC a.tmps.size (R.pickC ops F) = true) (hQ : ∀ c a (d : Tmp) v w, Q (.panic c) (a.put (some d) v) w → Q (.panic c) a w) (hS : S w.drew)
    (hF : ∀ w', S w' → wpStill P ops w' (fun a' => a' = A) (R.pickC ops F) a)
    (hC : R.wpSeq P ops Q S S (R.chainOf ops m0 m0 C true true) A w.drew) : (Code.region id ops true).wpIn (Fence.wide.inRound l) n P Q a w :=
  wpIn_region_draw fun t => by
    simp only [Region.schedule, hm, Bool.true_or, if_true]
    exact ops_in_round hnd hlo _ _ _ (wpAny_sound ops.size t _ a _ (wpAny_text F C m0 S A hB hd hQ hS hF hC))
end
end Go.Proofs.Ytakbijpcfnipoaa.A

set_option linter.unusedVariables false
set_option linter.unusedSimpArgs false
namespace Go.Proofs.Ytakbijpcfnipoaa.A
open Go.RowKit Go.Proofs.YtakbijpcfnipoaaW.PrintWords Go.Proofs.YtakbijpcfnipoaaW.PrintLast Go.Proofs.YtakbijpcfnipoaaW.PrintMore
open Go.Proofs.Ytakbijpcfnipoaa.PA Go.Proofs.Ytakbijpcfnipoaa.Lf
def up (f : Int) : List Int := (List.range (31 - f).toNat).map fun m : Nat => f + (m : Int)
theorem up_lt {f : Int} (h : f ≤ 30) : up f = f :: up (f + 1) := by
  have e : (31 - f).toNat = (31 - (f + 1)).toNat + 1 := by omega
  unfold up
  rw [e, List.range_succ_eq_map, List.map_cons, List.map_map]
  simp only [Int.natCast_zero, Int.add_zero, List.cons.injEq, true_and]
  congr 1
  funext m
  simp only [Function.comp, Nat.succ_eq_add_one]
  omega
theorem up_ge {f : Int} (h : 31 ≤ f) : up f = [] := by
  have e : (31 - f).toNat = 0 := by omega
  unfold up; rw [e]; rfl
def allF : Nat → Int → List (List Int)
  | 0, _ => [[]]
  | j + 1, m => (up m).flatMap fun f => (allF j f).map (f :: ·)
def Pt (i k : Nat) (q : List Int) (b0 b1 b2 : Int) : Prop := (0 < i → b0 = q.getD 0 0) ∧ (1 < i ∨ k ≤ 1 → b1 = q.getD 1 0) ∧ (2 < i ∨ k ≤ 2 → b2 = q.getD 2 0)
theorem getD_snoc (q : List Int) (f : Int) (m : Nat) (h : m < q.length ∨ q.length < m) : (q ++ [f]).getD m 0 = q.getD m 0 := by
  rw [List.getD_eq_getElem?_getD, List.getD_eq_getElem?_getD]
  rcases h with h | h
  · rw [List.getElem?_append_left h]
  · rw [List.getElem?_eq_none (by simp; omega), List.getElem?_eq_none (by omega)]
theorem getD_snoc_self (q : List Int) (f : Int) : (q ++ [f]).getD q.length 0 = f := by simp
theorem Pt.back {i k : Nat} {q : List Int} {f b0 b1 b2 : Int} (hi : i < k) (hq : q.length = i) (h : Pt (i + 1) k (q ++ [f]) b0 b1 b2) : Pt i k q b0 b1 b2 := by
  obtain ⟨h0, h1, h2⟩ := h
  refine ⟨fun h => ?_, fun h => ?_, fun h => ?_⟩
  · rw [h0 (by omega), getD_snoc _ _ _ (by omega)]
  · rw [h1 (by omega), getD_snoc _ _ _ (by omega)]
  · rw [h2 (by omega), getD_snoc _ _ _ (by omega)]
def Bx (k l hb yb sb nb : Nat) (W : World) : Prop := W.cell? ⟨hb, 0, none⟩ = some (.int .i64 (k : Int)) ∧ W.cell? ⟨yb, 0, none⟩ = some (.func (.yield l) #[] #[]) ∧
  W.cell? ⟨nb, 0, none⟩ = some (.func (.func 79) #[] #[.pointer (some ⟨hb, 0, none⟩), .pointer (some ⟨yb, 0, none⟩), .pointer (some ⟨sb, 0, none⟩), .pointer (some ⟨nb, 0, none⟩)])
theorem Bx.of {k l hb yb sb nb : Nat} {W W' : World} (h : Bx k l hb yb sb nb W) (e0 : W'.heap[hb]? = W.heap[hb]?) (e1 : W'.heap[yb]? = W.heap[yb]?) (e2 : W'.heap[nb]? = W.heap[nb]?) : Bx k l hb yb sb nb W' :=
  ⟨(World.cell?_of_block e0).trans h.1, (World.cell?_of_block e1).trans h.2.1, (World.cell?_of_block e2).trans h.2.2⟩
theorem Bx.lt {k l hb yb sb nb : Nat} {W : World} (h : Bx k l hb yb sb nb W) : hb < W.heap.size ∧ yb < W.heap.size ∧ nb < W.heap.size :=
  ⟨World.block_lt_of_cell? W _ h.1, World.block_lt_of_cell? W _ h.2.1, World.block_lt_of_cell? W _ h.2.2⟩
theorem SpotsAt.set0 {B : Nat} {a b c : Int} {W : World} (h : SpotsAt B a b c W) (x : Int) : SpotsAt B x b c (W.setCell ⟨B, 0, none⟩ (.int .i64 x)) := by
  obtain ⟨cs, e, fr, hh⟩ := h.hc
  refine ⟨by simp [go_sem, h.h0], by simp [go_sem, h.h1], by simp [go_sem, h.h2], by simp [h.f0], by simp [h.f1], by simp [h.f2], ?_⟩
  simp [World.setCell, hh, Array.getElem?_setIfInBounds, Array.getElem?_modify]
theorem SpotsAt.set1 {B : Nat} {a b c : Int} {W : World} (h : SpotsAt B a b c W) (x : Int) : SpotsAt B a x c (W.setCell ⟨B, 1, none⟩ (.int .i64 x)) := by
  obtain ⟨cs, e, fr, hh⟩ := h.hc
  refine ⟨by simp [go_sem, h.h0], by simp [go_sem, h.h1], by simp [go_sem, h.h2], by simp [h.f0], by simp [h.f1], by simp [h.f2], ?_⟩
  simp [World.setCell, hh, Array.getElem?_setIfInBounds, Array.getElem?_modify]
theorem SpotsAt.set2 {B : Nat} {a b c : Int} {W : World} (h : SpotsAt B a b c W) (x : Int) : SpotsAt B a b x (W.setCell ⟨B, 2, none⟩ (.int .i64 x)) := by
  obtain ⟨cs, e, fr, hh⟩ := h.hc
  refine ⟨by simp [go_sem, h.h0], by simp [go_sem, h.h1], by simp [go_sem, h.h2], by simp [h.f0], by simp [h.f1], by simp [h.f2], ?_⟩
  simp [World.setCell, hh, Array.getElem?_setIfInBounds, Array.getElem?_modify]
theorem grownBy_setCellAt (W : World) (p : Addr) (v : Value) : W.grownBy (W.setCell p v) (some p.block) := by
  refine ⟨?_, ?_, ?_, ?_, fun j _ hj => Below.heap_setCell _ _ _ _ (fun e => hj (by rw [e]))⟩
  all_goals simp [World.setCell]
section
variable {k l hb yb sb nb B0 : Nat} {xs : List (List Int)} {J : List (List Int) → World → Prop}
set_option maxHeartbeats 8000000 in
set_option maxRecDepth 100000 in
theorem next_yield (hk1 : 1 ≤ k) (hk3 : k ≤ 3) (hyb : B0 ≤ yb) (hsb : B0 ≤ sb) (hnb : B0 ≤ nb)
    (hY : ∀ P x W1, J P W1 → (P ++ [x]) <+: xs → YieldAt Fence.wide 0 Try.prog l #[pad x] W1 fun e W' => e = .returned (.bool true) ∧ J (P ++ [x]) W' ∧ KeptC hb B0 W1 W')
    (q : List Int) (hq : q.length = k) (m : Int) (P : List (List Int)) (W : World) (b0 b1 b2 : Int) (hJ : J P W) (hB : Bx k l hb yb sb nb W) (hS : SpotsAt sb b0 b1 b2 W) (hP : Pt k k q b0 b1 b2) (hx : (P ++ [q]) <+: xs) :
    Calls Try.prog 79 #[.int .i64 (k : Int), .int .i64 m, .pointer (some ⟨hb, 0, none⟩), .pointer (some ⟨yb, 0, none⟩), .pointer (some ⟨sb, 0, none⟩), .pointer (some ⟨nb, 0, none⟩)] W fun e W' =>
      e = .returned (.bool true) ∧ J (P ++ [q]) W' ∧ Bx k l hb yb sb nb W' ∧ ∃ b0 b1 b2, SpotsAt sb b0 b1 b2 W' ∧ Pt k k q b0 b1 b2 := by
  have e : pad q = sv b0 b1 b2 := by
    obtain ⟨h0, h1, h2⟩ := hP
    unfold pad
    rw [h0 (by omega), h1 (by omega), h2 (by omega)]
  obtain ⟨fn, tmps, assign, body, hy, hR⟩ := hY P q W hJ hx
  rw [e] at hy
  have HR := Lib.hid hR
  have HK := Lib.hid (And.intro hB (And.intro hS hP))
  obtain ⟨g0, g1, g2⟩ := hB
  obtain ⟨s0, s1, s2, _, _, _, _⟩ := hS
  clear hY hR hJ hx e hP
  go_enter Try.func79, Try.ntmps79
  go_upto_region 2 with fail
  refine (wpIn_wide (n := 0)).1 ?_
  gi_wp2_with ((refine ⟨rfl, ?_⟩); (refine RoundIn.mono HR.out ?_); rintro e w2 ⟨rfl, hj2, hk2⟩)
  obtain ⟨hB, hS, hP⟩ := HK.out
  have hl := hB.lt
  have hsl := hS.lt
  have hB2 := hB.of (hk2.2 hb (.inl rfl) hl.1) (hk2.2 yb (.inr hyb) hl.2.1) (hk2.2 nb (.inr hnb) hl.2.2)
  have hS2 := hS.of (hk2.2 sb (.inr hsb) hsl)
  go_wp2_with fail
  go_ret
  exact ⟨rfl, hj2, hB2, b0, b1, b2, hS2, hP⟩
set_option maxHeartbeats 8000000 in
set_option maxRecDepth 100000 in
theorem next_step0 (hk1 : 1 ≤ k) (hk3 : k ≤ 3) (hsb : B0 ≤ sb) (hd0 : hb ≠ sb) (hd1 : yb ≠ sb) (hd2 : nb ≠ sb) (hJ : AbidesC B0 J) (g : Int → List (List Int)) (q : List Int) (hq : q.length = 0)
    (HIH : ∀ (f : Int) (P : List (List Int)) (W : World) (b0 b1 b2 : Int), 0 ≤ f → f ≤ 30 → J P W → Bx k l hb yb sb nb W → SpotsAt sb b0 b1 b2 W → Pt 1 k (q ++ [f]) b0 b1 b2 → (P ++ g f) <+: xs →
      Calls Try.prog 79 #[.int .i64 1, .int .i64 f, .pointer (some ⟨hb, 0, none⟩), .pointer (some ⟨yb, 0, none⟩), .pointer (some ⟨sb, 0, none⟩), .pointer (some ⟨nb, 0, none⟩)] W fun e W' =>
        e = .returned (.bool true) ∧ J (P ++ g f) W' ∧ Bx k l hb yb sb nb W' ∧ ∃ b0 b1 b2, SpotsAt sb b0 b1 b2 W' ∧ Pt 1 k (q ++ [f]) b0 b1 b2)
    (m : Int) (hm : 0 ≤ m ∧ m ≤ 30) (P : List (List Int)) (W : World) (b0 b1 b2 : Int) (hJ0 : J P W) (hB : Bx k l hb yb sb nb W) (hS : SpotsAt sb b0 b1 b2 W) (hP : Pt 0 k q b0 b1 b2) (hx : (P ++ (up m).flatMap g) <+: xs) :
    Calls Try.prog 79 #[.int .i64 0, .int .i64 m, .pointer (some ⟨hb, 0, none⟩), .pointer (some ⟨yb, 0, none⟩), .pointer (some ⟨sb, 0, none⟩), .pointer (some ⟨nb, 0, none⟩)] W fun e W' =>
      e = .returned (.bool true) ∧ J (P ++ (up m).flatMap g) W' ∧ Bx k l hb yb sb nb W' ∧ ∃ b0 b1 b2, SpotsAt sb b0 b1 b2 W' ∧ Pt 0 k q b0 b1 b2 := by
  have HI := Lib.hid HIH
  have HJ := Lib.hid hJ
  have HX := Lib.hid hx
  have HQ := Lib.hid hq
  have HD := Lib.hid (And.intro hd0 (And.intro hd1 hd2))
  have H0 : Hid (∃ P', J P' W ∧ P' ++ (up m).flatMap g = P ++ (up m).flatMap g ∧ Bx k l hb yb sb nb W ∧ ∃ b0 b1 b2, SpotsAt sb b0 b1 b2 W ∧ Pt 0 k q b0 b1 b2) := Lib.hid ⟨P, hJ0, rfl, hB, b0, b1, b2, hS, hP⟩
  obtain ⟨T, hT⟩ : ∃ T, P ++ (up m).flatMap g = T := ⟨_, rfl⟩
  rw [hT] at HX H0 ⊢
  have g0 := hB.1
  have hki : ¬ ((0 : Int) = (k : Int)) := by omega
  have hki' : (((0 : Int) == (k : Int))) = false := by simpa using hki
  clear HIH hJ hx hq hd0 hd1 hd2 hJ0 hB hS hP hT
  go_enter Try.func79, Try.ntmps79
  go_wp2_with fail
  clear g0
  go_loopw [9] (fun v9 wr => ∃ f : Int, v9 = .int .i64 f ∧ m ≤ f ∧ f ≤ 31 ∧ Hid (∃ P', J P' wr ∧ P' ++ (up f).flatMap g = T ∧ Bx k l hb yb sb nb wr ∧ ∃ b0 b1 b2, SpotsAt sb b0 b1 b2 wr ∧ Pt 0 k q b0 b1 b2)) (fun v9 _ => (31 - intOf v9).toNat)
  case atStart => exact ⟨m, rfl, Int.le_refl _, by omega, H0⟩
  case round =>
    rename World => wr
    obtain ⟨f, rfl, hmf, hf31, HR⟩ := hrel
    clear H0
    by_cases hlt : f ≤ 30
    · obtain ⟨P', hJ', hT', hB', b0, b1, b2, hS', hP'⟩ := HR.out
      have hfw : wrap64 (f + 1) = f + 1 := by unfold wrap64; omega
      have hset := hS'.set0 f
      have hg : wr.grownBy (wr.setCell ⟨sb, 0, none⟩ (.int .i64 f)) (some sb) := grownBy_setCellAt _ _ _
      have hJ2 := HJ.out _ _ _ _ hJ' hg (fun r e => by cases e; exact hsb)
      have hBl := hB'.lt
      have hB2 := hB'.of (hg.block _ hBl.1 (fun e => HD.out.1 (by injection e))) (hg.block _ hBl.2.1 (fun e => HD.out.2.1 (by injection e))) (hg.block _ hBl.2.2 (fun e => HD.out.2.2 (by injection e)))
      have hP2 : Pt 1 k (q ++ [f]) f b1 b2 := by
        obtain ⟨h0, h1, h2⟩ := hP'
        have hq := HQ.out
        have hself := getD_snoc_self q f
        rw [hq] at hself
        refine ⟨fun h => ?_, fun h => ?_, fun h => ?_⟩
        · exact hself.symm
        · rw [h1 (by omega), getD_snoc _ _ _ (by omega)]
        · rw [h2 (by omega), getD_snoc _ _ _ (by omega)]
      have hpre : (P' ++ g f) <+: xs := by
        refine List.IsPrefix.trans ?_ HX.out
        rw [← hT', up_lt hlt, List.flatMap_cons, ← List.append_assoc]
        exact List.prefix_append _ _
      have hc := HI.out f P' _ _ _ _ (by omega) hlt hJ2 hB2 hset hP2 hpre
      have HC := Lib.hid hc
      have HN : Hid (P' ++ g f ++ (up (f + 1)).flatMap g = T) := Lib.hid (by rw [← hT', up_lt hlt, List.flatMap_cons, List.append_assoc])
      obtain ⟨s0, s1, s2, f0, f1, f2, _⟩ := hS'
      have n0 := hB2.2.2
      clear hset hg hJ2 hBl hB2 hP2 hpre hc HR hJ' hT' hB' hP'
      go_wp2_with (first | (go_at_call 79; (with_reducible refine HC.out.mono ?_); rintro e w2 ⟨rfl, hj2, hb2, c0, c1, c2, hs2, hp2⟩))
      refine ⟨⟨f + 1, by go_num, by omega, by omega, Lib.hid ⟨_, hj2, HN.out, hb2, c0, c1, c2, hs2, hp2.back (by omega) HQ.out⟩⟩, by simp [intOf]; omega⟩
    · obtain rfl : f = 31 := by omega
      have hge : ¬ (31 : Int) ≤ 30 := by omega
      obtain ⟨P', hJ', hT', hB', b0, b1, b2, hS', hP'⟩ := HR.out
      rw [up_ge (Int.le_refl _), List.flatMap_nil, List.append_nil] at hT'
      subst hT'
      have HF := Lib.hid (And.intro hJ' (And.intro hB' (And.intro hS' hP')))
      clear HR hJ' hB' hS' hP'
      go_wp2_with fail
      go_ret
      exact ⟨rfl, HF.out.1, HF.out.2.1, b0, b1, b2, HF.out.2.2.1, HF.out.2.2.2⟩
set_option maxHeartbeats 8000000 in
set_option maxRecDepth 100000 in
theorem next_step1 (hk1 : 2 ≤ k) (hk3 : k ≤ 3) (hsb : B0 ≤ sb) (hd0 : hb ≠ sb) (hd1 : yb ≠ sb) (hd2 : nb ≠ sb) (hJ : AbidesC B0 J) (g : Int → List (List Int)) (q : List Int) (hq : q.length = 1)
    (HIH : ∀ (f : Int) (P : List (List Int)) (W : World) (b0 b1 b2 : Int), 0 ≤ f → f ≤ 30 → J P W → Bx k l hb yb sb nb W → SpotsAt sb b0 b1 b2 W → Pt 2 k (q ++ [f]) b0 b1 b2 → (P ++ g f) <+: xs →
      Calls Try.prog 79 #[.int .i64 2, .int .i64 f, .pointer (some ⟨hb, 0, none⟩), .pointer (some ⟨yb, 0, none⟩), .pointer (some ⟨sb, 0, none⟩), .pointer (some ⟨nb, 0, none⟩)] W fun e W' =>
        e = .returned (.bool true) ∧ J (P ++ g f) W' ∧ Bx k l hb yb sb nb W' ∧ ∃ b0 b1 b2, SpotsAt sb b0 b1 b2 W' ∧ Pt 2 k (q ++ [f]) b0 b1 b2)
    (m : Int) (hm : 0 ≤ m ∧ m ≤ 30) (P : List (List Int)) (W : World) (b0 b1 b2 : Int) (hJ0 : J P W) (hB : Bx k l hb yb sb nb W) (hS : SpotsAt sb b0 b1 b2 W) (hP : Pt 1 k q b0 b1 b2) (hx : (P ++ (up m).flatMap g) <+: xs) :
    Calls Try.prog 79 #[.int .i64 1, .int .i64 m, .pointer (some ⟨hb, 0, none⟩), .pointer (some ⟨yb, 0, none⟩), .pointer (some ⟨sb, 0, none⟩), .pointer (some ⟨nb, 0, none⟩)] W fun e W' =>
      e = .returned (.bool true) ∧ J (P ++ (up m).flatMap g) W' ∧ Bx k l hb yb sb nb W' ∧ ∃ b0 b1 b2, SpotsAt sb b0 b1 b2 W' ∧ Pt 1 k q b0 b1 b2 := by
  have HI := Lib.hid HIH
  have HJ := Lib.hid hJ
  have HX := Lib.hid hx
  have HQ := Lib.hid hq
  have HD := Lib.hid (And.intro hd0 (And.intro hd1 hd2))
  have H0 : Hid (∃ P', J P' W ∧ P' ++ (up m).flatMap g = P ++ (up m).flatMap g ∧ Bx k l hb yb sb nb W ∧ ∃ b0 b1 b2, SpotsAt sb b0 b1 b2 W ∧ Pt 1 k q b0 b1 b2) := Lib.hid ⟨P, hJ0, rfl, hB, b0, b1, b2, hS, hP⟩
  obtain ⟨T, hT⟩ : ∃ T, P ++ (up m).flatMap g = T := ⟨_, rfl⟩
  rw [hT] at HX H0 ⊢
  have g0 := hB.1
  have hki : ¬ ((1 : Int) = (k : Int)) := by omega
  have hki' : (((1 : Int) == (k : Int))) = false := by simpa using hki
  clear HIH hJ hx hq hd0 hd1 hd2 hJ0 hB hS hP hT
  go_enter Try.func79, Try.ntmps79
  go_wp2_with fail
  clear g0
  go_loopw [9] (fun v9 wr => ∃ f : Int, v9 = .int .i64 f ∧ m ≤ f ∧ f ≤ 31 ∧ Hid (∃ P', J P' wr ∧ P' ++ (up f).flatMap g = T ∧ Bx k l hb yb sb nb wr ∧ ∃ b0 b1 b2, SpotsAt sb b0 b1 b2 wr ∧ Pt 1 k q b0 b1 b2)) (fun v9 _ => (31 - intOf v9).toNat)
  case atStart => exact ⟨m, rfl, Int.le_refl _, by omega, H0⟩
  case round =>
    rename World => wr
    obtain ⟨f, rfl, hmf, hf31, HR⟩ := hrel
    clear H0
    by_cases hlt : f ≤ 30
    · obtain ⟨P', hJ', hT', hB', b0, b1, b2, hS', hP'⟩ := HR.out
      have hfw : wrap64 (f + 1) = f + 1 := by unfold wrap64; omega
      have hset := hS'.set1 f
      have hg : wr.grownBy (wr.setCell ⟨sb, 1, none⟩ (.int .i64 f)) (some sb) := grownBy_setCellAt _ _ _
      have hJ2 := HJ.out _ _ _ _ hJ' hg (fun r e => by cases e; exact hsb)
      have hBl := hB'.lt
      have hB2 := hB'.of (hg.block _ hBl.1 (fun e => HD.out.1 (by injection e))) (hg.block _ hBl.2.1 (fun e => HD.out.2.1 (by injection e))) (hg.block _ hBl.2.2 (fun e => HD.out.2.2 (by injection e)))
      have hP2 : Pt 2 k (q ++ [f]) b0 f b2 := by
        obtain ⟨h0, h1, h2⟩ := hP'
        have hq := HQ.out
        have hself := getD_snoc_self q f
        rw [hq] at hself
        refine ⟨fun h => ?_, fun h => ?_, fun h => ?_⟩
        · rw [h0 (by omega), getD_snoc _ _ _ (by omega)]
        · exact hself.symm
        · rw [h2 (by omega), getD_snoc _ _ _ (by omega)]
      have hpre : (P' ++ g f) <+: xs := by
        refine List.IsPrefix.trans ?_ HX.out
        rw [← hT', up_lt hlt, List.flatMap_cons, ← List.append_assoc]
        exact List.prefix_append _ _
      have hc := HI.out f P' _ _ _ _ (by omega) hlt hJ2 hB2 hset hP2 hpre
      have HC := Lib.hid hc
      have HN : Hid (P' ++ g f ++ (up (f + 1)).flatMap g = T) := Lib.hid (by rw [← hT', up_lt hlt, List.flatMap_cons, List.append_assoc])
      obtain ⟨s0, s1, s2, f0, f1, f2, _⟩ := hS'
      have n0 := hB2.2.2
      clear hset hg hJ2 hBl hB2 hP2 hpre hc HR hJ' hT' hB' hP'
      go_wp2_with (first | (go_at_call 79; (with_reducible refine HC.out.mono ?_); rintro e w2 ⟨rfl, hj2, hb2, c0, c1, c2, hs2, hp2⟩))
      refine ⟨⟨f + 1, by go_num, by omega, by omega, Lib.hid ⟨_, hj2, HN.out, hb2, c0, c1, c2, hs2, hp2.back (by omega) HQ.out⟩⟩, by simp [intOf]; omega⟩
    · obtain rfl : f = 31 := by omega
      have hge : ¬ (31 : Int) ≤ 30 := by omega
      obtain ⟨P', hJ', hT', hB', b0, b1, b2, hS', hP'⟩ := HR.out
      rw [up_ge (Int.le_refl _), List.flatMap_nil, List.append_nil] at hT'
      subst hT'
      have HF := Lib.hid (And.intro hJ' (And.intro hB' (And.intro hS' hP')))
      clear HR hJ' hB' hS' hP'
      go_wp2_with fail
      go_ret
      exact ⟨rfl, HF.out.1, HF.out.2.1, b0, b1, b2, HF.out.2.2.1, HF.out.2.2.2⟩
set_option maxHeartbeats 8000000 in
set_option maxRecDepth 100000 in
theorem next_step2 (hk1 : 3 ≤ k) (hk3 : k ≤ 3) (hsb : B0 ≤ sb) (hd0 : hb ≠ sb) (hd1 : yb ≠ sb) (hd2 : nb ≠ sb) (hJ : AbidesC B0 J) (g : Int → List (List Int)) (q : List Int) (hq : q.length = 2)
    (HIH : ∀ (f : Int) (P : List (List Int)) (W : World) (b0 b1 b2 : Int), 0 ≤ f → f ≤ 30 → J P W → Bx k l hb yb sb nb W → SpotsAt sb b0 b1 b2 W → Pt 3 k (q ++ [f]) b0 b1 b2 → (P ++ g f) <+: xs →
      Calls Try.prog 79 #[.int .i64 3, .int .i64 f, .pointer (some ⟨hb, 0, none⟩), .pointer (some ⟨yb, 0, none⟩), .pointer (some ⟨sb, 0, none⟩), .pointer (some ⟨nb, 0, none⟩)] W fun e W' =>
        e = .returned (.bool true) ∧ J (P ++ g f) W' ∧ Bx k l hb yb sb nb W' ∧ ∃ b0 b1 b2, SpotsAt sb b0 b1 b2 W' ∧ Pt 3 k (q ++ [f]) b0 b1 b2)
    (m : Int) (hm : 0 ≤ m ∧ m ≤ 30) (P : List (List Int)) (W : World) (b0 b1 b2 : Int) (hJ0 : J P W) (hB : Bx k l hb yb sb nb W) (hS : SpotsAt sb b0 b1 b2 W) (hP : Pt 2 k q b0 b1 b2) (hx : (P ++ (up m).flatMap g) <+: xs) :
    Calls Try.prog 79 #[.int .i64 2, .int .i64 m, .pointer (some ⟨hb, 0, none⟩), .pointer (some ⟨yb, 0, none⟩), .pointer (some ⟨sb, 0, none⟩), .pointer (some ⟨nb, 0, none⟩)] W fun e W' =>
      e = .returned (.bool true) ∧ J (P ++ (up m).flatMap g) W' ∧ Bx k l hb yb sb nb W' ∧ ∃ b0 b1 b2, SpotsAt sb b0 b1 b2 W' ∧ Pt 2 k q b0 b1 b2 := by
  have HI := Lib.hid HIH
  have HJ := Lib.hid hJ
  have HX := Lib.hid hx
  have HQ := Lib.hid hq
  have HD := Lib.hid (And.intro hd0 (And.intro hd1 hd2))
  have H0 : Hid (∃ P', J P' W ∧ P' ++ (up m).flatMap g = P ++ (up m).flatMap g ∧ Bx k l hb yb sb nb W ∧ ∃ b0 b1 b2, SpotsAt sb b0 b1 b2 W ∧ Pt 2 k q b0 b1 b2) := Lib.hid ⟨P, hJ0, rfl, hB, b0, b1, b2, hS, hP⟩
  obtain ⟨T, hT⟩ : ∃ T, P ++ (up m).flatMap g = T := ⟨_, rfl⟩
  rw [hT] at HX H0 ⊢
  have g0 := hB.1
  have hki : ¬ ((2 : Int) = (k : Int)) := by omega
  have hki' : (((2 : Int) == (k : Int))) = false := by simpa using hki
  clear HIH hJ hx hq hd0 hd1 hd2 hJ0 hB hS hP hT
  go_enter Try.func79, Try.ntmps79
  go_wp2_with fail
  clear g0
  go_loopw [9] (fun v9 wr => ∃ f : Int, v9 = .int .i64 f ∧ m ≤ f ∧ f ≤ 31 ∧ Hid (∃ P', J P' wr ∧ P' ++ (up f).flatMap g = T ∧ Bx k l hb yb sb nb wr ∧ ∃ b0 b1 b2, SpotsAt sb b0 b1 b2 wr ∧ Pt 2 k q b0 b1 b2)) (fun v9 _ => (31 - intOf v9).toNat)
  case atStart => exact ⟨m, rfl, Int.le_refl _, by omega, H0⟩
  case round =>
    rename World => wr
    obtain ⟨f, rfl, hmf, hf31, HR⟩ := hrel
    clear H0
    by_cases hlt : f ≤ 30
    · obtain ⟨P', hJ', hT', hB', b0, b1, b2, hS', hP'⟩ := HR.out
      have hfw : wrap64 (f + 1) = f + 1 := by unfold wrap64; omega
      have hset := hS'.set2 f
      have hg : wr.grownBy (wr.setCell ⟨sb, 2, none⟩ (.int .i64 f)) (some sb) := grownBy_setCellAt _ _ _
      have hJ2 := HJ.out _ _ _ _ hJ' hg (fun r e => by cases e; exact hsb)
      have hBl := hB'.lt
      have hB2 := hB'.of (hg.block _ hBl.1 (fun e => HD.out.1 (by injection e))) (hg.block _ hBl.2.1 (fun e => HD.out.2.1 (by injection e))) (hg.block _ hBl.2.2 (fun e => HD.out.2.2 (by injection e)))
      have hP2 : Pt 3 k (q ++ [f]) b0 b1 f := by
        obtain ⟨h0, h1, h2⟩ := hP'
        have hq := HQ.out
        have hself := getD_snoc_self q f
        rw [hq] at hself
        refine ⟨fun h => ?_, fun h => ?_, fun h => ?_⟩
        · rw [h0 (by omega), getD_snoc _ _ _ (by omega)]
        · rw [h1 (by omega), getD_snoc _ _ _ (by omega)]
        · exact hself.symm
      have hpre : (P' ++ g f) <+: xs := by
        refine List.IsPrefix.trans ?_ HX.out
        rw [← hT', up_lt hlt, List.flatMap_cons, ← List.append_assoc]
        exact List.prefix_append _ _
      have hc := HI.out f P' _ _ _ _ (by omega) hlt hJ2 hB2 hset hP2 hpre
      have HC := Lib.hid hc
      have HN : Hid (P' ++ g f ++ (up (f + 1)).flatMap g = T) := Lib.hid (by rw [← hT', up_lt hlt, List.flatMap_cons, List.append_assoc])
      obtain ⟨s0, s1, s2, f0, f1, f2, _⟩ := hS'
      have n0 := hB2.2.2
      clear hset hg hJ2 hBl hB2 hP2 hpre hc HR hJ' hT' hB' hP'
      go_wp2_with (first | (go_at_call 79; (with_reducible refine HC.out.mono ?_); rintro e w2 ⟨rfl, hj2, hb2, c0, c1, c2, hs2, hp2⟩))
      refine ⟨⟨f + 1, by go_num, by omega, by omega, Lib.hid ⟨_, hj2, HN.out, hb2, c0, c1, c2, hs2, hp2.back (by omega) HQ.out⟩⟩, by simp [intOf]; omega⟩
    · obtain rfl : f = 31 := by omega
      have hge : ¬ (31 : Int) ≤ 30 := by omega
      obtain ⟨P', hJ', hT', hB', b0, b1, b2, hS', hP'⟩ := HR.out
      rw [up_ge (Int.le_refl _), List.flatMap_nil, List.append_nil] at hT'
      subst hT'
      have HF := Lib.hid (And.intro hJ' (And.intro hB' (And.intro hS' hP')))
      clear HR hJ' hB' hS' hP'
      go_wp2_with fail
      go_ret
      exact ⟨rfl, HF.out.1, HF.out.2.1, b0, b1, b2, HF.out.2.2.1, HF.out.2.2.2⟩
end
end Go.Proofs.Ytakbijpcfnipoaa.A

set_option linter.unusedVariables false
set_option linter.unusedSimpArgs false
namespace Go.Proofs.Ytakbijpcfnipoaa.A
open Go.RowKit Go.Proofs.YtakbijpcfnipoaaW.PrintWords Go.Proofs.YtakbijpcfnipoaaW.PrintLast Go.Proofs.YtakbijpcfnipoaaW.PrintMore
open Go.Proofs.Ytakbijpcfnipoaa.PA Go.Proofs.Ytakbijpcfnipoaa.Lf
theorem room_none {F : Fence} (hd : F.depth = none) (k : Nat) : F.room k := fun d h => by rw [hd] at h; cases h
theorem yieldAt_any {F : Fence} (hd : F.depth = none) {m : Nat} (m' : Nat) {P : Program} {l : Nat} {args : Array Value} {W : World} {R : Ending → World → Prop} (h : YieldAt F m P l args W R) : YieldAt F m' P l args W R := by
  obtain ⟨fn, tmps, assign, body, hy, hR⟩ := h
  exact ⟨fn, tmps, assign, body, hy, hR.1, fun c cs _ => hR.2 c cs (room_none hd _)⟩
theorem allF_succ (j : Nat) (m : Int) (q : List Int) : (allF (j + 1) m).map (q ++ ·) = (up m).flatMap fun f => (allF j f).map ((q ++ [f]) ++ ·) := by
  show ((up m).flatMap fun f => (allF j f).map (f :: ·)).map (q ++ ·) = _
  rw [List.map_flatMap]
  congr 1
  funext f
  rw [List.map_map]
  congr 1
  funext x
  simp
section
variable {k l hb yb sb nb B0 : Nat} {xs : List (List Int)} {J : List (List Int) → World → Prop}
theorem next_c (hk1 : 1 ≤ k) (hk3 : k ≤ 3) (hyb : B0 ≤ yb) (hsb : B0 ≤ sb) (hnb : B0 ≤ nb) (hd0 : hb ≠ sb) (hd1 : yb ≠ sb) (hd2 : nb ≠ sb) (hJ : AbidesC B0 J)
    (hY : ∀ P x W1, J P W1 → (P ++ [x]) <+: xs → YieldAt Fence.wide 0 Try.prog l #[pad x] W1 fun e W' => e = .returned (.bool true) ∧ J (P ++ [x]) W' ∧ KeptC hb B0 W1 W') :
    ∀ (j i : Nat) (iv : Int), iv = (i : Int) → i + j = k → ∀ (q : List Int), q.length = i → ∀ (m : Int), 0 ≤ m → m ≤ 30 → ∀ (P : List (List Int)) (W : World) (b0 b1 b2 : Int), J P W → Bx k l hb yb sb nb W → SpotsAt sb b0 b1 b2 W → Pt i k q b0 b1 b2 → (P ++ (allF j m).map (q ++ ·)) <+: xs →
      Calls Try.prog 79 #[.int .i64 iv, .int .i64 m, .pointer (some ⟨hb, 0, none⟩), .pointer (some ⟨yb, 0, none⟩), .pointer (some ⟨sb, 0, none⟩), .pointer (some ⟨nb, 0, none⟩)] W fun e W' =>
        e = .returned (.bool true) ∧ J (P ++ (allF j m).map (q ++ ·)) W' ∧ Bx k l hb yb sb nb W' ∧ ∃ b0 b1 b2, SpotsAt sb b0 b1 b2 W' ∧ Pt i k q b0 b1 b2
  | 0, i, iv, hiv, hik, q, hq, m, hm0, hm, P, W, b0, b1, b2, hj, hB, hS, hP, hx => by
    obtain rfl : i = k := by omega
    subst hiv
    have e : (allF 0 m).map (q ++ ·) = [q] := by simp [allF]
    rw [e] at hx ⊢
    exact next_yield hk1 hk3 hyb hsb hnb hY q hq m P W b0 b1 b2 hj hB hS hP hx
  | j + 1, i, iv, hiv, hik, q, hq, m, hm0, hm, P, W, b0, b1, b2, hj, hB, hS, hP, hx => by
    rw [allF_succ] at hx ⊢
    have ih := fun (f : Int) (P : List (List Int)) (W : World) (b0 b1 b2 : Int) (h0 : 0 ≤ f) (h30 : f ≤ 30) (hj : J P W) (hB : Bx k l hb yb sb nb W) (hS : SpotsAt sb b0 b1 b2 W) (hP : Pt (i + 1) k (q ++ [f]) b0 b1 b2) (hx : (P ++ (allF j f).map ((q ++ [f]) ++ ·)) <+: xs) =>
      next_c hk1 hk3 hyb hsb hnb hd0 hd1 hd2 hJ hY j (i + 1) ((i + 1 : Nat) : Int) rfl (by omega) (q ++ [f]) (by simp [hq]) f h0 h30 P W b0 b1 b2 hj hB hS hP hx
    obtain rfl | rfl | rfl : i = 0 ∨ i = 1 ∨ i = 2 := by omega
    · obtain rfl : iv = 0 := by omega
      exact next_step0 (by omega) hk3 hsb hd0 hd1 hd2 hJ (fun f => (allF j f).map ((q ++ [f]) ++ ·)) q hq ih m ⟨hm0, hm⟩ P W b0 b1 b2 hj hB hS hP hx
    · obtain rfl : iv = 1 := by omega
      exact next_step1 (by omega) hk3 hsb hd0 hd1 hd2 hJ (fun f => (allF j f).map ((q ++ [f]) ++ ·)) q hq ih m ⟨hm0, hm⟩ P W b0 b1 b2 hj hB hS hP hx
    · obtain rfl : iv = 2 := by omega
      exact next_step2 (by omega) hk3 hsb hd0 hd1 hd2 hJ (fun f => (allF j f).map ((q ++ [f]) ++ ·)) q hq ih m ⟨hm0, hm⟩ P W b0 b1 b2 hj hB hS hP hx
end
set_option maxHeartbeats 8000000 in
set_option maxRecDepth 100000 in
theorem iter_c (k : Nat) (hk1 : 1 ≤ k) (hk3 : k ≤ 3) (n hb : Nat) (w : World) (h0 : w.cell? ⟨hb, 0, none⟩ = some (.int .i64 (k : Int))) :
    SeqOwn Fence.wide n Try.prog 78 #[.pointer (some ⟨hb, 0, none⟩)] (fun x => #[pad x]) (allF k 0) hb w := by
  intro l J W hsz hbl hJ hY hj
  refine callsIn_wide.2 ?_
  obtain ⟨B, hB⟩ : ∃ B, W.heap.size = B := ⟨_, rfl⟩
  have hhb : hb < W.heap.size := Nat.lt_of_lt_of_le (World.block_lt_of_cell? w _ h0) hsz
  have hc : W.cell? ⟨hb, 0, none⟩ = some (.int .i64 (k : Int)) := (World.cell?_of_block hbl).trans h0
  rw [hB] at hhb hJ hY
  obtain ⟨W1, hW1⟩ : ∃ W1, ((W.alloc (Obj.cells #[.func (.yield l) #[] #[]] 87)).alloc (Obj.cells #[.int .i64 0, .int .i64 0, .int .i64 0] 52)).alloc (Obj.cells #[Value.nilFunc] 88) = W1 := ⟨_, rfl⟩
  have hz1 : W1.heap.size = B + 3 := by rw [← hW1]; simp [hB]
  have hg1 : W.grownBy W1 none := by rw [← hW1]; exact ((World.grownBy_alloc _ _ _).trans (World.grownBy_alloc _ _ _)).trans (World.grownBy_alloc _ _ _)
  have hy1 : W1.cell? ⟨B, 0, none⟩ = some (.func (.yield l) #[] #[]) := by rw [← hW1, ← hB]; simp [go_sem]
  have hs1 : SpotsAt (B + 1) 0 0 0 W1 := by
    have := SpotsAt.new (W.alloc (Obj.cells #[.func (.yield l) #[] #[]] 87)) 0 0 0
    rw [World.size_alloc, hB] at this
    rw [← hW1]
    exact this.of ((World.grownBy_alloc _ _ none).block _ (by simp [hB]) (by simp))
  have hn1 : W1.cell? ⟨B + 1 + 1, 0, none⟩ = some Value.nilFunc := by rw [← hW1, ← hB]; simp [go_sem]
  have hf1 : W1.frozen? ⟨B + 1 + 1, 0, none⟩ = false := by rw [← hW1, ← hB]; simp [go_sem]
  have hg2 := grownBy_setCellAt W1 ⟨B + 1 + 1, 0, none⟩ (Value.func (.func 79) #[] #[.pointer (some ⟨hb, 0, none⟩), .pointer (some ⟨B, 0, none⟩), .pointer (some ⟨B + 1, 0, none⟩), .pointer (some ⟨B + 1 + 1, 0, none⟩)])
  have hn2 : (W1.setCell ⟨B + 1 + 1, 0, none⟩ (Value.func (.func 79) #[] #[.pointer (some ⟨hb, 0, none⟩), .pointer (some ⟨B, 0, none⟩), .pointer (some ⟨B + 1, 0, none⟩), .pointer (some ⟨B + 1 + 1, 0, none⟩)])).cell? ⟨B + 1 + 1, 0, none⟩ = some (Value.func (.func 79) #[] #[.pointer (some ⟨hb, 0, none⟩), .pointer (some ⟨B, 0, none⟩), .pointer (some ⟨B + 1, 0, none⟩), .pointer (some ⟨B + 1 + 1, 0, none⟩)]) := by simp [go_sem, hn1]
  have hj2 : J [] (W1.setCell ⟨B + 1 + 1, 0, none⟩ (Value.func (.func 79) #[] #[.pointer (some ⟨hb, 0, none⟩), .pointer (some ⟨B, 0, none⟩), .pointer (some ⟨B + 1, 0, none⟩), .pointer (some ⟨B + 1 + 1, 0, none⟩)])) := hJ _ _ _ _ (hJ _ _ _ _ hj hg1 (fun r e => by cases e)) hg2 (fun r e => by cases e; show B ≤ B + 1 + 1; omega)
  have hs2 := hs1.of (hg2.block (B + 1) (by omega) (fun e => by injection e with e; have : B + 1 = B + 1 + 1 := e; omega))
  have hbx : Bx k l hb B (B + 1) (B + 1 + 1) (W1.setCell ⟨B + 1 + 1, 0, none⟩ (Value.func (.func 79) #[] #[.pointer (some ⟨hb, 0, none⟩), .pointer (some ⟨B, 0, none⟩), .pointer (some ⟨B + 1, 0, none⟩), .pointer (some ⟨B + 1 + 1, 0, none⟩)])) := by
    refine ⟨?_, ?_, ?_⟩
    · refine (World.cell?_of_block (hg2.block hb (by omega) (fun e => by injection e with e; have : hb = B + 1 + 1 := e; omega))).trans ((World.cell?_of_block (hg1.block hb (by omega) (by simp))).trans hc)
    · exact (World.cell?_of_block (hg2.block B (by omega) (fun e => by injection e with e; have : B = B + 1 + 1 := e; omega))).trans hy1
    · exact hn2
  have hcall := next_c (B0 := B) (J := J) (xs := allF k 0) hk1 hk3 (Nat.le_refl B) (by omega) (by omega) (by omega) (by omega) (by omega) hJ (fun P x W1 h hx => yieldAt_any rfl 0 (hY P x W1 h hx)) k 0 0 rfl (by omega) [] rfl 0 (by omega) (by omega) [] _ 0 0 0 hj2 hbx hs2
    ⟨fun _ => rfl, fun _ => rfl, fun _ => rfl⟩ (by simp)
  have HC := Lib.hid hcall
  clear hcall hj2 hs2 hbx hg2 hY hJ hj hg1 hs1 hy1
  go_enter Try.func78, Try.ntmps78
  go_upto_region 3 with fail
  go_wp2_with (go_at_call 79; (with_reducible refine HC.out.mono ?_); rintro e w2 ⟨rfl, hj2, _, _⟩)
  go_end0
  exact ⟨⟨_, rfl⟩, by simpa using hj2⟩
set_option maxHeartbeats 8000000 in
set_option maxRecDepth 100000 in
theorem all_c (k : Nat) (s0 s1 s2 : Int) (sl : Value) (w : World) :
    Calls Try.prog 72 #[hv k s0 s1 s2 sl] w fun e w' => e = .returned (.func (.func 78) #[] #[.pointer (some ⟨w.heap.size, 0, none⟩)]) ∧
      w' = w.alloc (.cells #[.int .i64 (k : Int), .int .i64 s0, .int .i64 s1, .int .i64 s2, sl] 54) := by
  go_enter Try.func72, Try.ntmps72
  go_wp2_with fail
  go_ret
  exact ⟨rfl, rfl⟩
end Go.Proofs.Ytakbijpcfnipoaa.A

set_option linter.unusedVariables false
set_option linter.unusedSimpArgs false
namespace Go.Proofs.Ytakbijpcfnipoaa.A
open Go.RowKit Go.Proofs.Ytakbijpcfnipoaa.Lf
def keyS3 (a b c : Int) : Lit := .string (keyBytes [.int .i64 a, .int .i64 b, .int .i64 c])
def ok3 (a b c : Int) : Prop := (Lit.int .i64 a).wf = true ∧ (Lit.int .i64 b).wf = true ∧ (Lit.int .i64 c).wf = true
theorem keyS3_key (a b c : Int) : WideAt.IsKeyLit (keyS3 a b c) := by simp [keyS3, WideAt.IsKeyLit]
theorem keyS3_inj {a b c a' b' c' : Int} (h : ok3 a b c) (h' : ok3 a' b' c') (e : keyS3 a b c = keyS3 a' b' c') : a = a' ∧ b = b' ∧ c = c' := by
  unfold keyS3 at e
  injection e with e
  have hk : ∀ {a b c : Int}, ok3 a b c → ∀ x ∈ [Lit.int .i64 a, Lit.int .i64 b, Lit.int .i64 c], x.keyWf := fun {a b c} h x hx => by
    simp only [List.mem_cons, List.not_mem_nil, or_false] at hx
    rcases hx with rfl | rfl | rfl
    · exact h.1
    · exact h.2.1
    · exact h.2.2
  have := keyBytes_inj (l := [.int .i64 a, .int .i64 b, .int .i64 c]) (l' := [.int .i64 a', .int .i64 b', .int .i64 c']) ⟨rfl, rfl, rfl, trivial⟩ (hk h) (hk h') e
  simp only [List.cons.injEq, Lit.int.injEq, true_and, and_true] at this
  exact this
theorem lay65 : Try.prog.underlying 65 = some (.map 52 3) := Try.underlying65
theorem laid : laidOutB Try.prog = true := by kernel_rfl
theorem row52 : (52 : TypeId) < Try.prog.types.size := of_decide_eq_true (by kernel_rfl)
theorem wide52 : (match Try.prog.underlying 52 with | some (.array _ _) | some (.struct _) => true | _ => false) = true := by rw [Try.underlying52]
set_option maxRecDepth 100000 in
theorem keyed52 : Maps.Keyed Try.prog 52 := Maps.Keyed.of_law (deep_law_laid laid (m := 2) (by omega) row52 (by kernel_rfl) wide52)
theorem zero3 (w : World) : (zeroValue 3).run Try.prog w = .ok (.int .i64 0) w := by kernel_rfl
theorem kt52 : Try.prog.keyType 52 = true := by kernel_rfl
theorem cells52 : Try.prog.cellsOf 52 = 3 := by kernel_rfl
theorem cells3 : Try.prog.cellsOf 3 = 1 := by kernel_rfl
theorem formed52 (a b c : Int) : (sv a b c).formed Try.prog 52 = true := by simp [sv, Value.formed, Try.underlying52, cells52]
theorem lit3 (d : Nat) {x : Int} (h : (Lit.int .i64 x).wf = true) : Try.prog.keyLits (d + 1) 3 [.int .i64 x] = some [.int .i64 x] := by
  unfold Program.keyLits
  rw [Try.underlying3]
  simp [h]
theorem types_big : ∃ d, Try.prog.types.size = d + 1 := by
  obtain ⟨n, hn⟩ : ∃ n, Try.prog.types.size = n := ⟨_, rfl⟩
  have hlt := row52
  rw [hn] at hlt ⊢
  cases n with
  | zero => exact absurd hlt (Nat.not_lt_zero _)
  | succ d => exact ⟨d, rfl⟩
theorem lits52 (a b c : Int) (h : ok3 a b c) : Try.prog.keyLits (Try.prog.types.size + 1) 52 [.int .i64 a, .int .i64 b, .int .i64 c] = some [.int .i64 a, .int .i64 b, .int .i64 c] := by
  obtain ⟨d, hd⟩ := types_big
  rw [hd]
  unfold Program.keyLits
  rw [Try.underlying52]
  simp only [cells52, cells3, List.length_cons, List.length_nil, if_true, show List.range 3 = [0, 1, 2] from rfl]
  simp [lit3 d h.1, lit3 d h.2.1, lit3 d h.2.2]
theorem key52 {a b c : Int} (h : ok3 a b c) : keyOf Try.prog 52 (sv a b c) = some (keyS3 a b c) := by
  unfold keyOf
  rw [Try.underlying52]
  simp only [kt52, formed52, Bool.and_self, if_true]
  rw [show (sv a b c).cells.toList = [.int .i64 a, .int .i64 b, .int .i64 c] by simp [sv, Value.cells], lits52 a b c h]
  rfl
set_option maxRecDepth 100000 in
theorem lit3_inv (d : Nat) {v : Value} {ls : List Lit} (h : Try.prog.keyLits (d + 1) 3 [v] = some ls) : ∃ x, v = .int .i64 x := by
  unfold Program.keyLits at h
  rw [Try.underlying3] at h
  cases v <;> simp at h
  obtain ⟨⟨rfl, _⟩, _⟩ := h
  exact ⟨_, rfl⟩
set_option maxRecDepth 100000 in
theorem key52_inv (key : Value) (kl : Lit) (h : keyOf Try.prog 52 key = some kl) : ∃ x : Int × Int × Int, key = sv x.1 x.2.1 x.2.2 := by
  unfold keyOf at h
  rw [Try.underlying52] at h
  simp only [kt52, Bool.true_and] at h
  split at h
  · next hf =>
    rw [Option.map_eq_some_iff] at h
    obtain ⟨ls, hls, _⟩ := h
    obtain ⟨d, hd⟩ := types_big
    rw [hd] at hls
    unfold Program.keyLits at hls
    rw [Try.underlying52] at hls
    simp only [cells52, cells3, show List.range 3 = [0, 1, 2] from rfl] at hls
    split at hls
    · next hl =>
      have hcs : ∃ cs, key = .agg cs := by
        unfold Value.formed at hf
        rw [Try.underlying52] at hf
        cases key <;> first | exact ⟨_, rfl⟩ | cases hf
      obtain ⟨cs, rfl⟩ := hcs
      have ecs : (Value.agg cs).cells = cs := rfl
      rw [ecs] at hls hl
      obtain ⟨l, hl'⟩ : ∃ l, cs.toList = l := ⟨_, rfl⟩
      rw [hl'] at hls hl
      match l, hl, hl' with
      | [c0, c1, c2], _, hl' =>
        simp only [List.mapM_cons, List.mapM_nil, Option.map_eq_some_iff] at hls
        obtain ⟨lss, hm, _⟩ := hls
        simp only [Nat.zero_mul, Nat.one_mul, Nat.mul_one, Nat.reduceMul, List.drop_zero, List.drop_succ_cons, List.take_succ_cons, List.take_zero] at hm
        have h0 : ∃ x, Try.prog.keyLits (d + 1) 3 [c0] = some x := by
          cases e : Try.prog.keyLits (d + 1) 3 [c0] with
          | some x => exact ⟨x, rfl⟩
          | none => rw [e] at hm; cases hm
        obtain ⟨x0, h0⟩ := h0
        rw [h0] at hm
        have h1 : ∃ x, Try.prog.keyLits (d + 1) 3 [c1] = some x := by
          cases e : Try.prog.keyLits (d + 1) 3 [c1] with
          | some x => exact ⟨x, rfl⟩
          | none => rw [e] at hm; cases hm
        obtain ⟨x1, h1⟩ := h1
        rw [h1] at hm
        have h2 : ∃ x, Try.prog.keyLits (d + 1) 3 [c2] = some x := by
          cases e : Try.prog.keyLits (d + 1) 3 [c2] with
          | some x => exact ⟨x, rfl⟩
          | none => rw [e] at hm; cases hm
        obtain ⟨x2, h2⟩ := h2
        obtain ⟨a, rfl⟩ := lit3_inv d h0
        obtain ⟨b, rfl⟩ := lit3_inv d h1
        obtain ⟨c, rfl⟩ := lit3_inv d h2
        refine ⟨(a, b, c), ?_⟩
        unfold sv
        congr 1
        exact Array.toList_inj.1 hl'
    · cases hls
  · cases h
def kP (x : List Int) : Lit := keyS3 (x.getD 0 0) (x.getD 1 0) (x.getD 2 0)
theorem getD_fl {k : Nat} {x : List Int} (h : Pos k x) (i : Nat) : 0 ≤ x.getD i 0 ∧ x.getD i 0 ≤ 30 := by
  rw [List.getD_eq_getElem?_getD]
  cases hx : x[i]? with
  | none => simp
  | some y => exact h.rng y (List.mem_of_getElem? hx)
theorem wf_small {v : Int} (h0 : 0 ≤ v) (h1 : v ≤ 1000000) : (Lit.int .i64 v).wf = true := by
  exact WalkArith.wf_i64 (by omega)
theorem ok3_pos {k : Nat} {x : List Int} (h : Pos k x) : ok3 (x.getD 0 0) (x.getD 1 0) (x.getD 2 0) :=
  ⟨wf_small (getD_fl h 0).1 (by have := (getD_fl h 0).2; omega), wf_small (getD_fl h 1).1 (by have := (getD_fl h 1).2; omega), wf_small (getD_fl h 2).1 (by have := (getD_fl h 2).2; omega)⟩
theorem pos_ext {k : Nat} (hk : k ≤ 3) {x y : List Int} (hx : Pos k x) (hy : Pos k y) (h0 : x.getD 0 0 = y.getD 0 0) (h1 : x.getD 1 0 = y.getD 1 0) (h2 : x.getD 2 0 = y.getD 2 0) : x = y := by
  refine List.ext_getElem (by rw [hx.len, hy.len]) (fun i hi hj => ?_)
  have e : ∀ z : List Int, ∀ hz : i < z.length, z[i] = z.getD i 0 := fun z hz => by rw [List.getD_eq_getElem?_getD, List.getElem?_eq_getElem hz]; rfl
  rw [e x hi, e y hj]
  have hik := hx.len
  obtain rfl | rfl | rfl : i = 0 ∨ i = 1 ∨ i = 2 := by omega
  · exact h0
  · exact h1
  · exact h2
theorem kP_inj {k : Nat} (hk : k ≤ 3) {x y : List Int} (hx : Pos k x) (hy : Pos k y) (e : kP x = kP y) : x = y := by
  obtain ⟨h0, h1, h2⟩ := keyS3_inj (ok3_pos hx) (ok3_pos hy) e
  exact pos_ext hk hx hy h0 h1 h2
def Wk (W : World) (b k N : Nat) (m : List Int → Int) (dn : List Int → Prop) : Prop :=
  ∃ (D : DataW Unit), W.ownsMap Try.prog 52 (plainElem Try.prog 3) b N D ∧ (∀ x, Pos k x → dn x → D.atKey (kP x) (.lit (.int .i64 0)) = .lit (.int .i64 (m x)) ∧ Maps.has D (kP x) = true) ∧
    (∀ a b c, ok3 a b c → Maps.has D (keyS3 a b c) = true → ∃ x, Pos k x ∧ dn x ∧ pad x = sv a b c)
section
variable {W : World} {b k N : Nat} {m : List Int → Int} {dn : List Int → Prop}
theorem Wk.kept {W' : World} {row : Option Nat} (h : Wk W b k N m dn) (hg : W.grownBy W' row) (hne : some b ≠ row) : Wk W' b k N m dn := by
  obtain ⟨D, h1, h2⟩ := h
  exact ⟨D, h1.kept hg hne, h2⟩
theorem Wk.of {W' : World} (h : Wk W b k N m dn) (e : W'.heap[b]? = W.heap[b]?) : Wk W' b k N m dn := by
  obtain ⟨D, ⟨es, clock, hb, h1⟩, h2⟩ := h
  exact ⟨D, ⟨es, clock, e.trans hb, h1⟩, h2⟩
theorem Wk.lt (h : Wk W b k N m dn) : b < W.heap.size := by
  obtain ⟨D, h1, h2⟩ := h
  exact h1.lt
theorem Wk.mono {N' : Nat} (h : Wk W b k N m dn) (hN : N ≤ N') : Wk W b k N' m dn := by
  obtain ⟨D, h1, h2⟩ := h
  exact ⟨D, h1.mono hN, h2⟩
theorem Wk.iff {dn' : List Int → Prop} (h : Wk W b k N m dn) (hd : ∀ x, Pos k x → (dn x ↔ dn' x)) : Wk W b k N m dn' := by
  obtain ⟨D, h1, h2, h3⟩ := h
  refine ⟨D, h1, fun x hx hd' => h2 x hx ((hd x hx).2 hd'), fun a b c ho hh => ?_⟩
  obtain ⟨x, hx, hdx, e⟩ := h3 a b c ho hh
  exact ⟨x, hx, (hd x hx).1 hdx, e⟩
theorem Wk.new (W : World) (k : Nat) (m : List Int → Int) : Wk (W.alloc (.map #[] 0)) W.heap.size k 0 m (fun _ => False) :=
  ⟨.map [], World.ownsMap_made W Try.prog 52 _, fun _ _ h => h.elim, fun a b c _ h => by simp [Maps.has] at h⟩
set_option maxRecDepth 100000 in
theorem Wk.look (h : Wk W b k N m dn) {x : List Int} (hx : Pos k x) (hd : dn x) : (Instr.lookup 65 (.map (some b)) (pad x) false).run Try.prog W = .ok (.int .i64 (m x)) W := by
  obtain ⟨D, h1, h2, h3⟩ := h
  obtain ⟨c, hrun, hat, _⟩ := h1.lookup_int keyed52 lay65 Try.underlying3 (zero3 W) (key52 (ok3_pos hx))
  have e := (h2 x hx hd).1
  unfold kP at e
  rw [hat] at e
  injection e with e
  injection e with _ e
  rw [← e]
  exact hrun
set_option maxRecDepth 100000 in
theorem Wk.put (h : Wk W b k N m dn) (hN : N < 1000000) (hk3 : k ≤ 3) {x : List Int} (hx : Pos k x) {v : Int} (hv : v = m x) (h0 : 0 ≤ v) (h1 : v ≤ 1000000) :
    ∃ W', (Instr.mapUpdate 65 (.map (some b)) (pad x) (.int .i64 v)).run Try.prog W = .ok () W' ∧ Wk W' b k (N + 1) m (fun y => dn y ∨ y = x) ∧ W.grownBy W' (some b) := by
  obtain ⟨D, ho, h2, h3⟩ := h
  obtain ⟨W', hrun, ho', hg⟩ := ho.update keyed52 lay65 (by unfold maxLen; omega) (key52 (ok3_pos hx)) (plainElem_int Try.underlying3 (wf_small h0 h1))
  have hmp := ho.isMap
  have hkk := keyS3_key (x.getD 0 0) (x.getD 1 0) (x.getD 2 0)
  refine ⟨W', hrun, ⟨_, ho', fun y hy hd => ?_, fun a b c hok hh => ?_⟩, hg⟩
  · by_cases e : y = x
    · subst e
      refine ⟨?_, ?_⟩
      · unfold kP; rw [Maps.atKey_put_same hmp hkk, hv]
      · unfold kP; rw [Maps.has_put_same hmp hkk]
    · have hne : kP y ≠ keyS3 (x.getD 0 0) (x.getD 1 0) (x.getD 2 0) := fun e' => e (kP_inj hk3 hy hx e')
      have hd' := hd.resolve_right e
      rw [Maps.atKey_put_other hne, Maps.has_put_other hne]
      exact h2 y hy hd'
  · by_cases e : keyS3 a b c = keyS3 (x.getD 0 0) (x.getD 1 0) (x.getD 2 0)
    · obtain ⟨rfl, rfl, rfl⟩ := keyS3_inj hok (ok3_pos hx) e
      exact ⟨x, hx, .inr rfl, rfl⟩
    · rw [Maps.has_put_other e] at hh
      obtain ⟨y, hy, hd, e'⟩ := h3 a b c hok hh
      exact ⟨y, hy, .inl hd, e'⟩
end
end Go.Proofs.Ytakbijpcfnipoaa.A

set_option linter.unusedVariables false
set_option linter.unusedSimpArgs false
namespace Go.Proofs.Ytakbijpcfnipoaa.A
open Go.RowKit Go.Proofs.YtakbijpcfnipoaaW.PrintWords Go.Proofs.YtakbijpcfnipoaaW.PrintLast Go.Proofs.YtakbijpcfnipoaaW.PrintMore
open Go.Proofs.Ytakbijpcfnipoaa.PA Go.Proofs.Ytakbijpcfnipoaa.Lf
attribute [local go_sem] Oper.semAt_some
theorem up_mem {f g : Int} : g ∈ up f ↔ f ≤ g ∧ g ≤ 30 := by
  unfold up
  rw [List.mem_map]
  constructor
  · rintro ⟨m, hm, rfl⟩
    rw [List.mem_range] at hm
    omega
  · rintro ⟨h1, h2⟩
    exact ⟨(g - f).toNat, by rw [List.mem_range]; omega, by omega⟩
theorem allF_mem : ∀ (j : Nat) (m : Int) (x : List Int), x ∈ allF j m ↔ x.length = j ∧ Srt x ∧ ∀ y ∈ x, m ≤ y ∧ y ≤ 30
  | 0, m, x => by
    show x ∈ [[]] ↔ _
    rw [List.mem_singleton]
    constructor
    · rintro rfl
      exact ⟨rfl, List.Pairwise.nil, by simp⟩
    · rintro ⟨h, _⟩
      exact List.length_eq_zero_iff.1 h
  | j + 1, m, x => by
    show x ∈ (up m).flatMap (fun f => (allF j f).map (f :: ·)) ↔ _
    rw [List.mem_flatMap]
    constructor
    · rintro ⟨f, hf, hx⟩
      obtain ⟨y, hy, rfl⟩ := List.mem_map.1 hx
      obtain ⟨h1, h2, h3⟩ := (allF_mem j f y).1 hy
      obtain ⟨f0, f1⟩ := up_mem.1 hf
      refine ⟨by simp [h1], List.pairwise_cons.2 ⟨fun z hz => (h3 z hz).1, h2⟩, fun z hz => ?_⟩
      rcases List.mem_cons.1 hz with rfl | hz
      · exact ⟨f0, f1⟩
      · have := h3 z hz; omega
    · rintro ⟨h1, h2, h3⟩
      match x, h1, h2, h3 with
      | f :: y, h1, h2, h3 =>
        obtain ⟨p1, p2⟩ := List.pairwise_cons.1 h2
        exact ⟨f, up_mem.2 (h3 f List.mem_cons_self), List.mem_map.2 ⟨y, (allF_mem j f y).2 ⟨by simpa using h1, p2, fun z hz => ⟨p1 z hz, (h3 z (List.mem_cons_of_mem _ hz)).2⟩⟩, rfl⟩⟩
theorem allF_pos {k : Nat} {x : List Int} : x ∈ allF k 0 ↔ Pos k x := by
  rw [allF_mem]
  exact ⟨fun ⟨h1, h2, h3⟩ => ⟨h1, h2, h3⟩, fun h => ⟨h.len, h.srt, h.rng⟩⟩
theorem flat_len {α β : Type} (g : α → List β) (n : Nat) : ∀ (l : List α), (∀ a ∈ l, (g a).length ≤ n) → (l.flatMap g).length ≤ l.length * n
  | [], _ => by simp
  | a :: l, h => by
    have h1 := h a List.mem_cons_self
    have h2 := flat_len g n l (fun b hb => h b (List.mem_cons_of_mem _ hb))
    rw [List.flatMap_cons, List.length_append, List.length_cons, Nat.succ_mul]
    omega
theorem allF_len : ∀ (j : Nat) (m : Int), 0 ≤ m → (allF j m).length ≤ 31 ^ j
  | 0, _, _ => Nat.le_refl _
  | j + 1, m, h => by
    have h1 := flat_len (fun f => (allF j f).map (f :: ·)) (31 ^ j) (up m) (fun f hf => by
      rw [List.length_map]; exact allF_len j f (by have := up_mem.1 hf; omega))
    have h2 : (up m).length ≤ 31 := by unfold up; simp; omega
    refine Nat.le_trans h1 ?_
    rw [Nat.pow_succ, Nat.mul_comm]
    exact Nat.mul_le_mul_left _ h2
theorem allF_len3 {k : Nat} (hk : k ≤ 3) : (allF k 0).length ≤ 29791 := by
  refine Nat.le_trans (allF_len k 0 (Int.le_refl _)) ?_
  exact Nat.le_trans (Nat.pow_le_pow_right (by omega) hk) (by decide)
theorem cell_new_k2 (W : World) (v : Value) (t : TypeId) : (W.alloc (.cells #[v] t)).cell? ⟨W.heap.size, 0, none⟩ = some v := by
  have h := World.alloc_heap_new W (.cells #[v] t)
  unfold World.cell?
  simp only [h]
  rfl
set_option maxHeartbeats 8000000 in
set_option maxRecDepth 100000 in
theorem first_c {k : Nat} (hk1 : 1 ≤ k) (hk3 : k ≤ 3) (s0 s1 s2 : Int) (C : Option Addr) (n c : Nat) (s : List Int) (hs : Pos k s) (es : pad s = sv s0 s1 s2) (w : World) :
    Calls Try.prog 52 #[hv k s0 s1 s2 (.slice C n c)] w fun e w' => ∃ b, e = .returned (.map (some b)) ∧ w.heap.size ≤ b ∧ Wk w' b k 29791 (dist s) (fun _ => True) ∧ Below w.heap.size w w' := by
  refine (callsIn_wide (n := 5)).1 ?_
  refine callsIn_of_wp_marks Try.func52 rfl trivial ?_ rfl
  simp only [Try.ntmps52, List.size_toArray, List.length_cons, List.length_nil, Nat.reduceAdd, Nat.reduceSub, Array.replicate_succ, Array.replicate_zero, List.push_toArray, List.append_toArray, List.nil_append, List.cons_append]
  refine wpIn_wide.2 ?_
  obtain ⟨B, hB⟩ : ∃ B, w.heap.size = B := ⟨_, rfl⟩
  have HALL := Lib.hid (all_c k s0 s1 s2 (.slice C n c))
  have hmm := @run_makeMap Try.prog
  go_upto_region 2 with fail
  obtain ⟨W0, hW0⟩ : ∃ W0, ((w.alloc (Obj.cells #[Value.int IntKind.i64 ↑k, Value.int IntKind.i64 s0, Value.int IntKind.i64 s1, Value.int IntKind.i64 s2, Value.slice C n c] 54)).alloc (Obj.map #[] 0)).alloc (Obj.cells #[Value.map (some (B + 1))] 65) = W0 := ⟨_, rfl⟩
  have hz0 : W0.heap.size = B + 3 := by rw [← hW0]; simp [hB]
  have hH0 : HallAt B (k : Int) s0 s1 s2 (.slice C n c) W0 := by
    rw [← hW0, ← hB]
    exact ⟨by simp [go_sem], by simp [go_sem], by simp [go_sem], by simp [go_sem], by simp [go_sem]⟩
  have hM0 : Wk W0 (B + 1) k 0 (dist s) (fun _ => False) := by
    have := Wk.new (w.alloc (Obj.cells #[Value.int IntKind.i64 ↑k, Value.int IntKind.i64 s0, Value.int IntKind.i64 s1, Value.int IntKind.i64 s2, Value.slice C n c] 54)) k (dist s)
    rw [World.size_alloc, hB] at this
    rw [← hW0]
    exact this.kept (World.grownBy_alloc _ _ none) (by simp)
  have hv0 : W0.cell? ⟨B + 1 + 1, 0, none⟩ = some (.map (some (B + 1))) := by
    rw [← hW0]
    have := (cell_new_k2 ((w.alloc (Obj.cells #[Value.int IntKind.i64 ↑k, Value.int IntKind.i64 s0, Value.int IntKind.i64 s1, Value.int IntKind.i64 s2, Value.slice C n c] 54)).alloc (Obj.map #[] 0)) (.map (some (B + 1))) 65)
    simpa [hB] using this
  have hB0 : Below B w W0 := by rw [← hW0, ← hB]; exact (((Below.refl _ w).alloc (Nat.le_refl _) _).alloc (by simp) _).alloc (by simp; omega) _
  rw [hW0]
  clear hmm hW0
  have hHH := HALL.out W0
  obtain ⟨g0, g1, g2, g3, g4⟩ := id hH0
  obtain ⟨W1, hW1⟩ : ∃ W1, W0.alloc (Obj.cells #[Value.int IntKind.i64 ↑k, Value.int IntKind.i64 s0, Value.int IntKind.i64 s1, Value.int IntKind.i64 s2, Value.slice C n c] 54) = W1 := ⟨_, rfl⟩
  rw [hW1, hz0] at hHH
  have hg01 : W0.grownBy W1 none := by rw [← hW1]; exact World.grownBy_alloc _ _ _
  have hz1 : W1.heap.size = B + 4 := by rw [← hW1]; simp [hz0]
  have hc1 : W1.cell? ⟨B + 3, 0, none⟩ = some (.int .i64 (k : Int)) := by rw [← hW1, ← hz0]; simp [go_sem]
  have hH1 := hH0.of (hg01.block B (by omega) (by simp))
  have hM1 := hM0.kept hg01 (by simp)
  have hv1 := (World.cell?_of_block (a := ⟨B + 1 + 1, 0, none⟩) (hg01.block (B + 1 + 1) (by omega) (by simp))).trans hv0
  have hB1 : Below B w W1 := by rw [← hW1]; exact hB0.alloc (by omega) _
  have HC := Lib.hid hHH
  have HK := Lib.hid (And.intro hz1 (And.intro hc1 (And.intro hH1 (And.intro hM1 (And.intro hv1 hB1)))))
  clear hHH hg01 hz1 hc1 hH1 hM1 hv1 hB1 hH0 hM0 hv0 hB0 HALL
  go_wp2_with (go_at_call 72; (with_reducible refine HC.out.mono ?_); rintro e w2 ⟨rfl, rfl⟩)
  obtain ⟨hz1, hc1, hH1, hM1, hv1, hB1⟩ := HK.out
  clear HK HC g0 g1 g2 g3 g4 hz0
  refine (wpIn_wide (n := 5)).1 ?_
  refine wpIn_rangeFunc_C rfl (by omega) (gf := 78) (lb := #[.pointer (some ⟨B + 3, 0, none⟩)]) rfl trivial (enters_of Try.func78 (by kernel_rfl) rfl) (xs := allF k 0) (k0 := B + 3) (by omega) (iter_c k hk1 hk3 _ (B + 3) w2 hc1) (fun _ => rfl)
    (fun pre W => Wk W (B + 1) k pre.length (dist s) (fun x => x ∈ pre) ∧ HallAt B (k : Int) s0 s1 s2 (.slice C n c) W ∧ W.cell? ⟨B + 1 + 1, 0, none⟩ = some (.map (some (B + 1))) ∧ Below B w W) ?I ⟨hM1.iff (fun x _ => by simp), hH1, hv1, hB1⟩ ?round ?done
  case I =>
    rintro pre X Y row ⟨h1, h2, h3, h4⟩ hg hr
    have hr' : ∀ b, row = some b → B + 4 ≤ b := fun b e => by have := hr b e; omega
    have hsz := h2.lt
    refine ⟨h1.kept hg (fun e => by have := hr' _ e.symm; omega), h2.of (hg.block B hsz (fun e => by have := hr' _ e.symm; omega)), ?_, h4.grown hg (by rw [← hB]; exact h4.size) (fun b e => by have := hr' b e; omega)⟩
    exact (World.cell?_of_block (a := ⟨B + 1 + 1, 0, none⟩) (hg.block (B + 1 + 1) (World.block_lt_of_cell? X _ h3) (fun e => by have := hr' _ e.symm; omega))).trans h3
  case done =>
    rintro D W hD ⟨h1, h2, h3, h4⟩ hd
    have hfin : Wk W (B + 1) k 29791 (dist s) (fun _ => True) := (h1.mono (allF_len3 hk3)).iff (fun x hx => by simp [allF_pos, hx])
    go_wp2_with fail
    refine ⟨by simp, .inl ⟨_, _, rfl, run_takeDeferred hd, ?_⟩⟩
    refine ⟨_, results_tmp rfl _ _ _, B + 1, rfl, by omega, ?_, ?_⟩
    · exact hfin.kept (grownBy_putObj' W D _) (fun e => by injection e with e; omega)
    · rw [hB]; exact h4.grown (grownBy_putObj' W D _) (by rw [← hB]; exact h4.size) (fun b e => by injection e with e; omega)
  case round =>
    rintro l pre x W ⟨h1, h2, h3, h4⟩ hl1 hl2 hpre
    have hx : Pos k x := allF_pos.1 (hpre.subset (by simp))
    obtain ⟨x0, x1, x2, ex⟩ : ∃ x0 x1 x2, pad x = sv x0 x1 x2 := ⟨_, _, _, rfl⟩
    rw [ex]
    clear hc1 hH1 hM1 hv1 hB1
    obtain ⟨T, hT⟩ : ∃ T, W.heap.size = T := ⟨_, rfl⟩
    gi_wp2
    refine ⟨KeptC.grown (World.grownBy_alloc _ _ none) (fun r e => by cases e), fun W2 hg2 => ?_⟩
    have hg1 : W.grownBy (W.alloc (Obj.cells #[Value.int IntKind.i64 x0, Value.int IntKind.i64 x1, Value.int IntKind.i64 x2] 52)) none := World.grownBy_alloc _ _ none
    have hsp := SpotsAt.new W x0 x1 x2
    rw [hT] at hsp
    have hza : (W.alloc (Obj.cells #[Value.int IntKind.i64 x0, Value.int IntKind.i64 x1, Value.int IntKind.i64 x2] 52)).heap.size = T + 1 := by simp [hT]
    have hTB : B + 4 < T := by omega
    have hlT : l < T := by omega
    have hk2 : ∀ b, b < T → b ≠ l → W2.heap[b]? = W.heap[b]? := fun b hb hne => (hg2.block b (by omega) (fun e => hne (by injection e))).trans (hg1.block b (by omega) (by simp))
    have hS2 := hsp.of (hg2.block T (by omega) (fun e => by injection e with e; omega))
    have hM2 := h1.of (hk2 (B + 1) (by omega) (by omega))
    have hH2 := h2.of (hk2 B (by omega) (by omega))
    have hv2 := (World.cell?_of_block (a := ⟨B + 1 + 1, 0, none⟩) (hk2 (B + 1 + 1) (by omega) (by omega))).trans h3
    have hB2 : Below B w W2 := (h4.grown hg1 (by rw [← hB]; exact h4.size) (fun b e => by cases e)).grown hg2 (by have := hg1.size; have := h4.size; omega) (fun b e => by injection e with e; omega)
    have hz2 : T + 1 ≤ W2.heap.size := by have := hg2.size; omega
    clear hg1 hg2 hsp hza hk2 h1 h2 h3 h4 hl2
    have HX : Hid (∀ w', Below W2.heap.size W2 w' → HallAt B (k : Int) s0 s1 s2 (.slice C n c) w' ∧ SpotsAt T x0 x1 x2 w' ∧ w'.cell? ⟨B + 1 + 1, 0, none⟩ = some (.map (some (B + 1)))) := Lib.hid (fun w' h =>
      ⟨hH2.of (h.block B hH2.lt), hS2.of (h.block T hS2.lt), (World.cell?_of_block (a := ⟨B + 1 + 1, 0, none⟩) (h.block (B + 1 + 1) (by omega))).trans hv2⟩)
    have HM := Lib.hid hM2
    have HBB := Lib.hid hB2
    have HD := Lib.hid (fun W : World => dist_pad hk1 hk3 s0 s1 s2 C n c hs hx W)
    rw [es, ex] at HD
    have hdb := dist_bd hk3 hs hx
    obtain ⟨d, hd⟩ : ∃ d, dist s x = d := ⟨_, rfl⟩
    rw [hd] at HD hdb
    have HLEN : Hid (pre.length + 1 ≤ 29791) := Lib.hid (by
      have h1 := hpre.length_le
      have h2 := allF_len3 hk3
      simp at h1; omega)
    clear hM2 hH2 hv2 hB2 hS2 hpre
    apply wpIn_block
    apply wpIn_region_text [0, 1, 2, 3, 4, 5] [6, 7] 7 (fun w' => Below W2.heap.size W2 w')
    case hm => kernel_rfl
    case hB => kernel_rfl
    case hnd => kernel_rfl
    case hlo => rintro ⟨a, w, h⟩; exact absurd h.1 (by simp)
    case hd => rfl
    case hQ => exact fun _ _ _ _ _ h => h
    case hS => exact (Below.refl _ _).drew
    case hF =>
      intro w' hS
      obtain ⟨⟨g0, g1, g2, g3, g4⟩, ⟨y0, y1, y2, _, _, _, _⟩, q0⟩ := HX.out w' hS
      clear hS
      simp only [R.pickC, List.filterMap_cons, List.getElem?_toArray, List.getElem?_cons_zero, List.getElem?_cons_succ, List.filterMap_nil]
      (with_reducible refine R.wpStill_plain rfl (fun K hK => ?_)); go_simp; with_reducible refine hK _ ?_; clear hK K
      (with_reducible refine R.wpStill_plain rfl (fun K hK => ?_)); go_simp; with_reducible refine hK _ ?_; clear hK K
      (with_reducible refine R.wpStill_plain rfl (fun K hK => ?_)); go_simp; with_reducible refine hK _ ?_; clear hK K
      (with_reducible refine R.wpStill_plain rfl (fun K hK => ?_)); go_simp; with_reducible refine hK _ ?_; clear hK K
      (with_reducible refine R.wpStill_plain rfl (fun K hK => ?_)); go_simp; with_reducible refine hK _ ?_; clear hK K
      (with_reducible refine R.wpStill_plain rfl (fun K hK => ?_)); go_simp; with_reducible refine hK _ ?_; clear hK K
      exact wpStill_nil rfl
    case hC =>
      simp only [R.chainOf, List.getElem?_toArray, List.getElem?_cons_zero, List.getElem?_cons_succ, Nat.reduceBNe, Bool.and_true, Bool.and_false, Bool.false_and]
      refine R.wpSeq_same (fun K hK => ?_)
      go_simp
      refine (HD.out _).mono ?_
      rintro e w7 ⟨rfl, hb7⟩
      have hS7 : Below W2.heap.size W2 w7 := (Below.refl _ W2).drew.trans hb7
      refine hK _ _ hS7 ?_
      clear hK K hb7
      obtain ⟨hH7, hS7', hv7⟩ := HX.out w7 hS7
      have hM7 := HM.out.of (hS7.block (B + 1) HM.out.lt)
      obtain ⟨W9, hrun, hM9, hg9⟩ := hM7.put (by have := HLEN.out; omega) hk3 hx (v := d) hd.symm hdb.1 (by omega)
      rw [ex] at hrun
      have hH9 := hH7.of (hg9.block B hH7.lt (fun e => by injection e with e; omega))
      have hv9 := (World.cell?_of_block (a := ⟨B + 1 + 1, 0, none⟩) (hg9.block (B + 1 + 1) (World.block_lt_of_cell? w7 _ hv7) (fun e => by injection e with e; have : B + 1 + 1 = B + 1 := e; omega))).trans hv7
      have hB9 : Below B w W9 := (HBB.out.trans (hS7.mono (by omega))).grown hg9 (by have := hH7.lt; have := HBB.out.size; have := hS7.size; omega) (fun b e => by injection e with e; omega)
      have hKC : KeptC (B + 3) w2.heap.size W2 W9 := by
        refine ⟨Nat.le_trans hS7.size hg9.size, fun j hj hjs => ?_⟩
        exact (hg9.block j (Nat.lt_of_lt_of_le hjs hS7.size) (fun e => by injection e with e; omega)).trans (hS7.block j hjs)
      have hFin : Wk W9 (B + 1) k (pre ++ [x]).length (dist s) (fun y => y ∈ pre ++ [x]) := by
        rw [List.length_append]
        exact hM9.iff (fun y _ => by simp)
      refine R.wpSeq_step (fun K hK => ?_)
      go_simp
      refine hK _ _ ⟨fun h => (by cases h), fun h => (by cases h)⟩ ?_
      clear hK K
      refine R.wpSeq_nil ?_
      exact ⟨rfl, hKC, hFin, hH9, hv9, hB9⟩
end Go.Proofs.Ytakbijpcfnipoaa.A

set_option linter.unusedVariables false
set_option linter.unusedSimpArgs false
namespace Go.Proofs.Ytakbijpcfnipoaa.R
open Go.RowKit
section
variable {P : Program} {ops : Array Oper} {Q : Exit → Act → World → Prop} {md : Region.Mode} {S : World → Prop}
def planC (md : Region.Mode) (ops : Array Oper) : List (Nat × Bool) → Array Bool → Bool
  | [], listed => (Region.ready md ops listed).isEmpty
  | (i, true) :: rest, listed => (Region.ready md ops listed).contains i && Region.free md ops listed i && planC md ops rest (listed.setIfInBounds i true)
  | (i, false) :: rest, listed => decide (Region.ready md ops listed = [i]) && planC md ops rest (listed.setIfInBounds i true)
def planB (ops : Array Oper) (plan : List (Nat × Bool)) : Bool :=
  Region.noSelect ops && decide (plan.length = ops.size) && plan.all (fun p => decide (p.1 < ops.size)) && planC .any ops plan (Array.replicate ops.size false)
def opsOf (ops : Array Oper) (plan : List (Nat × Bool)) : List (Oper × Bool) := plan.filterMap fun p => (ops[p.1]?).map fun o => (o, p.2)
def wpPlan (P : Program) (ops : Array Oper) (Q : Exit → Act → World → Prop) (S : World → Prop) : List (Oper × Bool) → Act → World → Prop
  | [], a, w => Q .normal a w
  | (o, true) :: rest, a, w => ∃ v, YieldsS P ops S o v a ∧ wpPlan P ops Q S rest (a.put o.dst v) w
  | (o, false) :: rest, a, w => if Region.wanted o (yielded ops a.tmps) then o.wp P a w (fun a' w' => S w' ∧ wpPlan P ops Q S rest a' w') Q ∨ (o.asks P a w ∧ LetsOut Q)
      else S w ∧ wpPlan P ops Q S rest (a.put o.dst undef) w
theorem wpPlan_nil {a : Act} {w : World} (h : Q .normal a w) : wpPlan P ops Q S [] a w := h
theorem wpPlan_float {o : Oper} {rest : List (Oper × Bool)} {a : Act} {w : World} (v : Value) (hg : o.guard = none) (hv : ∀ w', S w' → (execOp a.eval o).run P w' = .ok (.value v) w') (h : wpPlan P ops Q S rest (a.put o.dst v) w) :
    wpPlan P ops Q S ((o, true) :: rest) a w :=
  ⟨v, fun w' hS => .inl ⟨by simp [Region.wanted, hg], .inl (hv w' hS)⟩, h⟩
theorem wpPlan_do {o : Oper} {rest : List (Oper × Bool)} {a : Act} {w : World} (hg : o.guard = none) (h : ∀ K : Act → World → Prop, (∀ a' w', S w' → wpPlan P ops Q S rest a' w' → K a' w') → o.wp P a w K Q) :
    wpPlan P ops Q S ((o, false) :: rest) a w := by
  have := h (fun a' w' => S w' ∧ wpPlan P ops Q S rest a' w') (fun a' w' hS h => ⟨hS, h⟩)
  have hw : Region.wanted o (yielded ops a.tmps) = true := by simp [Region.wanted, hg]
  unfold wpPlan
  rw [if_pos hw]
  exact .inl this
theorem wpAnyT_plan (hsel : Region.noSelect ops = true) (hQ : ∀ c a (d : Option Tmp) v w, Q (.panic c) (a.put d v) w → Q (.panic c) a w) : ∀ (plan : List (Nat × Bool)) (listed : Array Bool) (a : Act) (w : World),
    planC md ops plan listed = true → (∀ p ∈ plan, p.1 < ops.size) → listed.size = ops.size → S w → wpPlan P ops Q S (opsOf ops plan) a w → wpAnyT P md ops Q (fun _ w => S w) plan.length listed a w
  | [], listed, a, w, hB, _, _, _, h => ⟨by simpa [planC] using hB, h⟩
  | (i, true) :: plan, listed, a, w, hB, hlt, hsz, hS, h => by
    have hc := hlt (i, true) List.mem_cons_self
    have h0 : ops[i]? = some ops[i] := Array.getElem?_eq_getElem hc
    have e : opsOf ops ((i, true) :: plan) = (ops[i], true) :: opsOf ops plan := by simp [opsOf, h0]
    rw [e] at h
    obtain ⟨v, hy, h⟩ := h
    simp only [planC, Bool.and_eq_true] at hB
    obtain ⟨⟨hr, hf⟩, hB'⟩ := hB
    have hri : i ∈ Region.ready md ops listed := by simpa using hr
    exact wpAnyT_first (P := P) (S := S) (T := fun _ w => S w) (J := fun _ => True) h0 (Region.noSelect_spec hsel) (fun c a w => hQ c a _ v w) (fun _ _ => Iff.rfl) (fun _ _ _ h => h) (fun _ _ _ _ _ _ => trivial) plan.length listed a w (Region.free_spec h0 hf) hri hy hS trivial
      (wpAnyT_plan hsel hQ plan _ _ w hB' (fun p hp => hlt p (List.mem_cons_of_mem _ hp)) (by simp [hsz]) hS h)
  | (i, false) :: plan, listed, a, w, hB, hlt, hsz, hS, h => by
    have hc := hlt (i, false) List.mem_cons_self
    have h0 : ops[i]? = some ops[i] := Array.getElem?_eq_getElem hc
    have e : opsOf ops ((i, false) :: plan) = (ops[i], false) :: opsOf ops plan := by simp [opsOf, h0]
    rw [e] at h
    simp only [planC, Bool.and_eq_true, decide_eq_true_eq] at hB
    refine ⟨fun h1 => (by rw [hB.1] at h1; cases h1), fun j hj => ?_⟩
    rw [hB.1] at hj
    have hji : j = i := by simpa using hj
    subst hji
    refine wpOp_mono (K := fun a' w' => S w' ∧ wpPlan P ops Q S (opsOf ops plan) a' w') (fun a' w' ⟨h1, h2⟩ => ⟨h1, wpAnyT_plan hsel hQ plan _ a' w' hB.2 (fun p hp => hlt p (List.mem_cons_of_mem _ hp)) (by simp [hsz]) h1 h2⟩) ?_
    unfold wpOp
    unfold wpPlan at h
    simp only [h0]
    split
    · rename_i hw; rw [if_pos hw] at h; exact h
    · rename_i hw; rw [if_neg hw] at h; exact h
theorem wpAny_plan (plan : List (Nat × Bool)) (S : World → Prop) {a : Act} {w : World} (hB : planB ops plan = true) (hQ : ∀ c a (d : Option Tmp) v w, Q (.panic c) (a.put d v) w → Q (.panic c) a w) (hS : S w)
    (h : wpPlan P ops Q S (opsOf ops plan) a w) : wpAny P .any ops Q ops.size (Array.replicate ops.size false) a w := by
  simp only [planB, Bool.and_eq_true, decide_eq_true_eq, List.all_eq_true] at hB
  obtain ⟨⟨⟨hsel, hlen⟩, hlt⟩, hpl⟩ := hB
  refine wpAny_of_T (T := fun _ w => S w) _ _ _ _ ?_
  rw [← hlen]
  exact wpAnyT_plan hsel hQ plan _ a w (by rw [hlen]; exact hpl) hlt (by simp [hlen]) hS h
theorem wp_region_plan {id : Nat} {a : Act} {w : World} (plan : List (Nat × Bool)) (S : World → Prop) (hm : P.follows .mixedOrders = true) (hB : planB ops plan = true) (hQ : ∀ c a (d : Option Tmp) v w, Q (.panic c) (a.put d v) w → Q (.panic c) a w) (hS : S w.drew)
    (h : wpPlan P ops Q S (opsOf ops plan) a w.drew) : (Code.region id ops true).wp P Q a w := wp_region_any hm (wpAny_plan plan S hB hQ hS h)
end
end Go.Proofs.Ytakbijpcfnipoaa.R
namespace Go.Proofs.Ytakbijpcfnipoaa.A
variable {P : Program} {ops : Array Oper} {Q : Exit → Act → World → Prop}
theorem wpIn_region_plan {l n id : Nat} {a : Act} {w : World} (plan : List (Nat × Bool)) (S : World → Prop) (hm : P.follows .mixedOrders = true) (hB : R.planB ops plan = true) (hnd : noDefer ops = true) (hlo : ¬ LetsOut Q) (hQ : ∀ c a (d : Option Tmp) v w, Q (.panic c) (a.put d v) w → Q (.panic c) a w)
    (hS : S w.drew) (h : R.wpPlan P ops Q S (R.opsOf ops plan) a w.drew) : (Code.region id ops true).wpIn (Fence.wide.inRound l) n P Q a w :=
  wpIn_region_draw fun t => by
    simp only [Region.schedule, hm, Bool.true_or, if_true]
    exact ops_in_round hnd hlo _ _ _ (wpAny_sound ops.size t _ a _ (R.wpAny_plan plan S hB hQ hS h))
end Go.Proofs.Ytakbijpcfnipoaa.A

set_option linter.unusedVariables false
set_option linter.unusedSimpArgs false
namespace Go.Proofs.Ytakbijpcfnipoaa.A
open Go.RowKit Go.Proofs.YtakbijpcfnipoaaW.PrintWords Go.Proofs.YtakbijpcfnipoaaW.PrintLast Go.Proofs.YtakbijpcfnipoaaW.PrintMore
open Go.Proofs.Ytakbijpcfnipoaa.PA Go.Proofs.Ytakbijpcfnipoaa.Lf
set_option maxRecDepth 100000 in
theorem lit3_wf (d : Nat) {x : Int} {ls : List Lit} (h : Try.prog.keyLits (d + 1) 3 [.int .i64 x] = some ls) : (Lit.int .i64 x).wf = true := by
  unfold Program.keyLits at h
  rw [Try.underlying3] at h
  simp at h
  exact h.1
set_option maxRecDepth 100000 in
theorem key52_ok {a b c : Int} {kl : Lit} (h : keyOf Try.prog 52 (sv a b c) = some kl) : ok3 a b c ∧ kl = keyS3 a b c := by
  have hok : ok3 a b c := by
    unfold keyOf at h
    rw [Try.underlying52] at h
    simp only [kt52, formed52, Bool.and_self, if_true, Option.map_eq_some_iff] at h
    obtain ⟨ls, hls, _⟩ := h
    obtain ⟨d, hd⟩ := types_big
    rw [hd, show (sv a b c).cells.toList = [.int .i64 a, .int .i64 b, .int .i64 c] by simp [sv, Value.cells]] at hls
    unfold Program.keyLits at hls
    rw [Try.underlying52] at hls
    simp only [cells52, cells3, show List.range 3 = [0, 1, 2] from rfl, List.length_cons, List.length_nil, if_true, List.mapM_cons, List.mapM_nil, Option.map_eq_some_iff] at hls
    obtain ⟨lss, hm, _⟩ := hls
    simp only [Nat.zero_mul, Nat.one_mul, Nat.mul_one, Nat.reduceMul, List.drop_zero, List.drop_succ_cons, List.take_succ_cons, List.take_zero] at hm
    have h0 : ∃ x, Try.prog.keyLits (d + 1) 3 [.int .i64 a] = some x := by
      cases e : Try.prog.keyLits (d + 1) 3 [.int .i64 a] with
      | some x => exact ⟨x, rfl⟩
      | none => rw [e] at hm; cases hm
    obtain ⟨x0, h0⟩ := h0
    rw [h0] at hm
    have h1 : ∃ x, Try.prog.keyLits (d + 1) 3 [.int .i64 b] = some x := by
      cases e : Try.prog.keyLits (d + 1) 3 [.int .i64 b] with
      | some x => exact ⟨x, rfl⟩
      | none => rw [e] at hm; cases hm
    obtain ⟨x1, h1⟩ := h1
    rw [h1] at hm
    have h2 : ∃ x, Try.prog.keyLits (d + 1) 3 [.int .i64 c] = some x := by
      cases e : Try.prog.keyLits (d + 1) 3 [.int .i64 c] with
      | some x => exact ⟨x, rfl⟩
      | none => rw [e] at hm; cases hm
    obtain ⟨x2, h2⟩ := h2
    exact ⟨lit3_wf d h0, lit3_wf d h1, lit3_wf d h2⟩
  refine ⟨hok, ?_⟩
  rw [key52 hok] at h
  exact (Option.some.inj h).symm
set_option maxHeartbeats 8000000 in
set_option maxRecDepth 100000 in
theorem after_c {k N : Nat} (hk1 : 1 ≤ k) (hk3 : k ≤ 3) (s0 s1 s2 : Int) (C : Option Addr) (n c : Nat) (b : Nat) (m : List Int → Int) (f : Int) (hf : Fl f) (hm : ∀ x, Pos k x → 0 ≤ m x ∧ m x ≤ 100000) (hN : N ≤ 30000) (w : World) (hw : Wk w b k N m (fun _ => True)) :
    Calls Try.prog 53 #[hv k s0 s1 s2 (.slice C n c), .map (some b), .int .i64 f] w fun e w' => ∃ b', e = .returned (.map (some b')) ∧ w.heap.size ≤ b' ∧ Wk w' b' k N (nxt k m f) (fun _ => True) ∧ Below w.heap.size w w' := by
  obtain ⟨B, hB⟩ : ∃ B, w.heap.size = B := ⟨_, rfl⟩
  have hbB : b < B := by rw [← hB]; exact hw.lt
  have HW := Lib.hid hw
  obtain ⟨D, ho, h2, h3⟩ := hw
  have hmm := @run_makeMap Try.prog
  go_enter Try.func53, Try.ntmps53
  go_upto_region 2 with fail
  obtain ⟨W0, hW0⟩ : ∃ W0, (w.alloc (Obj.cells #[Value.int IntKind.i64 ↑k, Value.int IntKind.i64 s0, Value.int IntKind.i64 s1, Value.int IntKind.i64 s2, Value.slice C n c] 54)).alloc (Obj.map #[] 0) = W0 := ⟨_, rfl⟩
  have hz0 : W0.heap.size = B + 2 := by rw [← hW0]; simp [hB]
  have hH0 : HallAt B (k : Int) s0 s1 s2 (.slice C n c) W0 := by
    rw [← hW0, ← hB]
    exact ⟨by simp [go_sem], by simp [go_sem], by simp [go_sem], by simp [go_sem], by simp [go_sem]⟩
  have hM0 : Wk W0 (B + 1) k 0 (nxt k m f) (fun _ => False) := by
    have := Wk.new (w.alloc (Obj.cells #[Value.int IntKind.i64 ↑k, Value.int IntKind.i64 s0, Value.int IntKind.i64 s1, Value.int IntKind.i64 s2, Value.slice C n c] 54)) k (nxt k m f)
    rw [World.size_alloc, hB] at this
    rw [← hW0]; exact this
  have hB0 : Below B w W0 := by rw [← hW0, ← hB]; exact ((Below.refl _ w).alloc (Nat.le_refl _) _).alloc (by simp) _
  have hO0 : W0.ownsMap Try.prog 52 (plainElem (H := Unit) Try.prog 3) b N D := by rw [← hW0]; exact (ho.alloc _).alloc _
  rw [hW0]
  have HO := Lib.hid hO0
  have H2 := Lib.hid h2
  have H3 := Lib.hid h3
  clear hmm hW0 ho h2 h3 hO0
  go_wp2_with (at_range; refine wpList_range_own _ rfl _ 65 rfl 52 3 keyed52 lay65 _ b N D rfl HO.out ?_; intro w0 hrg0 hg0 hs0)
  rw [hz0] at hrg0
  have HR0 := Lib.hid hrg0
  have HC0 : Hid (Maps.size D ≤ N) := Lib.hid HO.out.size_le
  have HM0 : Hid (Wk w0 (B + 1) k (N - Maps.size D) (nxt k m f) (fun x => Maps.has D (kP x) = false)) := Lib.hid (((hM0.kept hg0 (by simp)).mono (Nat.zero_le _)).iff (fun x hx => by
    have := (H2.out x hx trivial).2
    simp [this]))
  have HH0 := Lib.hid (hH0.of (hg0.block B (by omega) (by simp)))
  have HB0 : Hid (Below B w w0) := Lib.hid (hB0.grown hg0 (by omega) (fun b e => by cases e))
  clear hrg0 hM0 hH0 hB0 hg0 hs0
  go_loopw [9] (fun _ wr => ∃ left cnt, Hid (wr.ranges Try.prog 52 (plainElem (H := Unit) Try.prog 3) b (B + 2) N D left cnt) ∧ Hid (cnt ≤ N) ∧ Hid (Wk wr (B + 1) k (N - cnt) (nxt k m f) (fun x => left (kP x) = false)) ∧ Hid (HallAt B (k : Int) s0 s1 s2 (.slice C n c) wr) ∧ Hid (Below B w wr)) (fun _ wr => wr.rangeLeft b (B + 2))
  case atStart => exact ⟨_, _, HR0, HC0, HM0, HH0, HB0⟩
  case round =>
    rename World => wr
    obtain ⟨left, cnt, HRG, HCN, HMR, HHR, HBR⟩ := hrel
    clear HR0 HC0 HM0 HH0 HB0 HO
    go_wp2_with (at_next; refine wpList_next_ranges _ rfl _ rfl 52 keyed52 (plainElem Try.prog 3) (fun x : Int × Int × Int => sv x.1 x.2.1 x.2.2) (Value.int .i64) (fun key kl h => key52_inv key kl h) (fun v y hv => by obtain ⟨c, rfl, _⟩ := plainElem_int_inv Try.underlying3 hv; exact ⟨c, rfl⟩) b (B + 2) N D left cnt rfl HRG.out ?_ ?_)
    · intro hc0 hl0
      go_wp2_with fail
      go_ret
      refine ⟨B + 1, rfl, by omega, ?_, ?_⟩
      · exact (HMR.out.mono (by omega)).iff (fun x _ => by simp [hl0])
      · rw [hB]; exact HBR.out
    · intro x0 x1 x2 cv kl y yp w1 cnt1 hkey hlk hv hat hrg1 hlt0 hg1 hs1 hen
      obtain ⟨hok, hkl⟩ := key52_ok hkey
      subst hkl
      have hhas := Maps.has_true_of_atKey hat
      obtain ⟨x, hx, _, ex⟩ := H3.out x0 x1 x2 hok hhas
      have hekP : kP x = keyS3 x0 x1 x2 := by
        unfold pad at ex
        injection ex with ex
        injection ex with ex
        have e1 : x.getD 0 0 = x0 := by injection ex with h8; injection h8
        have e2 : x.getD 1 0 = x1 := by injection ex with _ h8; injection h8 with h8; injection h8
        have e3 : x.getD 2 0 = x2 := by injection ex with _ h8; injection h8 with _ h8; injection h8 with h8; injection h8
        unfold kP; rw [e1, e2, e3]
      have hM1 := HMR.out.kept hg1 (fun e => by injection e with e; omega)
      have hH1 := HHR.out.of (hg1.block B HHR.out.lt (fun e => by injection e with e; omega))
      have hB1 := HBR.out.grown hg1 (by have := HBR.out.size; omega) (fun j e => by injection e with e; omega)
      have hLT := HRG.out.left_eq
      clear hv hat hok hhas hkey
      obtain ⟨T, hT⟩ : ∃ T, w1.heap.size = T := ⟨_, rfl⟩
      clear hs1
      have hBT : B + 2 < T := by have := hrg1.lt; omega
      go_upto_region 5 with fail
      obtain ⟨W2, hW2⟩ : ∃ W2, w1.alloc (Obj.cells #[Value.int IntKind.i64 x0, Value.int IntKind.i64 x1, Value.int IntKind.i64 x2] 52) = W2 := ⟨_, rfl⟩
      have hg2 : w1.grownBy W2 none := by rw [← hW2]; exact World.grownBy_alloc _ _ none
      have hsp : SpotsAt T x0 x1 x2 W2 := by rw [← hW2, ← hT]; exact SpotsAt.new w1 x0 x1 x2
      have hz2 : W2.heap.size = T + 1 := by rw [← hW2]; simp [hT]
      rw [hW2]
      have hB2 : Below B w W2 := hB1.grown hg2 (by have := hB1.size; omega) (fun j e => by cases e)
      have hM2 := hM1.kept hg2 (by simp)
      have hH2 := hH1.of (hg2.block B hH1.lt (by simp))
      have hrg2 := hrg1.kept hg2 (by simp) (by simp)
      have HX : Hid (∀ w', Below W2.heap.size W2 w' → HallAt B (k : Int) s0 s1 s2 (.slice C n c) w' ∧ SpotsAt T x0 x1 x2 w' ∧ Wk w' b k N m (fun _ => True)) := Lib.hid (fun w' h =>
        ⟨hH2.of (h.block B hH2.lt), hsp.of (h.block T hsp.lt), HW.out.of ((h.block b (by omega)).trans (hB2.block b hbB))⟩)
      have HMV : Hid (∀ (j : Nat) (jv : Int), jv = (j : Int) → j < k → ∀ W, Calls Try.prog 73 #[hv k s0 s1 s2 (.slice C n c), sv x0 x1 x2, .int .i64 jv, .int .i64 f] W fun e w' => e = .returned (pad (moved x j f)) ∧ Below W.heap.size W w') :=
        Lib.hid (fun j jv ej hj W => by subst ej; rw [← ex]; exact moved_c hk3 s0 s1 s2 C n c hx.srt hx.len hj f W)
      have HPM : Hid (∀ j, j < k → Pos k (moved x j f)) := Lib.hid (fun j hj => hx.moved hj hf.1 hf.2)
      obtain ⟨g, hg⟩ : ∃ g : Nat → Int, g = fun j => m (moved x j f) + ab (x.getD j 0) f := ⟨_, rfl⟩
      have HGB : Hid (∀ j, j < k → g j = m (moved x j f) + ab (x.getD j 0) f ∧ 0 ≤ m (moved x j f) ∧ m (moved x j f) ≤ 100000 ∧ 0 ≤ ab (x.getD j 0) f ∧ ab (x.getD j 0) f ≤ 30) := Lib.hid (fun j hj => by
        have h1 := hm _ (HPM.out j hj)
        have h2 := getD_fl hx j
        have := hf.1; have := hf.2
        refine ⟨by rw [hg], h1.1, h1.2, ?_, ?_⟩ <;> unfold ab <;> omega)
      have HNX : Hid (nxt k m f x = least g (k - 1)) := Lib.hid (by rw [hg]; rfl)
      have HXX : Hid (x.getD 0 0 = x0 ∧ x.getD 1 0 = x1 ∧ x.getD 2 0 = x2) := Lib.hid (by
        unfold pad at ex
        injection ex with ex
        injection ex with ex
        refine ⟨by injection ex with h8; injection h8, by injection ex with _ h8; injection h8 with h8; injection h8, by injection ex with _ h8; injection h8 with _ h8; injection h8 with h8; injection h8⟩)
      have HAW : Hid (∀ j, j < k → ∀ W, Calls Try.prog 68 #[.int .i64 (x.getD j 0), .int .i64 f] W fun e w' => e = .returned (.int .i64 (ab (x.getD j 0) f)) ∧ Below W.heap.size W w') := Lib.hid (fun j hj W => away_c _ _ (getD_fl hx j) hf W)
      have HKEEP := Lib.hid (And.intro hB2 (And.intro hM2 (And.intro hH2 (And.intro hrg2 hsp))))
      clear hg2 hsp hB2 hM2 hH2 hrg2 hg hB1 hM1 hH1 hrg1 hg1 hW2 hen HRG HMR HHR HBR
      apply R.wp_region_plan [(0, true), (1, true), (2, true), (3, true), (6, true), (7, true), (8, true), (4, false), (5, true), (9, false), (10, false), (11, false)] (fun w' => Below W2.heap.size W2 w')
      case hm => kernel_rfl
      case hB => kernel_rfl
      case hQ => exact fun _ _ d _ _ h => by cases d <;> exact h
      case hS => exact (Below.refl _ _).drew
      case h =>
        simp only [R.opsOf, List.filterMap_cons, List.filterMap_nil, List.getElem?_toArray, List.getElem?_cons_zero, List.getElem?_cons_succ, Option.map_some]
        obtain ⟨y0, y1, y2, ey⟩ : ∃ y0 y1 y2, pad (moved x 0 f) = sv y0 y1 y2 := ⟨_, _, _, rfl⟩
        have HMV0 := Lib.hid (HMV.out 0 0 rfl (by omega))
        rw [ey] at HMV0
        obtain ⟨d0, hd0⟩ : ∃ d, m (moved x 0 f) = d := ⟨_, rfl⟩
        have HLK : Hid (∀ w', Below W2.heap.size W2 w' → (Instr.lookup 65 (.map (some b)) (sv y0 y1 y2) false).run Try.prog w' = .ok (.int .i64 d0) w') := Lib.hid (fun w' h => by
          have := (HX.out w' h).2.2.look (HPM.out 0 (by omega)) trivial
          rwa [ey, hd0] at this)
        refine R.wpPlan_float (.map (some b)) rfl (fun w' hS => by go_simp) ?_
        try go_frame
        refine R.wpPlan_float (hv k s0 s1 s2 (.slice C n c)) rfl (fun w' hS => by obtain ⟨⟨g0, g1, g2, g3, g4⟩, ⟨q0, q1, q2, _, _, _, _⟩, _⟩ := HX.out w' hS; go_simp) ?_
        try go_frame
        refine R.wpPlan_float (sv x0 x1 x2) rfl (fun w' hS => by obtain ⟨⟨g0, g1, g2, g3, g4⟩, ⟨q0, q1, q2, _, _, _, _⟩, _⟩ := HX.out w' hS; go_simp) ?_
        try go_frame
        refine R.wpPlan_float (.int .i64 f) rfl (fun w' hS => by obtain ⟨⟨g0, g1, g2, g3, g4⟩, ⟨q0, q1, q2, _, _, _, _⟩, _⟩ := HX.out w' hS; go_simp) ?_
        try go_frame
        refine R.wpPlan_float (.pointer (some ⟨T, 0, none⟩)) rfl (fun w' hS => by obtain ⟨⟨g0, g1, g2, g3, g4⟩, ⟨q0, q1, q2, _, _, _, _⟩, _⟩ := HX.out w' hS; go_simp) ?_
        try go_frame
        refine R.wpPlan_float (.int .i64 x0) rfl (fun w' hS => by obtain ⟨⟨g0, g1, g2, g3, g4⟩, ⟨q0, q1, q2, _, _, _, _⟩, _⟩ := HX.out w' hS; go_simp) ?_
        try go_frame
        refine R.wpPlan_float (.int .i64 f) rfl (fun w' hS => by obtain ⟨⟨g0, g1, g2, g3, g4⟩, ⟨q0, q1, q2, _, _, _, _⟩, _⟩ := HX.out w' hS; go_simp) ?_
        try go_frame
        refine R.wpPlan_do rfl (fun K hK => ?_)
        go_simp
        refine (HMV0.out _).mono ?_
        rintro e w4 ⟨rfl, hb4⟩
        have hS4 : Below W2.heap.size W2 w4 := (Below.refl _ W2).drew.trans hb4
        refine hK _ _ hS4 ?_
        clear hK K hb4
        try go_frame
        refine R.wpPlan_float (.int .i64 d0) rfl (fun w' hS => by have h9 := HLK.out w' hS; go_simp) ?_
        try go_frame
        refine R.wpPlan_do rfl (fun K hK => ?_)
        go_simp
        have HA0 := HAW.out 0 (by omega) w4
        rw [HXX.out.1] at HA0
        obtain ⟨v0, hv0⟩ : ∃ v, ab x0 f = v := ⟨_, rfl⟩
        rw [hv0] at HA0
        refine HA0.mono ?_
        rintro e w5 ⟨rfl, hb5⟩
        have hS5 : Below W2.heap.size W2 w5 := hS4.trans (hb5.mono hS4.size)
        refine hK _ _ hS5 ?_
        clear hK K hb5 HA0
        try go_frame
        have HG0 : Hid (g 0 = d0 + v0 ∧ 0 ≤ d0 ∧ d0 ≤ 100000 ∧ 0 ≤ v0 ∧ v0 ≤ 30) := Lib.hid (by have := HGB.out 0 (by omega); rw [hd0, HXX.out.1, hv0] at this; exact this)
        have hwr : IntKind.i64.wrap (d0 + v0) = d0 + v0 := IntWalk.i64_in _ (by have := HG0.out; omega)
        refine R.wpPlan_do rfl (fun K hK => ?_)
        go_simp
        refine hK _ _ hS5 ?_
        clear hK K
        try go_frame
        refine R.wpPlan_do rfl (fun K hK => ?_)
        go_simp
        refine hK _ _ hS5 ?_
        clear hK K
        try go_frame
        refine R.wpPlan_nil ?_
        have HG00 : Hid (d0 + v0 = least g 0) := Lib.hid (by rw [← HG0.out.1]; rfl)
        have HS5 := Lib.hid hS5
        clear hS5 hS4 hwr hd0 hv0 ey HLK HMV0 HG0
        go_wp2_with fail
        go_loopw [9, 10] (fun v9 v10 wi => ∃ (i : Nat) (iv : Int), v10 = .int .i64 iv ∧ iv = (i : Int) ∧ 1 ≤ i ∧ i ≤ k ∧ v9 = .int .i64 (least g (i - 1)) ∧ Hid (Below W2.heap.size W2 wi)) (fun _ v10 _ => k - (intOf v10).toNat)
        case atStart => exact ⟨1, 1, rfl, rfl, Nat.le_refl _, hk1, by rw [HG00.out], HS5⟩
        case round =>
          rename World => wi
          obtain ⟨i, iv, rfl, hiv, hi1, hik, rfl, HSi⟩ := hrel
          clear HS5 HG00
          obtain ⟨q, hq⟩ : ∃ q, least g (i - 1) = q := ⟨_, rfl⟩
          have hqb : 0 ≤ q ∧ q ≤ 100030 := by
            obtain ⟨j, hj, ej⟩ := least_is g (i - 1)
            have := HGB.out j (by omega)
            omega
          rw [hq]
          by_cases hlt : i < k
          obtain rfl | rfl : i = 1 ∨ i = 2 := by omega
          · obtain rfl : iv = 1 := by omega
            clear hiv
            have hkv : (1 : Int) < (k : Int) := by omega
            have hgk := (HX.out wi HSi.out).1.h0
            go_wp2_with fail
            clear hgk
            obtain ⟨y0, y1, y2, ey⟩ : ∃ y0 y1 y2, pad (moved x 1 f) = sv y0 y1 y2 := ⟨_, _, _, rfl⟩
            have HMV0 := Lib.hid (HMV.out 1 1 rfl (by omega))
            rw [ey] at HMV0
            obtain ⟨d0, hd0⟩ : ∃ d, m (moved x 1 f) = d := ⟨_, rfl⟩
            obtain ⟨v0, hv0⟩ : ∃ v, ab x1 f = v := ⟨_, rfl⟩
            have HLK : Hid (∀ w', Below W2.heap.size W2 w' → (Instr.lookup 65 (.map (some b)) (sv y0 y1 y2) false).run Try.prog w' = .ok (.int .i64 d0) w') := Lib.hid (fun w' h => by
              have := (HX.out w' h).2.2.look (HPM.out 1 (by omega)) trivial
              rwa [ey, hd0] at this)
            have HG0 : Hid (g 1 = d0 + v0 ∧ 0 ≤ d0 ∧ d0 ≤ 100000 ∧ 0 ≤ v0 ∧ v0 ≤ 30) := Lib.hid (by have := HGB.out 1 (by omega); rw [hd0, HXX.out.2.1, hv0] at this; exact this)
            have HNW : Hid (least g 1 = min q (d0 + v0)) := Lib.hid (by rw [← HG0.out.1, ← hq]; rfl)
            apply R.wp_region_plan [(0, true), (1, true), (2, true), (3, true), (4, true), (5, true), (8, true), (9, true), (10, true), (11, true), (6, false), (7, true), (12, false), (13, false), (14, false), (15, false)] (fun w' => Below W2.heap.size W2 w')
            case hm => kernel_rfl
            case hB => kernel_rfl
            case hQ => exact fun _ _ d _ _ h => by cases d <;> exact h
            case hS => exact HSi.out.drew
            case h =>
            simp only [R.opsOf, List.filterMap_cons, List.filterMap_nil, List.getElem?_toArray, List.getElem?_cons_zero, List.getElem?_cons_succ, Option.map_some]
            refine R.wpPlan_float (.int .i64 q) rfl (fun w' hS => by obtain ⟨⟨g0, g1, g2, g3, g4⟩, ⟨q0, q1, q2, _, _, _, _⟩, _⟩ := HX.out w' hS; go_simp) ?_
            try go_frame
            refine R.wpPlan_float (.map (some b)) rfl (fun w' hS => by obtain ⟨⟨g0, g1, g2, g3, g4⟩, ⟨q0, q1, q2, _, _, _, _⟩, _⟩ := HX.out w' hS; go_simp) ?_
            try go_frame
            refine R.wpPlan_float (hv k s0 s1 s2 (.slice C n c)) rfl (fun w' hS => by obtain ⟨⟨g0, g1, g2, g3, g4⟩, ⟨q0, q1, q2, _, _, _, _⟩, _⟩ := HX.out w' hS; go_simp) ?_
            try go_frame
            refine R.wpPlan_float (sv x0 x1 x2) rfl (fun w' hS => by obtain ⟨⟨g0, g1, g2, g3, g4⟩, ⟨q0, q1, q2, _, _, _, _⟩, _⟩ := HX.out w' hS; go_simp) ?_
            try go_frame
            refine R.wpPlan_float (.int .i64 1) rfl (fun w' hS => by obtain ⟨⟨g0, g1, g2, g3, g4⟩, ⟨q0, q1, q2, _, _, _, _⟩, _⟩ := HX.out w' hS; go_simp) ?_
            try go_frame
            refine R.wpPlan_float (.int .i64 f) rfl (fun w' hS => by obtain ⟨⟨g0, g1, g2, g3, g4⟩, ⟨q0, q1, q2, _, _, _, _⟩, _⟩ := HX.out w' hS; go_simp) ?_
            try go_frame
            refine R.wpPlan_float (.int .i64 1) rfl (fun w' hS => by obtain ⟨⟨g0, g1, g2, g3, g4⟩, ⟨q0, q1, q2, _, _, _, _⟩, _⟩ := HX.out w' hS; go_simp) ?_
            try go_frame
            refine R.wpPlan_float (.pointer (some ⟨T, 1, none⟩)) rfl (fun w' hS => by obtain ⟨⟨g0, g1, g2, g3, g4⟩, ⟨q0, q1, q2, _, _, _, _⟩, _⟩ := HX.out w' hS; go_simp) ?_
            try go_frame
            refine R.wpPlan_float (.int .i64 x1) rfl (fun w' hS => by obtain ⟨⟨g0, g1, g2, g3, g4⟩, ⟨q0, q1, q2, _, _, _, _⟩, _⟩ := HX.out w' hS; go_simp) ?_
            try go_frame
            refine R.wpPlan_float (.int .i64 f) rfl (fun w' hS => by obtain ⟨⟨g0, g1, g2, g3, g4⟩, ⟨q0, q1, q2, _, _, _, _⟩, _⟩ := HX.out w' hS; go_simp) ?_
            try go_frame
            refine R.wpPlan_do rfl (fun K hK => ?_)
            go_simp
            refine (HMV0.out _).mono ?_
            rintro e w4 ⟨rfl, hb4⟩
            have hS4 : Below W2.heap.size W2 w4 := HSi.out.drew.trans (hb4.mono HSi.out.size)
            refine hK _ _ hS4 ?_
            clear hK K hb4
            try go_frame
            refine R.wpPlan_float (.int .i64 d0) rfl (fun w' hS => by have h9 := HLK.out w' hS; go_simp) ?_
            try go_frame
            refine R.wpPlan_do rfl (fun K hK => ?_)
            go_simp
            have HA0 := HAW.out 1 (by omega) w4
            rw [HXX.out.2.1, hv0] at HA0
            refine HA0.mono ?_
            rintro e w5 ⟨rfl, hb5⟩
            have hS5 : Below W2.heap.size W2 w5 := hS4.trans (hb5.mono hS4.size)
            refine hK _ _ hS5 ?_
            clear hK K hb5 HA0
            try go_frame
            have hwr : IntKind.i64.wrap (d0 + v0) = d0 + v0 := IntWalk.i64_in _ (by have := HG0.out; omega)
            refine R.wpPlan_do rfl (fun K hK => ?_)
            go_simp
            refine hK _ _ hS5 ?_
            clear hK K
            try go_frame
            refine R.wpPlan_do rfl (fun K hK => ?_)
            go_simp
            refine hK _ _ hS5 ?_
            clear hK K
            try go_frame
            refine R.wpPlan_do rfl (fun K hK => ?_)
            go_simp
            refine hK _ _ hS5 ?_
            clear hK K
            try go_frame
            refine R.wpPlan_nil ?_
            have HS5 := Lib.hid hS5
            have HNW2 : Hid (least g (1 + 1 - 1) = min q (d0 + v0)) := HNW
            clear hS5 hS4 hwr hd0 hv0 ey HLK HMV0 hkv
            go_wp2_with fail
            exact ⟨⟨1 + 1, 1 + 1, by go_num, by omega, by omega, by omega, by rw [HNW2.out], HS5⟩, by simp [intOf]; omega⟩
          · obtain rfl : iv = 2 := by omega
            clear hiv
            have hkv : (2 : Int) < (k : Int) := by omega
            have hgk := (HX.out wi HSi.out).1.h0
            go_wp2_with fail
            clear hgk
            obtain ⟨y0, y1, y2, ey⟩ : ∃ y0 y1 y2, pad (moved x 2 f) = sv y0 y1 y2 := ⟨_, _, _, rfl⟩
            have HMV0 := Lib.hid (HMV.out 2 2 rfl (by omega))
            rw [ey] at HMV0
            obtain ⟨d0, hd0⟩ : ∃ d, m (moved x 2 f) = d := ⟨_, rfl⟩
            obtain ⟨v0, hv0⟩ : ∃ v, ab x2 f = v := ⟨_, rfl⟩
            have HLK : Hid (∀ w', Below W2.heap.size W2 w' → (Instr.lookup 65 (.map (some b)) (sv y0 y1 y2) false).run Try.prog w' = .ok (.int .i64 d0) w') := Lib.hid (fun w' h => by
              have := (HX.out w' h).2.2.look (HPM.out 2 (by omega)) trivial
              rwa [ey, hd0] at this)
            have HG0 : Hid (g 2 = d0 + v0 ∧ 0 ≤ d0 ∧ d0 ≤ 100000 ∧ 0 ≤ v0 ∧ v0 ≤ 30) := Lib.hid (by have := HGB.out 2 (by omega); rw [hd0, HXX.out.2.2, hv0] at this; exact this)
            have HNW : Hid (least g 2 = min q (d0 + v0)) := Lib.hid (by rw [← HG0.out.1, ← hq]; rfl)
            apply R.wp_region_plan [(0, true), (1, true), (2, true), (3, true), (4, true), (5, true), (8, true), (9, true), (10, true), (11, true), (6, false), (7, true), (12, false), (13, false), (14, false), (15, false)] (fun w' => Below W2.heap.size W2 w')
            case hm => kernel_rfl
            case hB => kernel_rfl
            case hQ => exact fun _ _ d _ _ h => by cases d <;> exact h
            case hS => exact HSi.out.drew
            case h =>
            simp only [R.opsOf, List.filterMap_cons, List.filterMap_nil, List.getElem?_toArray, List.getElem?_cons_zero, List.getElem?_cons_succ, Option.map_some]
            refine R.wpPlan_float (.int .i64 q) rfl (fun w' hS => by obtain ⟨⟨g0, g1, g2, g3, g4⟩, ⟨q0, q1, q2, _, _, _, _⟩, _⟩ := HX.out w' hS; go_simp) ?_
            try go_frame
            refine R.wpPlan_float (.map (some b)) rfl (fun w' hS => by obtain ⟨⟨g0, g1, g2, g3, g4⟩, ⟨q0, q1, q2, _, _, _, _⟩, _⟩ := HX.out w' hS; go_simp) ?_
            try go_frame
            refine R.wpPlan_float (hv k s0 s1 s2 (.slice C n c)) rfl (fun w' hS => by obtain ⟨⟨g0, g1, g2, g3, g4⟩, ⟨q0, q1, q2, _, _, _, _⟩, _⟩ := HX.out w' hS; go_simp) ?_
            try go_frame
            refine R.wpPlan_float (sv x0 x1 x2) rfl (fun w' hS => by obtain ⟨⟨g0, g1, g2, g3, g4⟩, ⟨q0, q1, q2, _, _, _, _⟩, _⟩ := HX.out w' hS; go_simp) ?_
            try go_frame
            refine R.wpPlan_float (.int .i64 2) rfl (fun w' hS => by obtain ⟨⟨g0, g1, g2, g3, g4⟩, ⟨q0, q1, q2, _, _, _, _⟩, _⟩ := HX.out w' hS; go_simp) ?_
            try go_frame
            refine R.wpPlan_float (.int .i64 f) rfl (fun w' hS => by obtain ⟨⟨g0, g1, g2, g3, g4⟩, ⟨q0, q1, q2, _, _, _, _⟩, _⟩ := HX.out w' hS; go_simp) ?_
            try go_frame
            refine R.wpPlan_float (.int .i64 2) rfl (fun w' hS => by obtain ⟨⟨g0, g1, g2, g3, g4⟩, ⟨q0, q1, q2, _, _, _, _⟩, _⟩ := HX.out w' hS; go_simp) ?_
            try go_frame
            refine R.wpPlan_float (.pointer (some ⟨T, 2, none⟩)) rfl (fun w' hS => by obtain ⟨⟨g0, g1, g2, g3, g4⟩, ⟨q0, q1, q2, _, _, _, _⟩, _⟩ := HX.out w' hS; go_simp) ?_
            try go_frame
            refine R.wpPlan_float (.int .i64 x2) rfl (fun w' hS => by obtain ⟨⟨g0, g1, g2, g3, g4⟩, ⟨q0, q1, q2, _, _, _, _⟩, _⟩ := HX.out w' hS; go_simp) ?_
            try go_frame
            refine R.wpPlan_float (.int .i64 f) rfl (fun w' hS => by obtain ⟨⟨g0, g1, g2, g3, g4⟩, ⟨q0, q1, q2, _, _, _, _⟩, _⟩ := HX.out w' hS; go_simp) ?_
            try go_frame
            refine R.wpPlan_do rfl (fun K hK => ?_)
            go_simp
            refine (HMV0.out _).mono ?_
            rintro e w4 ⟨rfl, hb4⟩
            have hS4 : Below W2.heap.size W2 w4 := HSi.out.drew.trans (hb4.mono HSi.out.size)
            refine hK _ _ hS4 ?_
            clear hK K hb4
            try go_frame
            refine R.wpPlan_float (.int .i64 d0) rfl (fun w' hS => by have h9 := HLK.out w' hS; go_simp) ?_
            try go_frame
            refine R.wpPlan_do rfl (fun K hK => ?_)
            go_simp
            have HA0 := HAW.out 2 (by omega) w4
            rw [HXX.out.2.2, hv0] at HA0
            refine HA0.mono ?_
            rintro e w5 ⟨rfl, hb5⟩
            have hS5 : Below W2.heap.size W2 w5 := hS4.trans (hb5.mono hS4.size)
            refine hK _ _ hS5 ?_
            clear hK K hb5 HA0
            try go_frame
            have hwr : IntKind.i64.wrap (d0 + v0) = d0 + v0 := IntWalk.i64_in _ (by have := HG0.out; omega)
            refine R.wpPlan_do rfl (fun K hK => ?_)
            go_simp
            refine hK _ _ hS5 ?_
            clear hK K
            try go_frame
            refine R.wpPlan_do rfl (fun K hK => ?_)
            go_simp
            refine hK _ _ hS5 ?_
            clear hK K
            try go_frame
            refine R.wpPlan_do rfl (fun K hK => ?_)
            go_simp
            refine hK _ _ hS5 ?_
            clear hK K
            try go_frame
            refine R.wpPlan_nil ?_
            have HS5 := Lib.hid hS5
            have HNW2 : Hid (least g (2 + 1 - 1) = min q (d0 + v0)) := HNW
            clear hS5 hS4 hwr hd0 hv0 ey HLK HMV0 hkv
            go_wp2_with fail
            exact ⟨⟨2 + 1, 2 + 1, by go_num, by omega, by omega, by omega, by rw [HNW2.out], HS5⟩, by simp [intOf]; omega⟩
          · obtain rfl : i = k := by omega
            have hge : ¬ iv < (i : Int) := by omega
            have hgk := (HX.out wi HSi.out).1.h0
            obtain ⟨hB2, hM2, hH2, hrg2, hsp⟩ := HKEEP.out
            have hS := HSi.out
            have hMi := hM2.of (hS.block (B + 1) hM2.lt)
            obtain ⟨W9, hrun, hM9, hg9⟩ := hMi.put (by omega) hk3 hx (v := q) (by rw [← hq, HNX.out]) hqb.1 (by omega)
            rw [ex] at hrun
            have hspi := hsp.of (hS.block T hsp.lt)
            have hri := (hrg2.kept (grown_of hS) (by simp) (by simp)).kept hg9 (fun e => by injection e with e; omega) (fun e => by injection e with e; omega)
            have hHi := (hH2.of (hS.block B hH2.lt)).of (hg9.block B (by have := hS.size; have := hH2.lt; omega) (fun e => by injection e with e; omega))
            have hBi : Below B w W9 := (hB2.trans (hS.mono (by omega))).grown hg9 (by have := hS.size; omega) (fun j e => by injection e with e; omega)
            have HFIN : Hid (Wk W9 (B + 1) i (N - cnt1) (nxt i m f) (fun z => (left (kP z) && !(kP z).sameKey (keyS3 x0 x1 x2)) = false)) := Lib.hid ((hM9.mono (by have := HCN.out; omega)).iff (fun z hz => by
              by_cases e : z = x
              · subst e
                rw [hekP, WideAt.sameKey_self (keyS3_key _ _ _)]
                simp
              · have hne : kP z ≠ keyS3 x0 x1 x2 := by rw [← hekP]; exact fun e' => e (kP_inj hk3 hz hx e')
                rw [Maps.sameKey_ne hne]
                simp [e]))
            have HRI := Lib.hid hri
            have HHI := Lib.hid hHi
            have HBI := Lib.hid hBi
            have HLE := Lib.hid hri.left_eq
            have HLT := Lib.hid hLT
            have HCN1 : Hid (cnt1 ≤ N) := Lib.hid (by have := HCN.out; omega)
            obtain ⟨q0, q1, q2, _, _, _, _⟩ := hspi
            clear hB2 hM2 hH2 hrg2 hsp hS hMi hri hHi hBi hM9 hg9 hiv hLT HKEEP
            go_wp2_with fail
            exact ⟨⟨_, cnt1, HRI, HCN1, HFIN, HHI, HBI⟩, by rw [HLE.out, HLT.out]; exact hlt0⟩
end Go.Proofs.Ytakbijpcfnipoaa.A
