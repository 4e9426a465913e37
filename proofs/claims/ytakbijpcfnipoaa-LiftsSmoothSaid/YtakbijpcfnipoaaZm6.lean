/- What the statements of this seat lean on: the functions that they reach, walked. -/
import Derived.Test.YtakbijpcfnipoaaZm5
set_option linter.unusedSimpArgs false
set_option linter.unusedVariables false

set_option linter.unusedVariables false
set_option linter.unusedSimpArgs false
namespace Go.Proofs.Ytakbijpcfnipoaa.A
open Go.RowKit Go.Proofs.YtakbijpcfnipoaaW.PrintWords Go.Proofs.YtakbijpcfnipoaaW.PrintLast Go.Proofs.YtakbijpcfnipoaaW.PrintMore
open Go.Proofs.Ytakbijpcfnipoaa.PA Go.Proofs.Ytakbijpcfnipoaa.Lf
attribute [local go_sem] Oper.semAt_some
theorem callsIn_round {P : Program} {l n : Nat} {g : FuncId} {args : Array Value} {w : World} {R : Ending → World → Prop} (h : Calls P g args w R) : CallsIn (Fence.wide.inRound l) n P g args w R := (callsIn_wide (n := n)).2 h
def stp (v : List Int → Int) (f : Int) (st : List Int × Int) (s : List Int) : List Int × Int :=
  if s.contains f then (if st.2 < 0 ∨ v s < st.2 then (s, v s) else st) else st
def chp (v : List Int → Int) (f : Int) (l : List (List Int)) : List Int × Int := l.foldl (stp v f) ([], -1)
theorem chp_snoc (v : List Int → Int) (f : Int) (l : List (List Int)) (s : List Int) : chp v f (l ++ [s]) = stp v f (chp v f l) s := by
  unfold chp; rw [List.foldl_append]; rfl
theorem chp_spec (v : List Int → Int) (f : Int) : ∀ (r l : List (List Int)), l = r.reverse → (∀ s ∈ l, 0 ≤ v s) →
    (chp v f l = ([], -1) ∧ ∀ s ∈ l, s.contains f = false) ∨ (∃ s ∈ l, chp v f l = (s, v s) ∧ s.contains f = true ∧ ∀ x ∈ l, x.contains f = true → v s ≤ v x)
  | [], l, e, _ => by subst e; exact .inl ⟨rfl, by simp⟩
  | a :: r, l, e, hv => by
    rw [List.reverse_cons] at e
    subst e
    rw [chp_snoc]
    have ih := chp_spec v f r r.reverse rfl (fun s hs => hv s (List.mem_append_left _ hs))
    unfold stp
    by_cases ha : a.contains f = true
    · rw [if_pos ha]
      rcases ih with ⟨h1, h2⟩ | ⟨s, hs, h1, h2, h3⟩
      · rw [h1, if_pos (.inl (by decide))]
        refine .inr ⟨a, by simp, rfl, ha, fun x hx hc => ?_⟩
        rcases List.mem_append.1 hx with hx | hx
        · rw [h2 x hx] at hc; cases hc
        · rw [List.mem_singleton.1 hx]; exact Int.le_refl _
      · rw [h1]
        by_cases hlt : v a < v s
        · rw [if_pos (.inr hlt)]
          refine .inr ⟨a, by simp, rfl, ha, fun x hx hc => ?_⟩
          rcases List.mem_append.1 hx with hx | hx
          · have := h3 x hx hc; omega
          · rw [List.mem_singleton.1 hx]; exact Int.le_refl _
        · rw [if_neg (by have := hv s (List.mem_append_left _ hs); simp only [not_or]; omega)]
          refine .inr ⟨s, List.mem_append_left _ hs, rfl, h2, fun x hx hc => ?_⟩
          rcases List.mem_append.1 hx with hx | hx
          · exact h3 x hx hc
          · rw [List.mem_singleton.1 hx]; omega
    · rw [if_neg ha]
      rcases ih with ⟨h1, h2⟩ | ⟨s, hs, h1, h2, h3⟩
      · refine .inl ⟨h1, fun x hx => ?_⟩
        rcases List.mem_append.1 hx with hx | hx
        · exact h2 x hx
        · rw [List.mem_singleton.1 hx]; simpa using ha
      · refine .inr ⟨s, List.mem_append_left _ hs, h1, h2, fun x hx hc => ?_⟩
        rcases List.mem_append.1 hx with hx | hx
        · exact h3 x hx hc
        · rw [List.mem_singleton.1 hx] at hc; exact absurd hc ha
structure Chp (B k b N : Nat) (s0 s1 s2 : Int) (sl : Value) (f : Int) (fv : Value) (m : List Int → Int) (st : List Int × Int) (w W : World) : Prop where
  wk : Wk W b k N m (fun _ => True)
  hall : HallAt B (k : Int) s0 s1 s2 sl W
  mp : W.cell? ⟨B + 1, 0, none⟩ = some (.map (some b))
  fl : W.cell? ⟨B + 1 + 1, 0, none⟩ = some (.int .i64 f)
  fn : W.cell? ⟨B + 1 + 1 + 1, 0, none⟩ = some fv
  res : SpotsAt (B + 1 + 1 + 1 + 1) 0 0 0 W
  best : ∃ a0 a1 a2, pad st.1 = sv a0 a1 a2 ∧ SpotsAt (B + 1 + 1 + 1 + 1 + 1) a0 a1 a2 W
  lst : W.cell? ⟨B + 1 + 1 + 1 + 1 + 1 + 1, 0, none⟩ = some (.int .i64 st.2)
  lstf : W.frozen? ⟨B + 1 + 1 + 1 + 1 + 1 + 1, 0, none⟩ = false
  bel : Below B w W
theorem Chp.grown {B k b N : Nat} {s0 s1 s2 : Int} {sl : Value} {f : Int} {fv : Value} {m : List Int → Int} {st : List Int × Int} {w X Y : World} {row : Option Nat} (h : Chp B k b N s0 s1 s2 sl f fv m st w X) (hbB : b < B) (hB : w.heap.size = B)
    (hg : X.grownBy Y row) (hr : ∀ j, row = some j → B + 8 ≤ j) : Chp B k b N s0 s1 s2 sl f fv m st w Y := by
  obtain ⟨h1, h2, h3, h4, h5, h6, ⟨a0, a1, a2, e, h7⟩, h8, h9, h10⟩ := h
  have key : ∀ j, j < B + 8 → j < X.heap.size → Y.heap[j]? = X.heap[j]? := fun j hj hl => hg.block j hl (fun e => by have := hr j e.symm; omega)
  exact ⟨h1.of (key b (by omega) h1.lt), h2.of (key B (by omega) h2.lt), (World.cell?_of_block (key (B + 1) (by omega) (World.block_lt_of_cell? X _ h3))).trans h3, (World.cell?_of_block (key (B + 1 + 1) (by omega) (World.block_lt_of_cell? X _ h4))).trans h4,
    (World.cell?_of_block (key (B + 1 + 1 + 1) (by omega) (World.block_lt_of_cell? X _ h5))).trans h5, h6.of (key (B + 1 + 1 + 1 + 1) (by omega) h6.lt), ⟨a0, a1, a2, e, h7.of (key (B + 1 + 1 + 1 + 1 + 1) (by omega) h7.lt)⟩,
    (World.cell?_of_block (key (B + 1 + 1 + 1 + 1 + 1 + 1) (by omega) (World.block_lt_of_cell? X _ h8))).trans h8, (World.frozen?_of_block (key (B + 1 + 1 + 1 + 1 + 1 + 1) (by omega) (World.block_lt_of_cell? X _ h8))).trans h9,
    h10.grown hg (by have := h10.size; omega) (fun j e => by have := hr j e; omega)⟩
def putC (B : Nat) (W : World) (x0 x1 x2 vx : Int) : World := (((W.setCell ⟨B + 1 + 1 + 1 + 1 + 1, 0, none⟩ (.int .i64 x0)).setCell ⟨B + 1 + 1 + 1 + 1 + 1, 1, none⟩ (.int .i64 x1)).setCell ⟨B + 1 + 1 + 1 + 1 + 1, 2, none⟩ (.int .i64 x2)).setCell ⟨B + 1 + 1 + 1 + 1 + 1 + 1, 0, none⟩ (.int .i64 vx)
theorem Chp.put {B k b N : Nat} {s0 s1 s2 : Int} {sl : Value} {f : Int} {fv : Value} {m : List Int → Int} {st : List Int × Int} {w X : World} (h : Chp B k b N s0 s1 s2 sl f fv m st w X) (hbB : b < B) (hB : w.heap.size = B)
    {x : List Int} {x0 x1 x2 : Int} (ex : pad x = sv x0 x1 x2) (vx : Int) : Chp B k b N s0 s1 s2 sl f fv m (x, vx) w (putC B X x0 x1 x2 vx) ∧ KeptC (B + 7) (B + 8) X (putC B X x0 x1 x2 vx) := by
  obtain ⟨h1, h2, h3, h4, h5, h6, ⟨a0, a1, a2, e, h7⟩, h8, h9, h10⟩ := h
  have hga := grown_put (B := B + 1 + 1 + 1 + 1 + 1) (W := X) (.int .i64 x0) (.int .i64 x1) (.int .i64 x2)
  have hN := h7.put x0 x1 x2
  unfold putC
  generalize (((X.setCell ⟨B + 1 + 1 + 1 + 1 + 1, 0, none⟩ (.int .i64 x0)).setCell ⟨B + 1 + 1 + 1 + 1 + 1, 1, none⟩ (.int .i64 x1)).setCell ⟨B + 1 + 1 + 1 + 1 + 1, 2, none⟩ (.int .i64 x2)) = Y at *
  have hgb := grownBy_setCellAt Y ⟨B + 1 + 1 + 1 + 1 + 1 + 1, 0, none⟩ (.int .i64 vx)
  have h8l := World.block_lt_of_cell? X _ h8
  have k8 : Y.heap[B + 1 + 1 + 1 + 1 + 1 + 1]? = X.heap[B + 1 + 1 + 1 + 1 + 1 + 1]? := hga.block _ h8l (fun e => by injection e with e; have e : B + 1 + 1 + 1 + 1 + 1 + 1 = B + 1 + 1 + 1 + 1 + 1 := e; omega)
  have h8Y := (World.cell?_of_block (a := ⟨B + 1 + 1 + 1 + 1 + 1 + 1, 0, none⟩) k8).trans h8
  have h9Y := (World.frozen?_of_block (a := ⟨B + 1 + 1 + 1 + 1 + 1 + 1, 0, none⟩) k8).trans h9
  have hset : (Y.setCell ⟨B + 1 + 1 + 1 + 1 + 1 + 1, 0, none⟩ (.int .i64 vx)).cell? ⟨B + 1 + 1 + 1 + 1 + 1 + 1, 0, none⟩ = some (.int .i64 vx) := by simp [go_sem, h8Y]
  have hsetf : (Y.setCell ⟨B + 1 + 1 + 1 + 1 + 1 + 1, 0, none⟩ (.int .i64 vx)).frozen? ⟨B + 1 + 1 + 1 + 1 + 1 + 1, 0, none⟩ = false := by rw [World.frozen?_setCell]; exact h9Y
  generalize (Y.setCell ⟨B + 1 + 1 + 1 + 1 + 1 + 1, 0, none⟩ (.int .i64 vx)) = Z at *
  have key : ∀ j, j ≠ B + 1 + 1 + 1 + 1 + 1 → j ≠ B + 1 + 1 + 1 + 1 + 1 + 1 → j < X.heap.size → Z.heap[j]? = X.heap[j]? := fun j hj hj' hl =>
    (hgb.block j (Nat.lt_of_lt_of_le hl hga.size) (fun e => hj' (by injection e))).trans (hga.block j hl (fun e => hj (by injection e)))
  refine ⟨⟨h1.of (key b (by omega) (by omega) h1.lt), h2.of (key B (by omega) (by omega) h2.lt), (World.cell?_of_block (key (B + 1) (by omega) (by omega) (World.block_lt_of_cell? X _ h3))).trans h3, (World.cell?_of_block (key (B + 1 + 1) (by omega) (by omega) (World.block_lt_of_cell? X _ h4))).trans h4,
    (World.cell?_of_block (key (B + 1 + 1 + 1) (by omega) (by omega) (World.block_lt_of_cell? X _ h5))).trans h5, h6.of (key (B + 1 + 1 + 1 + 1) (by omega) (by omega) h6.lt), ⟨x0, x1, x2, ex, hN.of (hgb.block _ hN.lt (fun e => by injection e with e; have e : B + 1 + 1 + 1 + 1 + 1 = B + 1 + 1 + 1 + 1 + 1 + 1 := e; omega))⟩, hset, hsetf,
    (h10.grown hga (by have := h10.size; omega) (fun j e => by injection e with e; omega)).grown hgb (by have := h10.size; have := hga.size; omega) (fun j e => by injection e with e; have e : B + 1 + 1 + 1 + 1 + 1 + 1 = j := e; omega)⟩, ?_⟩
  exact ⟨Nat.le_trans hga.size hgb.size, fun j hj hl => key j (by omega) (by omega) hl⟩
set_option maxHeartbeats 8000000 in
set_option maxRecDepth 100000 in
theorem cheapest_c {k N : Nat} (hk1 : 1 ≤ k) (hk3 : k ≤ 3) (s0 s1 s2 : Int) (C : Option Addr) (n c : Nat) (b : Nat) (m d : List Int → Int) (f : Int) (gf : Nat) (caps : Array Value) (eg : Enters gf)
    (hm : ∀ x, Pos k x → 0 ≤ m x ∧ m x ≤ 100000) (hd : ∀ x, Pos k x → 0 ≤ d x ∧ d x ≤ 100000) (w : World) (hw : Wk w b k N m (fun _ => True))
    (HF : ∀ x W, Pos k x → Below w.heap.size w W → Calls Try.prog gf (#[pad x] ++ caps) W fun e W' => e = .returned (.int .i64 (d x)) ∧ Below W.heap.size W W') :
    Calls Try.prog 59 #[hv k s0 s1 s2 (.slice C n c), .map (some b), .int .i64 f, .func (.func gf) #[] caps] w fun e w' => e = .returned (pad (chp (fun s => m s + d s) f (allF k 0)).1) ∧ Below w.heap.size w w' := by
  refine (callsIn_wide (n := 5)).1 ?_
  refine callsIn_of_wp_marks Try.func59 rfl trivial ?_ rfl
  simp only [Try.ntmps59, List.size_toArray, List.length_cons, List.length_nil, Nat.reduceAdd, Nat.reduceSub, Array.replicate_succ, Array.replicate_zero, List.push_toArray, List.append_toArray, List.nil_append, List.cons_append]
  refine wpIn_wide.2 ?_
  obtain ⟨B, hB⟩ : ∃ B, w.heap.size = B := ⟨_, rfl⟩
  have hbB : b < B := by rw [← hB]; exact hw.lt
  have HALL := Lib.hid (all_c k s0 s1 s2 (.slice C n c))
  have HFF := Lib.hid HF
  have HW := Lib.hid hw
  clear HF hw
  go_upto_region 3 with fail
  obtain ⟨v, hvd⟩ : ∃ v : List Int → Int, v = fun s => m s + d s := ⟨_, rfl⟩
  have HVD := Lib.hid hvd
  clear hvd
  obtain ⟨W0, hW0⟩ : ∃ W0, ((((((w.alloc (Obj.cells #[Value.int IntKind.i64 ↑k, Value.int IntKind.i64 s0, Value.int IntKind.i64 s1, Value.int IntKind.i64 s2, Value.slice C n c] 54)).alloc (Obj.cells #[Value.map (some b)] 65)).alloc (Obj.cells #[Value.int IntKind.i64 f] 3)).alloc (Obj.cells #[Value.func (Fn.func gf) #[] caps] 75)).alloc (Obj.cells #[Value.int IntKind.i64 0, Value.int IntKind.i64 0, Value.int IntKind.i64 0] 52)).alloc (Obj.cells #[Value.int IntKind.i64 0, Value.int IntKind.i64 0, Value.int IntKind.i64 0] 52)).alloc (Obj.cells #[Value.int IntKind.i64 (-1)] 3) = W0 := ⟨_, rfl⟩
  have hz0 : W0.heap.size = B + 7 := by rw [← hW0]; simp [hB]
  have hg0 : w.grownBy W0 none := by rw [← hW0]; exact ((((((World.grownBy_alloc _ _ _).trans (World.grownBy_alloc _ _ _)).trans (World.grownBy_alloc _ _ _)).trans (World.grownBy_alloc _ _ _)).trans (World.grownBy_alloc _ _ _)).trans (World.grownBy_alloc _ _ _)).trans (World.grownBy_alloc _ _ _)
  have hC0 : Chp B k b N s0 s1 s2 (.slice C n c) f (.func (.func gf) #[] caps) m (chp v f []) w W0 := by
    have hs4 := SpotsAt.new ((((w.alloc (Obj.cells #[Value.int IntKind.i64 ↑k, Value.int IntKind.i64 s0, Value.int IntKind.i64 s1, Value.int IntKind.i64 s2, Value.slice C n c] 54)).alloc (Obj.cells #[Value.map (some b)] 65)).alloc (Obj.cells #[Value.int IntKind.i64 f] 3)).alloc (Obj.cells #[Value.func (Fn.func gf) #[] caps] 75)) 0 0 0
    have hs5 := SpotsAt.new (((((w.alloc (Obj.cells #[Value.int IntKind.i64 ↑k, Value.int IntKind.i64 s0, Value.int IntKind.i64 s1, Value.int IntKind.i64 s2, Value.slice C n c] 54)).alloc (Obj.cells #[Value.map (some b)] 65)).alloc (Obj.cells #[Value.int IntKind.i64 f] 3)).alloc (Obj.cells #[Value.func (Fn.func gf) #[] caps] 75)).alloc (Obj.cells #[Value.int IntKind.i64 0, Value.int IntKind.i64 0, Value.int IntKind.i64 0] 52)) 0 0 0
    simp only [World.size_alloc, hB] at hs4 hs5
    refine ⟨HW.out.kept hg0 (by simp), ?_, ?_, ?_, ?_, ?_, ⟨0, 0, 0, rfl, ?_⟩, ?_, ?_, ?_⟩
    · rw [← hW0, ← hB]; exact ⟨by simp [go_sem], by simp [go_sem], by simp [go_sem], by simp [go_sem], by simp [go_sem]⟩
    · rw [← hW0, ← hB]; simp [go_sem]
    · rw [← hW0, ← hB]; simp [go_sem]
    · rw [← hW0, ← hB]; simp [go_sem]
    · rw [← hW0]; exact (hs4.of ((World.grownBy_alloc _ _ none).block _ (by simp [hB]) (by simp))).of ((World.grownBy_alloc _ _ none).block _ (by simp [hB]) (by simp))
    · rw [← hW0]; exact hs5.of ((World.grownBy_alloc _ _ none).block _ (by simp [hB]) (by simp))
    · rw [← hW0, ← hB]; simp [go_sem]; rfl
    · rw [← hW0, ← hB]; simp [go_sem]
    · exact (Below.refl B w).grown hg0 (by omega) (fun j e => by cases e)
  rw [hW0]
  clear hW0 hg0
  have hHH := HALL.out W0
  have hlt0 := hC0.hall.lt
  obtain ⟨g0, g1, g2, g3, g4⟩ := id hC0.hall
  obtain ⟨W1, hW1⟩ : ∃ W1, W0.alloc (Obj.cells #[Value.int IntKind.i64 ↑k, Value.int IntKind.i64 s0, Value.int IntKind.i64 s1, Value.int IntKind.i64 s2, Value.slice C n c] 54) = W1 := ⟨_, rfl⟩
  rw [hW1, hz0] at hHH
  have hg01 : W0.grownBy W1 none := by rw [← hW1]; exact World.grownBy_alloc _ _ _
  have hz1 : W1.heap.size = B + 8 := by rw [← hW1]; simp [hz0]
  have hc1 : W1.cell? ⟨B + 7, 0, none⟩ = some (.int .i64 (k : Int)) := by rw [← hW1, ← hz0]; simp [go_sem]
  have hC1 := hC0.grown hbB hB hg01 (fun j e => by cases e)
  have HC := Lib.hid hHH
  have HK := Lib.hid (And.intro hz1 (And.intro hc1 hC1))
  clear hHH hg01 hz1 hc1 hC1 hC0 HALL hlt0
  go_wp2_with (go_at_call 72; (with_reducible refine HC.out.mono ?_); rintro e w2 ⟨rfl, rfl⟩)
  obtain ⟨hz1, hc1, hC1⟩ := HK.out
  clear HK HC g0 g1 g2 g3 g4 hz0
  refine (wpIn_wide (n := 5)).1 ?_
  refine wpIn_rangeFunc_C rfl (by omega) (gf := 78) (lb := #[.pointer (some ⟨B + 7, 0, none⟩)]) rfl trivial (enters_of Try.func78 (by kernel_rfl) rfl) (xs := allF k 0) (k0 := B + 7) (by omega) (iter_c k hk1 hk3 _ (B + 7) w2 hc1) (fun _ => rfl)
    (fun pre W => Chp B k b N s0 s1 s2 (.slice C n c) f (.func (.func gf) #[] caps) m (chp v f pre) w W) ?I hC1 ?round ?done
  case I => exact fun pre X Y row h hg hr => h.grown hbB hB hg (fun j e => by have := hr j e; omega)
  case done =>
    rintro D W hD h hd
    obtain ⟨a0, a1, a2, ea, hbs⟩ := h.best
    have HEA := Lib.hid ea
    have HRES := Lib.hid h.res
    obtain ⟨r0, r1, r2, rf0, rf1, rf2, _⟩ := h.res
    obtain ⟨q0, q1, q2, _, _, _, _⟩ := hbs
    have HBEL := Lib.hid h.bel
    clear hC1 hc1 h ea
    go_wp2_with fail
    have hg7 := grown_put (B := B + 1 + 1 + 1 + 1) (W := W) (.int .i64 a0) (.int .i64 a1) (.int .i64 a2)
    have hN7 := HRES.out.put a0 a1 a2
    obtain ⟨W9, hW9⟩ : ∃ W9, (((W.setCell ⟨B + 1 + 1 + 1 + 1, 0, none⟩ (.int .i64 a0)).setCell ⟨B + 1 + 1 + 1 + 1, 1, none⟩ (.int .i64 a1)).setCell ⟨B + 1 + 1 + 1 + 1, 2, none⟩ (.int .i64 a2)) = W9 := ⟨_, rfl⟩
    rw [hW9] at hg7 hN7 ⊢
    have hd9 : W9.heap[D]? = some (.deferred (some [])) := (hg7.block D (Array.getElem?_eq_some_iff.1 hd).1 (fun e => by injection e with e; omega)).trans hd
    refine ⟨by simp, .inl ⟨_, _, rfl, run_takeDeferred hd9, ?_⟩⟩
    have hgD := grownBy_putObj' W9 D (.deferred none)
    have hN8 := hN7.of (hgD.block (B + 1 + 1 + 1 + 1) hN7.lt (fun e => by injection e with e; omega))
    obtain ⟨n0, n1, n2, _, _, _, _⟩ := hN8
    refine ⟨sv a0 a1 a2, by simp [results, Try.results59, go_sem, n0, n1, n2], by rw [← HEA.out, HVD.out], ?_⟩
    rw [hB]
    exact (HBEL.out.grown hg7 (by have := HBEL.out.size; omega) (fun j e => by injection e with e; omega)).grown hgD (by have := HBEL.out.size; have := hg7.size; omega) (fun j e => by injection e with e; omega)
  case round =>
    rintro l pre x W h hl1 hl2 hpre
    have hx : Pos k x := allF_pos.1 (hpre.subset (by simp))
    obtain ⟨x0, x1, x2, ex⟩ : ∃ x0 x1 x2, pad x = sv x0 x1 x2 := ⟨_, _, _, rfl⟩
    rw [ex]
    clear hc1 hC1
    obtain ⟨T, hT⟩ : ∃ T, W.heap.size = T := ⟨_, rfl⟩
    gi_wp2
    refine ⟨KeptC.grown (World.grownBy_alloc _ _ none) (fun r e => by cases e), fun W2 hg2 => ?_⟩
    have hg1 : W.grownBy (W.alloc (Obj.cells #[Value.int IntKind.i64 x0, Value.int IntKind.i64 x1, Value.int IntKind.i64 x2] 52)) none := World.grownBy_alloc _ _ none
    have hsp := SpotsAt.new W x0 x1 x2
    rw [hT] at hsp
    have hza : (W.alloc (Obj.cells #[Value.int IntKind.i64 x0, Value.int IntKind.i64 x1, Value.int IntKind.i64 x2] 52)).heap.size = T + 1 := by simp [hT]
    have hTB : B + 8 < T := by omega
    have hlT : l < T := by omega
    have hS2 := hsp.of (hg2.block T (by omega) (fun e => by injection e with e; omega))
    have hC2 := (h.grown hbB hB hg1 (fun j e => by cases e)).grown hbB hB hg2 (fun j e => by injection e with e; omega)
    have hz2 : T + 1 ≤ W2.heap.size := by have := hg2.size; omega
    clear hg1 hg2 hsp hza h hl2
    obtain ⟨st, hst⟩ : ∃ st, chp v f pre = st := ⟨_, rfl⟩
    have HST : Hid (chp v f (pre ++ [x]) = stp v f st x) := Lib.hid (by rw [chp_snoc, hst])
    rw [hst] at hC2
    have hHS := has_c k hk3 s0 s1 s2 C n c x0 x1 x2 f
    have eT : T3 k x0 x1 x2 = x := by
      have h8 := ex
      unfold pad at h8
      injection h8 with h8
      injection h8 with h8
      have e1 : x.getD 0 0 = x0 := by injection h8 with h8; injection h8
      have e2 : x.getD 1 0 = x1 := by injection h8 with _ h8; injection h8 with h8; injection h8
      have e3 : x.getD 2 0 = x2 := by injection h8 with _ h8; injection h8 with _ h8; injection h8 with h8; injection h8
      rw [← e1, ← e2, ← e3]
      exact t3_self hx.len hk3
    rw [eT] at hHS
    obtain ⟨hb, hhb⟩ : ∃ hb, x.contains f = hb := ⟨_, rfl⟩
    rw [hhb] at hHS
    have HHS := Lib.hid hHS
    have HX : Hid (∀ w', Below W2.heap.size W2 w' → Chp B k b N s0 s1 s2 (.slice C n c) f (.func (.func gf) #[] caps) m st w w' ∧ SpotsAt T x0 x1 x2 w') := Lib.hid (fun w' h =>
      ⟨hC2.grown hbB hB (grown_of h) (fun j e => by cases e), hS2.of (h.block T hS2.lt)⟩)
    have h0 := (HX.out W2 (Below.refl _ _)).1
    obtain ⟨g0, g1, g2, g3, g4⟩ := h0.hall
    have gf0 := h0.fl
    obtain ⟨q0, q1, q2, _, _, _, _⟩ := id hS2
    clear hC2 hst hpre hHS eT h0
    unfold Enters at eg
    cases hb with
    | false =>
      gi_wp2_with (refine ⟨trivial, ?_⟩; gi_at_call 46; (refine CallsIn.mono (callsIn_round (HHS.out _)) ?_); rintro e w3 ⟨rfl, hb3⟩)
      refine ⟨⟨hb3.size, fun j _ hj => hb3.block j hj⟩, ?_⟩
      have e9 : chp v f (pre ++ [x]) = st := by rw [HST.out]; unfold stp; rw [hhb]; rfl
      rw [e9]
      exact (HX.out w3 hb3).1
    | true =>
      gi_wp2_with (refine ⟨trivial, ?_⟩; gi_at_call 46; (refine CallsIn.mono (callsIn_round (HHS.out _)) ?_); rintro e w3 ⟨rfl, hb3⟩)
      obtain ⟨mx, hmx⟩ : ∃ mx, m x = mx := ⟨_, rfl⟩
      obtain ⟨dx, hdx⟩ : ∃ dx, d x = dx := ⟨_, rfl⟩
      have HLK : Hid (∀ w', Below W2.heap.size W2 w' → (Instr.lookup 65 (.map (some b)) (sv x0 x1 x2) false).run Try.prog w' = .ok (.int .i64 mx) w') := Lib.hid (fun w' h => by
        have := (HX.out w' h).1.wk.look hx trivial
        rwa [ex, hmx] at this)
      have HVB : Hid (v x = mx + dx ∧ 0 ≤ mx ∧ mx ≤ 100000 ∧ 0 ≤ dx ∧ dx ≤ 100000) := Lib.hid ⟨by rw [HVD.out]; simp [hmx, hdx], by have := hm x hx; have := hd x hx; omega⟩
      have HFX : Hid (∀ W, Below W2.heap.size W2 W → Calls Try.prog gf (#[sv x0 x1 x2] ++ caps) W fun e W' => e = .returned (.int .i64 dx) ∧ Below W.heap.size W W') := Lib.hid (fun W h => by
        have := HFF.out x W hx (by rw [hB]; exact (HX.out W h).1.bel)
        rwa [ex, hdx] at this)
      have HB3 := Lib.hid hb3
      clear g0 g1 g2 g3 g4 gf0 q0 q1 q2 hb3 hmx hdx hm hd
      apply wpIn_region_plan [(0, true), (1, true), (2, true), (3, true), (4, true), (5, false), (6, false), (7, false)] (fun w' => Below W2.heap.size W2 w')
      case hm => kernel_rfl
      case hB => kernel_rfl
      case hnd => kernel_rfl
      case hlo => rintro ⟨a, w, h⟩; exact absurd h.1 (by simp)
      case hQ => exact fun _ _ d _ _ h => by cases d <;> exact h
      case hS => exact HB3.out.drew
      case h =>
      simp only [R.opsOf, List.filterMap_cons, List.filterMap_nil, List.getElem?_toArray, List.getElem?_cons_zero, List.getElem?_cons_succ, Option.map_some]
      refine R.wpPlan_float (.map (some b)) rfl (fun w' hS => by obtain ⟨hc9, ⟨z0, z1, z2, _, _, _, _⟩⟩ := HX.out w' hS; have hm9 := hc9.mp; have hf9 := hc9.fn; have hl9 := HLK.out w' hS; go_simp) ?_
      try go_frame
      refine R.wpPlan_float (sv x0 x1 x2) rfl (fun w' hS => by obtain ⟨hc9, ⟨z0, z1, z2, _, _, _, _⟩⟩ := HX.out w' hS; have hm9 := hc9.mp; have hf9 := hc9.fn; have hl9 := HLK.out w' hS; go_simp) ?_
      try go_frame
      refine R.wpPlan_float (.int .i64 mx) rfl (fun w' hS => by obtain ⟨hc9, ⟨z0, z1, z2, _, _, _, _⟩⟩ := HX.out w' hS; have hm9 := hc9.mp; have hf9 := hc9.fn; have hl9 := HLK.out w' hS; go_simp) ?_
      try go_frame
      refine R.wpPlan_float (.func (.func gf) #[] caps) rfl (fun w' hS => by obtain ⟨hc9, ⟨z0, z1, z2, _, _, _, _⟩⟩ := HX.out w' hS; have hm9 := hc9.mp; have hf9 := hc9.fn; have hl9 := HLK.out w' hS; go_simp) ?_
      try go_frame
      refine R.wpPlan_float (sv x0 x1 x2) rfl (fun w' hS => by obtain ⟨hc9, ⟨z0, z1, z2, _, _, _, _⟩⟩ := HX.out w' hS; have hm9 := hc9.mp; have hf9 := hc9.fn; have hl9 := HLK.out w' hS; go_simp) ?_
      try go_frame
      refine R.wpPlan_do rfl (fun K hK => ?_)
      go_simp
      refine (HFX.out _ HB3.out.drew).mono ?_
      rintro e w5 ⟨rfl, hb5⟩
      have hS5 : Below W2.heap.size W2 w5 := HB3.out.drew.trans (hb5.mono HB3.out.size)
      refine hK _ _ hS5 ?_
      clear hK K hb5
      try go_frame
      have hwr : IntKind.i64.wrap (mx + dx) = mx + dx := IntWalk.i64_in _ (by have := HVB.out; omega)
      refine R.wpPlan_do rfl (fun K hK => ?_)
      go_simp
      refine hK _ _ hS5 ?_
      clear hK K
      try go_frame
      refine R.wpPlan_do rfl (fun K hK => ?_)
      go_simp
      refine hK _ _ hS5 ?_
      clear hK K
      try go_frame
      refine R.wpPlan_nil ?_
      obtain ⟨hC5, hT5⟩ := HX.out w5 hS5
      have HS5 := Lib.hid hS5
      have HC5 := Lib.hid hC5
      have HT5 := Lib.hid hT5
      obtain ⟨ls, hls⟩ : ∃ ls, st.2 = ls := ⟨_, rfl⟩
      have hl5 := hC5.lst
      have hlf5 := hC5.lstf
      rw [hls] at hl5
      obtain ⟨z0, z1, z2, _, _, _, _⟩ := hT5
      obtain ⟨a0, a1, a2, ea, hb5⟩ := hC5.best
      obtain ⟨u0, u1, u2, u3, u4, u5, _⟩ := id hb5
      have HB5 := Lib.hid hb5
      have HLS := Lib.hid hls
      clear hS5 hC5 hwr hls ea hb5
      obtain ⟨vx, hvx⟩ : ∃ vx, mx + dx = vx := ⟨_, rfl⟩
      rw [hvx] at HVB ⊢
      clear hvx
      by_cases c1 : ls < 0
      · gi_wp2
        have hp := HC5.out.put hbB hB ex vx
        have e9 : chp v f (pre ++ [x]) = (x, vx) := by rw [HST.out]; unfold stp; rw [hhb, HLS.out, HVB.out.1]; rw [if_pos rfl, if_pos (.inl c1)]
        rw [e9]
        exact ⟨KeptC.trans ⟨HS5.out.size, fun j _ hj => HS5.out.block j hj⟩ hp.2, hp.1⟩
      · by_cases c2 : vx < ls
        · gi_wp2
          have hp := HC5.out.put hbB hB ex vx
          have e9 : chp v f (pre ++ [x]) = (x, vx) := by rw [HST.out]; unfold stp; rw [hhb, HLS.out, HVB.out.1]; rw [if_pos rfl, if_pos (.inr c2)]
          rw [e9]
          exact ⟨KeptC.trans ⟨HS5.out.size, fun j _ hj => HS5.out.block j hj⟩ hp.2, hp.1⟩
        · gi_wp2
          have e9 : chp v f (pre ++ [x]) = st := by rw [HST.out]; unfold stp; rw [hhb, HLS.out, HVB.out.1]; rw [if_pos rfl, if_neg (by omega)]
          rw [e9]
          exact ⟨⟨HS5.out.size, fun j _ hj => HS5.out.block j hj⟩, HC5.out⟩
end Go.Proofs.Ytakbijpcfnipoaa.A

set_option linter.unusedVariables false
set_option linter.unusedSimpArgs false
namespace Go.Proofs.Ytakbijpcfnipoaa.R
open Go.RowKit
section
variable {P : Program} {ops : Array Oper} {Q : Exit → Act → World → Prop} {md : Region.Mode} {S : World → Prop}
end
end Go.Proofs.Ytakbijpcfnipoaa.R
namespace Go.Proofs.Ytakbijpcfnipoaa.A
open Go.RowKit Go.Proofs.YtakbijpcfnipoaaW.PrintWords Go.Proofs.YtakbijpcfnipoaaW.PrintLast Go.Proofs.YtakbijpcfnipoaaW.PrintMore
open Go.Proofs.Ytakbijpcfnipoaa.PA Go.Proofs.Ytakbijpcfnipoaa.Lf
set_option maxHeartbeats 2000000 in
theorem zero_c (a b c : Int) (w : World) : Calls Try.prog 69 #[sv a b c] w fun e w' => e = .returned (.int .i64 0) ∧ Below w.heap.size w w' := by
  go_enter Try.func69, Try.ntmps69
  go_wp2
  go_ret
  exact ⟨rfl, (Below.refl _ w).alloc (Nat.le_refl _) _⟩
set_option maxHeartbeats 2000000 in
theorem from_c {k : Nat} (hk1 : 1 ≤ k) (hk3 : k ≤ 3) (s0 s1 s2 : Int) (C : Option Addr) (n c : Nat) (B T : Nat) {t x : List Int} (ht : Pos k t) (hx : Pos k x) (w : World) (hH : HallAt B (k : Int) s0 s1 s2 (.slice C n c) w) {t0 t1 t2 : Int} (et : pad t = sv t0 t1 t2) (hT : SpotsAt T t0 t1 t2 w) :
    Calls Try.prog 71 #[pad x, .pointer (some ⟨B, 0, none⟩), .pointer (some ⟨T, 0, none⟩)] w fun e w' => e = .returned (.int .i64 (dist t x)) ∧ Below w.heap.size w w' := by
  obtain ⟨x0, x1, x2, ex⟩ : ∃ x0 x1 x2, pad x = sv x0 x1 x2 := ⟨_, _, _, rfl⟩
  have HD := Lib.hid (fun W : World => dist_pad hk1 hk3 s0 s1 s2 C n c ht hx W)
  rw [et, ex] at HD
  rw [ex]
  obtain ⟨d, hd⟩ : ∃ d, dist t x = d := ⟨_, rfl⟩
  rw [hd] at HD ⊢
  have hb1 : Below w.heap.size w (w.alloc (Obj.cells #[Value.int IntKind.i64 x0, Value.int IntKind.i64 x1, Value.int IntKind.i64 x2] 52)) := (Below.refl _ w).alloc (Nat.le_refl _) _
  have hH1 := hH.of (hb1.block B hH.lt)
  have hT1 := hT.of (hb1.block T hT.lt)
  have hS1 := SpotsAt.new w x0 x1 x2
  obtain ⟨U, hU⟩ : ∃ U, w.heap.size = U := ⟨_, rfl⟩
  have HB1 := Lib.hid hb1
  clear ex et hd hb1 hH hT
  go_enter Try.func71, Try.ntmps71
  go_upto_region 1 with fail
  rw [hU] at hS1
  generalize (w.alloc (Obj.cells #[Value.int IntKind.i64 x0, Value.int IntKind.i64 x1, Value.int IntKind.i64 x2] 52)) = w1 at *
  obtain ⟨g0, g1, g2, g3, g4⟩ := hH1
  obtain ⟨q0, q1, q2, _, _, _, _⟩ := hT1
  obtain ⟨p0, p1, p2, _, _, _, _⟩ := hS1
  go_wp2_with (go_at_call 48; (with_reducible refine (HD.out _).mono ?_); rintro e w3 ⟨rfl, hb3⟩)
  go_ret
  exact ⟨rfl, HB1.out.trans (hb3.mono HB1.out.size)⟩
def mpK : Kd Nat := Kd.scalar (fun b : Nat => Value.map (some b)) (fun _ => rfl)
end Go.Proofs.Ytakbijpcfnipoaa.A

set_option linter.unusedVariables false
set_option linter.unusedSimpArgs false
namespace Go.Proofs.Ytakbijpcfnipoaa.A
open Go.Proofs.Ytakbijpcfnipoaa.Lf
def hdD (l : List (List Int)) (x : List Int) : Int := match l with
  | [] => 0
  | t :: _ => dist t x
def bkF (k : Nat) : (List Int → Int) → List Int → List (List Int)
  | _, [] => []
  | w, f :: c => (chp (fun x => nxt k w f x + hdD (bkF k (nxt k w f) c) x) f (allF k 0)).1 :: bkF k (nxt k w f) c
theorem bkF_len (k : Nat) : ∀ (c : List Int) (w : List Int → Int), (bkF k w c).length = c.length
  | [], _ => rfl
  | f :: c, w => by show (bkF k (nxt k w f) c).length + 1 = c.length + 1; rw [bkF_len k c]
theorem pos_rep {k : Nat} {f : Int} (h0 : 0 ≤ f) (h1 : f ≤ 30) : Pos k (List.replicate k f) :=
  ⟨by simp, by rw [show Srt (List.replicate k f) = (List.replicate k f).Pairwise (· ≤ ·) from rfl, List.pairwise_replicate]; exact .inr (Int.le_refl _), fun x hx => by rw [List.eq_of_mem_replicate hx]; exact ⟨h0, h1⟩⟩
theorem chp_all {k : Nat} (hk1 : 1 ≤ k) (v : List Int → Int) {f : Int} (h0 : 0 ≤ f) (h1 : f ≤ 30) (hv : ∀ s, Pos k s → 0 ≤ v s) :
    Pos k (chp v f (allF k 0)).1 ∧ f ∈ (chp v f (allF k 0)).1 ∧ ∀ X, Pos k X → f ∈ X → v (chp v f (allF k 0)).1 ≤ v X := by
  rcases chp_spec v f (allF k 0).reverse (allF k 0) (by simp) (fun s hs => hv s (allF_pos.1 hs)) with ⟨_, h2⟩ | ⟨s, hs, e, hc, hle⟩
  · have hm := h2 _ (allF_pos.2 (pos_rep (k := k) h0 h1))
    rw [List.contains_eq_mem, decide_eq_false_iff_not, List.mem_replicate] at hm
    exact absurd ⟨by omega, rfl⟩ hm
  · rw [e]
    refine ⟨allF_pos.1 hs, by simpa using hc, fun X hX hf => hle X (allF_pos.2 hX) (by simpa using hf)⟩
theorem hdD_nonneg (l : List (List Int)) (x : List Int) : 0 ≤ hdD l x := by
  unfold hdD; split
  · exact Int.le_refl _
  · exact dist_nonneg _ _
theorem bkF_back {k : Nat} (hk1 : 1 ≤ k) : ∀ (c : List Int) (w : List Int → Int), Fls c → Lip k w → (∀ s, Pos k s → 0 ≤ w s) → Back k w c (bkF k w c)
  | [], w, _, _, _ => trivial
  | f :: c, w, hc, hw, h0 => by
    obtain ⟨f0, f1⟩ := hc f List.mem_cons_self
    have hl := nxt_lip hk1 hw f0 f1
    have hn : ∀ s, Pos k s → 0 ≤ nxt k w f s := fun s hs => Int.le_trans (h0 s hs) (nxt_ge hk1 hw f0 f1 hs)
    have ih := bkF_back hk1 c (nxt k w f) (fun g hg => hc g (List.mem_cons_of_mem _ hg)) hl hn
    obtain ⟨a1, a2, a3⟩ := chp_all hk1 (fun x => nxt k w f x + hdD (bkF k (nxt k w f) c) x) f0 f1 (fun s hs => by have := hn s hs; have := hdD_nonneg (bkF k (nxt k w f) c) s; omega)
    show Back k w (f :: c) ((chp (fun x => nxt k w f x + hdD (bkF k (nxt k w f) c) x) f (allF k 0)).1 :: bkF k (nxt k w f) c)
    refine ⟨a1, a2, ih, ?_⟩
    cases hb : bkF k (nxt k w f) c with
    | nil =>
      rw [hb] at a3
      intro X hX hf
      have := a3 X hX hf
      simpa [hdD, hb] using this
    | cons t l =>
      rw [hb] at a3
      intro X hX hf
      have := a3 X hX hf
      simpa [hdD, hb] using this
theorem works_bd {k : Nat} (hk1 : 1 ≤ k) {s : List Int} (hs : Pos k s) (hk3 : k ≤ 3) : ∀ (c : List Int) (w : List Int → Int) (M : Int), Fls c → Lip k w → (∀ x, Pos k x → 0 ≤ w x ∧ w x ≤ M) → ∀ x, Pos k x → 0 ≤ works k w c x ∧ works k w c x ≤ M + 90 * c.length
  | [], w, M, _, _, h, x, hx => by have := h x hx; simp [works]; omega
  | f :: c, w, M, hc, hw, h, x, hx => by
    obtain ⟨f0, f1⟩ := hc f List.mem_cons_self
    have hl := nxt_lip hk1 hw f0 f1
    have hn : ∀ s, Pos k s → 0 ≤ nxt k w f s ∧ nxt k w f s ≤ M + 90 := fun s hs => by
      obtain ⟨X, hX, _, e⟩ := nxt_is hk1 hw f0 f1 hs
      have h1 := h X hX
      have h2 := dist_bd hk3 hX hs
      omega
    have := works_bd hk1 hs hk3 c (nxt k w f) (M + 90) (fun g hg => hc g (List.mem_cons_of_mem _ hg)) hl hn x hx
    show 0 ≤ works k (nxt k w f) c x ∧ works k (nxt k w f) c x ≤ M + 90 * ((c.length + 1 : Nat) : Int)
    omega
end Go.Proofs.Ytakbijpcfnipoaa.A

set_option linter.unusedVariables false
set_option linter.unusedSimpArgs false
namespace Go.Proofs.Ytakbijpcfnipoaa.R
open Go.RowKit
inductive PT where
  | nil
  | fl (i : Nat) (p : PT)
  | go (i : Nat) (p : PT)
  | two (i j : Nat) (p q : PT)
def PT.len : PT → Nat
  | .nil => 0
  | .fl _ p => p.len + 1
  | .go _ p => p.len + 1
  | .two _ _ p _ => p.len + 1
section
variable {P : Program} {ops : Array Oper} {Q : Exit → Act → World → Prop} {md : Region.Mode} {S : World → Prop}
def wpOne (P : Program) (ops : Array Oper) (Q : Exit → Act → World → Prop) (o : Oper) (K : Act → World → Prop) (a : Act) (w : World) : Prop :=
  if Region.wanted o (yielded ops a.tmps) then o.wp P a w K Q ∨ (o.asks P a w ∧ LetsOut Q) else K (a.put o.dst undef) w
theorem wpOp_one {i : Nat} {o : Oper} {K : Act → World → Prop} {a : Act} {w : World} (h0 : ops[i]? = some o) (h : wpOne P ops Q o K a w) : wpOp P ops Q i K a w := by
  unfold wpOp
  simp only [h0]
  exact h
theorem wpOne_step {o : Oper} {K0 : Act → World → Prop} {a : Act} {w : World} (h : ∀ K : Act → World → Prop, (∀ a' w', K0 a' w' → K a' w') → if Region.wanted o (yielded ops a.tmps) then o.wp P a w K Q else K (a.put o.dst undef) w) : wpOne P ops Q o K0 a w := by
  have := h K0 (fun _ _ h => h)
  unfold wpOne
  split
  · rename_i hw; rw [if_pos hw] at this; exact .inl this
  · rename_i hw; rw [if_neg hw] at this; exact this
end
end Go.Proofs.Ytakbijpcfnipoaa.R

set_option linter.unusedVariables false
set_option linter.unusedSimpArgs false
namespace Go.Proofs.Ytakbijpcfnipoaa.R
open Go.RowKit
section
variable {P : Program} {ops : Array Oper} {Q : Exit → Act → World → Prop} {md : Region.Mode} {S : World → Prop}
def Clo (md : Region.Mode) (ops : Array Oper) (l : Array Bool) : Prop := ∀ x, l.getD x false = true → ∀ o, ops[x]? = some o → ∀ e ∈ o.after, Region.binds md e = true → l.getD e.on false = true
theorem clo_set {l : Array Bool} {x : Nat} (h : Clo md ops l) (hx : x ∈ Region.ready md ops l) : Clo md ops (l.setIfInBounds x true) := by
  intro y hy o ho e he hb
  by_cases hyx : x = y
  · subst hyx
    obtain ⟨_, o', ho', hall⟩ := mem_ready.1 hx
    obtain rfl : o = o' := Option.some.inj (ho.symm.trans ho')
    exact getD_set_true (hall e he hb)
  · rw [getD_set_ne false hyx] at hy
    exact getD_set_true (h y hy o ho e he hb)
def reachC (md : Region.Mode) (ops : Array Oper) : Nat → Nat → Nat → Bool
  | 0, _, _ => false
  | n + 1, m, i => Region.waitsFor md ops m i || (List.range ops.size).any fun x => Region.waitsFor md ops m x && reachC md ops n x i
theorem reach_spec {l : Array Bool} (hc : Clo md ops l) (i : Nat) : ∀ (n m : Nat), reachC md ops n m i = true → (∀ o, ops[m]? = some o → ∀ e ∈ o.after, Region.binds md e = true → l.getD e.on false = true) → l.getD i false = true
  | 0, _, h, _ => by simp [reachC] at h
  | n + 1, m, h, hm => by
    simp only [reachC, Bool.or_eq_true, List.any_eq_true, Bool.and_eq_true] at h
    rcases h with h | ⟨x, _, h1, h2⟩
    · obtain ⟨o, ho, e, he, hb, hon⟩ := Region.waitsFor_spec h
      rw [← hon]; exact hm o ho e he hb
    · obtain ⟨o, ho, e, he, hb, hon⟩ := Region.waitsFor_spec h1
      have hx := hm o ho e he hb
      rw [hon] at hx
      exact reach_spec hc i n x h2 (fun o' ho' e' he' hb' => hc x hx o' ho' e' he' hb')
def tree2C (md : Region.Mode) (ops : Array Oper) (m : Nat) : PT → Array Bool → Bool
  | .nil, listed => (Region.ready md ops listed).isEmpty
  | .fl i p, listed => decide (i < ops.size) && decide (i ≠ m) && !listed.getD m false && (decide (ops.size ≤ m) || reachC md ops ops.size m i) && (Region.ready md ops listed).contains i && Region.free md ops listed i && tree2C md ops m p (listed.setIfInBounds i true)
  | .go i p, listed => decide (i < ops.size) && decide (Region.ready md ops listed = [i]) && tree2C md ops m p (listed.setIfInBounds i true)
  | .two i j p q, listed => decide (i < ops.size) && decide (j < ops.size) && decide (Region.ready md ops listed = [i, j]) && decide (p.len = q.len) && tree2C md ops m p (listed.setIfInBounds i true) && tree2C md ops m q (listed.setIfInBounds j true)
def tree2B (ops : Array Oper) (m : Nat) (p : PT) : Bool := Region.noSelect ops && decide (p.len = ops.size) && tree2C .any ops m p (Array.replicate ops.size false)
def wpTree2 (P : Program) (ops : Array Oper) (Q : Exit → Act → World → Prop) (S : World → Prop) (m : Nat) : PT → Bool → Act → World → Prop
  | .nil, _, a, w => Q .normal a w
  | .fl i p, s, a, w => ∀ o, ops[i]? = some o → ∃ v, YieldsS P ops S o v a ∧ wpTree2 P ops Q S m p s (a.put o.dst v) w
  | .go i p, s, a, w => ∀ o, ops[i]? = some o → wpOne P ops Q o (fun a' w' => ((s && i != m) = true → S w') ∧ wpTree2 P ops Q S m p (s && i != m) a' w') a w
  | .two i j p q, s, a, w => (∀ o, ops[i]? = some o → wpOne P ops Q o (fun a' w' => ((s && i != m) = true → S w') ∧ wpTree2 P ops Q S m p (s && i != m) a' w') a w) ∧
      (∀ o, ops[j]? = some o → wpOne P ops Q o (fun a' w' => ((s && j != m) = true → S w') ∧ wpTree2 P ops Q S m q (s && j != m) a' w') a w)
theorem flag_set {l : Array Bool} {s : Bool} {i m : Nat} (hi : i < l.size) (hs : s = false → l.getD m false = true) : (s && i != m) = false → (l.setIfInBounds i true).getD m false = true := by
  intro h
  by_cases hm : i = m
  · subst hm; simp [hi]
  · have : s = false := by simpa [hm] using h
    exact getD_set_true (hs this)
theorem wpAnyT_tree2 (m : Nat) (hsel : Region.noSelect ops = true) (hQ : ∀ c a (d : Option Tmp) v w, Q (.panic c) (a.put d v) w → Q (.panic c) a w) : ∀ (p : PT) (s : Bool) (listed : Array Bool) (a : Act) (w : World),
    tree2C md ops m p listed = true → listed.size = ops.size → Clo md ops listed → (s = false → listed.getD m false = true) → (listed.getD m false = false → S w) → wpTree2 P ops Q S m p s a w → wpAnyT P md ops Q (fun l w => l.getD m false = false → S w) p.len listed a w
  | .nil, s, listed, a, w, hB, _, _, _, _, h => ⟨by simpa [tree2C] using hB, h⟩
  | .fl i p, s, listed, a, w, hB, hsz, hcl, hs, hS, h => by
    simp only [tree2C, Bool.and_eq_true, decide_eq_true_eq, Bool.not_eq_true', Bool.or_eq_true] at hB
    obtain ⟨⟨⟨⟨⟨⟨hc, him⟩, hml⟩, hre⟩, hr⟩, hf⟩, hB'⟩ := hB
    have h0 : ops[i]? = some ops[i] := Array.getElem?_eq_getElem hc
    obtain ⟨v, hy, h⟩ := h _ h0
    have hri : i ∈ Region.ready md ops listed := by simpa using hr
    refine wpAnyT_first (P := P) (S := S) (T := fun l w => l.getD m false = false → S w) (J := fun l => Clo md ops l ∧ l.getD m false = false) h0 (Region.noSelect_spec hsel) (fun c a w => hQ c a _ v w) (fun l w => by rw [getD_set_ne false him]) (fun l w hJ hT => hT hJ.2) ?_ p.len listed a w (Region.free_spec h0 hf) hri hy hS ⟨hcl, hml⟩
      (wpAnyT_tree2 m hsel hQ p s _ _ w hB' (by simp [hsz]) (clo_set hcl hri) (fun h => getD_set_true (hs h)) (fun _ => hS hml) h)
    intro l j hJ hr1 hr2 hj
    refine ⟨clo_set hJ.1 hr2, ?_⟩
    have hjm : j ≠ m := by
      intro e
      subst e
      obtain ⟨_, o, ho, hall⟩ := mem_ready.1 hr2
      rcases hre with hre | hre
      · have := (Array.getElem?_eq_some_iff.1 ho).1; omega
      · have h9 := reach_spec hJ.1 i _ _ hre (fun o' ho' e' he' hb' => by
          obtain rfl : o' = o := Option.some.inj (ho'.symm.trans ho)
          exact hall e' he' hb')
        rw [getD_both (mem_ready.1 hr1).1] at h9
        cases h9
    rw [getD_set_ne false hjm]
    exact hJ.2
  | .go i p, s, listed, a, w, hB, hsz, hcl, hs, hS, h => by
    simp only [tree2C, Bool.and_eq_true, decide_eq_true_eq] at hB
    obtain ⟨⟨hc, hr⟩, hB'⟩ := hB
    have h0 : ops[i]? = some ops[i] := Array.getElem?_eq_getElem hc
    have hri : i ∈ Region.ready md ops listed := by rw [hr]; simp
    have hfl := flag_set (m := m) (s := s) (l := listed) (i := i) (by omega) hs
    refine ⟨fun h1 => (by rw [hr] at h1; cases h1), fun j hj => ?_⟩
    rw [hr] at hj
    have hji : j = i := by simpa using hj
    subst hji
    refine wpOp_mono (fun a' w' ⟨h1, h2⟩ => ?_) (wpOp_one h0 (h _ h0))
    have hT : (listed.setIfInBounds j true).getD m false = false → S w' := fun h3 => h1 (by
      cases e : (s && j != m) with
      | true => rfl
      | false => rw [hfl e] at h3; cases h3)
    exact ⟨hT, wpAnyT_tree2 m hsel hQ p _ _ a' w' hB' (by simp [hsz]) (clo_set hcl hri) hfl hT h2⟩
  | .two i j p q, s, listed, a, w, hB, hsz, hcl, hs, hS, h => by
    simp only [tree2C, Bool.and_eq_true, decide_eq_true_eq] at hB
    obtain ⟨⟨⟨⟨⟨hci, hcj⟩, hr⟩, hl⟩, hp⟩, hq⟩ := hB
    have hi : ops[i]? = some ops[i] := Array.getElem?_eq_getElem hci
    have hj : ops[j]? = some ops[j] := Array.getElem?_eq_getElem hcj
    refine ⟨fun h1 => (by rw [hr] at h1; cases h1), fun x hx => ?_⟩
    have hxr := hx
    rw [hr] at hx
    have go : ∀ (x : Nat) (r : PT), (∀ (s : Bool) (listed : Array Bool) (a : Act) (w : World), tree2C md ops m r listed = true → listed.size = ops.size → Clo md ops listed → (s = false → listed.getD m false = true) → (listed.getD m false = false → S w) → wpTree2 P ops Q S m r s a w → wpAnyT P md ops Q (fun l w => l.getD m false = false → S w) r.len listed a w) → x < ops.size → x ∈ Region.ready md ops listed → tree2C md ops m r (listed.setIfInBounds x true) = true → ∀ a' w', (((s && x != m) = true → S w') ∧ wpTree2 P ops Q S m r (s && x != m) a' w') →
        ((listed.setIfInBounds x true).getD m false = false → S w') ∧ wpAnyT P md ops Q (fun l w => l.getD m false = false → S w) r.len (listed.setIfInBounds x true) a' w' := by
      intro x r hrec hxs hxr hr a' w' ⟨h1, h2⟩
      have hfl := flag_set (m := m) (s := s) (l := listed) (i := x) (by omega) hs
      have hT : (listed.setIfInBounds x true).getD m false = false → S w' := fun h3 => h1 (by
        cases e : (s && x != m) with
        | true => rfl
        | false => rw [hfl e] at h3; cases h3)
      exact ⟨hT, hrec _ _ a' w' hr (by simp [hsz]) (clo_set hcl hxr) hfl hT h2⟩
    rcases List.mem_cons.1 hx with rfl | hx
    · exact wpOp_mono (go _ p (wpAnyT_tree2 m hsel hQ p) hci hxr hp) (wpOp_one hi (h.1 _ hi))
    · obtain rfl := List.mem_singleton.1 hx
      refine wpOp_mono (fun a' w' hh => ?_) (wpOp_one hj (h.2 _ hj))
      have := go _ q (wpAnyT_tree2 m hsel hQ q) hcj hxr hq a' w' hh
      rw [hl]
      exact this
theorem wp_region_tree2 {id : Nat} {a : Act} {w : World} (m : Nat) (p : PT) (S : World → Prop) (hm : P.follows .mixedOrders = true) (hB : tree2B ops m p = true) (hQ : ∀ c a (d : Option Tmp) v w, Q (.panic c) (a.put d v) w → Q (.panic c) a w) (hS : S w.drew)
    (h : wpTree2 P ops Q S m p true a w.drew) : (Code.region id ops true).wp P Q a w := by
  simp only [tree2B, Bool.and_eq_true, decide_eq_true_eq] at hB
  obtain ⟨⟨hsel, hlen⟩, hpl⟩ := hB
  refine wp_region_any hm (wpAny_of_T (T := fun l w => l.getD m false = false → S w) _ _ _ _ ?_)
  rw [← hlen]
  refine wpAnyT_tree2 m hsel hQ p true _ a _ (by rw [hlen]; exact hpl) (by simp [hlen]) ?_ (fun h => by cases h) (fun _ => hS) h
  intro x hx
  simp [Array.getD] at hx
theorem wpTree2_nil {m : Nat} {s : Bool} {a : Act} {w : World} (h : Q .normal a w) : wpTree2 P ops Q S m .nil s a w := h
theorem wpTree2_fl {m i : Nat} {s : Bool} {o : Oper} {p : PT} {a : Act} {w : World} (v : Value) (h0 : ops[i]? = some o) (hg : o.guard = none) (hv : ∀ w', S w' → (execOp a.eval o).run P w' = .ok (.value v) w') (h : wpTree2 P ops Q S m p s (a.put o.dst v) w) :
    wpTree2 P ops Q S m (.fl i p) s a w := fun o' ho' => by
  rw [h0] at ho'
  obtain rfl := Option.some.inj ho'
  exact ⟨v, fun w' hS => .inl ⟨by simp [Region.wanted, hg], .inl (hv w' hS)⟩, h⟩
theorem wpTree2_go {m i : Nat} {s : Bool} {o : Oper} {p : PT} {a : Act} {w : World} (h0 : ops[i]? = some o) (hg : o.guard = none) (s' : Bool) (hs : (s && i != m) = s')
    (h : ∀ K : Act → World → Prop, (∀ a' w', (s' = true → S w') → wpTree2 P ops Q S m p s' a' w' → K a' w') → o.wp P a w K Q) : wpTree2 P ops Q S m (.go i p) s a w := fun o' ho' => by
  rw [h0] at ho'
  obtain rfl := Option.some.inj ho'
  rw [hs]
  exact wpOne_step (fun K hK => by rw [if_pos (by simp [Region.wanted, hg])]; exact h K (fun a' w' h1 h2 => hK a' w' ⟨h1, h2⟩))
theorem wpTree2_step {m i : Nat} {s : Bool} {o : Oper} {p : PT} {a : Act} {w : World} (h0 : ops[i]? = some o) (s' : Bool) (hs : (s && i != m) = s')
    (h : ∀ K : Act → World → Prop, (∀ a' w', (s' = true → S w') → wpTree2 P ops Q S m p s' a' w' → K a' w') → if Region.wanted o (yielded ops a.tmps) then o.wp P a w K Q else K (a.put o.dst undef) w) : wpTree2 P ops Q S m (.go i p) s a w := fun o' ho' => by
  rw [h0] at ho'
  obtain rfl := Option.some.inj ho'
  rw [hs]
  exact wpOne_step (fun K hK => h K (fun a' w' h1 h2 => hK a' w' ⟨h1, h2⟩))
theorem wpTree2_two {m i j : Nat} {s : Bool} {p q : PT} {a : Act} {w : World} (h1 : wpTree2 P ops Q S m (.go i p) s a w) (h2 : wpTree2 P ops Q S m (.go j q) s a w) : wpTree2 P ops Q S m (.two i j p q) s a w := ⟨h1, h2⟩
end
end Go.Proofs.Ytakbijpcfnipoaa.R
