/- What the statements of this seat lean on: the functions that they reach, walked. -/
import Derived.Shelf.Sort.Plain
import Derived.Ground.NamesProg
import Derived.Test.YtakbijpcfnipoaaZm2
set_option linter.unusedSimpArgs false
set_option linter.unusedVariables false

set_option linter.unusedVariables false
set_option linter.unusedSimpArgs false
namespace Go.Proofs.Ytakbijpcfnipoaa.A
open Go.RowKit Go.Proofs.YtakbijpcfnipoaaW.PrintWords Go.Proofs.YtakbijpcfnipoaaW.PrintLast Go.Proofs.YtakbijpcfnipoaaW.PrintMore
open Go.Proofs.Ytakbijpcfnipoaa.PA Go.Proofs.Ytakbijpcfnipoaa.Lf
def callB (c : List Int) : Bool := decide (c.length ≤ 40) && !c.any (outB 0 30)
def hallB (s c : List Int) : Bool := posB s && callB c
set_option maxHeartbeats 8000000 in
set_option maxRecDepth 100000 in
theorem hall_c (A : Option Addr) (ca : Nat) (s : List Int) (C : Option Addr) (cc : Nat) (c : List Int) (w : World) (hr : Kd.C (Kd.int .i64) w A s.length s) (hc : Kd.C (Kd.int .i64) w C c.length c) :
    Calls Try.prog 44 #[.slice A s.length ca, .slice C c.length cc] w fun e w' => e = .returned (.tuple #[if hallB s c then hv s.length (s.getD 0 0) (s.getD 1 0) (s.getD 2 0) (.slice C c.length cc) else hv 0 0 0 0 (.slice none 0 0), .bool (hallB s c)]) ∧ Below w.heap.size w w' := by
  obtain ⟨n, hn⟩ : ∃ n, s.length = n := ⟨_, rfl⟩
  obtain ⟨m, hm⟩ : ∃ m, c.length = m := ⟨_, rfl⟩
  obtain ⟨x0, h0⟩ : ∃ x, s.getD 0 0 = x := ⟨_, rfl⟩
  obtain ⟨x1, h1⟩ : ∃ x, s.getD 1 0 = x := ⟨_, rfl⟩
  obtain ⟨x2, h2⟩ : ∃ x, s.getD 2 0 = x := ⟨_, rfl⟩
  obtain ⟨B, hB⟩ : ∃ B, w.heap.size = B := ⟨_, rfl⟩
  have HS : Hid (∀ W, Below w.heap.size w W → Calls Try.prog 45 #[.slice A n ca] W fun e w' => e = .returned (.tuple #[if posB s then sv x0 x1 x2 else sv 0 0 0, .bool (posB s)]) ∧ Below W.heap.size W w') := Lib.hid (fun W hW => by
    have := spots_c A ca s W (Kd.C_below hr hW)
    rw [hn] at this
    rw [← h0, ← h1, ← h2]
    exact this)
  have HC : Hid (∀ W, Below w.heap.size w W → Calls Try.prog 64 #[.slice C m cc, .func (.func 65) #[] #[]] W fun e w' => e = .returned (.bool (c.any (outB 0 30))) ∧ Below W.heap.size W w') := Lib.hid (fun W hW => by
    have := hasInt_c 65 #[] (outB 0 30) C cc c W enters65 (out65 W) (Kd.C_below hc hW)
    rwa [hm] at this)
  unfold hallB callB
  rw [hn, hm, h0, h1, h2]
  clear hr hc h0 h1 h2 hn
  obtain ⟨b1, e1⟩ : ∃ b, posB s = b := ⟨_, rfl⟩
  obtain ⟨b3, e3⟩ : ∃ b, c.any (outB 0 30) = b := ⟨_, rfl⟩
  rw [e1] at HS ⊢
  rw [e3] at HC ⊢
  clear e1 e3 hm
  cases b1
  · go_enter Try.func44, Try.ntmps44
    go_upto_region 1 with fail
    have hB1 : Below w.heap.size w (w.alloc (Obj.cells #[Value.int IntKind.i64 0, Value.int IntKind.i64 0, Value.int IntKind.i64 0, Value.int IntKind.i64 0, Value.slice none 0 0] 54)) := below_new _ _ (Below.refl _ _) _
    have hz1 : (w.alloc (Obj.cells #[Value.int IntKind.i64 0, Value.int IntKind.i64 0, Value.int IntKind.i64 0, Value.int IntKind.i64 0, Value.slice none 0 0] 54)).heap.size = B + 1 := by simp [hB]
    have cr0 : (w.alloc (Obj.cells #[Value.int IntKind.i64 0, Value.int IntKind.i64 0, Value.int IntKind.i64 0, Value.int IntKind.i64 0, Value.slice none 0 0] 54)).cell? ⟨B, 0, none⟩ = some (.int .i64 0) := by rw [← hB]; simp [go_sem]
    have fr0 : (w.alloc (Obj.cells #[Value.int IntKind.i64 0, Value.int IntKind.i64 0, Value.int IntKind.i64 0, Value.int IntKind.i64 0, Value.slice none 0 0] 54)).frozen? ⟨B, 0, none⟩ = false := by rw [← hB]; simp [go_sem]
    have cr1 : (w.alloc (Obj.cells #[Value.int IntKind.i64 0, Value.int IntKind.i64 0, Value.int IntKind.i64 0, Value.int IntKind.i64 0, Value.slice none 0 0] 54)).cell? ⟨B, 1, none⟩ = some (.int .i64 0) := by rw [← hB]; simp [go_sem]
    have fr1 : (w.alloc (Obj.cells #[Value.int IntKind.i64 0, Value.int IntKind.i64 0, Value.int IntKind.i64 0, Value.int IntKind.i64 0, Value.slice none 0 0] 54)).frozen? ⟨B, 1, none⟩ = false := by rw [← hB]; simp [go_sem]
    have cr2 : (w.alloc (Obj.cells #[Value.int IntKind.i64 0, Value.int IntKind.i64 0, Value.int IntKind.i64 0, Value.int IntKind.i64 0, Value.slice none 0 0] 54)).cell? ⟨B, 2, none⟩ = some (.int .i64 0) := by rw [← hB]; simp [go_sem]
    have fr2 : (w.alloc (Obj.cells #[Value.int IntKind.i64 0, Value.int IntKind.i64 0, Value.int IntKind.i64 0, Value.int IntKind.i64 0, Value.slice none 0 0] 54)).frozen? ⟨B, 2, none⟩ = false := by rw [← hB]; simp [go_sem]
    have cr3 : (w.alloc (Obj.cells #[Value.int IntKind.i64 0, Value.int IntKind.i64 0, Value.int IntKind.i64 0, Value.int IntKind.i64 0, Value.slice none 0 0] 54)).cell? ⟨B, 3, none⟩ = some (.int .i64 0) := by rw [← hB]; simp [go_sem]
    have fr3 : (w.alloc (Obj.cells #[Value.int IntKind.i64 0, Value.int IntKind.i64 0, Value.int IntKind.i64 0, Value.int IntKind.i64 0, Value.slice none 0 0] 54)).frozen? ⟨B, 3, none⟩ = false := by rw [← hB]; simp [go_sem]
    have cr4 : (w.alloc (Obj.cells #[Value.int IntKind.i64 0, Value.int IntKind.i64 0, Value.int IntKind.i64 0, Value.int IntKind.i64 0, Value.slice none 0 0] 54)).cell? ⟨B, 4, none⟩ = some (.slice none 0 0) := by rw [← hB]; simp [go_sem]
    have fr4 : (w.alloc (Obj.cells #[Value.int IntKind.i64 0, Value.int IntKind.i64 0, Value.int IntKind.i64 0, Value.int IntKind.i64 0, Value.slice none 0 0] 54)).frozen? ⟨B, 4, none⟩ = false := by rw [← hB]; simp [go_sem]
    generalize (w.alloc (Obj.cells #[Value.int IntKind.i64 0, Value.int IntKind.i64 0, Value.int IntKind.i64 0, Value.int IntKind.i64 0, Value.slice none 0 0] 54)) = W1 at *
    go_upto_region 2 with (go_at_call 45; (with_reducible refine (HS.out _ hB1).mono ?_); rintro e w2 ⟨rfl, hb⟩)
    have hW2 : ∀ o, Below W1.heap.size W1 (w2.alloc o) := fun o => hb.alloc hb.size o
    have hz2 : w2.heap.size ≥ B + 1 := by have := hb.size; omega
    have hB2 : Below W1.heap.size W1 (w2.alloc (Obj.cells #[Value.int IntKind.i64 0, Value.int IntKind.i64 0, Value.int IntKind.i64 0] 52)) := hW2 _
    replace cr0 := (hB2.cell (p := ⟨B, 0, none⟩) (by show B < _; omega)).trans cr0
    replace fr0 := (World.frozen?_of_block (a := ⟨B, 0, none⟩) (hB2.block B (by omega))).trans fr0
    replace cr1 := (hB2.cell (p := ⟨B, 1, none⟩) (by show B < _; omega)).trans cr1
    replace fr1 := (World.frozen?_of_block (a := ⟨B, 1, none⟩) (hB2.block B (by omega))).trans fr1
    replace cr2 := (hB2.cell (p := ⟨B, 2, none⟩) (by show B < _; omega)).trans cr2
    replace fr2 := (World.frozen?_of_block (a := ⟨B, 2, none⟩) (hB2.block B (by omega))).trans fr2
    replace cr3 := (hB2.cell (p := ⟨B, 3, none⟩) (by show B < _; omega)).trans cr3
    replace fr3 := (World.frozen?_of_block (a := ⟨B, 3, none⟩) (hB2.block B (by omega))).trans fr3
    replace cr4 := (hB2.cell (p := ⟨B, 4, none⟩) (by show B < _; omega)).trans cr4
    replace fr4 := (World.frozen?_of_block (a := ⟨B, 4, none⟩) (hB2.block B (by omega))).trans fr4
    have cs : ((w2.alloc (Obj.cells #[Value.int IntKind.i64 0, Value.int IntKind.i64 0, Value.int IntKind.i64 0] 52)).cell? ⟨w2.heap.size, 0, none⟩ = some (.int .i64 0) ∧ (w2.alloc (Obj.cells #[Value.int IntKind.i64 0, Value.int IntKind.i64 0, Value.int IntKind.i64 0] 52)).cell? ⟨w2.heap.size, 1, none⟩ = some (.int .i64 0)) ∧ (w2.alloc (Obj.cells #[Value.int IntKind.i64 0, Value.int IntKind.i64 0, Value.int IntKind.i64 0] 52)).cell? ⟨w2.heap.size, 2, none⟩ = some (.int .i64 0) := by refine ⟨⟨?_, ?_⟩, ?_⟩ <;> simp [go_sem]
    obtain ⟨⟨cs0, cs1⟩, cs2⟩ := cs
    obtain ⟨B2, hB2e⟩ : ∃ B2, w2.heap.size = B2 := ⟨_, rfl⟩
    rw [hB2e] at cs0 cs1 cs2 hz2 ⊢
    generalize (w2.alloc (Obj.cells #[Value.int IntKind.i64 0, Value.int IntKind.i64 0, Value.int IntKind.i64 0] 52)) = W3 at *
    have hne : B2 ≠ B := by omega
    have HB3 := Lib.hid (hB1.trans (hB2.mono hB1.size))
    have HBB := Lib.hid hB
    clear hW2 hb hB1 hB2 hB hz1 hB2e
    go_wp2_with fail
    all_goals (refine bodyPost_ret (v := .tuple #[hv 0 0 0 0 (.slice none 0 0), .bool false]) (by simp [results, Try.results44, go_sem, cr0, cr1, cr2, cr3, cr4]) rfl ⟨by first | rfl | simp [*], ?_⟩; (repeat (refine Below.setCell ?_ (by show w.heap.size ≤ _; rw [HBB.out]; exact Nat.le_refl _) _)); exact HB3.out)
  · by_cases h40 : m ≤ 40
    · have h41 : ¬ ((m : Int) > 40) := by omega
      have h42 := decide_eq_true h40
      cases b3
      · go_enter Try.func44, Try.ntmps44
        go_upto_region 1 with fail
        have hB1 : Below w.heap.size w (w.alloc (Obj.cells #[Value.int IntKind.i64 0, Value.int IntKind.i64 0, Value.int IntKind.i64 0, Value.int IntKind.i64 0, Value.slice none 0 0] 54)) := below_new _ _ (Below.refl _ _) _
        have hz1 : (w.alloc (Obj.cells #[Value.int IntKind.i64 0, Value.int IntKind.i64 0, Value.int IntKind.i64 0, Value.int IntKind.i64 0, Value.slice none 0 0] 54)).heap.size = B + 1 := by simp [hB]
        have cr0 : (w.alloc (Obj.cells #[Value.int IntKind.i64 0, Value.int IntKind.i64 0, Value.int IntKind.i64 0, Value.int IntKind.i64 0, Value.slice none 0 0] 54)).cell? ⟨B, 0, none⟩ = some (.int .i64 0) := by rw [← hB]; simp [go_sem]
        have fr0 : (w.alloc (Obj.cells #[Value.int IntKind.i64 0, Value.int IntKind.i64 0, Value.int IntKind.i64 0, Value.int IntKind.i64 0, Value.slice none 0 0] 54)).frozen? ⟨B, 0, none⟩ = false := by rw [← hB]; simp [go_sem]
        have cr1 : (w.alloc (Obj.cells #[Value.int IntKind.i64 0, Value.int IntKind.i64 0, Value.int IntKind.i64 0, Value.int IntKind.i64 0, Value.slice none 0 0] 54)).cell? ⟨B, 1, none⟩ = some (.int .i64 0) := by rw [← hB]; simp [go_sem]
        have fr1 : (w.alloc (Obj.cells #[Value.int IntKind.i64 0, Value.int IntKind.i64 0, Value.int IntKind.i64 0, Value.int IntKind.i64 0, Value.slice none 0 0] 54)).frozen? ⟨B, 1, none⟩ = false := by rw [← hB]; simp [go_sem]
        have cr2 : (w.alloc (Obj.cells #[Value.int IntKind.i64 0, Value.int IntKind.i64 0, Value.int IntKind.i64 0, Value.int IntKind.i64 0, Value.slice none 0 0] 54)).cell? ⟨B, 2, none⟩ = some (.int .i64 0) := by rw [← hB]; simp [go_sem]
        have fr2 : (w.alloc (Obj.cells #[Value.int IntKind.i64 0, Value.int IntKind.i64 0, Value.int IntKind.i64 0, Value.int IntKind.i64 0, Value.slice none 0 0] 54)).frozen? ⟨B, 2, none⟩ = false := by rw [← hB]; simp [go_sem]
        have cr3 : (w.alloc (Obj.cells #[Value.int IntKind.i64 0, Value.int IntKind.i64 0, Value.int IntKind.i64 0, Value.int IntKind.i64 0, Value.slice none 0 0] 54)).cell? ⟨B, 3, none⟩ = some (.int .i64 0) := by rw [← hB]; simp [go_sem]
        have fr3 : (w.alloc (Obj.cells #[Value.int IntKind.i64 0, Value.int IntKind.i64 0, Value.int IntKind.i64 0, Value.int IntKind.i64 0, Value.slice none 0 0] 54)).frozen? ⟨B, 3, none⟩ = false := by rw [← hB]; simp [go_sem]
        have cr4 : (w.alloc (Obj.cells #[Value.int IntKind.i64 0, Value.int IntKind.i64 0, Value.int IntKind.i64 0, Value.int IntKind.i64 0, Value.slice none 0 0] 54)).cell? ⟨B, 4, none⟩ = some (.slice none 0 0) := by rw [← hB]; simp [go_sem]
        have fr4 : (w.alloc (Obj.cells #[Value.int IntKind.i64 0, Value.int IntKind.i64 0, Value.int IntKind.i64 0, Value.int IntKind.i64 0, Value.slice none 0 0] 54)).frozen? ⟨B, 4, none⟩ = false := by rw [← hB]; simp [go_sem]
        generalize (w.alloc (Obj.cells #[Value.int IntKind.i64 0, Value.int IntKind.i64 0, Value.int IntKind.i64 0, Value.int IntKind.i64 0, Value.slice none 0 0] 54)) = W1 at *
        go_upto_region 2 with (go_at_call 45; (with_reducible refine (HS.out _ hB1).mono ?_); rintro e w2 ⟨rfl, hb⟩)
        have hW2 : ∀ o, Below W1.heap.size W1 (w2.alloc o) := fun o => hb.alloc hb.size o
        have hz2 : w2.heap.size ≥ B + 1 := by have := hb.size; omega
        have hB2 : Below W1.heap.size W1 (w2.alloc (Obj.cells #[Value.int IntKind.i64 x0, Value.int IntKind.i64 x1, Value.int IntKind.i64 x2] 52)) := hW2 _
        replace cr0 := (hB2.cell (p := ⟨B, 0, none⟩) (by show B < _; omega)).trans cr0
        replace fr0 := (World.frozen?_of_block (a := ⟨B, 0, none⟩) (hB2.block B (by omega))).trans fr0
        replace cr1 := (hB2.cell (p := ⟨B, 1, none⟩) (by show B < _; omega)).trans cr1
        replace fr1 := (World.frozen?_of_block (a := ⟨B, 1, none⟩) (hB2.block B (by omega))).trans fr1
        replace cr2 := (hB2.cell (p := ⟨B, 2, none⟩) (by show B < _; omega)).trans cr2
        replace fr2 := (World.frozen?_of_block (a := ⟨B, 2, none⟩) (hB2.block B (by omega))).trans fr2
        replace cr3 := (hB2.cell (p := ⟨B, 3, none⟩) (by show B < _; omega)).trans cr3
        replace fr3 := (World.frozen?_of_block (a := ⟨B, 3, none⟩) (hB2.block B (by omega))).trans fr3
        replace cr4 := (hB2.cell (p := ⟨B, 4, none⟩) (by show B < _; omega)).trans cr4
        replace fr4 := (World.frozen?_of_block (a := ⟨B, 4, none⟩) (hB2.block B (by omega))).trans fr4
        have cs : ((w2.alloc (Obj.cells #[Value.int IntKind.i64 x0, Value.int IntKind.i64 x1, Value.int IntKind.i64 x2] 52)).cell? ⟨w2.heap.size, 0, none⟩ = some (.int .i64 x0) ∧ (w2.alloc (Obj.cells #[Value.int IntKind.i64 x0, Value.int IntKind.i64 x1, Value.int IntKind.i64 x2] 52)).cell? ⟨w2.heap.size, 1, none⟩ = some (.int .i64 x1)) ∧ (w2.alloc (Obj.cells #[Value.int IntKind.i64 x0, Value.int IntKind.i64 x1, Value.int IntKind.i64 x2] 52)).cell? ⟨w2.heap.size, 2, none⟩ = some (.int .i64 x2) := by refine ⟨⟨?_, ?_⟩, ?_⟩ <;> simp [go_sem]
        obtain ⟨⟨cs0, cs1⟩, cs2⟩ := cs
        obtain ⟨B2, hB2e⟩ : ∃ B2, w2.heap.size = B2 := ⟨_, rfl⟩
        rw [hB2e] at cs0 cs1 cs2 hz2 ⊢
        generalize (w2.alloc (Obj.cells #[Value.int IntKind.i64 x0, Value.int IntKind.i64 x1, Value.int IntKind.i64 x2] 52)) = W3 at *
        have hne : B2 ≠ B := by omega
        have HB3 := Lib.hid (hB1.trans (hB2.mono hB1.size))
        have HBB := Lib.hid hB
        clear hW2 hb hB1 hB2 hB hz1 hB2e
        have hz3 : B < W3.heap.size := World.block_lt_of_cell? _ ⟨B, 0, none⟩ cr0
        go_upto_region 4 with (go_at_call 64; (with_reducible refine (HC.out _ HB3.out).mono ?_); rintro e w4 ⟨rfl, hb4⟩)
        replace cr0 := (hb4.cell (p := ⟨B, 0, none⟩) (by show B < _; omega)).trans cr0
        replace fr0 := (World.frozen?_of_block (a := ⟨B, 0, none⟩) (hb4.block B (by omega))).trans fr0
        replace cr1 := (hb4.cell (p := ⟨B, 1, none⟩) (by show B < _; omega)).trans cr1
        replace fr1 := (World.frozen?_of_block (a := ⟨B, 1, none⟩) (hb4.block B (by omega))).trans fr1
        replace cr2 := (hb4.cell (p := ⟨B, 2, none⟩) (by show B < _; omega)).trans cr2
        replace fr2 := (World.frozen?_of_block (a := ⟨B, 2, none⟩) (hb4.block B (by omega))).trans fr2
        replace cr3 := (hb4.cell (p := ⟨B, 3, none⟩) (by show B < _; omega)).trans cr3
        replace fr3 := (World.frozen?_of_block (a := ⟨B, 3, none⟩) (hb4.block B (by omega))).trans fr3
        replace cr4 := (hb4.cell (p := ⟨B, 4, none⟩) (by show B < _; omega)).trans cr4
        replace fr4 := (World.frozen?_of_block (a := ⟨B, 4, none⟩) (hb4.block B (by omega))).trans fr4
        replace cs0 := (hb4.cell (p := ⟨B2, 0, none⟩) (World.block_lt_of_cell? _ _ cs0)).trans cs0
        replace cs1 := (hb4.cell (p := ⟨B2, 1, none⟩) (World.block_lt_of_cell? _ _ cs1)).trans cs1
        replace cs2 := (hb4.cell (p := ⟨B2, 2, none⟩) (World.block_lt_of_cell? _ _ cs2)).trans cs2
        replace HB3 := Lib.hid (HB3.out.trans (hb4.mono HB3.out.size))
        clear hb4
        go_wp2_with fail
        all_goals (refine bodyPost_ret (v := .tuple #[hv n x0 x1 x2 (.slice C m cc), .bool true]) (by simp [results, Try.results44, go_sem, cr0, cr1, cr2, cr3, cr4]) rfl ⟨by first | rfl | simp [*], ?_⟩; (repeat (refine Below.setCell ?_ (by show w.heap.size ≤ _; rw [HBB.out]; exact Nat.le_refl _) _)); exact HB3.out)
      · go_enter Try.func44, Try.ntmps44
        go_upto_region 1 with fail
        have hB1 : Below w.heap.size w (w.alloc (Obj.cells #[Value.int IntKind.i64 0, Value.int IntKind.i64 0, Value.int IntKind.i64 0, Value.int IntKind.i64 0, Value.slice none 0 0] 54)) := below_new _ _ (Below.refl _ _) _
        have hz1 : (w.alloc (Obj.cells #[Value.int IntKind.i64 0, Value.int IntKind.i64 0, Value.int IntKind.i64 0, Value.int IntKind.i64 0, Value.slice none 0 0] 54)).heap.size = B + 1 := by simp [hB]
        have cr0 : (w.alloc (Obj.cells #[Value.int IntKind.i64 0, Value.int IntKind.i64 0, Value.int IntKind.i64 0, Value.int IntKind.i64 0, Value.slice none 0 0] 54)).cell? ⟨B, 0, none⟩ = some (.int .i64 0) := by rw [← hB]; simp [go_sem]
        have fr0 : (w.alloc (Obj.cells #[Value.int IntKind.i64 0, Value.int IntKind.i64 0, Value.int IntKind.i64 0, Value.int IntKind.i64 0, Value.slice none 0 0] 54)).frozen? ⟨B, 0, none⟩ = false := by rw [← hB]; simp [go_sem]
        have cr1 : (w.alloc (Obj.cells #[Value.int IntKind.i64 0, Value.int IntKind.i64 0, Value.int IntKind.i64 0, Value.int IntKind.i64 0, Value.slice none 0 0] 54)).cell? ⟨B, 1, none⟩ = some (.int .i64 0) := by rw [← hB]; simp [go_sem]
        have fr1 : (w.alloc (Obj.cells #[Value.int IntKind.i64 0, Value.int IntKind.i64 0, Value.int IntKind.i64 0, Value.int IntKind.i64 0, Value.slice none 0 0] 54)).frozen? ⟨B, 1, none⟩ = false := by rw [← hB]; simp [go_sem]
        have cr2 : (w.alloc (Obj.cells #[Value.int IntKind.i64 0, Value.int IntKind.i64 0, Value.int IntKind.i64 0, Value.int IntKind.i64 0, Value.slice none 0 0] 54)).cell? ⟨B, 2, none⟩ = some (.int .i64 0) := by rw [← hB]; simp [go_sem]
        have fr2 : (w.alloc (Obj.cells #[Value.int IntKind.i64 0, Value.int IntKind.i64 0, Value.int IntKind.i64 0, Value.int IntKind.i64 0, Value.slice none 0 0] 54)).frozen? ⟨B, 2, none⟩ = false := by rw [← hB]; simp [go_sem]
        have cr3 : (w.alloc (Obj.cells #[Value.int IntKind.i64 0, Value.int IntKind.i64 0, Value.int IntKind.i64 0, Value.int IntKind.i64 0, Value.slice none 0 0] 54)).cell? ⟨B, 3, none⟩ = some (.int .i64 0) := by rw [← hB]; simp [go_sem]
        have fr3 : (w.alloc (Obj.cells #[Value.int IntKind.i64 0, Value.int IntKind.i64 0, Value.int IntKind.i64 0, Value.int IntKind.i64 0, Value.slice none 0 0] 54)).frozen? ⟨B, 3, none⟩ = false := by rw [← hB]; simp [go_sem]
        have cr4 : (w.alloc (Obj.cells #[Value.int IntKind.i64 0, Value.int IntKind.i64 0, Value.int IntKind.i64 0, Value.int IntKind.i64 0, Value.slice none 0 0] 54)).cell? ⟨B, 4, none⟩ = some (.slice none 0 0) := by rw [← hB]; simp [go_sem]
        have fr4 : (w.alloc (Obj.cells #[Value.int IntKind.i64 0, Value.int IntKind.i64 0, Value.int IntKind.i64 0, Value.int IntKind.i64 0, Value.slice none 0 0] 54)).frozen? ⟨B, 4, none⟩ = false := by rw [← hB]; simp [go_sem]
        generalize (w.alloc (Obj.cells #[Value.int IntKind.i64 0, Value.int IntKind.i64 0, Value.int IntKind.i64 0, Value.int IntKind.i64 0, Value.slice none 0 0] 54)) = W1 at *
        go_upto_region 2 with (go_at_call 45; (with_reducible refine (HS.out _ hB1).mono ?_); rintro e w2 ⟨rfl, hb⟩)
        have hW2 : ∀ o, Below W1.heap.size W1 (w2.alloc o) := fun o => hb.alloc hb.size o
        have hz2 : w2.heap.size ≥ B + 1 := by have := hb.size; omega
        have hB2 : Below W1.heap.size W1 (w2.alloc (Obj.cells #[Value.int IntKind.i64 x0, Value.int IntKind.i64 x1, Value.int IntKind.i64 x2] 52)) := hW2 _
        replace cr0 := (hB2.cell (p := ⟨B, 0, none⟩) (by show B < _; omega)).trans cr0
        replace fr0 := (World.frozen?_of_block (a := ⟨B, 0, none⟩) (hB2.block B (by omega))).trans fr0
        replace cr1 := (hB2.cell (p := ⟨B, 1, none⟩) (by show B < _; omega)).trans cr1
        replace fr1 := (World.frozen?_of_block (a := ⟨B, 1, none⟩) (hB2.block B (by omega))).trans fr1
        replace cr2 := (hB2.cell (p := ⟨B, 2, none⟩) (by show B < _; omega)).trans cr2
        replace fr2 := (World.frozen?_of_block (a := ⟨B, 2, none⟩) (hB2.block B (by omega))).trans fr2
        replace cr3 := (hB2.cell (p := ⟨B, 3, none⟩) (by show B < _; omega)).trans cr3
        replace fr3 := (World.frozen?_of_block (a := ⟨B, 3, none⟩) (hB2.block B (by omega))).trans fr3
        replace cr4 := (hB2.cell (p := ⟨B, 4, none⟩) (by show B < _; omega)).trans cr4
        replace fr4 := (World.frozen?_of_block (a := ⟨B, 4, none⟩) (hB2.block B (by omega))).trans fr4
        have cs : ((w2.alloc (Obj.cells #[Value.int IntKind.i64 x0, Value.int IntKind.i64 x1, Value.int IntKind.i64 x2] 52)).cell? ⟨w2.heap.size, 0, none⟩ = some (.int .i64 x0) ∧ (w2.alloc (Obj.cells #[Value.int IntKind.i64 x0, Value.int IntKind.i64 x1, Value.int IntKind.i64 x2] 52)).cell? ⟨w2.heap.size, 1, none⟩ = some (.int .i64 x1)) ∧ (w2.alloc (Obj.cells #[Value.int IntKind.i64 x0, Value.int IntKind.i64 x1, Value.int IntKind.i64 x2] 52)).cell? ⟨w2.heap.size, 2, none⟩ = some (.int .i64 x2) := by refine ⟨⟨?_, ?_⟩, ?_⟩ <;> simp [go_sem]
        obtain ⟨⟨cs0, cs1⟩, cs2⟩ := cs
        obtain ⟨B2, hB2e⟩ : ∃ B2, w2.heap.size = B2 := ⟨_, rfl⟩
        rw [hB2e] at cs0 cs1 cs2 hz2 ⊢
        generalize (w2.alloc (Obj.cells #[Value.int IntKind.i64 x0, Value.int IntKind.i64 x1, Value.int IntKind.i64 x2] 52)) = W3 at *
        have hne : B2 ≠ B := by omega
        have HB3 := Lib.hid (hB1.trans (hB2.mono hB1.size))
        have HBB := Lib.hid hB
        clear hW2 hb hB1 hB2 hB hz1 hB2e
        have hz3 : B < W3.heap.size := World.block_lt_of_cell? _ ⟨B, 0, none⟩ cr0
        go_upto_region 3 with (go_at_call 64; (with_reducible refine (HC.out _ HB3.out).mono ?_); rintro e w4 ⟨rfl, hb4⟩)
        replace cr0 := (hb4.cell (p := ⟨B, 0, none⟩) (by show B < _; omega)).trans cr0
        replace fr0 := (World.frozen?_of_block (a := ⟨B, 0, none⟩) (hb4.block B (by omega))).trans fr0
        replace cr1 := (hb4.cell (p := ⟨B, 1, none⟩) (by show B < _; omega)).trans cr1
        replace fr1 := (World.frozen?_of_block (a := ⟨B, 1, none⟩) (hb4.block B (by omega))).trans fr1
        replace cr2 := (hb4.cell (p := ⟨B, 2, none⟩) (by show B < _; omega)).trans cr2
        replace fr2 := (World.frozen?_of_block (a := ⟨B, 2, none⟩) (hb4.block B (by omega))).trans fr2
        replace cr3 := (hb4.cell (p := ⟨B, 3, none⟩) (by show B < _; omega)).trans cr3
        replace fr3 := (World.frozen?_of_block (a := ⟨B, 3, none⟩) (hb4.block B (by omega))).trans fr3
        replace cr4 := (hb4.cell (p := ⟨B, 4, none⟩) (by show B < _; omega)).trans cr4
        replace fr4 := (World.frozen?_of_block (a := ⟨B, 4, none⟩) (hb4.block B (by omega))).trans fr4
        replace cs0 := (hb4.cell (p := ⟨B2, 0, none⟩) (World.block_lt_of_cell? _ _ cs0)).trans cs0
        replace cs1 := (hb4.cell (p := ⟨B2, 1, none⟩) (World.block_lt_of_cell? _ _ cs1)).trans cs1
        replace cs2 := (hb4.cell (p := ⟨B2, 2, none⟩) (World.block_lt_of_cell? _ _ cs2)).trans cs2
        replace HB3 := Lib.hid (HB3.out.trans (hb4.mono HB3.out.size))
        clear hb4
        go_wp2_with fail
        all_goals (refine bodyPost_ret (v := .tuple #[hv 0 0 0 0 (.slice none 0 0), .bool false]) (by simp [results, Try.results44, go_sem, cr0, cr1, cr2, cr3, cr4]) rfl ⟨by first | rfl | simp [*], ?_⟩; (repeat (refine Below.setCell ?_ (by show w.heap.size ≤ _; rw [HBB.out]; exact Nat.le_refl _) _)); exact HB3.out)
    · have h41 : (m : Int) > 40 := by omega
      have h42 := decide_eq_false h40
      go_enter Try.func44, Try.ntmps44
      go_upto_region 1 with fail
      have hB1 : Below w.heap.size w (w.alloc (Obj.cells #[Value.int IntKind.i64 0, Value.int IntKind.i64 0, Value.int IntKind.i64 0, Value.int IntKind.i64 0, Value.slice none 0 0] 54)) := below_new _ _ (Below.refl _ _) _
      have hz1 : (w.alloc (Obj.cells #[Value.int IntKind.i64 0, Value.int IntKind.i64 0, Value.int IntKind.i64 0, Value.int IntKind.i64 0, Value.slice none 0 0] 54)).heap.size = B + 1 := by simp [hB]
      have cr0 : (w.alloc (Obj.cells #[Value.int IntKind.i64 0, Value.int IntKind.i64 0, Value.int IntKind.i64 0, Value.int IntKind.i64 0, Value.slice none 0 0] 54)).cell? ⟨B, 0, none⟩ = some (.int .i64 0) := by rw [← hB]; simp [go_sem]
      have fr0 : (w.alloc (Obj.cells #[Value.int IntKind.i64 0, Value.int IntKind.i64 0, Value.int IntKind.i64 0, Value.int IntKind.i64 0, Value.slice none 0 0] 54)).frozen? ⟨B, 0, none⟩ = false := by rw [← hB]; simp [go_sem]
      have cr1 : (w.alloc (Obj.cells #[Value.int IntKind.i64 0, Value.int IntKind.i64 0, Value.int IntKind.i64 0, Value.int IntKind.i64 0, Value.slice none 0 0] 54)).cell? ⟨B, 1, none⟩ = some (.int .i64 0) := by rw [← hB]; simp [go_sem]
      have fr1 : (w.alloc (Obj.cells #[Value.int IntKind.i64 0, Value.int IntKind.i64 0, Value.int IntKind.i64 0, Value.int IntKind.i64 0, Value.slice none 0 0] 54)).frozen? ⟨B, 1, none⟩ = false := by rw [← hB]; simp [go_sem]
      have cr2 : (w.alloc (Obj.cells #[Value.int IntKind.i64 0, Value.int IntKind.i64 0, Value.int IntKind.i64 0, Value.int IntKind.i64 0, Value.slice none 0 0] 54)).cell? ⟨B, 2, none⟩ = some (.int .i64 0) := by rw [← hB]; simp [go_sem]
      have fr2 : (w.alloc (Obj.cells #[Value.int IntKind.i64 0, Value.int IntKind.i64 0, Value.int IntKind.i64 0, Value.int IntKind.i64 0, Value.slice none 0 0] 54)).frozen? ⟨B, 2, none⟩ = false := by rw [← hB]; simp [go_sem]
      have cr3 : (w.alloc (Obj.cells #[Value.int IntKind.i64 0, Value.int IntKind.i64 0, Value.int IntKind.i64 0, Value.int IntKind.i64 0, Value.slice none 0 0] 54)).cell? ⟨B, 3, none⟩ = some (.int .i64 0) := by rw [← hB]; simp [go_sem]
      have fr3 : (w.alloc (Obj.cells #[Value.int IntKind.i64 0, Value.int IntKind.i64 0, Value.int IntKind.i64 0, Value.int IntKind.i64 0, Value.slice none 0 0] 54)).frozen? ⟨B, 3, none⟩ = false := by rw [← hB]; simp [go_sem]
      have cr4 : (w.alloc (Obj.cells #[Value.int IntKind.i64 0, Value.int IntKind.i64 0, Value.int IntKind.i64 0, Value.int IntKind.i64 0, Value.slice none 0 0] 54)).cell? ⟨B, 4, none⟩ = some (.slice none 0 0) := by rw [← hB]; simp [go_sem]
      have fr4 : (w.alloc (Obj.cells #[Value.int IntKind.i64 0, Value.int IntKind.i64 0, Value.int IntKind.i64 0, Value.int IntKind.i64 0, Value.slice none 0 0] 54)).frozen? ⟨B, 4, none⟩ = false := by rw [← hB]; simp [go_sem]
      generalize (w.alloc (Obj.cells #[Value.int IntKind.i64 0, Value.int IntKind.i64 0, Value.int IntKind.i64 0, Value.int IntKind.i64 0, Value.slice none 0 0] 54)) = W1 at *
      go_upto_region 2 with (go_at_call 45; (with_reducible refine (HS.out _ hB1).mono ?_); rintro e w2 ⟨rfl, hb⟩)
      have hW2 : ∀ o, Below W1.heap.size W1 (w2.alloc o) := fun o => hb.alloc hb.size o
      have hz2 : w2.heap.size ≥ B + 1 := by have := hb.size; omega
      have hB2 : Below W1.heap.size W1 (w2.alloc (Obj.cells #[Value.int IntKind.i64 x0, Value.int IntKind.i64 x1, Value.int IntKind.i64 x2] 52)) := hW2 _
      replace cr0 := (hB2.cell (p := ⟨B, 0, none⟩) (by show B < _; omega)).trans cr0
      replace fr0 := (World.frozen?_of_block (a := ⟨B, 0, none⟩) (hB2.block B (by omega))).trans fr0
      replace cr1 := (hB2.cell (p := ⟨B, 1, none⟩) (by show B < _; omega)).trans cr1
      replace fr1 := (World.frozen?_of_block (a := ⟨B, 1, none⟩) (hB2.block B (by omega))).trans fr1
      replace cr2 := (hB2.cell (p := ⟨B, 2, none⟩) (by show B < _; omega)).trans cr2
      replace fr2 := (World.frozen?_of_block (a := ⟨B, 2, none⟩) (hB2.block B (by omega))).trans fr2
      replace cr3 := (hB2.cell (p := ⟨B, 3, none⟩) (by show B < _; omega)).trans cr3
      replace fr3 := (World.frozen?_of_block (a := ⟨B, 3, none⟩) (hB2.block B (by omega))).trans fr3
      replace cr4 := (hB2.cell (p := ⟨B, 4, none⟩) (by show B < _; omega)).trans cr4
      replace fr4 := (World.frozen?_of_block (a := ⟨B, 4, none⟩) (hB2.block B (by omega))).trans fr4
      have cs : ((w2.alloc (Obj.cells #[Value.int IntKind.i64 x0, Value.int IntKind.i64 x1, Value.int IntKind.i64 x2] 52)).cell? ⟨w2.heap.size, 0, none⟩ = some (.int .i64 x0) ∧ (w2.alloc (Obj.cells #[Value.int IntKind.i64 x0, Value.int IntKind.i64 x1, Value.int IntKind.i64 x2] 52)).cell? ⟨w2.heap.size, 1, none⟩ = some (.int .i64 x1)) ∧ (w2.alloc (Obj.cells #[Value.int IntKind.i64 x0, Value.int IntKind.i64 x1, Value.int IntKind.i64 x2] 52)).cell? ⟨w2.heap.size, 2, none⟩ = some (.int .i64 x2) := by refine ⟨⟨?_, ?_⟩, ?_⟩ <;> simp [go_sem]
      obtain ⟨⟨cs0, cs1⟩, cs2⟩ := cs
      obtain ⟨B2, hB2e⟩ : ∃ B2, w2.heap.size = B2 := ⟨_, rfl⟩
      rw [hB2e] at cs0 cs1 cs2 hz2 ⊢
      generalize (w2.alloc (Obj.cells #[Value.int IntKind.i64 x0, Value.int IntKind.i64 x1, Value.int IntKind.i64 x2] 52)) = W3 at *
      have hne : B2 ≠ B := by omega
      have HB3 := Lib.hid (hB1.trans (hB2.mono hB1.size))
      have HBB := Lib.hid hB
      clear hW2 hb hB1 hB2 hB hz1 hB2e
      go_wp2_with fail
      all_goals (refine bodyPost_ret (v := .tuple #[hv 0 0 0 0 (.slice none 0 0), .bool false]) (by simp [results, Try.results44, go_sem, cr0, cr1, cr2, cr3, cr4]) rfl ⟨by first | rfl | simp [*], ?_⟩; (repeat (refine Below.setCell ?_ (by show w.heap.size ≤ _; rw [HBB.out]; exact Nat.le_refl _) _)); exact HB3.out)
end Go.Proofs.Ytakbijpcfnipoaa.A

set_option linter.unusedVariables false
set_option linter.unusedSimpArgs false
namespace Go.Proofs
open Go.Shelf
def Ytakbijpcfnipoaa.A.sort80_ren : Go.Shelf.Ren := ⟨fun | 189 => 80 | 125 => 83 | 257 => 82 | 128 => 93 | 129 => 94 | 294 => 84 | 295 => 85 | 296 => 86 | 297 => 87 | 298 => 88 | 299 => 89 | 216 => 90 | 300 => 91 | 301 => 92 | 328 => 95 | 329 => 96 | 330 => 97 | 331 => 98 | 332 => 99 | 215 => 100 | 343 => 101 | n => n, fun | 28 => 22 | 3 => 3 | 46 => 73 | 0 => 0 | 51 => 101 | 53 => 103 | 4 => 4 | 183 => 94 | 182 => 93 | 131 => 98 | 5 => 5 | 9 => 9 | 218 => 104 | 222 => 108 | 228 => 110 | 229 => 111 | n => n, fun | n => n⟩
theorem Ytakbijpcfnipoaa.A.sort80 : Go.Proofs.Lays.n189 Try.prog Ytakbijpcfnipoaa.A.sort80_ren := {
  mixed := by kernel_rfl
  f125 := Try.func83.trans (congrArg some (by kernel_rfl))
  f128 := Try.func93.trans (congrArg some (by kernel_rfl))
  f129 := Try.func94.trans (congrArg some (by kernel_rfl))
  f189 := Try.func80.trans (congrArg some (by kernel_rfl))
  f215 := Try.func100.trans (congrArg some (by kernel_rfl))
  f216 := Try.func90.trans (congrArg some (by kernel_rfl))
  f257 := Try.func82.trans (congrArg some (by kernel_rfl))
  f294 := Try.func84.trans (congrArg some (by kernel_rfl))
  f295 := Try.func85.trans (congrArg some (by kernel_rfl))
  f296 := Try.func86.trans (congrArg some (by kernel_rfl))
  f297 := Try.func87.trans (congrArg some (by kernel_rfl))
  f298 := Try.func88.trans (congrArg some (by kernel_rfl))
  f299 := Try.func89.trans (congrArg some (by kernel_rfl))
  f300 := Try.func91.trans (congrArg some (by kernel_rfl))
  f301 := Try.func92.trans (congrArg some (by kernel_rfl))
  f328 := Try.func95.trans (congrArg some (by kernel_rfl))
  f329 := Try.func96.trans (congrArg some (by kernel_rfl))
  f330 := Try.func97.trans (congrArg some (by kernel_rfl))
  f331 := Try.func98.trans (congrArg some (by kernel_rfl))
  f332 := Try.func99.trans (congrArg some (by kernel_rfl))
  f343 := Try.func101.trans (congrArg some (by kernel_rfl))
  t0 := Try.underlying0
  a0 := Try.isAgg0
  z0 := Try.sizeOf0
  v0 := Try.zeroValue0
  t3 := Try.underlying3
  a3 := Try.isAgg3
  z3 := Try.sizeOf3
  v3 := Try.zeroValue3
  t4 := Try.underlying4
  a4 := Try.isAgg4
  z4 := Try.sizeOf4
  v4 := Try.zeroValue4
  t5 := Try.underlying5
  a5 := Try.isAgg5
  z5 := Try.sizeOf5
  v5 := Try.zeroValue5
  t9 := Try.underlying9
  a9 := Try.isAgg9
  z9 := Try.sizeOf9
  v9 := Try.zeroValue9
  t28 := Try.underlying22
  a28 := Try.isAgg22
  z28 := Try.sizeOf22
  v28 := Try.zeroValue22
  t46 := Try.underlying73
  a46 := Try.isAgg73
  z46 := Try.sizeOf73
  v46 := Try.zeroValue73
  t51 := Try.underlying101
  a51 := Try.isAgg101
  z51 := Try.sizeOf101
  v51 := Try.zeroValue101
  t53 := Try.underlying103
  a53 := Try.isAgg103
  z53 := Try.sizeOf103
  v53 := Try.zeroValue103
  t131 := Try.underlying98
  a131 := Try.isAgg98
  z131 := Try.sizeOf98
  v131 := Try.zeroValue98
  t182 := Try.underlying93
  a182 := Try.isAgg93
  z182 := Try.sizeOf93
  v182 := Try.zeroValue93
  t183 := Try.underlying94
  a183 := Try.isAgg94
  z183 := Try.sizeOf94
  v183 := Try.zeroValue94
  t218 := Try.underlying104
  a218 := Try.isAgg104
  z218 := Try.sizeOf104
  v218 := Try.zeroValue104
  t222 := Try.underlying108
  a222 := Try.isAgg108
  z222 := Try.sizeOf108
  v222 := Try.zeroValue108
  t228 := Try.underlying110
  a228 := Try.isAgg110
  z228 := Try.sizeOf110
  v228 := Try.zeroValue110
  t229 := Try.underlying111
  a229 := Try.isAgg111
  z229 := Try.sizeOf111
  v229 := Try.zeroValue111 }
end Go.Proofs
namespace Go.Proofs.Ytakbijpcfnipoaa.A
open Go.Sort
open Go.RowKit Go.Proofs.YtakbijpcfnipoaaW.PrintWords Go.Proofs.YtakbijpcfnipoaaW.PrintLast Go.Proofs.YtakbijpcfnipoaaW.PrintMore
open Go.Proofs.Ytakbijpcfnipoaa.PA Go.Proofs.Ytakbijpcfnipoaa.Lf
theorem srt_unique : ∀ {l m : List Int}, Srt l → Srt m → l.Perm m → l = m
  | [], m, _, _, h => (List.nil_perm.1 h).symm ▸ rfl
  | a :: l, [], _, _, h => by have := h.length_eq; simp at this
  | a :: l, b :: m, h1, h2, h => by
    obtain ⟨g1, g2⟩ := List.pairwise_cons.1 h1
    obtain ⟨k1, k2⟩ := List.pairwise_cons.1 h2
    have e : a = b := by
      have ha : a ∈ b :: m := h.subset List.mem_cons_self
      have hb : b ∈ a :: l := h.symm.subset List.mem_cons_self
      have x1 : b ≤ a := by
        rcases List.mem_cons.1 ha with e | e
        · omega
        · exact k1 a e
      have x2 : a ≤ b := by
        rcases List.mem_cons.1 hb with e | e
        · omega
        · exact g1 b e
      omega
    subst e
    rw [srt_unique g2 k2 (List.Perm.cons_inv h)]
theorem ins_perm (x : Int) : ∀ l : List Int, (ins x l).Perm (x :: l)
  | [] => List.Perm.refl _
  | y :: l => by
    unfold ins
    split
    · exact ((ins_perm x l).cons y).trans (List.Perm.swap x y l)
    · exact List.Perm.refl _
theorem set_perm : ∀ {s : List Int} {i : Nat} (f : Int), i < s.length → (s.set i f).Perm (f :: s.eraseIdx i)
  | [], i, f, h => by simp at h
  | x :: s, 0, f, _ => List.Perm.refl _
  | x :: s, i + 1, f, h => by
    have := set_perm (s := s) (i := i) f (by simpa using h)
    show (x :: s.set i f).Perm (f :: x :: s.eraseIdx i)
    exact (this.cons x).trans (List.Perm.swap f x _)
theorem sort_moved {s : List Int} {i : Nat} (f : Int) (hs : Srt s) (hi : i < s.length) : ((s.set i f).mergeSort fun x y => decide (x ≤ y)) = moved s i f := by
  refine srt_unique ?_ (moved_srt hs i f) ?_
  · have := List.pairwise_mergeSort (le := fun x y : Int => decide (x ≤ y)) (fun a b c h1 h2 => by simp at *; omega) (fun a b => by simp; omega) (s.set i f)
    exact this.imp (fun h => by simpa using h)
  · exact (List.mergeSort_perm _ _).trans ((set_perm f hi).trans (ins_perm f _).symm)
theorem sort_arr {W : World} {B k : Nat} {x0 x1 x2 : Int} (hk1 : 1 ≤ k) (hk3 : k ≤ 3) (hB : B < W.heap.size) (h0 : W.cell? ⟨B, 0, none⟩ = some (.int .i64 x0)) (h1 : W.cell? ⟨B, 1, none⟩ = some (.int .i64 x1)) (h2 : W.cell? ⟨B, 2, none⟩ = some (.int .i64 x2))
    (f0 : W.frozen? ⟨B, 0, none⟩ = false) (f1 : W.frozen? ⟨B, 1, none⟩ = false) (f2 : W.frozen? ⟨B, 2, none⟩ = false) {M : List Int} (hM : ((T3 k x0 x1 x2).mergeSort fun x y => decide (x ≤ y)) = M) :
    Calls Try.prog 80 #[.slice (some ⟨B, 0, none⟩) k 3] W fun e w' => e = .returned (.tuple #[]) ∧ W.grownBy w' (some B) ∧ w'.cell? ⟨B, 0, none⟩ = some (.int .i64 (M.getD 0 x0)) ∧ w'.cell? ⟨B, 1, none⟩ = some (.int .i64 (M.getD 1 x1)) ∧ w'.cell? ⟨B, 2, none⟩ = some (.int .i64 (M.getD 2 x2)) := by
  have hl := t3_len hk3 x0 x1 x2
  have hml : M.length = k := by rw [← hM, List.length_mergeSort]; exact hl
  have hH : Holds (Value.int .i64) W B 0 (T3 k x0 x1 x2).toArray := by
    intro j hj
    have hj' : j < k := by rw [List.size_toArray, hl] at hj; exact hj
    have hkk := kCases hk1 hk3
    have hj3 : j = 0 ∨ j = 1 ∨ j = 2 := by omega
    rcases hj3 with rfl | rfl | rfl
    · have e : (T3 k x0 x1 x2).toArray[0]! = x0 := by rcases hkk with rfl | rfl | rfl <;> simp [T3]
      rw [e]; exact ⟨h0, f0⟩
    · have e : (T3 k x0 x1 x2).toArray[1]! = x1 := by rcases hkk with rfl | rfl | rfl <;> first | omega | simp [T3]
      rw [e]; exact ⟨h1, f1⟩
    · have e : (T3 k x0 x1 x2).toArray[2]! = x2 := by rcases hkk with rfl | rfl | rfl <;> first | omega | simp [T3]
      rw [e]; exact ⟨h2, f2⟩
  have hc := Any.slices_Sort_int sort80 B 0 3 (T3 k x0 x1 x2) W hH hB (by rw [hl]; omega)
  rw [hl, hM] at hc
  refine Calls.mono hc ?_
  rintro e w' ⟨rfl, n, os, rfl⟩
  have hsz : (putRow (Value.int .i64) (Sort.ahead W n) B 0 M.toArray).heap.size = W.heap.size := by
    show (W.heap.modify B _).size = _
    simp
  have hcell : ∀ j, (h : j < k) → (grow (putRow (Value.int .i64) (Sort.ahead W n) B 0 M.toArray) os).cell? ⟨B, j, none⟩ = some (.int .i64 (M.getD j 0)) := by
    intro j hj
    rw [cell?_grow _ _ _ (by rw [hsz]; exact hB)]
    have := cell?_putRow (Value.int .i64) (Sort.ahead W n) B 0 (T3 k x0 x1 x2).toArray M.toArray hH (by simp only [List.size_toArray]; rw [hl, hml]) j (by simpa [hml] using hj)
    rw [Nat.zero_add] at this
    rw [this, getElem!_pos M.toArray j (by simpa [hml] using hj), List.getD_eq_getElem?_getD, List.getElem?_eq_getElem (by rw [hml]; exact hj)]
    rfl
  have hother : ∀ j, k ≤ j → (grow (putRow (Value.int .i64) (Sort.ahead W n) B 0 M.toArray) os).cell? ⟨B, j, none⟩ = W.cell? ⟨B, j, none⟩ := by
    intro j hj
    rw [cell?_grow _ _ _ (by rw [hsz]; exact hB)]
    exact cell?_putRow_other (Value.int .i64) (Sort.ahead W n) B 0 M.toArray ⟨B, j, none⟩ (.inr (.inr (by simp [hml]; exact hj)))
  have hall : ∀ j x, j < 3 → W.cell? ⟨B, j, none⟩ = some (.int .i64 x) → (grow (putRow (Value.int .i64) (Sort.ahead W n) B 0 M.toArray) os).cell? ⟨B, j, none⟩ = some (.int .i64 (M.getD j x)) := by
    intro j x _ hx
    by_cases c : j < k
    · rw [hcell j c]
      have : j < M.length := by omega
      simp [List.getD_eq_getElem?_getD, List.getElem?_eq_getElem this]
    · rw [hother j (by omega), hx]
      have : M.length ≤ j := by omega
      simp [List.getD_eq_getElem?_getD, List.getElem?_eq_none this]
  refine ⟨rfl, ⟨rfl, rfl, rfl, ?_, fun b hb hne => ?_⟩, hall 0 x0 (by omega) h0, hall 1 x1 (by omega) h1, hall 2 x2 (by omega) h2⟩
  · rw [size_grow, hsz]; omega
  · rw [heap_grow_old _ _ (by rw [hsz]; exact hb)]
    show (W.heap.modify B _)[b]? = _
    rw [Array.getElem?_modify, if_neg (fun e => hne (by rw [e]))]
end Go.Proofs.Ytakbijpcfnipoaa.A

set_option linter.unusedVariables false
set_option linter.unusedSimpArgs false
namespace Go.Proofs.Ytakbijpcfnipoaa.A
open Go.RowKit Go.Proofs.YtakbijpcfnipoaaW.PrintWords Go.Proofs.YtakbijpcfnipoaaW.PrintLast Go.Proofs.YtakbijpcfnipoaaW.PrintMore
open Go.Proofs.Ytakbijpcfnipoaa.PA Go.Proofs.Ytakbijpcfnipoaa.Lf
set_option maxHeartbeats 8000000 in
set_option maxRecDepth 100000 in
theorem moved0 (k : Nat) (hk1 : 1 ≤ k) (hk3 : k ≤ 3) (s0 s1 s2 : Int) (A : Option Addr) (n c : Nat) (x0 x1 x2 f : Int) {M : List Int} (hM : ((T3 k f x1 x2).mergeSort fun x y => decide (x ≤ y)) = M) (w : World) :
    Calls Try.prog 73 #[hv k s0 s1 s2 (.slice A n c), sv x0 x1 x2, .int .i64 0, .int .i64 f] w fun e w' => e = .returned (sv (M.getD 0 f) (M.getD 1 x1) (M.getD 2 x2)) ∧ Below w.heap.size w w' := by
  obtain ⟨B, hB⟩ : ∃ B, w.heap.size = B := ⟨_, rfl⟩
  obtain ⟨m0, e0⟩ : ∃ m, M.getD 0 f = m := ⟨_, rfl⟩
  obtain ⟨m1, e1⟩ : ∃ m, M.getD 1 x1 = m := ⟨_, rfl⟩
  obtain ⟨m2, e2⟩ : ∃ m, M.getD 2 x2 = m := ⟨_, rfl⟩
  rw [e0, e1, e2]
  have HM := Lib.hid hM
  have HE := Lib.hid (And.intro e0 (And.intro e1 e2))
  clear hM e0 e1 e2
  have hk3' : (k : Int) ≤ 3 := by omega
  have hk0' : (0 : Int) ≤ (k : Int) := by omega
  go_enter Try.func73, Try.ntmps73
  go_upto_region 1 with fail
  have hB1 : Below w.heap.size w (((w.alloc (Obj.cells #[Value.int IntKind.i64 ↑k, Value.int IntKind.i64 s0, Value.int IntKind.i64 s1, Value.int IntKind.i64 s2, Value.slice A n c] 54)).alloc (Obj.cells #[Value.int IntKind.i64 x0, Value.int IntKind.i64 x1, Value.int IntKind.i64 x2] 52)).alloc (Obj.cells #[Value.int IntKind.i64 0, Value.int IntKind.i64 0, Value.int IntKind.i64 0] 52)) := below_new _ _ (below_new _ _ (below_new _ _ (Below.refl _ _) _) _) _
  have hz1 : (((w.alloc (Obj.cells #[Value.int IntKind.i64 ↑k, Value.int IntKind.i64 s0, Value.int IntKind.i64 s1, Value.int IntKind.i64 s2, Value.slice A n c] 54)).alloc (Obj.cells #[Value.int IntKind.i64 x0, Value.int IntKind.i64 x1, Value.int IntKind.i64 x2] 52)).alloc (Obj.cells #[Value.int IntKind.i64 0, Value.int IntKind.i64 0, Value.int IntKind.i64 0] 52)).heap.size = B + 3 := by simp [hB]
  have hk0 : (((w.alloc (Obj.cells #[Value.int IntKind.i64 ↑k, Value.int IntKind.i64 s0, Value.int IntKind.i64 s1, Value.int IntKind.i64 s2, Value.slice A n c] 54)).alloc (Obj.cells #[Value.int IntKind.i64 x0, Value.int IntKind.i64 x1, Value.int IntKind.i64 x2] 52)).alloc (Obj.cells #[Value.int IntKind.i64 0, Value.int IntKind.i64 0, Value.int IntKind.i64 0] 52)).cell? ⟨B, 0, none⟩ = some (.int .i64 (k : Int)) := by rw [← hB]; simp [go_sem]
  have cx0 : (((w.alloc (Obj.cells #[Value.int IntKind.i64 ↑k, Value.int IntKind.i64 s0, Value.int IntKind.i64 s1, Value.int IntKind.i64 s2, Value.slice A n c] 54)).alloc (Obj.cells #[Value.int IntKind.i64 x0, Value.int IntKind.i64 x1, Value.int IntKind.i64 x2] 52)).alloc (Obj.cells #[Value.int IntKind.i64 0, Value.int IntKind.i64 0, Value.int IntKind.i64 0] 52)).cell? ⟨B + 1, 0, none⟩ = some (.int .i64 x0) := by rw [← hB]; simp [go_sem]
  have fx0 : (((w.alloc (Obj.cells #[Value.int IntKind.i64 ↑k, Value.int IntKind.i64 s0, Value.int IntKind.i64 s1, Value.int IntKind.i64 s2, Value.slice A n c] 54)).alloc (Obj.cells #[Value.int IntKind.i64 x0, Value.int IntKind.i64 x1, Value.int IntKind.i64 x2] 52)).alloc (Obj.cells #[Value.int IntKind.i64 0, Value.int IntKind.i64 0, Value.int IntKind.i64 0] 52)).frozen? ⟨B + 1, 0, none⟩ = false := by rw [← hB]; simp [go_sem]
  have co0 : (((w.alloc (Obj.cells #[Value.int IntKind.i64 ↑k, Value.int IntKind.i64 s0, Value.int IntKind.i64 s1, Value.int IntKind.i64 s2, Value.slice A n c] 54)).alloc (Obj.cells #[Value.int IntKind.i64 x0, Value.int IntKind.i64 x1, Value.int IntKind.i64 x2] 52)).alloc (Obj.cells #[Value.int IntKind.i64 0, Value.int IntKind.i64 0, Value.int IntKind.i64 0] 52)).cell? ⟨B + 1 + 1, 0, none⟩ = some (.int .i64 0) := by rw [← hB]; simp [go_sem]
  have fo0 : (((w.alloc (Obj.cells #[Value.int IntKind.i64 ↑k, Value.int IntKind.i64 s0, Value.int IntKind.i64 s1, Value.int IntKind.i64 s2, Value.slice A n c] 54)).alloc (Obj.cells #[Value.int IntKind.i64 x0, Value.int IntKind.i64 x1, Value.int IntKind.i64 x2] 52)).alloc (Obj.cells #[Value.int IntKind.i64 0, Value.int IntKind.i64 0, Value.int IntKind.i64 0] 52)).frozen? ⟨B + 1 + 1, 0, none⟩ = false := by rw [← hB]; simp [go_sem]
  have cx1 : (((w.alloc (Obj.cells #[Value.int IntKind.i64 ↑k, Value.int IntKind.i64 s0, Value.int IntKind.i64 s1, Value.int IntKind.i64 s2, Value.slice A n c] 54)).alloc (Obj.cells #[Value.int IntKind.i64 x0, Value.int IntKind.i64 x1, Value.int IntKind.i64 x2] 52)).alloc (Obj.cells #[Value.int IntKind.i64 0, Value.int IntKind.i64 0, Value.int IntKind.i64 0] 52)).cell? ⟨B + 1, 1, none⟩ = some (.int .i64 x1) := by rw [← hB]; simp [go_sem]
  have fx1 : (((w.alloc (Obj.cells #[Value.int IntKind.i64 ↑k, Value.int IntKind.i64 s0, Value.int IntKind.i64 s1, Value.int IntKind.i64 s2, Value.slice A n c] 54)).alloc (Obj.cells #[Value.int IntKind.i64 x0, Value.int IntKind.i64 x1, Value.int IntKind.i64 x2] 52)).alloc (Obj.cells #[Value.int IntKind.i64 0, Value.int IntKind.i64 0, Value.int IntKind.i64 0] 52)).frozen? ⟨B + 1, 1, none⟩ = false := by rw [← hB]; simp [go_sem]
  have co1 : (((w.alloc (Obj.cells #[Value.int IntKind.i64 ↑k, Value.int IntKind.i64 s0, Value.int IntKind.i64 s1, Value.int IntKind.i64 s2, Value.slice A n c] 54)).alloc (Obj.cells #[Value.int IntKind.i64 x0, Value.int IntKind.i64 x1, Value.int IntKind.i64 x2] 52)).alloc (Obj.cells #[Value.int IntKind.i64 0, Value.int IntKind.i64 0, Value.int IntKind.i64 0] 52)).cell? ⟨B + 1 + 1, 1, none⟩ = some (.int .i64 0) := by rw [← hB]; simp [go_sem]
  have fo1 : (((w.alloc (Obj.cells #[Value.int IntKind.i64 ↑k, Value.int IntKind.i64 s0, Value.int IntKind.i64 s1, Value.int IntKind.i64 s2, Value.slice A n c] 54)).alloc (Obj.cells #[Value.int IntKind.i64 x0, Value.int IntKind.i64 x1, Value.int IntKind.i64 x2] 52)).alloc (Obj.cells #[Value.int IntKind.i64 0, Value.int IntKind.i64 0, Value.int IntKind.i64 0] 52)).frozen? ⟨B + 1 + 1, 1, none⟩ = false := by rw [← hB]; simp [go_sem]
  have cx2 : (((w.alloc (Obj.cells #[Value.int IntKind.i64 ↑k, Value.int IntKind.i64 s0, Value.int IntKind.i64 s1, Value.int IntKind.i64 s2, Value.slice A n c] 54)).alloc (Obj.cells #[Value.int IntKind.i64 x0, Value.int IntKind.i64 x1, Value.int IntKind.i64 x2] 52)).alloc (Obj.cells #[Value.int IntKind.i64 0, Value.int IntKind.i64 0, Value.int IntKind.i64 0] 52)).cell? ⟨B + 1, 2, none⟩ = some (.int .i64 x2) := by rw [← hB]; simp [go_sem]
  have fx2 : (((w.alloc (Obj.cells #[Value.int IntKind.i64 ↑k, Value.int IntKind.i64 s0, Value.int IntKind.i64 s1, Value.int IntKind.i64 s2, Value.slice A n c] 54)).alloc (Obj.cells #[Value.int IntKind.i64 x0, Value.int IntKind.i64 x1, Value.int IntKind.i64 x2] 52)).alloc (Obj.cells #[Value.int IntKind.i64 0, Value.int IntKind.i64 0, Value.int IntKind.i64 0] 52)).frozen? ⟨B + 1, 2, none⟩ = false := by rw [← hB]; simp [go_sem]
  have co2 : (((w.alloc (Obj.cells #[Value.int IntKind.i64 ↑k, Value.int IntKind.i64 s0, Value.int IntKind.i64 s1, Value.int IntKind.i64 s2, Value.slice A n c] 54)).alloc (Obj.cells #[Value.int IntKind.i64 x0, Value.int IntKind.i64 x1, Value.int IntKind.i64 x2] 52)).alloc (Obj.cells #[Value.int IntKind.i64 0, Value.int IntKind.i64 0, Value.int IntKind.i64 0] 52)).cell? ⟨B + 1 + 1, 2, none⟩ = some (.int .i64 0) := by rw [← hB]; simp [go_sem]
  have fo2 : (((w.alloc (Obj.cells #[Value.int IntKind.i64 ↑k, Value.int IntKind.i64 s0, Value.int IntKind.i64 s1, Value.int IntKind.i64 s2, Value.slice A n c] 54)).alloc (Obj.cells #[Value.int IntKind.i64 x0, Value.int IntKind.i64 x1, Value.int IntKind.i64 x2] 52)).alloc (Obj.cells #[Value.int IntKind.i64 0, Value.int IntKind.i64 0, Value.int IntKind.i64 0] 52)).frozen? ⟨B + 1 + 1, 2, none⟩ = false := by rw [← hB]; simp [go_sem]
  generalize (((w.alloc (Obj.cells #[Value.int IntKind.i64 ↑k, Value.int IntKind.i64 s0, Value.int IntKind.i64 s1, Value.int IntKind.i64 s2, Value.slice A n c] 54)).alloc (Obj.cells #[Value.int IntKind.i64 x0, Value.int IntKind.i64 x1, Value.int IntKind.i64 x2] 52)).alloc (Obj.cells #[Value.int IntKind.i64 0, Value.int IntKind.i64 0, Value.int IntKind.i64 0] 52)) = W1 at *
  have hset : ∀ W2, W2 = W1.setCell ⟨B + 1, 0, none⟩ (.int .i64 f) → Below w.heap.size w W2 ∧ W2.heap.size = B + 3 ∧ W2.cell? ⟨B, 0, none⟩ = some (.int .i64 (k : Int)) ∧ W2.cell? ⟨B + 1, 0, none⟩ = some (.int .i64 f) ∧ W2.cell? ⟨B + 1, 1, none⟩ = some (.int .i64 x1) ∧ W2.cell? ⟨B + 1, 2, none⟩ = some (.int .i64 x2) ∧ W2.frozen? ⟨B + 1, 0, none⟩ = false ∧ W2.frozen? ⟨B + 1, 1, none⟩ = false ∧ W2.frozen? ⟨B + 1, 2, none⟩ = false ∧ (∀ b, b ≠ B + 1 → W2.heap[b]? = W1.heap[b]?) := by
    rintro W2 rfl
    refine ⟨hB1.setCell (by show w.heap.size ≤ B + 1; omega) _, ?_, ?_, ?_, ?_, ?_, ?_, ?_, ?_, ?_⟩
    · simp [World.setCell, hz1]
    · simp [go_sem, hk0]
    · simp [go_sem, cx0]
    · simp [go_sem, cx1]
    · simp [go_sem, cx2]
    · rw [World.frozen?_setCell]; exact fx0
    · rw [World.frozen?_setCell]; exact fx1
    · rw [World.frozen?_setCell]; exact fx2
    · intro b hb
      exact Below.heap_setCell _ _ _ _ hb
  have HBB := Lib.hid hB
  have HZ1 := Lib.hid hz1
  clear hB1 hz1 hk0 hB
  go_upto_region 2 with fail
  obtain ⟨W2, hW2⟩ : ∃ W2, W2 = W1.setCell ⟨B + 1, 0, none⟩ (.int .i64 f) := ⟨_, rfl⟩
  obtain ⟨g1, g2, g3, g4, g5, g6, g7, g8, g9, g10⟩ := hset W2 hW2
  rw [← hW2]
  replace co0 := (World.cell?_of_block (a := ⟨B + 1 + 1, 0, none⟩) (g10 (B + 1 + 1) (by omega))).trans co0
  replace co1 := (World.cell?_of_block (a := ⟨B + 1 + 1, 1, none⟩) (g10 (B + 1 + 1) (by omega))).trans co1
  replace co2 := (World.cell?_of_block (a := ⟨B + 1 + 1, 2, none⟩) (g10 (B + 1 + 1) (by omega))).trans co2
  replace fo0 := (World.frozen?_of_block (a := ⟨B + 1 + 1, 0, none⟩) (g10 (B + 1 + 1) (by omega))).trans fo0
  replace fo1 := (World.frozen?_of_block (a := ⟨B + 1 + 1, 1, none⟩) (g10 (B + 1 + 1) (by omega))).trans fo1
  replace fo2 := (World.frozen?_of_block (a := ⟨B + 1 + 1, 2, none⟩) (g10 (B + 1 + 1) (by omega))).trans fo2
  have HS := Lib.hid (sort_arr (W := W2) (B := B + 1) (by omega) hk3 (by omega) g4 g5 g6 g7 g8 g9 HM.out)
  have G1 := Lib.hid g1
  have G2 := Lib.hid g2
  clear g1 g4 g5 g6 g7 g8 g9 g10 hW2 hset cx0 cx1 cx2 fx0 fx1 fx2 g2
  go_upto_region 3 with (go_at_call 80; (with_reducible refine HS.out.mono ?_); rintro e w3 ⟨rfl, hg, c0, c1, c2⟩)
  rw [HE.out.1] at c0
  rw [HE.out.2.1] at c1
  rw [HE.out.2.2] at c2
  have hb3 := hg.block (B + 1 + 1) (by rw [G2.out]; omega) (by simp)
  replace co0 := (World.cell?_of_block (a := ⟨B + 1 + 1, 0, none⟩) hb3).trans co0
  replace co1 := (World.cell?_of_block (a := ⟨B + 1 + 1, 1, none⟩) hb3).trans co1
  replace co2 := (World.cell?_of_block (a := ⟨B + 1 + 1, 2, none⟩) hb3).trans co2
  replace fo0 := (World.frozen?_of_block (a := ⟨B + 1 + 1, 0, none⟩) hb3).trans fo0
  replace fo1 := (World.frozen?_of_block (a := ⟨B + 1 + 1, 1, none⟩) hb3).trans fo1
  replace fo2 := (World.frozen?_of_block (a := ⟨B + 1 + 1, 2, none⟩) hb3).trans fo2
  have HB3 := Lib.hid (G1.out.grown hg (by rw [G2.out, HBB.out]; omega) (fun r hr => by injection hr with hr; rw [HBB.out]; omega))
  clear hg hb3 HS
  go_wp2_with fail
  all_goals (refine bodyPost_ret (v := sv m0 m1 m2) (by simp [results, Try.results73, go_sem, co0, co1, co2]) rfl ⟨rfl, ?_⟩; (repeat (refine Below.setCell ?_ (by show w.heap.size ≤ B + 1 + 1; rw [HBB.out]; omega) _)); exact HB3.out)
set_option maxHeartbeats 8000000 in
set_option maxRecDepth 100000 in
theorem moved1 (k : Nat) (hk1 : 2 ≤ k) (hk3 : k ≤ 3) (s0 s1 s2 : Int) (A : Option Addr) (n c : Nat) (x0 x1 x2 f : Int) {M : List Int} (hM : ((T3 k x0 f x2).mergeSort fun x y => decide (x ≤ y)) = M) (w : World) :
    Calls Try.prog 73 #[hv k s0 s1 s2 (.slice A n c), sv x0 x1 x2, .int .i64 1, .int .i64 f] w fun e w' => e = .returned (sv (M.getD 0 x0) (M.getD 1 f) (M.getD 2 x2)) ∧ Below w.heap.size w w' := by
  obtain ⟨B, hB⟩ : ∃ B, w.heap.size = B := ⟨_, rfl⟩
  obtain ⟨m0, e0⟩ : ∃ m, M.getD 0 x0 = m := ⟨_, rfl⟩
  obtain ⟨m1, e1⟩ : ∃ m, M.getD 1 f = m := ⟨_, rfl⟩
  obtain ⟨m2, e2⟩ : ∃ m, M.getD 2 x2 = m := ⟨_, rfl⟩
  rw [e0, e1, e2]
  have HM := Lib.hid hM
  have HE := Lib.hid (And.intro e0 (And.intro e1 e2))
  clear hM e0 e1 e2
  have hk3' : (k : Int) ≤ 3 := by omega
  have hk0' : (0 : Int) ≤ (k : Int) := by omega
  go_enter Try.func73, Try.ntmps73
  go_upto_region 1 with fail
  have hB1 : Below w.heap.size w (((w.alloc (Obj.cells #[Value.int IntKind.i64 ↑k, Value.int IntKind.i64 s0, Value.int IntKind.i64 s1, Value.int IntKind.i64 s2, Value.slice A n c] 54)).alloc (Obj.cells #[Value.int IntKind.i64 x0, Value.int IntKind.i64 x1, Value.int IntKind.i64 x2] 52)).alloc (Obj.cells #[Value.int IntKind.i64 0, Value.int IntKind.i64 0, Value.int IntKind.i64 0] 52)) := below_new _ _ (below_new _ _ (below_new _ _ (Below.refl _ _) _) _) _
  have hz1 : (((w.alloc (Obj.cells #[Value.int IntKind.i64 ↑k, Value.int IntKind.i64 s0, Value.int IntKind.i64 s1, Value.int IntKind.i64 s2, Value.slice A n c] 54)).alloc (Obj.cells #[Value.int IntKind.i64 x0, Value.int IntKind.i64 x1, Value.int IntKind.i64 x2] 52)).alloc (Obj.cells #[Value.int IntKind.i64 0, Value.int IntKind.i64 0, Value.int IntKind.i64 0] 52)).heap.size = B + 3 := by simp [hB]
  have hk0 : (((w.alloc (Obj.cells #[Value.int IntKind.i64 ↑k, Value.int IntKind.i64 s0, Value.int IntKind.i64 s1, Value.int IntKind.i64 s2, Value.slice A n c] 54)).alloc (Obj.cells #[Value.int IntKind.i64 x0, Value.int IntKind.i64 x1, Value.int IntKind.i64 x2] 52)).alloc (Obj.cells #[Value.int IntKind.i64 0, Value.int IntKind.i64 0, Value.int IntKind.i64 0] 52)).cell? ⟨B, 0, none⟩ = some (.int .i64 (k : Int)) := by rw [← hB]; simp [go_sem]
  have cx0 : (((w.alloc (Obj.cells #[Value.int IntKind.i64 ↑k, Value.int IntKind.i64 s0, Value.int IntKind.i64 s1, Value.int IntKind.i64 s2, Value.slice A n c] 54)).alloc (Obj.cells #[Value.int IntKind.i64 x0, Value.int IntKind.i64 x1, Value.int IntKind.i64 x2] 52)).alloc (Obj.cells #[Value.int IntKind.i64 0, Value.int IntKind.i64 0, Value.int IntKind.i64 0] 52)).cell? ⟨B + 1, 0, none⟩ = some (.int .i64 x0) := by rw [← hB]; simp [go_sem]
  have fx0 : (((w.alloc (Obj.cells #[Value.int IntKind.i64 ↑k, Value.int IntKind.i64 s0, Value.int IntKind.i64 s1, Value.int IntKind.i64 s2, Value.slice A n c] 54)).alloc (Obj.cells #[Value.int IntKind.i64 x0, Value.int IntKind.i64 x1, Value.int IntKind.i64 x2] 52)).alloc (Obj.cells #[Value.int IntKind.i64 0, Value.int IntKind.i64 0, Value.int IntKind.i64 0] 52)).frozen? ⟨B + 1, 0, none⟩ = false := by rw [← hB]; simp [go_sem]
  have co0 : (((w.alloc (Obj.cells #[Value.int IntKind.i64 ↑k, Value.int IntKind.i64 s0, Value.int IntKind.i64 s1, Value.int IntKind.i64 s2, Value.slice A n c] 54)).alloc (Obj.cells #[Value.int IntKind.i64 x0, Value.int IntKind.i64 x1, Value.int IntKind.i64 x2] 52)).alloc (Obj.cells #[Value.int IntKind.i64 0, Value.int IntKind.i64 0, Value.int IntKind.i64 0] 52)).cell? ⟨B + 1 + 1, 0, none⟩ = some (.int .i64 0) := by rw [← hB]; simp [go_sem]
  have fo0 : (((w.alloc (Obj.cells #[Value.int IntKind.i64 ↑k, Value.int IntKind.i64 s0, Value.int IntKind.i64 s1, Value.int IntKind.i64 s2, Value.slice A n c] 54)).alloc (Obj.cells #[Value.int IntKind.i64 x0, Value.int IntKind.i64 x1, Value.int IntKind.i64 x2] 52)).alloc (Obj.cells #[Value.int IntKind.i64 0, Value.int IntKind.i64 0, Value.int IntKind.i64 0] 52)).frozen? ⟨B + 1 + 1, 0, none⟩ = false := by rw [← hB]; simp [go_sem]
  have cx1 : (((w.alloc (Obj.cells #[Value.int IntKind.i64 ↑k, Value.int IntKind.i64 s0, Value.int IntKind.i64 s1, Value.int IntKind.i64 s2, Value.slice A n c] 54)).alloc (Obj.cells #[Value.int IntKind.i64 x0, Value.int IntKind.i64 x1, Value.int IntKind.i64 x2] 52)).alloc (Obj.cells #[Value.int IntKind.i64 0, Value.int IntKind.i64 0, Value.int IntKind.i64 0] 52)).cell? ⟨B + 1, 1, none⟩ = some (.int .i64 x1) := by rw [← hB]; simp [go_sem]
  have fx1 : (((w.alloc (Obj.cells #[Value.int IntKind.i64 ↑k, Value.int IntKind.i64 s0, Value.int IntKind.i64 s1, Value.int IntKind.i64 s2, Value.slice A n c] 54)).alloc (Obj.cells #[Value.int IntKind.i64 x0, Value.int IntKind.i64 x1, Value.int IntKind.i64 x2] 52)).alloc (Obj.cells #[Value.int IntKind.i64 0, Value.int IntKind.i64 0, Value.int IntKind.i64 0] 52)).frozen? ⟨B + 1, 1, none⟩ = false := by rw [← hB]; simp [go_sem]
  have co1 : (((w.alloc (Obj.cells #[Value.int IntKind.i64 ↑k, Value.int IntKind.i64 s0, Value.int IntKind.i64 s1, Value.int IntKind.i64 s2, Value.slice A n c] 54)).alloc (Obj.cells #[Value.int IntKind.i64 x0, Value.int IntKind.i64 x1, Value.int IntKind.i64 x2] 52)).alloc (Obj.cells #[Value.int IntKind.i64 0, Value.int IntKind.i64 0, Value.int IntKind.i64 0] 52)).cell? ⟨B + 1 + 1, 1, none⟩ = some (.int .i64 0) := by rw [← hB]; simp [go_sem]
  have fo1 : (((w.alloc (Obj.cells #[Value.int IntKind.i64 ↑k, Value.int IntKind.i64 s0, Value.int IntKind.i64 s1, Value.int IntKind.i64 s2, Value.slice A n c] 54)).alloc (Obj.cells #[Value.int IntKind.i64 x0, Value.int IntKind.i64 x1, Value.int IntKind.i64 x2] 52)).alloc (Obj.cells #[Value.int IntKind.i64 0, Value.int IntKind.i64 0, Value.int IntKind.i64 0] 52)).frozen? ⟨B + 1 + 1, 1, none⟩ = false := by rw [← hB]; simp [go_sem]
  have cx2 : (((w.alloc (Obj.cells #[Value.int IntKind.i64 ↑k, Value.int IntKind.i64 s0, Value.int IntKind.i64 s1, Value.int IntKind.i64 s2, Value.slice A n c] 54)).alloc (Obj.cells #[Value.int IntKind.i64 x0, Value.int IntKind.i64 x1, Value.int IntKind.i64 x2] 52)).alloc (Obj.cells #[Value.int IntKind.i64 0, Value.int IntKind.i64 0, Value.int IntKind.i64 0] 52)).cell? ⟨B + 1, 2, none⟩ = some (.int .i64 x2) := by rw [← hB]; simp [go_sem]
  have fx2 : (((w.alloc (Obj.cells #[Value.int IntKind.i64 ↑k, Value.int IntKind.i64 s0, Value.int IntKind.i64 s1, Value.int IntKind.i64 s2, Value.slice A n c] 54)).alloc (Obj.cells #[Value.int IntKind.i64 x0, Value.int IntKind.i64 x1, Value.int IntKind.i64 x2] 52)).alloc (Obj.cells #[Value.int IntKind.i64 0, Value.int IntKind.i64 0, Value.int IntKind.i64 0] 52)).frozen? ⟨B + 1, 2, none⟩ = false := by rw [← hB]; simp [go_sem]
  have co2 : (((w.alloc (Obj.cells #[Value.int IntKind.i64 ↑k, Value.int IntKind.i64 s0, Value.int IntKind.i64 s1, Value.int IntKind.i64 s2, Value.slice A n c] 54)).alloc (Obj.cells #[Value.int IntKind.i64 x0, Value.int IntKind.i64 x1, Value.int IntKind.i64 x2] 52)).alloc (Obj.cells #[Value.int IntKind.i64 0, Value.int IntKind.i64 0, Value.int IntKind.i64 0] 52)).cell? ⟨B + 1 + 1, 2, none⟩ = some (.int .i64 0) := by rw [← hB]; simp [go_sem]
  have fo2 : (((w.alloc (Obj.cells #[Value.int IntKind.i64 ↑k, Value.int IntKind.i64 s0, Value.int IntKind.i64 s1, Value.int IntKind.i64 s2, Value.slice A n c] 54)).alloc (Obj.cells #[Value.int IntKind.i64 x0, Value.int IntKind.i64 x1, Value.int IntKind.i64 x2] 52)).alloc (Obj.cells #[Value.int IntKind.i64 0, Value.int IntKind.i64 0, Value.int IntKind.i64 0] 52)).frozen? ⟨B + 1 + 1, 2, none⟩ = false := by rw [← hB]; simp [go_sem]
  generalize (((w.alloc (Obj.cells #[Value.int IntKind.i64 ↑k, Value.int IntKind.i64 s0, Value.int IntKind.i64 s1, Value.int IntKind.i64 s2, Value.slice A n c] 54)).alloc (Obj.cells #[Value.int IntKind.i64 x0, Value.int IntKind.i64 x1, Value.int IntKind.i64 x2] 52)).alloc (Obj.cells #[Value.int IntKind.i64 0, Value.int IntKind.i64 0, Value.int IntKind.i64 0] 52)) = W1 at *
  have hset : ∀ W2, W2 = W1.setCell ⟨B + 1, 1, none⟩ (.int .i64 f) → Below w.heap.size w W2 ∧ W2.heap.size = B + 3 ∧ W2.cell? ⟨B, 0, none⟩ = some (.int .i64 (k : Int)) ∧ W2.cell? ⟨B + 1, 0, none⟩ = some (.int .i64 x0) ∧ W2.cell? ⟨B + 1, 1, none⟩ = some (.int .i64 f) ∧ W2.cell? ⟨B + 1, 2, none⟩ = some (.int .i64 x2) ∧ W2.frozen? ⟨B + 1, 0, none⟩ = false ∧ W2.frozen? ⟨B + 1, 1, none⟩ = false ∧ W2.frozen? ⟨B + 1, 2, none⟩ = false ∧ (∀ b, b ≠ B + 1 → W2.heap[b]? = W1.heap[b]?) := by
    rintro W2 rfl
    refine ⟨hB1.setCell (by show w.heap.size ≤ B + 1; omega) _, ?_, ?_, ?_, ?_, ?_, ?_, ?_, ?_, ?_⟩
    · simp [World.setCell, hz1]
    · simp [go_sem, hk0]
    · simp [go_sem, cx0]
    · simp [go_sem, cx1]
    · simp [go_sem, cx2]
    · rw [World.frozen?_setCell]; exact fx0
    · rw [World.frozen?_setCell]; exact fx1
    · rw [World.frozen?_setCell]; exact fx2
    · intro b hb
      exact Below.heap_setCell _ _ _ _ hb
  have HBB := Lib.hid hB
  have HZ1 := Lib.hid hz1
  clear hB1 hz1 hk0 hB
  go_upto_region 2 with fail
  obtain ⟨W2, hW2⟩ : ∃ W2, W2 = W1.setCell ⟨B + 1, 1, none⟩ (.int .i64 f) := ⟨_, rfl⟩
  obtain ⟨g1, g2, g3, g4, g5, g6, g7, g8, g9, g10⟩ := hset W2 hW2
  rw [← hW2]
  replace co0 := (World.cell?_of_block (a := ⟨B + 1 + 1, 0, none⟩) (g10 (B + 1 + 1) (by omega))).trans co0
  replace co1 := (World.cell?_of_block (a := ⟨B + 1 + 1, 1, none⟩) (g10 (B + 1 + 1) (by omega))).trans co1
  replace co2 := (World.cell?_of_block (a := ⟨B + 1 + 1, 2, none⟩) (g10 (B + 1 + 1) (by omega))).trans co2
  replace fo0 := (World.frozen?_of_block (a := ⟨B + 1 + 1, 0, none⟩) (g10 (B + 1 + 1) (by omega))).trans fo0
  replace fo1 := (World.frozen?_of_block (a := ⟨B + 1 + 1, 1, none⟩) (g10 (B + 1 + 1) (by omega))).trans fo1
  replace fo2 := (World.frozen?_of_block (a := ⟨B + 1 + 1, 2, none⟩) (g10 (B + 1 + 1) (by omega))).trans fo2
  have HS := Lib.hid (sort_arr (W := W2) (B := B + 1) (by omega) hk3 (by omega) g4 g5 g6 g7 g8 g9 HM.out)
  have G1 := Lib.hid g1
  have G2 := Lib.hid g2
  clear g1 g4 g5 g6 g7 g8 g9 g10 hW2 hset cx0 cx1 cx2 fx0 fx1 fx2 g2
  go_upto_region 3 with (go_at_call 80; (with_reducible refine HS.out.mono ?_); rintro e w3 ⟨rfl, hg, c0, c1, c2⟩)
  rw [HE.out.1] at c0
  rw [HE.out.2.1] at c1
  rw [HE.out.2.2] at c2
  have hb3 := hg.block (B + 1 + 1) (by rw [G2.out]; omega) (by simp)
  replace co0 := (World.cell?_of_block (a := ⟨B + 1 + 1, 0, none⟩) hb3).trans co0
  replace co1 := (World.cell?_of_block (a := ⟨B + 1 + 1, 1, none⟩) hb3).trans co1
  replace co2 := (World.cell?_of_block (a := ⟨B + 1 + 1, 2, none⟩) hb3).trans co2
  replace fo0 := (World.frozen?_of_block (a := ⟨B + 1 + 1, 0, none⟩) hb3).trans fo0
  replace fo1 := (World.frozen?_of_block (a := ⟨B + 1 + 1, 1, none⟩) hb3).trans fo1
  replace fo2 := (World.frozen?_of_block (a := ⟨B + 1 + 1, 2, none⟩) hb3).trans fo2
  have HB3 := Lib.hid (G1.out.grown hg (by rw [G2.out, HBB.out]; omega) (fun r hr => by injection hr with hr; rw [HBB.out]; omega))
  clear hg hb3 HS
  go_wp2_with fail
  all_goals (refine bodyPost_ret (v := sv m0 m1 m2) (by simp [results, Try.results73, go_sem, co0, co1, co2]) rfl ⟨rfl, ?_⟩; (repeat (refine Below.setCell ?_ (by show w.heap.size ≤ B + 1 + 1; rw [HBB.out]; omega) _)); exact HB3.out)
set_option maxHeartbeats 8000000 in
set_option maxRecDepth 100000 in
theorem moved2 (k : Nat) (hk1 : 3 ≤ k) (hk3 : k ≤ 3) (s0 s1 s2 : Int) (A : Option Addr) (n c : Nat) (x0 x1 x2 f : Int) {M : List Int} (hM : ((T3 k x0 x1 f).mergeSort fun x y => decide (x ≤ y)) = M) (w : World) :
    Calls Try.prog 73 #[hv k s0 s1 s2 (.slice A n c), sv x0 x1 x2, .int .i64 2, .int .i64 f] w fun e w' => e = .returned (sv (M.getD 0 x0) (M.getD 1 x1) (M.getD 2 f)) ∧ Below w.heap.size w w' := by
  obtain ⟨B, hB⟩ : ∃ B, w.heap.size = B := ⟨_, rfl⟩
  obtain ⟨m0, e0⟩ : ∃ m, M.getD 0 x0 = m := ⟨_, rfl⟩
  obtain ⟨m1, e1⟩ : ∃ m, M.getD 1 x1 = m := ⟨_, rfl⟩
  obtain ⟨m2, e2⟩ : ∃ m, M.getD 2 f = m := ⟨_, rfl⟩
  rw [e0, e1, e2]
  have HM := Lib.hid hM
  have HE := Lib.hid (And.intro e0 (And.intro e1 e2))
  clear hM e0 e1 e2
  have hk3' : (k : Int) ≤ 3 := by omega
  have hk0' : (0 : Int) ≤ (k : Int) := by omega
  go_enter Try.func73, Try.ntmps73
  go_upto_region 1 with fail
  have hB1 : Below w.heap.size w (((w.alloc (Obj.cells #[Value.int IntKind.i64 ↑k, Value.int IntKind.i64 s0, Value.int IntKind.i64 s1, Value.int IntKind.i64 s2, Value.slice A n c] 54)).alloc (Obj.cells #[Value.int IntKind.i64 x0, Value.int IntKind.i64 x1, Value.int IntKind.i64 x2] 52)).alloc (Obj.cells #[Value.int IntKind.i64 0, Value.int IntKind.i64 0, Value.int IntKind.i64 0] 52)) := below_new _ _ (below_new _ _ (below_new _ _ (Below.refl _ _) _) _) _
  have hz1 : (((w.alloc (Obj.cells #[Value.int IntKind.i64 ↑k, Value.int IntKind.i64 s0, Value.int IntKind.i64 s1, Value.int IntKind.i64 s2, Value.slice A n c] 54)).alloc (Obj.cells #[Value.int IntKind.i64 x0, Value.int IntKind.i64 x1, Value.int IntKind.i64 x2] 52)).alloc (Obj.cells #[Value.int IntKind.i64 0, Value.int IntKind.i64 0, Value.int IntKind.i64 0] 52)).heap.size = B + 3 := by simp [hB]
  have hk0 : (((w.alloc (Obj.cells #[Value.int IntKind.i64 ↑k, Value.int IntKind.i64 s0, Value.int IntKind.i64 s1, Value.int IntKind.i64 s2, Value.slice A n c] 54)).alloc (Obj.cells #[Value.int IntKind.i64 x0, Value.int IntKind.i64 x1, Value.int IntKind.i64 x2] 52)).alloc (Obj.cells #[Value.int IntKind.i64 0, Value.int IntKind.i64 0, Value.int IntKind.i64 0] 52)).cell? ⟨B, 0, none⟩ = some (.int .i64 (k : Int)) := by rw [← hB]; simp [go_sem]
  have cx0 : (((w.alloc (Obj.cells #[Value.int IntKind.i64 ↑k, Value.int IntKind.i64 s0, Value.int IntKind.i64 s1, Value.int IntKind.i64 s2, Value.slice A n c] 54)).alloc (Obj.cells #[Value.int IntKind.i64 x0, Value.int IntKind.i64 x1, Value.int IntKind.i64 x2] 52)).alloc (Obj.cells #[Value.int IntKind.i64 0, Value.int IntKind.i64 0, Value.int IntKind.i64 0] 52)).cell? ⟨B + 1, 0, none⟩ = some (.int .i64 x0) := by rw [← hB]; simp [go_sem]
  have fx0 : (((w.alloc (Obj.cells #[Value.int IntKind.i64 ↑k, Value.int IntKind.i64 s0, Value.int IntKind.i64 s1, Value.int IntKind.i64 s2, Value.slice A n c] 54)).alloc (Obj.cells #[Value.int IntKind.i64 x0, Value.int IntKind.i64 x1, Value.int IntKind.i64 x2] 52)).alloc (Obj.cells #[Value.int IntKind.i64 0, Value.int IntKind.i64 0, Value.int IntKind.i64 0] 52)).frozen? ⟨B + 1, 0, none⟩ = false := by rw [← hB]; simp [go_sem]
  have co0 : (((w.alloc (Obj.cells #[Value.int IntKind.i64 ↑k, Value.int IntKind.i64 s0, Value.int IntKind.i64 s1, Value.int IntKind.i64 s2, Value.slice A n c] 54)).alloc (Obj.cells #[Value.int IntKind.i64 x0, Value.int IntKind.i64 x1, Value.int IntKind.i64 x2] 52)).alloc (Obj.cells #[Value.int IntKind.i64 0, Value.int IntKind.i64 0, Value.int IntKind.i64 0] 52)).cell? ⟨B + 1 + 1, 0, none⟩ = some (.int .i64 0) := by rw [← hB]; simp [go_sem]
  have fo0 : (((w.alloc (Obj.cells #[Value.int IntKind.i64 ↑k, Value.int IntKind.i64 s0, Value.int IntKind.i64 s1, Value.int IntKind.i64 s2, Value.slice A n c] 54)).alloc (Obj.cells #[Value.int IntKind.i64 x0, Value.int IntKind.i64 x1, Value.int IntKind.i64 x2] 52)).alloc (Obj.cells #[Value.int IntKind.i64 0, Value.int IntKind.i64 0, Value.int IntKind.i64 0] 52)).frozen? ⟨B + 1 + 1, 0, none⟩ = false := by rw [← hB]; simp [go_sem]
  have cx1 : (((w.alloc (Obj.cells #[Value.int IntKind.i64 ↑k, Value.int IntKind.i64 s0, Value.int IntKind.i64 s1, Value.int IntKind.i64 s2, Value.slice A n c] 54)).alloc (Obj.cells #[Value.int IntKind.i64 x0, Value.int IntKind.i64 x1, Value.int IntKind.i64 x2] 52)).alloc (Obj.cells #[Value.int IntKind.i64 0, Value.int IntKind.i64 0, Value.int IntKind.i64 0] 52)).cell? ⟨B + 1, 1, none⟩ = some (.int .i64 x1) := by rw [← hB]; simp [go_sem]
  have fx1 : (((w.alloc (Obj.cells #[Value.int IntKind.i64 ↑k, Value.int IntKind.i64 s0, Value.int IntKind.i64 s1, Value.int IntKind.i64 s2, Value.slice A n c] 54)).alloc (Obj.cells #[Value.int IntKind.i64 x0, Value.int IntKind.i64 x1, Value.int IntKind.i64 x2] 52)).alloc (Obj.cells #[Value.int IntKind.i64 0, Value.int IntKind.i64 0, Value.int IntKind.i64 0] 52)).frozen? ⟨B + 1, 1, none⟩ = false := by rw [← hB]; simp [go_sem]
  have co1 : (((w.alloc (Obj.cells #[Value.int IntKind.i64 ↑k, Value.int IntKind.i64 s0, Value.int IntKind.i64 s1, Value.int IntKind.i64 s2, Value.slice A n c] 54)).alloc (Obj.cells #[Value.int IntKind.i64 x0, Value.int IntKind.i64 x1, Value.int IntKind.i64 x2] 52)).alloc (Obj.cells #[Value.int IntKind.i64 0, Value.int IntKind.i64 0, Value.int IntKind.i64 0] 52)).cell? ⟨B + 1 + 1, 1, none⟩ = some (.int .i64 0) := by rw [← hB]; simp [go_sem]
  have fo1 : (((w.alloc (Obj.cells #[Value.int IntKind.i64 ↑k, Value.int IntKind.i64 s0, Value.int IntKind.i64 s1, Value.int IntKind.i64 s2, Value.slice A n c] 54)).alloc (Obj.cells #[Value.int IntKind.i64 x0, Value.int IntKind.i64 x1, Value.int IntKind.i64 x2] 52)).alloc (Obj.cells #[Value.int IntKind.i64 0, Value.int IntKind.i64 0, Value.int IntKind.i64 0] 52)).frozen? ⟨B + 1 + 1, 1, none⟩ = false := by rw [← hB]; simp [go_sem]
  have cx2 : (((w.alloc (Obj.cells #[Value.int IntKind.i64 ↑k, Value.int IntKind.i64 s0, Value.int IntKind.i64 s1, Value.int IntKind.i64 s2, Value.slice A n c] 54)).alloc (Obj.cells #[Value.int IntKind.i64 x0, Value.int IntKind.i64 x1, Value.int IntKind.i64 x2] 52)).alloc (Obj.cells #[Value.int IntKind.i64 0, Value.int IntKind.i64 0, Value.int IntKind.i64 0] 52)).cell? ⟨B + 1, 2, none⟩ = some (.int .i64 x2) := by rw [← hB]; simp [go_sem]
  have fx2 : (((w.alloc (Obj.cells #[Value.int IntKind.i64 ↑k, Value.int IntKind.i64 s0, Value.int IntKind.i64 s1, Value.int IntKind.i64 s2, Value.slice A n c] 54)).alloc (Obj.cells #[Value.int IntKind.i64 x0, Value.int IntKind.i64 x1, Value.int IntKind.i64 x2] 52)).alloc (Obj.cells #[Value.int IntKind.i64 0, Value.int IntKind.i64 0, Value.int IntKind.i64 0] 52)).frozen? ⟨B + 1, 2, none⟩ = false := by rw [← hB]; simp [go_sem]
  have co2 : (((w.alloc (Obj.cells #[Value.int IntKind.i64 ↑k, Value.int IntKind.i64 s0, Value.int IntKind.i64 s1, Value.int IntKind.i64 s2, Value.slice A n c] 54)).alloc (Obj.cells #[Value.int IntKind.i64 x0, Value.int IntKind.i64 x1, Value.int IntKind.i64 x2] 52)).alloc (Obj.cells #[Value.int IntKind.i64 0, Value.int IntKind.i64 0, Value.int IntKind.i64 0] 52)).cell? ⟨B + 1 + 1, 2, none⟩ = some (.int .i64 0) := by rw [← hB]; simp [go_sem]
  have fo2 : (((w.alloc (Obj.cells #[Value.int IntKind.i64 ↑k, Value.int IntKind.i64 s0, Value.int IntKind.i64 s1, Value.int IntKind.i64 s2, Value.slice A n c] 54)).alloc (Obj.cells #[Value.int IntKind.i64 x0, Value.int IntKind.i64 x1, Value.int IntKind.i64 x2] 52)).alloc (Obj.cells #[Value.int IntKind.i64 0, Value.int IntKind.i64 0, Value.int IntKind.i64 0] 52)).frozen? ⟨B + 1 + 1, 2, none⟩ = false := by rw [← hB]; simp [go_sem]
  generalize (((w.alloc (Obj.cells #[Value.int IntKind.i64 ↑k, Value.int IntKind.i64 s0, Value.int IntKind.i64 s1, Value.int IntKind.i64 s2, Value.slice A n c] 54)).alloc (Obj.cells #[Value.int IntKind.i64 x0, Value.int IntKind.i64 x1, Value.int IntKind.i64 x2] 52)).alloc (Obj.cells #[Value.int IntKind.i64 0, Value.int IntKind.i64 0, Value.int IntKind.i64 0] 52)) = W1 at *
  have hset : ∀ W2, W2 = W1.setCell ⟨B + 1, 2, none⟩ (.int .i64 f) → Below w.heap.size w W2 ∧ W2.heap.size = B + 3 ∧ W2.cell? ⟨B, 0, none⟩ = some (.int .i64 (k : Int)) ∧ W2.cell? ⟨B + 1, 0, none⟩ = some (.int .i64 x0) ∧ W2.cell? ⟨B + 1, 1, none⟩ = some (.int .i64 x1) ∧ W2.cell? ⟨B + 1, 2, none⟩ = some (.int .i64 f) ∧ W2.frozen? ⟨B + 1, 0, none⟩ = false ∧ W2.frozen? ⟨B + 1, 1, none⟩ = false ∧ W2.frozen? ⟨B + 1, 2, none⟩ = false ∧ (∀ b, b ≠ B + 1 → W2.heap[b]? = W1.heap[b]?) := by
    rintro W2 rfl
    refine ⟨hB1.setCell (by show w.heap.size ≤ B + 1; omega) _, ?_, ?_, ?_, ?_, ?_, ?_, ?_, ?_, ?_⟩
    · simp [World.setCell, hz1]
    · simp [go_sem, hk0]
    · simp [go_sem, cx0]
    · simp [go_sem, cx1]
    · simp [go_sem, cx2]
    · rw [World.frozen?_setCell]; exact fx0
    · rw [World.frozen?_setCell]; exact fx1
    · rw [World.frozen?_setCell]; exact fx2
    · intro b hb
      exact Below.heap_setCell _ _ _ _ hb
  have HBB := Lib.hid hB
  have HZ1 := Lib.hid hz1
  clear hB1 hz1 hk0 hB
  go_upto_region 2 with fail
  obtain ⟨W2, hW2⟩ : ∃ W2, W2 = W1.setCell ⟨B + 1, 2, none⟩ (.int .i64 f) := ⟨_, rfl⟩
  obtain ⟨g1, g2, g3, g4, g5, g6, g7, g8, g9, g10⟩ := hset W2 hW2
  rw [← hW2]
  replace co0 := (World.cell?_of_block (a := ⟨B + 1 + 1, 0, none⟩) (g10 (B + 1 + 1) (by omega))).trans co0
  replace co1 := (World.cell?_of_block (a := ⟨B + 1 + 1, 1, none⟩) (g10 (B + 1 + 1) (by omega))).trans co1
  replace co2 := (World.cell?_of_block (a := ⟨B + 1 + 1, 2, none⟩) (g10 (B + 1 + 1) (by omega))).trans co2
  replace fo0 := (World.frozen?_of_block (a := ⟨B + 1 + 1, 0, none⟩) (g10 (B + 1 + 1) (by omega))).trans fo0
  replace fo1 := (World.frozen?_of_block (a := ⟨B + 1 + 1, 1, none⟩) (g10 (B + 1 + 1) (by omega))).trans fo1
  replace fo2 := (World.frozen?_of_block (a := ⟨B + 1 + 1, 2, none⟩) (g10 (B + 1 + 1) (by omega))).trans fo2
  have HS := Lib.hid (sort_arr (W := W2) (B := B + 1) (by omega) hk3 (by omega) g4 g5 g6 g7 g8 g9 HM.out)
  have G1 := Lib.hid g1
  have G2 := Lib.hid g2
  clear g1 g4 g5 g6 g7 g8 g9 g10 hW2 hset cx0 cx1 cx2 fx0 fx1 fx2 g2
  go_upto_region 3 with (go_at_call 80; (with_reducible refine HS.out.mono ?_); rintro e w3 ⟨rfl, hg, c0, c1, c2⟩)
  rw [HE.out.1] at c0
  rw [HE.out.2.1] at c1
  rw [HE.out.2.2] at c2
  have hb3 := hg.block (B + 1 + 1) (by rw [G2.out]; omega) (by simp)
  replace co0 := (World.cell?_of_block (a := ⟨B + 1 + 1, 0, none⟩) hb3).trans co0
  replace co1 := (World.cell?_of_block (a := ⟨B + 1 + 1, 1, none⟩) hb3).trans co1
  replace co2 := (World.cell?_of_block (a := ⟨B + 1 + 1, 2, none⟩) hb3).trans co2
  replace fo0 := (World.frozen?_of_block (a := ⟨B + 1 + 1, 0, none⟩) hb3).trans fo0
  replace fo1 := (World.frozen?_of_block (a := ⟨B + 1 + 1, 1, none⟩) hb3).trans fo1
  replace fo2 := (World.frozen?_of_block (a := ⟨B + 1 + 1, 2, none⟩) hb3).trans fo2
  have HB3 := Lib.hid (G1.out.grown hg (by rw [G2.out, HBB.out]; omega) (fun r hr => by injection hr with hr; rw [HBB.out]; omega))
  clear hg hb3 HS
  go_wp2_with fail
  all_goals (refine bodyPost_ret (v := sv m0 m1 m2) (by simp [results, Try.results73, go_sem, co0, co1, co2]) rfl ⟨rfl, ?_⟩; (repeat (refine Below.setCell ?_ (by show w.heap.size ≤ B + 1 + 1; rw [HBB.out]; omega) _)); exact HB3.out)
theorem getD_pad {l : List Int} {j : Nat} (h : j < l.length) (x y : Int) : l.getD j x = l.getD j y := by
  simp [List.getD_eq_getElem?_getD, List.getElem?_eq_getElem h]
theorem getD_out {l : List Int} {j : Nat} (h : l.length ≤ j) (x : Int) : l.getD j x = x := by
  simp [List.getD_eq_getElem?_getD, List.getElem?_eq_none h]
theorem t3_self {k : Nat} {s : List Int} (hl : s.length = k) (hk : k ≤ 3) : T3 k (s.getD 0 0) (s.getD 1 0) (s.getD 2 0) = s := by
  match s, hl with
  | [], h => subst h; rfl
  | [a], h => subst h; rfl
  | [a, b], h => subst h; rfl
  | [a, b, c], h => subst h; rfl
  | _ :: _ :: _ :: _ :: _, h => simp at h; omega
theorem set_t3_0 {k : Nat} {s : List Int} (f : Int) (hl : s.length = k) (hk : k ≤ 3) (hi : 0 < k) : T3 k f (s.getD 1 0) (s.getD 2 0) = s.set 0 f := by
  match s, hl with
  | [], h => simp at h; omega
  | [a], h => subst h; first | rfl | (simp at hi)
  | [a, b], h => subst h; first | rfl | (simp at hi)
  | [a, b, c], h => subst h; rfl
  | _ :: _ :: _ :: _ :: _, h => simp at h; omega
theorem set_t3_1 {k : Nat} {s : List Int} (f : Int) (hl : s.length = k) (hk : k ≤ 3) (hi : 1 < k) : T3 k (s.getD 0 0) f (s.getD 2 0) = s.set 1 f := by
  match s, hl with
  | [], h => simp at h; omega
  | [a], h => subst h; first | rfl | (simp at hi)
  | [a, b], h => subst h; first | rfl | (simp at hi)
  | [a, b, c], h => subst h; rfl
  | _ :: _ :: _ :: _ :: _, h => simp at h; omega
theorem set_t3_2 {k : Nat} {s : List Int} (f : Int) (hl : s.length = k) (hk : k ≤ 3) (hi : 2 < k) : T3 k (s.getD 0 0) (s.getD 1 0) f = s.set 2 f := by
  match s, hl with
  | [], h => simp at h; omega
  | [a], h => subst h; first | rfl | (simp at hi)
  | [a, b], h => subst h; first | rfl | (simp at hi)
  | [a, b, c], h => subst h; rfl
  | _ :: _ :: _ :: _ :: _, h => simp at h; omega
theorem moved_c {k : Nat} (hk3 : k ≤ 3) (s0 s1 s2 : Int) (A : Option Addr) (n c : Nat) {s : List Int} (hs : Srt s) (hl : s.length = k) {i : Nat} (hi : i < k) (f : Int) (w : World) :
    Calls Try.prog 73 #[hv k s0 s1 s2 (.slice A n c), pad s, .int .i64 i, .int .i64 f] w fun e w' => e = .returned (pad (moved s i f)) ∧ Below w.heap.size w w' := by
  have hM := sort_moved f hs (show i < s.length by omega)
  have hml := moved_len (s := s) (i := i) (by omega) f
  obtain ⟨M, hMe⟩ : ∃ M, moved s i f = M := ⟨_, rfl⟩
  rw [hMe] at hM hml ⊢
  have key : ∀ j x, (s.length ≤ j → x = 0) → M.getD j x = M.getD j 0 := by
    intro j x hx
    by_cases c : j < s.length
    · exact getD_pad (by omega) _ _
    · rw [hx (by omega)]
  have hi3 : i = 0 ∨ i = 1 ∨ i = 2 := by omega
  rcases hi3 with rfl | rfl | rfl
  · have h := moved0 k (by omega) hk3 s0 s1 s2 A n c (s.getD 0 0) (s.getD 1 0) (s.getD 2 0) f (M := M) (by rw [set_t3_0 f hl hk3 (by omega)]; exact hM) w
    rw [key 0 f (fun h => by omega), key 1 _ (fun h => getD_out h 0), key 2 _ (fun h => getD_out h 0)] at h
    exact h
  · have h := moved1 k (by omega) hk3 s0 s1 s2 A n c (s.getD 0 0) (s.getD 1 0) (s.getD 2 0) f (M := M) (by rw [set_t3_1 f hl hk3 (by omega)]; exact hM) w
    rw [key 0 _ (fun h => getD_out h 0), key 1 f (fun h => by omega), key 2 _ (fun h => getD_out h 0)] at h
    exact h
  · have h := moved2 k (by omega) hk3 s0 s1 s2 A n c (s.getD 0 0) (s.getD 1 0) (s.getD 2 0) f (M := M) (by rw [set_t3_2 f hl hk3 (by omega)]; exact hM) w
    rw [key 0 _ (fun h => getD_out h 0), key 1 _ (fun h => getD_out h 0), key 2 f (fun h => by omega)] at h
    exact h
end Go.Proofs.Ytakbijpcfnipoaa.A
