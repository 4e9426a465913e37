/- What the statements of this seat lean on: the functions that they reach, walked. -/
import Derived.Maps.OwnSet
import Derived.Deep.DeepMust
import Derived.Maps.OwnOps
import Derived.Carry
import Derived.Test.YtcpojohpmcnnhaaYa7
set_option linter.unusedSimpArgs false
set_option linter.unusedVariables false

set_option linter.unusedVariables false
set_option linter.unusedSimpArgs false
namespace Go.Proofs.Ytcpojohpmcnnhaa.A
open Go.RowKit Go.Proofs.YtcpojohpmcnnhaaW.PrintWords Go.Proofs.YtcpojohpmcnnhaaW.PrintLast Go.Proofs.YtcpojohpmcnnhaaW.PrintMore
open Go.Proofs.Ytcpojohpmcnnhaa.PA
def tailI (g h s : Nat) : Int := wtI g h (2 * s % 16) + wtI g h (2 * (2 * s % 16) % 16) + wtI g h (2 * (2 * (2 * s % 16) % 16) % 16)
def bestC (g h : Nat) (now : List Int) (best : Int) : Nat → Int
  | 0 => best
  | t + 1 => min (bestC g h now best t) (now.getD t 0 + tailI g h t)
def far8 : List Int := [1048576, 1048576, 1048576, 1048576, 1048576, 1048576, 1048576, 1048576]
def nextC (g h : Nat) (now : List Int) : Nat → List Int
  | 0 => far8
  | q + 1 => (nextC g h now q).set (q % 8) (min ((nextC g h now q).getD (q % 8) 0) (now.getD (q / 2) 0 + wtI g h q))
def freeS (g h : Nat) : Nat → Int × List Int
  | 0 => (1048576, far8.set 1 (wtI g h 1))
  | k + 1 => (bestC g h (freeS g h k).2 (freeS g h k).1 8, nextC g h (freeS g h k).2 16)
theorem nextC_len (g h : Nat) (now : List Int) : ∀ q, (nextC g h now q).length = 8
  | 0 => rfl
  | q + 1 => by simp [nextC, nextC_len g h now q]
theorem freeS_len (g h : Nat) : ∀ k, (freeS g h k).2.length = 8
  | 0 => by simp [freeS, far8]
  | k + 1 => nextC_len _ _ _ _
theorem tailI_bd (g h s : Nat) : 0 ≤ tailI g h s ∧ tailI g h s ≤ 6 := by
  unfold tailI
  have h1 := wtI_bd g h (2 * s % 16)
  have h2 := wtI_bd g h (2 * (2 * s % 16) % 16)
  have h3 := wtI_bd g h (2 * (2 * (2 * s % 16) % 16) % 16)
  omega
theorem far8_bd (j : Nat) : 0 ≤ far8.getD j 0 ∧ far8.getD j 0 ≤ 1048576 := by
  unfold far8
  match j with
  | 0 | 1 | 2 | 3 | 4 | 5 | 6 | 7 => simp
  | j + 8 => simp
theorem set_bd {xs : List Int} {m : Int} (h : ∀ j, 0 ≤ xs.getD j 0 ∧ xs.getD j 0 ≤ m) {k : Nat} {v : Int} (hv : 0 ≤ v ∧ v ≤ m) (j : Nat) : 0 ≤ (xs.set k v).getD j 0 ∧ (xs.set k v).getD j 0 ≤ m := by
  by_cases e : k = j
  · subst e
    by_cases hk : k < xs.length
    · rw [getD_set_self' hk]; exact hv
    · rw [List.set_eq_of_length_le (by omega)]; exact h k
  · have : (xs.set k v).getD j 0 = xs.getD j 0 := by simp [List.getD_eq_getElem?_getD, e]
    rw [this]; exact h j
theorem nextC_bd {g h : Nat} {now : List Int} (hn : ∀ j, 0 ≤ now.getD j 0) : ∀ q j, 0 ≤ (nextC g h now q).getD j 0 ∧ (nextC g h now q).getD j 0 ≤ 1048576
  | 0, j => far8_bd j
  | q + 1, j => by
    have ih := nextC_bd (g := g) (h := h) hn q
    have h1 := ih (q % 8)
    have h2 := hn (q / 2)
    have h3 := wtI_bd g h q
    exact set_bd ih (by omega) j
theorem init_bd {v : Int} (hv : 0 ≤ v ∧ v ≤ 2) (j : Nat) : 0 ≤ (far8.set 1 v).getD j 0 ∧ (far8.set 1 v).getD j 0 ≤ 1048576 := set_bd far8_bd (by omega) j
theorem freeS0 (g h : Nat) : (freeS g h 0).2 = far8.set 1 (wtI g h 1) := by rw [freeS]
theorem freeS1 (g h k : Nat) : (freeS g h (k + 1)).2 = nextC g h (freeS g h k).2 16 := by rw [freeS]
theorem freeS2 (g h k : Nat) : (freeS g h (k + 1)).1 = bestC g h (freeS g h k).2 (freeS g h k).1 8 := by rw [freeS]
theorem nextC_succ (g h : Nat) (now : List Int) (q : Nat) : nextC g h now (q + 1) = (nextC g h now q).set (q % 8) (min ((nextC g h now q).getD (q % 8) 0) (now.getD (q / 2) 0 + wtI g h q)) := by rw [nextC]
theorem nextC_zero (g h : Nat) (now : List Int) : nextC g h now 0 = far8 := by rw [nextC]
theorem arr_over {W : World} {b : Nat} {T : TypeId} {xs : List Int} (h : W.heap[b]? = some (.cells (arr8 xs) T (0, 0))) (o : List Int) : (((((((((W.setCell ⟨b, 0, none⟩ (.int .i64 (o[0]?.getD 0))).setCell ⟨b, 1, none⟩ (.int .i64 (o[1]?.getD 0))).setCell ⟨b, 2, none⟩ (.int .i64 (o[2]?.getD 0))).setCell ⟨b, 3, none⟩ (.int .i64 (o[3]?.getD 0))).setCell ⟨b, 4, none⟩ (.int .i64 (o[4]?.getD 0))).setCell ⟨b, 5, none⟩ (.int .i64 (o[5]?.getD 0))).setCell ⟨b, 6, none⟩ (.int .i64 (o[6]?.getD 0))).setCell ⟨b, 7, none⟩ (.int .i64 (o[7]?.getD 0)))).heap[b]? = some (.cells (arr8 o) T (0, 0)) := by
  simp [World.setCell, Array.getElem?_modify, h, arr8]
theorem freeS_bd (g h : Nat) : ∀ k j, 0 ≤ (freeS g h k).2.getD j 0 ∧ (freeS g h k).2.getD j 0 ≤ 1048576
  | 0, j => by rw [freeS0]; exact init_bd (wtI_bd g h 1) j
  | k + 1, j => by
    rw [freeS1]
    exact nextC_bd (fun j => (freeS_bd g h k j).1) 16 j
theorem bestC_bd {g h : Nat} {now : List Int} {best : Int} (hn : ∀ j, 0 ≤ now.getD j 0) (hb : 0 ≤ best ∧ best ≤ 1048576) : ∀ t, 0 ≤ bestC g h now best t ∧ bestC g h now best t ≤ 1048576
  | 0 => hb
  | t + 1 => by
    have ih := bestC_bd (g := g) (h := h) hn hb t
    have h1 := hn t
    have h2 := tailI_bd g h t
    unfold bestC
    omega
theorem freeS_best (g h : Nat) : ∀ k, 0 ≤ (freeS g h k).1 ∧ (freeS g h k).1 ≤ 1048576
  | 0 => by simp [freeS]
  | k + 1 => by
    rw [freeS2]
    exact bestC_bd (fun j => (freeS_bd g h k j).1) (freeS_best g h k) 8
def fillF (k : Nat) : List Int := (List.range 8).map (fun t => if t < k then 1048576 else 0)
theorem fillF_succ {k : Nat} (hk : k < 8) : (fillF k).set k 1048576 = fillF (k + 1) := by
  match k, hk with
  | 0, _ | 1, _ | 2, _ | 3, _ | 4, _ | 5, _ | 6, _ | 7, _ => rfl
  | k + 8, h => omega
theorem fillF8 : fillF 8 = far8 := by rfl
theorem fillF_len (k : Nat) : (fillF k).length = 8 := by simp [fillF]
theorem idx8 (xs : List Int) (k : Nat) (hk : k < 8) (w : World) : (Instr.index 108 (.agg #[.int .i64 (xs[0]?.getD 0), .int .i64 (xs[1]?.getD 0), .int .i64 (xs[2]?.getD 0), .int .i64 (xs[3]?.getD 0), .int .i64 (xs[4]?.getD 0), .int .i64 (xs[5]?.getD 0), .int .i64 (xs[6]?.getD 0), .int .i64 (xs[7]?.getD 0)]) (.int .i64 (k : Int))).run Try.prog w = .ok (.int .i64 (xs.getD k 0)) w := by
  match k, hk with
  | 0, _ | 1, _ | 2, _ | 3, _ | 4, _ | 5, _ | 6, _ | 7, _ =>
    show _ = _
    kernel_rfl
  | k + 8, h => omega
set_option maxHeartbeats 8000000 in
set_option maxRecDepth 100000 in
theorem free_c (g h : Nat) (w : World) (hg : g < 16) (hh : h < 16) :
    Calls Try.prog 64 #[.agg #[.int .i64 (g : Int), .int .i64 (h : Int)]] w fun e w' => e = .returned (.int .i64 (freeS g h 64).1) ∧ Below w.heap.size w w' := by
  have eg := enters81
  unfold Enters at eg
  go_enter Try.func64, Try.ntmps64
  go_wp2_with fail
  obtain ⟨w1, hw1⟩ : ∃ w1, (w.alloc (Obj.cells #[.int .i64 (g : Int), .int .i64 (h : Int)] 77)).alloc (Obj.cells #[.int .i64 0, .int .i64 0, .int .i64 0, .int .i64 0, .int .i64 0, .int .i64 0, .int .i64 0, .int .i64 0] 108) = w1 := ⟨_, rfl⟩
  rw [hw1]
  have hz1 : w1.heap.size = w.heap.size + 2 := by rw [← hw1]; simp
  have hB1 : Below w.heap.size w w1 := by rw [← hw1]; exact ((Below.refl _ _).alloc (Nat.le_refl _) _).alloc (by simp) _
  have h0 : w1.heap[w.heap.size]? = some (.cells #[.int .i64 (g : Int), .int .i64 (h : Int)] 77 (0, 0)) := by rw [← hw1, Lib.alloc_old _ _ _ (by simp)]; exact heap_alloc_new _ _
  have h1 : w1.heap[w.heap.size + 1]? = some (.cells (arr8 (fillF 0)) 108 (0, 0)) := by
    have := heap_alloc_new (w.alloc (Obj.cells #[.int .i64 (g : Int), .int .i64 (h : Int)] 77)) (Obj.cells #[.int .i64 0, .int .i64 0, .int .i64 0, .int .i64 0, .int .i64 0, .int .i64 0, .int .i64 0, .int .i64 0] 108)
    rw [hw1] at this
    have e : (w.alloc (Obj.cells #[.int .i64 (g : Int), .int .i64 (h : Int)] 77)).heap.size = w.heap.size + 1 := by simp
    rw [e] at this
    exact this
  have HB1 := Lib.hid hB1
  have H0 := Lib.hid h0
  have H1 := Lib.hid h1
  clear hw1 hB1 h0 h1
  go_loopw [19] (fun v19 wr => ∃ k : Nat, v19 = .int .i64 (k : Int) ∧ k ≤ 8 ∧ Hid (wr.heap[w.heap.size + 1]? = some (.cells (arr8 (fillF k)) 108 (0, 0))) ∧ Hid (R.Keeps [w.heap.size + 1] w1 wr)) (fun v19 _ => 8 - (intOf v19).toNat)
  case atStart => exact ⟨0, rfl, Nat.zero_le _, H1, Lib.hid (R.Keeps.refl _ _)⟩
  case round =>
    rename World => wr
    obtain ⟨k, rfl, hk, HA, HK⟩ := hrel
    by_cases hlt : k < 8
    · have hlt' : (k : Int) < 8 := by omega
      have hk0 : (0 : Int) ≤ (k : Int) := by omega
      have f1 : wr.frozen? ⟨w.heap.size + 1, k, none⟩ = false := arr_frozen HA.out k
      have c1 : wr.cell? ⟨w.heap.size + 1, k, none⟩ = some (.int .i64 ((fillF k).getD k 0)) := arr_cell HA.out hlt
      go_wp2_with fail
      refine ⟨⟨k + 1, by go_num, by omega, ?_, Lib.hid (HK.out.setCell (fun _ => by simp) _)⟩, by simp [intOf]; omega⟩
      rw [← fillF_succ hlt]
      exact Lib.hid (arr_set HA.out (fillF_len k) hlt _)
    · obtain rfl : k = 8 := by omega
      have y0 : wr.cell? ⟨w.heap.size, 0, none⟩ = some (.int .i64 (g : Int)) := HK.out.cell (a := ⟨w.heap.size, 0, none⟩) (by simp [World.cell?, H0.out]) (by simp)
      have y1 : wr.cell? ⟨w.heap.size, 1, none⟩ = some (.int .i64 (h : Int)) := HK.out.cell (a := ⟨w.heap.size, 1, none⟩) (by simp [World.cell?, H0.out]) (by simp)
      have HWT := Lib.hid (weight_c g h 1 w.heap.size wr hg hh (by omega) y0 y1)
      have hszr := HK.out.size
      clear y0 y1
      go_wp2_with fail
      refine HWT.out.mono ?_
      rintro e w2 ⟨rfl, hB2⟩
      have hA2 : w2.heap[w.heap.size + 1]? = some (.cells (arr8 (fillF 8)) 108 (0, 0)) := (hB2.block _ (by omega)).trans HA.out
      have f1 : w2.frozen? ⟨w.heap.size + 1, 1, none⟩ = false := arr_frozen hA2 1
      have c1 : w2.cell? ⟨w.heap.size + 1, 1, none⟩ = some (.int .i64 ((fillF 8).getD 1 0)) := arr_cell hA2 (by omega)
      have hA3 : Hid ((w2.setCell ⟨w.heap.size + 1, 1, none⟩ (.int .i64 (wtI g h 1))).heap[w.heap.size + 1]? = some (.cells (arr8 (freeS g h 0).2) 108 (0, 0))) := Lib.hid (arr_set hA2 (fillF_len 8) (by omega) _)
      have hK3 : Hid (R.Keeps [w.heap.size + 1] w1 (w2.setCell ⟨w.heap.size + 1, 1, none⟩ (.int .i64 (wtI g h 1)))) := Lib.hid ((HK.out.trans (R.Keeps.of_below [] hB2) (fun k hk => by simp at hk)).setCell (fun _ => by simp) _)
      have HA2 := Lib.hid hA2
      clear hB2 hA2
      go_wp2_with fail
      clear f1 c1 HA2
      generalize w2.setCell ⟨w.heap.size + 1, 1, none⟩ (.int .i64 (wtI g h 1)) = w3 at hA3 hK3 ⊢
      go_loopw [4, 28] (fun v4 v28 wo => ∃ k : Nat, v28 = .int .i64 (k : Int) ∧ v4 = .int .i64 (freeS g h k).1 ∧ k ≤ 64 ∧ Hid (wo.heap[w.heap.size + 1]? = some (.cells (arr8 (freeS g h k).2) 108 (0, 0))) ∧ Hid (R.Keeps [w.heap.size + 1] w1 wo)) (fun _ v28 _ => 64 - (intOf v28).toNat)
      case atStart => exact ⟨0, rfl, rfl, Nat.zero_le _, hA3, hK3⟩
      case round =>
        rename World => wo
        obtain ⟨k, rfl, rfl, hk64, HA, HK⟩ := hrel
        obtain ⟨best, hbest⟩ : ∃ best, (freeS g h k).1 = best := ⟨_, rfl⟩
        obtain ⟨now, hnow⟩ : ∃ now, (freeS g h k).2 = now := ⟨_, rfl⟩
        have hbb := freeS_best g h k
        have hnb := freeS_bd g h k
        have hnl := freeS_len g h k
        have hnext : freeS g h (k + 1) = (bestC g h (freeS g h k).2 (freeS g h k).1 8, nextC g h (freeS g h k).2 16) := by rw [freeS]
        rw [hbest, hnow] at hnext
        rw [hnow] at HA hnb hnl
        rw [hbest] at hbb ⊢
        have HN := Lib.hid hnext
        have HNB := Lib.hid hnb
        have HNL := Lib.hid hnl
        have HBE := Lib.hid hbest
        clear hnext hnb hnl hnow hbest
        by_cases hk2 : k < 64
        · have hk2' : (k : Int) < 64 := by omega
          have z0 : wo.cell? ⟨w.heap.size + 1, 0, none⟩ = some (.int .i64 (now.getD 0 0)) := arr_cell HA.out (by omega)
          have z1 : wo.cell? ⟨w.heap.size + 1, 1, none⟩ = some (.int .i64 (now.getD 1 0)) := arr_cell HA.out (by omega)
          have z2 : wo.cell? ⟨w.heap.size + 1, 2, none⟩ = some (.int .i64 (now.getD 2 0)) := arr_cell HA.out (by omega)
          have z3 : wo.cell? ⟨w.heap.size + 1, 3, none⟩ = some (.int .i64 (now.getD 3 0)) := arr_cell HA.out (by omega)
          have z4 : wo.cell? ⟨w.heap.size + 1, 4, none⟩ = some (.int .i64 (now.getD 4 0)) := arr_cell HA.out (by omega)
          have z5 : wo.cell? ⟨w.heap.size + 1, 5, none⟩ = some (.int .i64 (now.getD 5 0)) := arr_cell HA.out (by omega)
          have z6 : wo.cell? ⟨w.heap.size + 1, 6, none⟩ = some (.int .i64 (now.getD 6 0)) := arr_cell HA.out (by omega)
          have z7 : wo.cell? ⟨w.heap.size + 1, 7, none⟩ = some (.int .i64 (now.getD 7 0)) := arr_cell HA.out (by omega)
          have HIX := fun (t : Nat) (ht : t < 8) => Lib.hid (idx8 now t ht)
          have hszo := HK.out.size
          go_wp2_with fail
          clear z0 z1 z2 z3 z4 z5 z6 z7
          go_loopw [4, 31] (fun v4 v31 wi => ∃ t : Nat, v31 = .int .i64 (t : Int) ∧ v4 = .int .i64 (bestC g h now best t) ∧ t ≤ 8 ∧ Hid (R.Keeps [] wo wi)) (fun _ v31 _ => 8 - (intOf v31).toNat)
          case atStart => exact ⟨0, rfl, rfl, Nat.zero_le _, Lib.hid (R.Keeps.refl _ _)⟩
          case round =>
            rename World => wi
            obtain ⟨t, rfl, rfl, ht, HKi⟩ := hrel
            obtain ⟨bc, hbc⟩ : ∃ bc, bestC g h now best t = bc := ⟨_, rfl⟩
            have hbcb := bestC_bd (g := g) (h := h) (now := now) (best := best) (fun j => (HNB.out j).1) hbb t
            have hbn : bestC g h now best (t + 1) = min bc (now.getD t 0 + tailI g h t) := by rw [← hbc]; rfl
            rw [hbc] at hbcb ⊢
            have HBC := Lib.hid hbc
            by_cases ht8 : t < 8
            · have ht8' : (t : Int) < 8 := by omega
              have hix := (HIX t ht8).out
              have hnt := HNB.out t
              obtain ⟨y, hy⟩ : ∃ y, now.getD t 0 = y := ⟨_, rfl⟩
              rw [hy] at hix hnt hbn
              obtain ⟨a1, ha1⟩ : ∃ a1, 2 * t % 16 = a1 := ⟨_, rfl⟩
              obtain ⟨a2, ha2⟩ : ∃ a2, 2 * a1 % 16 = a2 := ⟨_, rfl⟩
              obtain ⟨a3, ha3⟩ : ∃ a3, 2 * a2 % 16 = a3 := ⟨_, rfl⟩
              have ht1 : tailI g h t = wtI g h a1 + wtI g h a2 + wtI g h a3 := by unfold tailI; rw [ha1, ha2, ha3]
              have HA1 : Hid (bits BinOp.and IntKind.i64 ((t : Int) * 2) 15 = (a1 : Int)) := by rw [← ha1]; exact Lib.hid (and_tab ⟨t, by omega⟩)
              have HA2 : Hid (bits BinOp.and IntKind.i64 ((a1 : Int) * 2) 15 = (a2 : Int)) := by rw [← ha2]; exact Lib.hid (and_tab ⟨a1, by omega⟩)
              have HA3 : Hid (bits BinOp.and IntKind.i64 ((a2 : Int) * 2) 15 = (a3 : Int)) := by rw [← ha3]; exact Lib.hid (and_tab ⟨a2, by omega⟩)
              have hq1 : a1 < 16 := by omega
              have hq2 : a2 < 16 := by omega
              have hq3 : a3 < 16 := by omega
              have b1 := wtI_bd g h a1
              have b2 := wtI_bd g h a2
              have b3 := wtI_bd g h a3
              have y0 : wo.cell? ⟨w.heap.size, 0, none⟩ = some (.int .i64 (g : Int)) := HK.out.cell (a := ⟨w.heap.size, 0, none⟩) (by simp [World.cell?, H0.out]) (by simp)
              have y1 : wo.cell? ⟨w.heap.size, 1, none⟩ = some (.int .i64 (h : Int)) := HK.out.cell (a := ⟨w.heap.size, 1, none⟩) (by simp [World.cell?, H0.out]) (by simp)
              have CW : Hid (∀ (W : World) (u : Nat), u < 16 → R.Keeps [] wo W → Calls Try.prog 81 #[.int .i64 (u : Int), .pointer (some ⟨w.heap.size, 0, none⟩)] W fun e w' => e = .returned (.int .i64 (wtI g h u)) ∧ Below W.heap.size W w') := Lib.hid (fun W u hu hW => weight_c g h u w.heap.size W hg hh hu (hW.cell y0 (by simp)) (hW.cell y1 (by simp)))
              obtain ⟨p1, hp1⟩ : ∃ p1, wtI g h a1 = p1 := ⟨_, rfl⟩
              obtain ⟨p2, hp2⟩ : ∃ p2, wtI g h a2 = p2 := ⟨_, rfl⟩
              obtain ⟨p3, hp3⟩ : ∃ p3, wtI g h a3 = p3 := ⟨_, rfl⟩
              rw [hp1] at b1 ht1
              rw [hp2] at b2 ht1
              rw [hp3] at b3 ht1
              rw [ht1] at hbn
              have HBN := Lib.hid hbn
              have HP := Lib.hid (And.intro hp1 (And.intro hp2 hp3))
              clear hbn ht1 hp1 hp2 hp3 ha1 ha2 ha3 y0 y1 hy hbc
              go_wp2_with fail
              refine wp_loop_rounds 4 ?_
              rw [rounds_succ]
              go_wp2_with fail
              rw [HA1.out]
              refine (CW.out _ a1 hq1 HKi.out).mono ?_
              rintro e w4 ⟨rfl, hB4⟩
              rw [HP.out.1]
              have HK4 := Lib.hid (HKi.out.trans (R.Keeps.of_below [] hB4) (fun k hk => by simp at hk))
              clear hB4
              go_wp2_with fail
              rw [rounds_succ]
              go_wp2_with fail
              rw [HA2.out]
              refine (CW.out _ a2 hq2 HK4.out).mono ?_
              rintro e w5 ⟨rfl, hB5⟩
              rw [HP.out.2.1]
              have HK5 := Lib.hid (HK4.out.trans (R.Keeps.of_below [] hB5) (fun k hk => by simp at hk))
              clear hB5
              go_wp2_with fail
              rw [rounds_succ]
              go_wp2_with fail
              rw [HA3.out]
              refine (CW.out _ a3 hq3 HK5.out).mono ?_
              rintro e w6 ⟨rfl, hB6⟩
              rw [HP.out.2.2]
              have HK6 := Lib.hid (HK5.out.trans (R.Keeps.of_below [] hB6) (fun k hk => by simp at hk))
              clear hB6
              go_wp2_with fail
              rw [rounds_succ]
              go_wp2_with fail
              refine ⟨⟨t + 1, by go_num, by rw [HBN.out, Int.add_assoc, Int.add_assoc, Int.add_assoc], by omega, HK6⟩, by simp [intOf]; omega⟩
            · obtain rfl : t = 8 := by omega
              simp only [show ((8 : Nat) : Int) = 8 from rfl]
              rw [← hbc]
              clear HBC hbn hbcb hbc
              go_wp2_with fail
              obtain ⟨wn, hwn⟩ : ∃ wn, wi.alloc (Obj.cells #[.int .i64 0, .int .i64 0, .int .i64 0, .int .i64 0, .int .i64 0, .int .i64 0, .int .i64 0, .int .i64 0] 108) = wn := ⟨_, rfl⟩
              rw [hwn]
              obtain ⟨nb, hnb⟩ : ∃ nb, wi.heap.size = nb := ⟨_, rfl⟩
              have hn : wn.heap[nb]? = some (.cells (arr8 (fillF 0)) 108 (0, 0)) := by
                rw [← hwn, ← hnb]
                exact heap_alloc_new _ _
              have hKn : R.Keeps [] wo wn := by rw [← hwn]; exact HKi.out.alloc _
              have hszi := HKi.out.size
              rw [hnb] at hszi ⊢
              have HNn := Lib.hid hn
              have HKn := Lib.hid hKn
              clear hwn hn hKn hnb
              go_loopw [52] (fun v52 wr => ∃ q : Nat, v52 = .int .i64 (q : Int) ∧ q ≤ 8 ∧ Hid (wr.heap[nb]? = some (.cells (arr8 (fillF q)) 108 (0, 0))) ∧ Hid (R.Keeps [] wo wr)) (fun v52 _ => 8 - (intOf v52).toNat)
              case atStart => exact ⟨0, rfl, Nat.zero_le _, HNn, HKn⟩
              case round =>
                rename World => wr
                obtain ⟨q, rfl, hq, HA', HK'⟩ := hrel
                by_cases hlt : q < 8
                · have hlt' : (q : Int) < 8 := by omega
                  have hq0 : (0 : Int) ≤ (q : Int) := by omega
                  have f1 : wr.frozen? ⟨nb, q, none⟩ = false := arr_frozen HA'.out q
                  have c1 : wr.cell? ⟨nb, q, none⟩ = some (.int .i64 ((fillF q).getD q 0)) := arr_cell HA'.out hlt
                  go_wp2_with fail
                  refine ⟨⟨q + 1, by go_num, by omega, ?_, Lib.hid (HK'.out.setCell (fun h => by simp at h; omega) _)⟩, by simp [intOf]; omega⟩
                  rw [← fillF_succ hlt]
                  exact Lib.hid (arr_set HA'.out (fillF_len q) hlt _)
                · obtain rfl : q = 8 := by omega
                  simp only [show ((8 : Nat) : Int) = 8 from rfl]
                  have hAw : wr.heap[w.heap.size + 1]? = some (.cells (arr8 now) 108 (0, 0)) := (HK'.out.block _ (by omega) (by simp)).trans HA.out
                  have z0 : wr.cell? ⟨w.heap.size + 1, 0, none⟩ = some (.int .i64 (now.getD 0 0)) := arr_cell hAw (by omega)
                  have z1 : wr.cell? ⟨w.heap.size + 1, 1, none⟩ = some (.int .i64 (now.getD 1 0)) := arr_cell hAw (by omega)
                  have z2 : wr.cell? ⟨w.heap.size + 1, 2, none⟩ = some (.int .i64 (now.getD 2 0)) := arr_cell hAw (by omega)
                  have z3 : wr.cell? ⟨w.heap.size + 1, 3, none⟩ = some (.int .i64 (now.getD 3 0)) := arr_cell hAw (by omega)
                  have z4 : wr.cell? ⟨w.heap.size + 1, 4, none⟩ = some (.int .i64 (now.getD 4 0)) := arr_cell hAw (by omega)
                  have z5 : wr.cell? ⟨w.heap.size + 1, 5, none⟩ = some (.int .i64 (now.getD 5 0)) := arr_cell hAw (by omega)
                  have z6 : wr.cell? ⟨w.heap.size + 1, 6, none⟩ = some (.int .i64 (now.getD 6 0)) := arr_cell hAw (by omega)
                  have z7 : wr.cell? ⟨w.heap.size + 1, 7, none⟩ = some (.int .i64 (now.getD 7 0)) := arr_cell hAw (by omega)
                  have hA8 : wr.heap[nb]? = some (.cells (arr8 (nextC g h now 0)) 108 (0, 0)) := by rw [nextC_zero, ← fillF8]; exact HA'.out
                  have HA8 := Lib.hid hA8
                  clear hA8 hAw
                  go_wp2_with fail
                  clear z0 z1 z2 z3 z4 z5 z6 z7
                  go_loopw [59] (fun v59 wq => ∃ u : Nat, v59 = .int .i64 (u : Int) ∧ u ≤ 8 ∧ Hid (wq.heap[nb]? = some (.cells (arr8 (nextC g h now (2 * u))) 108 (0, 0))) ∧ Hid (R.Keeps [] wo wq)) (fun v59 _ => 8 - (intOf v59).toNat)
                  case atStart => exact ⟨0, rfl, Nat.zero_le _, HA8, HK'⟩
                  case round =>
                    rename World => wq
                    obtain ⟨u, rfl, hu, HAq, HKq⟩ := hrel
                    by_cases hu8 : u < 8
                    · have hu8' : (u : Int) < 8 := by omega
                      have hu0 : (0 : Int) ≤ (u : Int) := by omega
                      have hix := (HIX u hu8).out
                      have hnt := HNB.out u
                      obtain ⟨y, hy⟩ : ∃ y, now.getD u 0 = y := ⟨_, rfl⟩
                      rw [hy] at hix hnt
                      have HY := Lib.hid hy
                      clear hy
                      go_wp2_with fail
                      clear hix
                      go_loopw [63] (fun v63 wz => ∃ c : Nat, v63 = .int .i64 (c : Int) ∧ c ≤ 2 ∧ Hid (wz.heap[nb]? = some (.cells (arr8 (nextC g h now (2 * u + c))) 108 (0, 0))) ∧ Hid (R.Keeps [] wo wz)) (fun v63 _ => 2 - (intOf v63).toNat)
                      case atStart => exact ⟨0, rfl, Nat.zero_le _, HAq, HKq⟩
                      case round =>
                        rename World => wz
                        obtain ⟨c, rfl, hc, HAz, HKz⟩ := hrel
                        by_cases hc2 : c < 2
                        · have hc2' : (c : Int) < 2 := by omega
                          obtain ⟨v, hv⟩ : ∃ v, 2 * u + c = v := ⟨_, rfl⟩
                          obtain ⟨m, hm⟩ : ∃ m, v % 8 = m := ⟨_, rfl⟩
                          have hv16 : v < 16 := by omega
                          have hm8 : m < 8 := by omega
                          have hu2 : v / 2 = u := by omega
                          have hor : bits BinOp.or IntKind.i64 ((u : Int) * 2) (c : Int) = (v : Int) := by
                            have := or_tab2 ⟨u, hu8⟩
                            obtain rfl | rfl : c = 0 ∨ c = 1 := by omega
                            · rw [← hv]; exact this.1
                            · rw [← hv]; exact this.2
                          have hand : bits BinOp.and IntKind.i64 (v : Int) 7 = (m : Int) := by
                            rw [← hm]; exact and7_tab ⟨v, hv16⟩
                          have hnew : nextC g h now (v + 1) = (nextC g h now v).set m (min ((nextC g h now v).getD m 0) (y + wtI g h v)) := by
                            rw [nextC_succ, hm, hu2, HY.out]
                          rw [hv] at HAz
                          have hcu := nextC_bd (g := g) (h := h) (now := now) (fun j => (HNB.out j).1) v m
                          have hlen := nextC_len g h now v
                          obtain ⟨xs, hxs⟩ : ∃ xs, nextC g h now v = xs := ⟨_, rfl⟩
                          rw [hxs] at hnew HAz hcu hlen
                          obtain ⟨cur, hcur⟩ : ∃ cur, xs.getD m 0 = cur := ⟨_, rfl⟩
                          rw [hcur] at hnew hcu
                          have hwt := wtI_bd g h v
                          have HNEW := Lib.hid hnew
                          have HAND := Lib.hid hand
                          have HOR := Lib.hid hor
                          have HCUR := Lib.hid hcur
                          have HLEN := Lib.hid hlen
                          have HUV := Lib.hid (show 2 * u + (c + 1) = v + 1 by omega)
                          clear hnew hand hor hcur hxs hlen hm hu2
                          have hz0 : wo.cell? ⟨w.heap.size, 0, none⟩ = some (.int .i64 (g : Int)) := HK.out.cell (a := ⟨w.heap.size, 0, none⟩) (by simp [World.cell?, H0.out]) (by simp)
                          have hz1' : wo.cell? ⟨w.heap.size, 1, none⟩ = some (.int .i64 (h : Int)) := HK.out.cell (a := ⟨w.heap.size, 1, none⟩) (by simp [World.cell?, H0.out]) (by simp)
                          have CW : Hid (∀ (W : World), R.Keeps [] wo W → Calls Try.prog 81 #[.int .i64 (v : Int), .pointer (some ⟨w.heap.size, 0, none⟩)] W fun e w' => e = .returned (.int .i64 (wtI g h v)) ∧ Below W.heap.size W w') := Lib.hid (fun W hW => weight_c g h v w.heap.size W hg hh hv16 (hW.cell hz0 (by simp)) (hW.cell hz1' (by simp)))
                          clear hz0 hz1'
                          obtain ⟨p, hp⟩ : ∃ p, wtI g h v = p := ⟨_, rfl⟩
                          rw [hp] at hwt CW HNEW
                          have HP := Lib.hid hp
                          clear hp
                          have hwr : IntKind.i64.wrap (y + p) = y + p := IntWalk.i64_in _ (by omega)
                          have HWR := Lib.hid hwr
                          have CE : Hid (∀ w', R.Keeps [] wz w' → w'.cell? ⟨nb, m, none⟩ = some (.int .i64 cur)) := Lib.hid (fun w' h => h.cell (by rw [← HCUR.out]; exact arr_cell HAz.out hm8) (by simp))
                          have hm0 : (0 : Int) ≤ (m : Int) := by omega
                          have hm8' : (m : Int) < 8 := by omega
                          clear hwr
                          go_wp2_with fail
                          rw [HOR.out, HAND.out]
                          apply R.wp_region_text [0, 1, 2, 3, 4, 5, 6] [7, 8, 9, 10, 11] 10 (R.Keeps [] wz)
                          case hm => kernel_rfl
                          case hB => kernel_rfl
                          case hd => rfl
                          case hQ => exact fun _ _ _ _ _ h => h
                          case hS => exact (R.Keeps.refl _ _).drew
                          case hF =>
                            intro w' hS
                            have yx := CE.out w' hS
                            clear hS
                            simp only [R.pickC, List.filterMap_cons, List.getElem?_toArray, List.getElem?_cons_zero, List.getElem?_cons_succ, List.filterMap_nil]
                            (with_reducible refine R.wpStill_plain rfl (fun K hK => ?_)); go_simp; with_reducible refine hK _ ?_; clear hK K
                            (with_reducible refine R.wpStill_plain rfl (fun K hK => ?_)); go_simp; with_reducible refine hK _ ?_; clear hK K
                            (with_reducible refine R.wpStill_plain rfl (fun K hK => ?_)); go_simp; with_reducible refine hK _ ?_; clear hK K
                            (with_reducible refine R.wpStill_plain rfl (fun K hK => ?_)); go_simp; with_reducible refine hK _ ?_; clear hK K
                            (with_reducible refine R.wpStill_plain rfl (fun K hK => ?_)); go_simp; with_reducible refine hK _ ?_; clear hK K
                            (with_reducible refine R.wpStill_plain rfl (fun K hK => ?_)); go_simp; with_reducible refine hK _ ?_; clear hK K
                            (with_reducible refine R.wpStill_plain rfl (fun K hK => ?_)); go_simp; with_reducible refine hK _ ?_; clear hK K
                            exact wpStill_nil rfl
                          case hC =>
                            simp only [R.chainOf, List.getElem?_toArray, List.getElem?_cons_zero, List.getElem?_cons_succ, Nat.reduceBNe, Bool.and_true, Bool.and_false, Bool.false_and]
                            refine R.wpSeq_same (fun K hK => ?_)
                            go_simp
                            refine (CW.out _ HKz.out.drew).mono ?_
                            rintro e w2 ⟨rfl, hB2⟩
                            have hK2 : R.Keeps [] wz w2 := ((R.Keeps.refl [] _).drew).trans (R.Keeps.of_below [] hB2) (fun k hk => by simp at hk)
                            refine hK _ _ hK2 ?_
                            clear hK K
                            have HK2 := Lib.hid hK2
                            clear hB2 hK2
                            refine R.wpSeq_same (fun K hK => ?_)
                            have hwr := HWR.out
                            go_simp
                            clear hwr
                            with_reducible refine hK _ _ HK2.out ?_
                            clear hK K
                            refine R.wpSeq_same (fun K hK => ?_)
                            go_simp
                            with_reducible refine hK _ _ HK2.out ?_
                            clear hK K
                            have hszz := HKz.out.size
                            have hltz : nb < wz.heap.size := by
                              have := HAz.out
                              rcases Nat.lt_or_ge nb wz.heap.size with h1 | h1
                              · exact h1
                              · rw [Array.getElem?_eq_none (by omega)] at this; cases this
                            have HA3 : Hid (w2.heap[nb]? = some (.cells (arr8 xs) 108 (0, 0))) := Lib.hid ((HK2.out.block _ hltz (by simp)).trans HAz.out)
                            have ff : w2.frozen? ⟨nb, m, none⟩ = false := arr_frozen HA3.out m
                            have cc : w2.cell? ⟨nb, m, none⟩ = some (.int .i64 cur) := by rw [← HCUR.out]; exact arr_cell HA3.out hm8
                            refine R.wpSeq_tail _ rfl ?_
                            simp only [List.map_cons, List.map_nil]
                            go_wp2_with fail
                            refine ⟨⟨c + 1, by go_num, by omega, ?_, ?_⟩, by simp [intOf]; omega⟩
                            · rw [HUV.out, HNEW.out]
                              exact Lib.hid (arr_set HA3.out HLEN.out hm8 (min cur (y + p)))
                            · exact Lib.hid ((HKz.out.trans HK2.out (fun k hk => by simp at hk)).setCell (fun h => by simp at h; omega) _)
                        · obtain rfl : c = 2 := by omega
                          go_wp2_with fail
                          refine ⟨⟨u + 1, by go_num, by omega, HAz, HKz⟩, by simp [intOf]; omega⟩
                    · obtain rfl : u = 8 := by omega
                      have hAq : wq.heap[nb]? = some (.cells (arr8 (nextC g h now 16)) 108 (0, 0)) := HAq.out
                      have HNX : Hid ((freeS g h (k + 1)).2 = nextC g h now 16) := Lib.hid (by rw [HN.out])
                      have HBX : Hid ((freeS g h (k + 1)).1 = bestC g h now best 8) := Lib.hid (by rw [HN.out])
                      obtain ⟨nx, hnx⟩ : ∃ nx, nextC g h now 16 = nx := ⟨_, rfl⟩
                      rw [hnx] at hAq HNX
                      clear hnx HAq
                      have z0 : wq.cell? ⟨nb, 0, none⟩ = some (.int .i64 (nx.getD 0 0)) := arr_cell hAq (by omega)
                      have z1 : wq.cell? ⟨nb, 1, none⟩ = some (.int .i64 (nx.getD 1 0)) := arr_cell hAq (by omega)
                      have z2 : wq.cell? ⟨nb, 2, none⟩ = some (.int .i64 (nx.getD 2 0)) := arr_cell hAq (by omega)
                      have z3 : wq.cell? ⟨nb, 3, none⟩ = some (.int .i64 (nx.getD 3 0)) := arr_cell hAq (by omega)
                      have z4 : wq.cell? ⟨nb, 4, none⟩ = some (.int .i64 (nx.getD 4 0)) := arr_cell hAq (by omega)
                      have z5 : wq.cell? ⟨nb, 5, none⟩ = some (.int .i64 (nx.getD 5 0)) := arr_cell hAq (by omega)
                      have z6 : wq.cell? ⟨nb, 6, none⟩ = some (.int .i64 (nx.getD 6 0)) := arr_cell hAq (by omega)
                      have z7 : wq.cell? ⟨nb, 7, none⟩ = some (.int .i64 (nx.getD 7 0)) := arr_cell hAq (by omega)
                      have hAo : wq.heap[w.heap.size + 1]? = some (.cells (arr8 now) 108 (0, 0)) := (HKq.out.block _ (by omega) (by simp)).trans HA.out
                      have HAo := Lib.hid hAo
                      have o0 : wq.cell? ⟨w.heap.size + 1, 0, none⟩ = some (.int .i64 (now.getD 0 0)) := arr_cell hAo (by omega)
                      have o1 : wq.cell? ⟨w.heap.size + 1, 1, none⟩ = some (.int .i64 (now.getD 1 0)) := arr_cell hAo (by omega)
                      have o2 : wq.cell? ⟨w.heap.size + 1, 2, none⟩ = some (.int .i64 (now.getD 2 0)) := arr_cell hAo (by omega)
                      have o3 : wq.cell? ⟨w.heap.size + 1, 3, none⟩ = some (.int .i64 (now.getD 3 0)) := arr_cell hAo (by omega)
                      have o4 : wq.cell? ⟨w.heap.size + 1, 4, none⟩ = some (.int .i64 (now.getD 4 0)) := arr_cell hAo (by omega)
                      have o5 : wq.cell? ⟨w.heap.size + 1, 5, none⟩ = some (.int .i64 (now.getD 5 0)) := arr_cell hAo (by omega)
                      have o6 : wq.cell? ⟨w.heap.size + 1, 6, none⟩ = some (.int .i64 (now.getD 6 0)) := arr_cell hAo (by omega)
                      have o7 : wq.cell? ⟨w.heap.size + 1, 7, none⟩ = some (.int .i64 (now.getD 7 0)) := arr_cell hAo (by omega)
                      have f0 : wq.frozen? ⟨w.heap.size + 1, 0, none⟩ = false := arr_frozen hAo 0
                      have f1 : wq.frozen? ⟨w.heap.size + 1, 1, none⟩ = false := arr_frozen hAo 1
                      have f2 : wq.frozen? ⟨w.heap.size + 1, 2, none⟩ = false := arr_frozen hAo 2
                      have f3 : wq.frozen? ⟨w.heap.size + 1, 3, none⟩ = false := arr_frozen hAo 3
                      have f4 : wq.frozen? ⟨w.heap.size + 1, 4, none⟩ = false := arr_frozen hAo 4
                      have f5 : wq.frozen? ⟨w.heap.size + 1, 5, none⟩ = false := arr_frozen hAo 5
                      have f6 : wq.frozen? ⟨w.heap.size + 1, 6, none⟩ = false := arr_frozen hAo 6
                      have f7 : wq.frozen? ⟨w.heap.size + 1, 7, none⟩ = false := arr_frozen hAo 7
                      clear hAq hAo
                      go_wp2_with fail
                      clear z0 z1 z2 z3 z4 z5 z6 z7
                      refine ⟨⟨k + 1, by go_num, by rw [HBX.out], by omega, ?_, ?_⟩, by simp [intOf]; omega⟩
                      · rw [HNX.out]
                        exact Lib.hid (arr_over HAo.out nx)
                      · exact Lib.hid ((((((((((HK.out.trans HKq.out (fun k hk => by simp at hk)).setCell (fun _ => by simp) _).setCell (fun _ => by simp) _).setCell (fun _ => by simp) _).setCell (fun _ => by simp) _).setCell (fun _ => by simp) _).setCell (fun _ => by simp) _).setCell (fun _ => by simp) _).setCell (fun _ => by simp) _))
        · obtain rfl : k = 64 := by omega
          go_wp2_with fail
          exact bodyPost_ret (v := .int .i64 best) (by simp [results, Try.results64, go_sem]) rfl ⟨by rw [HBE.out], HB1.out.trans (HK.out.to_below (by omega) (fun k hk => by simp at hk; omega))⟩
end Go.Proofs.Ytcpojohpmcnnhaa.A

set_option linter.unusedVariables false
set_option linter.unusedSimpArgs false
namespace Go.Proofs.Ytcpojohpmcnnhaa.PA
open Go.RowKit Go.Proofs.YtcpojohpmcnnhaaW.PrintWords Go.Proofs.YtcpojohpmcnnhaaW.PrintLast Go.Proofs.YtcpojohpmcnnhaaW.PrintMore
def code_taps_free.f (a0_0 : Int) (a0_1 : Int) : Option (Int) := if tapsOk a0_0 a0_1 then some (A.freeS a0_0.toNat a0_1.toNat 64).1 else none
theorem code_taps_free.calls (a0_0 : Int) (a0_1 : Int) (r : Int) (w : World) (h : code_taps_free.f a0_0 a0_1 = some r) :
    Calls Try.prog 64 #[.agg #[.int .i64 a0_0, .int .i64 a0_1]] w fun e w' => e = .returned (.int .i64 r) ∧ Below w.heap.size w w' := by
  unfold code_taps_free.f at h
  split at h
  · rename_i hc
    obtain ⟨h0, h1, h2, h3⟩ := hc
    obtain rfl := Option.some.inj h
    obtain ⟨g, rfl⟩ := Int.eq_ofNat_of_zero_le h0
    obtain ⟨q, rfl⟩ := Int.eq_ofNat_of_zero_le h2
    exact A.free_c g q w (by omega) (by omega)
  · cases h
end Go.Proofs.Ytcpojohpmcnnhaa.PA

namespace Go.Proofs.Ytcpojohpmcnnhaa.PA
open Go.RowKit Go.Proofs.YtcpojohpmcnnhaaW.PrintWords Go.Proofs.YtcpojohpmcnnhaaW.PrintLast Go.Proofs.YtcpojohpmcnnhaaW.PrintMore
attribute [local go_sem] max2_int min2_int max_two min_two max_three min_three max_four min_four
set_option linter.unusedVariables false
set_option linter.unusedSimpArgs false
def code_Free.f (a0 : Int) (a1 : Int) : Option (Int × Int) := (code_areTaps.f a0 a1).bind fun t150 => (if t150 = true then ((code_taps_free.f a0 a1).bind fun t151 => (some (t151, 0))) else (some (0, 2)))
set_option maxHeartbeats 8000000 in
set_option maxRecDepth 100000 in
theorem code_Free.calls (a0 : Int) (a1 : Int) (r1 : Int) (r2 : Int) (w : World) (h : code_Free.f a0 a1 = some (r1, r2)) :
  Calls Try.prog 36 #[.int .i64 a0, .int .i64 a1] w fun e w' => e = .returned (.tuple #[.int .i64 r1, .int .i64 r2]) ∧ Below w.heap.size w w' := by
 have hu77 := Try.underlying77
 have HB := Aside0.mk (Below.refl w.heap.size w)
 have H : ((code_areTaps.f a0 a1).bind fun t150 => (if t150 = true then ((code_taps_free.f a0 a1).bind fun t151 => (some (t151, 0))) else (some (0, 2)))) = some (r1, r2) := h
 clear h
 replace H := Option.bind_eq_some_iff.mp H
 obtain ⟨t150, A30, H⟩ := H
 replace H : (if t150 = true then ((code_taps_free.f a0 a1).bind fun t151 => (some (t151, 0))) else (some (0, 2))) = some (r1, r2) := H
 have A3 := Aside0.mk A30
 clear A30
 by_cases c4 : t150 = true
 ·
  subst c4
  have H1 : ((code_taps_free.f a0 a1).bind fun t151 => (some (t151, 0))) = some (r1, r2) := by rw [if_pos rfl] at H; exact H
  clear H
  have H := H1
  clear H1
  replace H := Option.bind_eq_some_iff.mp H
  obtain ⟨t151, A50, H⟩ := H
  replace H : (some (t151, 0)) = some (r1, r2) := H
  have A5 := Aside0.mk A50
  clear A50
  simp only [Option.some.injEq, Prod.mk.injEq] at H
  obtain ⟨rfl, rfl⟩ := H
  go_enter Try.func36, Try.ntmps36
  go_wp2_with (first | ((with_reducible refine gate_callee (f := 59) rfl ?_); refine goesL_ (some 8) rfl rfl Try.func59 (by kernel_rfl) rfl #[.int .i64 a0, .int .i64 a1] rfl (by (try simp only [List.map_toArray, List.map_cons, List.map_nil]); first | done | rfl | (simp only [List.length_drop, List.length_take]; rfl)) ?_; (with_reducible refine (code_areTaps.calls a0 a1 true _ A3.out).mono ?_); rintro e w' ⟨rfl, ⟨nd, rfl⟩⟩; refine ⟨_, rfl, ?_⟩) | ((with_reducible refine gate_callee (f := 64) rfl ?_); refine goesL_ (some 13) rfl rfl Try.func64 (by kernel_rfl) rfl #[.agg #[.int .i64 a0, .int .i64 a1]] rfl (by (try simp only [List.map_toArray, List.map_cons, List.map_nil]); first | done | rfl | (simp only [List.length_drop, List.length_take]; rfl)) ?_; (with_reducible refine (code_taps_free.calls a0 a1 t151 _ A5.out).mono ?_); rintro e w6 ⟨rfl, hb⟩; refine ⟨_, rfl, ?_⟩; have n0_ := Aside0.mk (below_step (by repeat (first | (with_reducible first | exact HB.out | apply below_alloc | apply pw_below_drewN | apply below_drew1) | exact HB.out)) hb); clear HB; have HB := n0_; clear n0_; (try clear hb); (try clear hb2); (try clear hk); (try clear hi)))
  go_ret2
  exact ⟨by first | rfl | (simp [errW_none, errW_some] <;> rfl) | (simp [*, errW_none, errW_some] <;> rfl), by repeat (first | (with_reducible first | exact HB.out | apply below_alloc | apply pw_below_drewN | apply below_drew1) | exact HB.out)⟩
 ·
  replace c4 := Bool.eq_false_iff.mpr c4
  subst c4
  have H1 : (some (0, 2)) = some (r1, r2) := by rw [if_neg (show ¬ (false = true) by decide)] at H; exact H
  clear H
  have H := H1
  clear H1
  simp only [Option.some.injEq, Prod.mk.injEq] at H
  obtain ⟨rfl, rfl⟩ := H
  go_enter Try.func36, Try.ntmps36
  go_wp2_with (first | ((with_reducible refine gate_callee (f := 59) rfl ?_); refine goesL_ (some 8) rfl rfl Try.func59 (by kernel_rfl) rfl #[.int .i64 a0, .int .i64 a1] rfl (by (try simp only [List.map_toArray, List.map_cons, List.map_nil]); first | done | rfl | (simp only [List.length_drop, List.length_take]; rfl)) ?_; (with_reducible refine (code_areTaps.calls a0 a1 false _ A3.out).mono ?_); rintro e w' ⟨rfl, ⟨nd, rfl⟩⟩; refine ⟨_, rfl, ?_⟩))
  go_ret2
  exact ⟨by first | rfl | (simp [errW_none, errW_some] <;> rfl) | (simp [*, errW_none, errW_some] <;> rfl), by repeat (first | (with_reducible first | exact HB.out | apply below_alloc | apply pw_below_drewN | apply below_drew1) | exact HB.out)⟩
end Go.Proofs.Ytcpojohpmcnnhaa.PA

namespace Go.Proofs.Ytcpojohpmcnnhaa.PA
open Go.RowKit Go.Proofs.YtcpojohpmcnnhaaW.PrintWords Go.Proofs.YtcpojohpmcnnhaaW.PrintLast Go.Proofs.YtcpojohpmcnnhaaW.PrintMore
attribute [local go_sem] max2_int min2_int max_two min_two max_three min_three max_four min_four
set_option linter.unusedVariables false
set_option linter.unusedSimpArgs false
def turndownlaw06_awake.j0 : Nat → Bool → Option (Bool)
 | 0, _ => none
 | k + 1, x80 => if x80 = true then (some false) else (some true)
def turndownlaw06_awake.f (k : Nat)  : Option (Bool) := (code_Best.f k (([1, 1, 2, 4] : List Int)) 32).bind fun bt155 => ((code_Code.f k (([2, 1, 2] : List Int))).bind fun bt163 => ((code_Card.f k (⟨#[49]⟩ : ByteArray) 7 5).bind fun bt167 => ((code_Read.f k (⟨#[49, 49, 49, 48, 49, 49, 48, 48]⟩ : ByteArray) 7 5).bind fun bt169 => ((code_Free.f 7 5).bind fun bt172 => (if bt155.2.2 = 0 then (if bt155.2.1 = 14 then (if bt163.2 = 0 then ((turndownlaw06_texts.f k bt163.1 (([(⟨#[49, 48]⟩ : ByteArray), (⟨#[48]⟩ : ByteArray), (⟨#[49, 49]⟩ : ByteArray)] : List ByteArray))).bind fun t177 => (if t177 = true then (if bt167.2 = 0 then (if bt167.1.toList = ([49, 49, 49, 48, 49, 49, 48, 48] : List UInt8) then (if bt169.2.2 = 0 then (if bt169.1.toList = ([49] : List UInt8) then (if bt169.2.1 = 0 then (if bt172.2 = 0 then (turndownlaw06_awake.j0 k (bt172.1 != 5)) else (turndownlaw06_awake.j0 k true)) else (turndownlaw06_awake.j0 k true)) else (turndownlaw06_awake.j0 k true)) else (turndownlaw06_awake.j0 k true)) else (turndownlaw06_awake.j0 k true)) else (turndownlaw06_awake.j0 k true)) else (turndownlaw06_awake.j0 k true))) else (turndownlaw06_awake.j0 k true)) else (turndownlaw06_awake.j0 k true)) else (turndownlaw06_awake.j0 k true))))))
theorem turndownlaw06_awake.mono_l : ∀ k, (∀ y0, LeO (turndownlaw06_awake.j0 k y0) (turndownlaw06_awake.j0 (k + 1) y0))
 | 0 => fun _ r h => by simp [turndownlaw06_awake.j0] at h
 | k + 1 => by
  have ih0 := turndownlaw06_awake.mono_l k
  ·
   intro y0
   unfold turndownlaw06_awake.j0
   repeat' first
   | (with_reducible exact ih0 _)
   | (with_reducible exact code_Best.mono _ _ _)
   | (with_reducible exact code_Card.mono _ _ _ _)
   | (with_reducible exact code_Code.mono _ _)
   | (with_reducible exact code_Read.mono _ _ _ _)
   | (with_reducible exact turndownlaw06_texts.mono _ _ _)
   | (with_reducible exact LeO.refl _)
   | (with_reducible exact LeO.none _)
   | (with_reducible refine LeO.ite ?_ ?_)
   | (with_reducible refine LeO.bind ?_ (fun _ => ?_))
   | exact ih0 _
   | exact code_Best.mono _ _ _
   | exact code_Card.mono _ _ _ _
   | exact code_Code.mono _ _
   | exact code_Read.mono _ _ _ _
   | exact turndownlaw06_texts.mono _ _ _
   | exact LeO.none _
   | refine LeO.ite ?_ ?_
   | refine LeO.bind ?_ (fun _ => ?_)
theorem turndownlaw06_awake.mono : ∀ k, LeO (turndownlaw06_awake.f k ) (turndownlaw06_awake.f (k + 1) ) := by
 intro  k
 have ih0 := turndownlaw06_awake.mono_l k
 unfold turndownlaw06_awake.f
 repeat' first
   | (with_reducible exact ih0 _)
   | (with_reducible exact code_Best.mono _ _ _)
   | (with_reducible exact code_Card.mono _ _ _ _)
   | (with_reducible exact code_Code.mono _ _)
   | (with_reducible exact code_Read.mono _ _ _ _)
   | (with_reducible exact turndownlaw06_texts.mono _ _ _)
   | (with_reducible exact LeO.refl _)
   | (with_reducible exact LeO.none _)
   | (with_reducible refine LeO.ite ?_ ?_)
   | (with_reducible refine LeO.bind ?_ (fun _ => ?_))
   | exact ih0 _
   | exact code_Best.mono _ _ _
   | exact code_Card.mono _ _ _ _
   | exact code_Code.mono _ _
   | exact code_Read.mono _ _ _ _
   | exact turndownlaw06_texts.mono _ _ _
   | exact LeO.none _
   | refine LeO.ite ?_ ?_
   | refine LeO.bind ?_ (fun _ => ?_)
set_option maxHeartbeats 8000000 in
set_option maxRecDepth 100000 in
theorem turndownlaw06_awake.calls (k : Nat)  (r : Bool) (w : World) (h : turndownlaw06_awake.f k  = some r) :
  Calls Try.prog 22 #[] w fun e w' => e = .returned (.bool r) ∧ Below w.heap.size w w' := by
 have HB := Aside0.mk (Below.refl w.heap.size w)
 have H : ((code_Best.f k (([1, 1, 2, 4] : List Int)) 32).bind fun bt155 => ((code_Code.f k (([2, 1, 2] : List Int))).bind fun bt163 => ((code_Card.f k (⟨#[49]⟩ : ByteArray) 7 5).bind fun bt167 => ((code_Read.f k (⟨#[49, 49, 49, 48, 49, 49, 48, 48]⟩ : ByteArray) 7 5).bind fun bt169 => ((code_Free.f 7 5).bind fun bt172 => (if bt155.2.2 = 0 then (if bt155.2.1 = 14 then (if bt163.2 = 0 then ((turndownlaw06_texts.f k bt163.1 (([(⟨#[49, 48]⟩ : ByteArray), (⟨#[48]⟩ : ByteArray), (⟨#[49, 49]⟩ : ByteArray)] : List ByteArray))).bind fun t177 => (if t177 = true then (if bt167.2 = 0 then (if bt167.1.toList = ([49, 49, 49, 48, 49, 49, 48, 48] : List UInt8) then (if bt169.2.2 = 0 then (if bt169.1.toList = ([49] : List UInt8) then (if bt169.2.1 = 0 then (if bt172.2 = 0 then (turndownlaw06_awake.j0 k (bt172.1 != 5)) else (turndownlaw06_awake.j0 k true)) else (turndownlaw06_awake.j0 k true)) else (turndownlaw06_awake.j0 k true)) else (turndownlaw06_awake.j0 k true)) else (turndownlaw06_awake.j0 k true)) else (turndownlaw06_awake.j0 k true)) else (turndownlaw06_awake.j0 k true))) else (turndownlaw06_awake.j0 k true)) else (turndownlaw06_awake.j0 k true)) else (turndownlaw06_awake.j0 k true))))))) = some r := h
 clear h
 obtain ⟨y152, hy152⟩ : ∃ y_ : List Int, y_ = (([1, 1, 2, 4] : List Int)) := ⟨_, rfl⟩
 replace H : ((code_Best.f k y152 32).bind fun bt155 => ((code_Code.f k (([2, 1, 2] : List Int))).bind fun bt163 => ((code_Card.f k (⟨#[49]⟩ : ByteArray) 7 5).bind fun bt167 => ((code_Read.f k (⟨#[49, 49, 49, 48, 49, 49, 48, 48]⟩ : ByteArray) 7 5).bind fun bt169 => ((code_Free.f 7 5).bind fun bt172 => (if bt155.2.2 = 0 then (if bt155.2.1 = 14 then (if bt163.2 = 0 then ((turndownlaw06_texts.f k bt163.1 (([(⟨#[49, 48]⟩ : ByteArray), (⟨#[48]⟩ : ByteArray), (⟨#[49, 49]⟩ : ByteArray)] : List ByteArray))).bind fun t177 => (if t177 = true then (if bt167.2 = 0 then (if bt167.1.toList = ([49, 49, 49, 48, 49, 49, 48, 48] : List UInt8) then (if bt169.2.2 = 0 then (if bt169.1.toList = ([49] : List UInt8) then (if bt169.2.1 = 0 then (if bt172.2 = 0 then (turndownlaw06_awake.j0 k (bt172.1 != 5)) else (turndownlaw06_awake.j0 k true)) else (turndownlaw06_awake.j0 k true)) else (turndownlaw06_awake.j0 k true)) else (turndownlaw06_awake.j0 k true)) else (turndownlaw06_awake.j0 k true)) else (turndownlaw06_awake.j0 k true)) else (turndownlaw06_awake.j0 k true))) else (turndownlaw06_awake.j0 k true)) else (turndownlaw06_awake.j0 k true)) else (turndownlaw06_awake.j0 k true))))))) = some r := by first | (rw [hy152]; with_reducible exact H) | (have H2_ := (Option.bind_some _ _).symm.trans H; rw [hy152]; with_reducible exact H2_) | (have H2_ := (Option.bind_some _ _).symm.trans H; with_reducible exact H2_) | with_reducible exact H | (rw [hy152]; exact H) | exact H
 have Ny152 := Aside0.mk hy152
 clear hy152
 replace H := Option.bind_eq_some_iff.mp H
 obtain ⟨⟨t155, t156, t157⟩, A10, H⟩ := H
 replace H : ((code_Code.f k (([2, 1, 2] : List Int))).bind fun bt163 => ((code_Card.f k (⟨#[49]⟩ : ByteArray) 7 5).bind fun bt167 => ((code_Read.f k (⟨#[49, 49, 49, 48, 49, 49, 48, 48]⟩ : ByteArray) 7 5).bind fun bt169 => ((code_Free.f 7 5).bind fun bt172 => (if t157 = 0 then (if t156 = 14 then (if bt163.2 = 0 then ((turndownlaw06_texts.f k bt163.1 (([(⟨#[49, 48]⟩ : ByteArray), (⟨#[48]⟩ : ByteArray), (⟨#[49, 49]⟩ : ByteArray)] : List ByteArray))).bind fun t177 => (if t177 = true then (if bt167.2 = 0 then (if bt167.1.toList = ([49, 49, 49, 48, 49, 49, 48, 48] : List UInt8) then (if bt169.2.2 = 0 then (if bt169.1.toList = ([49] : List UInt8) then (if bt169.2.1 = 0 then (if bt172.2 = 0 then (turndownlaw06_awake.j0 k (bt172.1 != 5)) else (turndownlaw06_awake.j0 k true)) else (turndownlaw06_awake.j0 k true)) else (turndownlaw06_awake.j0 k true)) else (turndownlaw06_awake.j0 k true)) else (turndownlaw06_awake.j0 k true)) else (turndownlaw06_awake.j0 k true)) else (turndownlaw06_awake.j0 k true))) else (turndownlaw06_awake.j0 k true)) else (turndownlaw06_awake.j0 k true)) else (turndownlaw06_awake.j0 k true)))))) = some r := H
 have A1 := Aside0.mk A10
 clear A10
 obtain ⟨y160, hy160⟩ : ∃ y_ : List Int, y_ = (([2, 1, 2] : List Int)) := ⟨_, rfl⟩
 replace H : ((code_Code.f k y160).bind fun bt163 => ((code_Card.f k (⟨#[49]⟩ : ByteArray) 7 5).bind fun bt167 => ((code_Read.f k (⟨#[49, 49, 49, 48, 49, 49, 48, 48]⟩ : ByteArray) 7 5).bind fun bt169 => ((code_Free.f 7 5).bind fun bt172 => (if t157 = 0 then (if t156 = 14 then (if bt163.2 = 0 then ((turndownlaw06_texts.f k bt163.1 (([(⟨#[49, 48]⟩ : ByteArray), (⟨#[48]⟩ : ByteArray), (⟨#[49, 49]⟩ : ByteArray)] : List ByteArray))).bind fun t177 => (if t177 = true then (if bt167.2 = 0 then (if bt167.1.toList = ([49, 49, 49, 48, 49, 49, 48, 48] : List UInt8) then (if bt169.2.2 = 0 then (if bt169.1.toList = ([49] : List UInt8) then (if bt169.2.1 = 0 then (if bt172.2 = 0 then (turndownlaw06_awake.j0 k (bt172.1 != 5)) else (turndownlaw06_awake.j0 k true)) else (turndownlaw06_awake.j0 k true)) else (turndownlaw06_awake.j0 k true)) else (turndownlaw06_awake.j0 k true)) else (turndownlaw06_awake.j0 k true)) else (turndownlaw06_awake.j0 k true)) else (turndownlaw06_awake.j0 k true))) else (turndownlaw06_awake.j0 k true)) else (turndownlaw06_awake.j0 k true)) else (turndownlaw06_awake.j0 k true)))))) = some r := by first | (rw [hy160]; with_reducible exact H) | (have H2_ := (Option.bind_some _ _).symm.trans H; rw [hy160]; with_reducible exact H2_) | (have H2_ := (Option.bind_some _ _).symm.trans H; with_reducible exact H2_) | with_reducible exact H | (rw [hy160]; exact H) | exact H
 have Ny160 := Aside0.mk hy160
 clear hy160
 replace H := Option.bind_eq_some_iff.mp H
 obtain ⟨⟨t163, t164⟩, A20, H⟩ := H
 replace H : ((code_Card.f k (⟨#[49]⟩ : ByteArray) 7 5).bind fun bt167 => ((code_Read.f k (⟨#[49, 49, 49, 48, 49, 49, 48, 48]⟩ : ByteArray) 7 5).bind fun bt169 => ((code_Free.f 7 5).bind fun bt172 => (if t157 = 0 then (if t156 = 14 then (if t164 = 0 then ((turndownlaw06_texts.f k t163 (([(⟨#[49, 48]⟩ : ByteArray), (⟨#[48]⟩ : ByteArray), (⟨#[49, 49]⟩ : ByteArray)] : List ByteArray))).bind fun t177 => (if t177 = true then (if bt167.2 = 0 then (if bt167.1.toList = ([49, 49, 49, 48, 49, 49, 48, 48] : List UInt8) then (if bt169.2.2 = 0 then (if bt169.1.toList = ([49] : List UInt8) then (if bt169.2.1 = 0 then (if bt172.2 = 0 then (turndownlaw06_awake.j0 k (bt172.1 != 5)) else (turndownlaw06_awake.j0 k true)) else (turndownlaw06_awake.j0 k true)) else (turndownlaw06_awake.j0 k true)) else (turndownlaw06_awake.j0 k true)) else (turndownlaw06_awake.j0 k true)) else (turndownlaw06_awake.j0 k true)) else (turndownlaw06_awake.j0 k true))) else (turndownlaw06_awake.j0 k true)) else (turndownlaw06_awake.j0 k true)) else (turndownlaw06_awake.j0 k true))))) = some r := H
 have A2 := Aside0.mk A20
 clear A20
 replace H := Option.bind_eq_some_iff.mp H
 obtain ⟨⟨t167, t168⟩, A30, H⟩ := H
 replace H : ((code_Read.f k (⟨#[49, 49, 49, 48, 49, 49, 48, 48]⟩ : ByteArray) 7 5).bind fun bt169 => ((code_Free.f 7 5).bind fun bt172 => (if t157 = 0 then (if t156 = 14 then (if t164 = 0 then ((turndownlaw06_texts.f k t163 (([(⟨#[49, 48]⟩ : ByteArray), (⟨#[48]⟩ : ByteArray), (⟨#[49, 49]⟩ : ByteArray)] : List ByteArray))).bind fun t177 => (if t177 = true then (if t168 = 0 then (if t167.toList = ([49, 49, 49, 48, 49, 49, 48, 48] : List UInt8) then (if bt169.2.2 = 0 then (if bt169.1.toList = ([49] : List UInt8) then (if bt169.2.1 = 0 then (if bt172.2 = 0 then (turndownlaw06_awake.j0 k (bt172.1 != 5)) else (turndownlaw06_awake.j0 k true)) else (turndownlaw06_awake.j0 k true)) else (turndownlaw06_awake.j0 k true)) else (turndownlaw06_awake.j0 k true)) else (turndownlaw06_awake.j0 k true)) else (turndownlaw06_awake.j0 k true)) else (turndownlaw06_awake.j0 k true))) else (turndownlaw06_awake.j0 k true)) else (turndownlaw06_awake.j0 k true)) else (turndownlaw06_awake.j0 k true)))) = some r := H
 have A3 := Aside0.mk A30
 clear A30
 replace H := Option.bind_eq_some_iff.mp H
 obtain ⟨⟨t169, t170, t171⟩, A40, H⟩ := H
 replace H : ((code_Free.f 7 5).bind fun bt172 => (if t157 = 0 then (if t156 = 14 then (if t164 = 0 then ((turndownlaw06_texts.f k t163 (([(⟨#[49, 48]⟩ : ByteArray), (⟨#[48]⟩ : ByteArray), (⟨#[49, 49]⟩ : ByteArray)] : List ByteArray))).bind fun t177 => (if t177 = true then (if t168 = 0 then (if t167.toList = ([49, 49, 49, 48, 49, 49, 48, 48] : List UInt8) then (if t171 = 0 then (if t169.toList = ([49] : List UInt8) then (if t170 = 0 then (if bt172.2 = 0 then (turndownlaw06_awake.j0 k (bt172.1 != 5)) else (turndownlaw06_awake.j0 k true)) else (turndownlaw06_awake.j0 k true)) else (turndownlaw06_awake.j0 k true)) else (turndownlaw06_awake.j0 k true)) else (turndownlaw06_awake.j0 k true)) else (turndownlaw06_awake.j0 k true)) else (turndownlaw06_awake.j0 k true))) else (turndownlaw06_awake.j0 k true)) else (turndownlaw06_awake.j0 k true)) else (turndownlaw06_awake.j0 k true))) = some r := H
 have A4 := Aside0.mk A40
 clear A40
 replace H := Option.bind_eq_some_iff.mp H
 obtain ⟨⟨t172, t173⟩, A50, H⟩ := H
 replace H : (if t157 = 0 then (if t156 = 14 then (if t164 = 0 then ((turndownlaw06_texts.f k t163 (([(⟨#[49, 48]⟩ : ByteArray), (⟨#[48]⟩ : ByteArray), (⟨#[49, 49]⟩ : ByteArray)] : List ByteArray))).bind fun t177 => (if t177 = true then (if t168 = 0 then (if t167.toList = ([49, 49, 49, 48, 49, 49, 48, 48] : List UInt8) then (if t171 = 0 then (if t169.toList = ([49] : List UInt8) then (if t170 = 0 then (if t173 = 0 then (turndownlaw06_awake.j0 k (t172 != 5)) else (turndownlaw06_awake.j0 k true)) else (turndownlaw06_awake.j0 k true)) else (turndownlaw06_awake.j0 k true)) else (turndownlaw06_awake.j0 k true)) else (turndownlaw06_awake.j0 k true)) else (turndownlaw06_awake.j0 k true)) else (turndownlaw06_awake.j0 k true))) else (turndownlaw06_awake.j0 k true)) else (turndownlaw06_awake.j0 k true)) else (turndownlaw06_awake.j0 k true)) = some r := H
 have A5 := Aside0.mk A50
 clear A50
 have HC6 := Aside0.mk H
 clear H
 go_enter Try.func22, Try.ntmps22
 go_upto_region 6 with (first | ((with_reducible refine gate_dst (N := 14) rfl ?_); (try (refine gate_guard (by rfl) ?_; dsimp only)); refine Kd.R_lit (Kd.int .i64) _ 3 ?hg (N := 14) ?hd (xs := ([1, 1, 2, 4] : List Int)) (inner := [.int .i64 1, .int .i64 1, .int .i64 2, .int .i64 4]) (ok := fun _ => True) (okp := fun _ => True) ?hr ?hp (fun _ hk => hk) trivial (Below.refl _ _) (Nat.le_refl _) (by simp) ?_; (case hd => rfl); (case hg => rfl); (case hr => first | (go_simp; done) | (go_simp; rfl)); (case hp => exact (Reps.one (show Kd.M (Kd.int .i64) _ _ _ 1 [.int .i64 1] from rfl) (Reps.one (show Kd.M (Kd.int .i64) _ _ _ 1 [.int .i64 1] from rfl) (Reps.one (show Kd.M (Kd.int .i64) _ _ _ 2 [.int .i64 2] from rfl) (Reps.one (show Kd.M (Kd.int .i64) _ _ _ 4 [.int .i64 4] from rfl) (Reps.none _ _)))))); intro v153 w7 ho8 hb hg_ hnew_; clear hg_ hnew_; (first | rw [← Ny152.out] at ho8 | (simp only [Int.reduceToNat] at ho8; rw [← Ny152.out] at ho8)); have n0_ := Aside0.mk (Kd.R_lower ho8 (below_size (by repeat (first | (with_reducible first | exact HB.out | apply below_alloc | apply pw_below_drewN | apply below_drew1) | exact HB.out)))); have n1_ := Aside0.mk (below_step (by repeat (first | (with_reducible first | exact HB.out | apply below_alloc | apply pw_below_drewN | apply below_drew1) | exact HB.out)) hb); clear HB; have HO154 := n0_; have HB := n1_; clear n0_ n1_; clear hb ho8; obtain ⟨Ao9, co9, eo9⟩ := Kd.R_slice HO154.out; subst eo9) | ((with_reducible refine gate_callee (f := 20) rfl ?_); refine goesL_ (some 15) rfl rfl Try.func20 (by kernel_rfl) rfl #[.slice Ao9 y152.length co9, .int .i64 32] rfl (by (try simp only [List.map_toArray, List.map_cons, List.map_nil]); first | done | rfl | (simp only [List.length_drop, List.length_take]; rfl)) ?_; (with_reducible refine (code_Best.calls k _ _ y152 32 t155 t156 t157 _ ?side1 ?side2 A1.out).mono ?_); (case side1 => repeat (first | exact (Kd.R_reads' HO154.out).2.2 | (with_reducible refine Kd.C_alloc ?_ _) | (with_reducible refine Kd.C_drewN ?_ _) | (with_reducible refine Kd.C_drew ?_))); (case side2 => exact (Kd.R_reads' HO154.out).2.1); rintro e w10 ⟨v158, rfl, ho0, hb⟩; refine ⟨_, rfl, ?_⟩; have n0_ := Aside0.mk (Kd.R_elder' (by (with_reducible repeat (first | apply Kd.R_alloc | apply Kd.R_drewN | apply Kd.R_drew)); exact HO154.out) (Kd.R_base ho0) hb); have n1_ := Aside0.mk (Kd.R_lower (Kd.R_new' ho0 (Kd.R_lt (by (with_reducible repeat (first | apply Kd.R_alloc | apply Kd.R_drewN | apply Kd.R_drew)); exact HO154.out))) (below_size (by repeat (first | (with_reducible first | exact HB.out | apply below_alloc | apply pw_below_drewN | apply below_drew1) | exact HB.out)))); have n2_ := Aside0.mk (below_step (by repeat (first | (with_reducible first | exact HB.out | apply below_alloc | apply pw_below_drewN | apply below_drew1) | exact HB.out)) hb); clear HO154; clear HB; have HO154 := n0_; have HO159 := n1_; have HB := n2_; clear n0_ n1_ n2_; (try clear hb); (try clear hb2); (try clear hk); (try clear hi); (try clear ho0)) | ((with_reducible refine gate_dst (N := 20) rfl ?_); (try (refine gate_guard (by rfl) ?_; dsimp only)); refine Kd.R_lit (Kd.int .i64) _ 3 ?hg (N := 20) ?hd (xs := ([2, 1, 2] : List Int)) (inner := [.int .i64 2, .int .i64 1, .int .i64 2]) (ok := fun _ => True) (okp := fun _ => True) ?hr ?hp (fun _ hk => hk) trivial (Below.refl _ _) (Nat.le_refl _) (by simp) ?_; (case hd => rfl); (case hg => rfl); (case hr => first | (go_simp; done) | (go_simp; rfl)); (case hp => exact (Reps.one (show Kd.M (Kd.int .i64) _ _ _ 2 [.int .i64 2] from rfl) (Reps.one (show Kd.M (Kd.int .i64) _ _ _ 1 [.int .i64 1] from rfl) (Reps.one (show Kd.M (Kd.int .i64) _ _ _ 2 [.int .i64 2] from rfl) (Reps.none _ _))))); intro v161 w11 ho12 hb hg_ hnew_; clear hg_ hnew_; (first | rw [← Ny160.out] at ho12 | (simp only [Int.reduceToNat] at ho12; rw [← Ny160.out] at ho12)); have n0_ := Aside0.mk (Kd.R_elder' (by (with_reducible repeat (first | apply Kd.R_alloc | apply Kd.R_drewN | apply Kd.R_drew)); exact HO154.out) (Kd.R_base ho12) hb); have n1_ := Aside0.mk (Kd.R_elder' (by (with_reducible repeat (first | apply Kd.R_alloc | apply Kd.R_drewN | apply Kd.R_drew)); exact HO159.out) (Kd.R_base ho12) hb); have n2_ := Aside0.mk (Kd.R_lower (Kd.R_new' (Kd.R_new' ho12 (Kd.R_lt (by (with_reducible repeat (first | apply Kd.R_alloc | apply Kd.R_drewN | apply Kd.R_drew)); exact HO154.out))) (Kd.R_lt (by (with_reducible repeat (first | apply Kd.R_alloc | apply Kd.R_drewN | apply Kd.R_drew)); exact HO159.out))) (below_size (by repeat (first | (with_reducible first | exact HB.out | apply below_alloc | apply pw_below_drewN | apply below_drew1) | exact HB.out)))); have n3_ := Aside0.mk (below_step (by repeat (first | (with_reducible first | exact HB.out | apply below_alloc | apply pw_below_drewN | apply below_drew1) | exact HB.out)) hb); clear HO154; clear HO159; clear HB; have HO154 := n0_; have HO159 := n1_; have HO162 := n2_; have HB := n3_; clear n0_ n1_ n2_ n3_; clear hb ho12; obtain ⟨Ao13, co13, eo13⟩ := Kd.R_slice HO162.out; subst eo13) | ((with_reducible refine gate_callee (f := 27) rfl ?_); refine goesL_ (some 21) rfl rfl Try.func27 (by kernel_rfl) rfl #[.slice Ao13 y160.length co13] rfl (by (try simp only [List.map_toArray, List.map_cons, List.map_nil]); first | done | rfl | (simp only [List.length_drop, List.length_take]; rfl)) ?_; (with_reducible refine (code_Code.calls k _ _ y160 t163 t164 _ ?side1 ?side2 A2.out).mono ?_); (case side1 => repeat (first | exact (Kd.R_reads' HO162.out).2.2 | (with_reducible refine Kd.C_alloc ?_ _) | (with_reducible refine Kd.C_drewN ?_ _) | (with_reducible refine Kd.C_drew ?_))); (case side2 => exact (Kd.R_reads' HO162.out).2.1); rintro e w14 ⟨v165, rfl, ho0, hb⟩; refine ⟨_, rfl, ?_⟩; have n0_ := Aside0.mk (Kd.R_below (by (with_reducible repeat (first | apply Kd.R_alloc | apply Kd.R_drewN | apply Kd.R_drew)); exact HO154.out) hb); have n1_ := Aside0.mk (Kd.R_below (by (with_reducible repeat (first | apply Kd.R_alloc | apply Kd.R_drewN | apply Kd.R_drew)); exact HO159.out) hb); have n2_ := Aside0.mk (Kd.R_below (by (with_reducible repeat (first | apply Kd.R_alloc | apply Kd.R_drewN | apply Kd.R_drew)); exact HO162.out) hb); have n3_ := Aside0.mk (Kd.R_lower ho0 (below_size (by repeat (first | (with_reducible first | exact HB.out | apply below_alloc | apply pw_below_drewN | apply below_drew1) | exact HB.out)))); have n4_ := Aside0.mk (below_step (by repeat (first | (with_reducible first | exact HB.out | apply below_alloc | apply pw_below_drewN | apply below_drew1) | exact HB.out)) hb); clear HO154; clear HO159; clear HO162; clear HB; have HO154 := n0_; have HO159 := n1_; have HO162 := n2_; have HO166 := n3_; have HB := n4_; clear n0_ n1_ n2_ n3_ n4_; (try clear hb); (try clear hb2); (try clear hk); (try clear hi); (try clear ho0)) | ((with_reducible refine gate_callee (f := 30) rfl ?_); refine goesL_ (some 25) rfl rfl Try.func30 (by kernel_rfl) rfl #[.string (⟨#[49]⟩ : ByteArray), .int .i64 7, .int .i64 5] rfl (by (try simp only [List.map_toArray, List.map_cons, List.map_nil]); first | done | rfl | (simp only [List.length_drop, List.length_take]; rfl)) ?_; (with_reducible refine (code_Card.calls k (⟨#[49]⟩ : ByteArray) 7 5 t167 t168 _ A3.out).mono ?_); rintro e w15 ⟨rfl, hb⟩; refine ⟨_, rfl, ?_⟩; have n0_ := Aside0.mk (Kd.R_below (by (with_reducible repeat (first | apply Kd.R_alloc | apply Kd.R_drewN | apply Kd.R_drew)); exact HO154.out) hb); have n1_ := Aside0.mk (Kd.R_below (by (with_reducible repeat (first | apply Kd.R_alloc | apply Kd.R_drewN | apply Kd.R_drew)); exact HO159.out) hb); have n2_ := Aside0.mk (Kd.R_below (by (with_reducible repeat (first | apply Kd.R_alloc | apply Kd.R_drewN | apply Kd.R_drew)); exact HO162.out) hb); have n3_ := Aside0.mk (Kd.R_below (by (with_reducible repeat (first | apply Kd.R_alloc | apply Kd.R_drewN | apply Kd.R_drew)); exact HO166.out) hb); have n4_ := Aside0.mk (below_step (by repeat (first | (with_reducible first | exact HB.out | apply below_alloc | apply pw_below_drewN | apply below_drew1) | exact HB.out)) hb); clear HO154; clear HO159; clear HO162; clear HO166; clear HB; have HO154 := n0_; have HO159 := n1_; have HO162 := n2_; have HO166 := n3_; have HB := n4_; clear n0_ n1_ n2_ n3_ n4_; (try clear hb); (try clear hb2); (try clear hk); (try clear hi)) | ((with_reducible refine gate_callee (f := 34) rfl ?_); refine goesL_ (some 29) rfl rfl Try.func34 (by kernel_rfl) rfl #[.string (⟨#[49, 49, 49, 48, 49, 49, 48, 48]⟩ : ByteArray), .int .i64 7, .int .i64 5] rfl (by (try simp only [List.map_toArray, List.map_cons, List.map_nil]); first | done | rfl | (simp only [List.length_drop, List.length_take]; rfl)) ?_; (with_reducible refine (code_Read.calls k (⟨#[49, 49, 49, 48, 49, 49, 48, 48]⟩ : ByteArray) 7 5 t169 t170 t171 _ A4.out).mono ?_); rintro e w16 ⟨rfl, hb⟩; refine ⟨_, rfl, ?_⟩; have n0_ := Aside0.mk (Kd.R_below (by (with_reducible repeat (first | apply Kd.R_alloc | apply Kd.R_drewN | apply Kd.R_drew)); exact HO154.out) hb); have n1_ := Aside0.mk (Kd.R_below (by (with_reducible repeat (first | apply Kd.R_alloc | apply Kd.R_drewN | apply Kd.R_drew)); exact HO159.out) hb); have n2_ := Aside0.mk (Kd.R_below (by (with_reducible repeat (first | apply Kd.R_alloc | apply Kd.R_drewN | apply Kd.R_drew)); exact HO162.out) hb); have n3_ := Aside0.mk (Kd.R_below (by (with_reducible repeat (first | apply Kd.R_alloc | apply Kd.R_drewN | apply Kd.R_drew)); exact HO166.out) hb); have n4_ := Aside0.mk (below_step (by repeat (first | (with_reducible first | exact HB.out | apply below_alloc | apply pw_below_drewN | apply below_drew1) | exact HB.out)) hb); clear HO154; clear HO159; clear HO162; clear HO166; clear HB; have HO154 := n0_; have HO159 := n1_; have HO162 := n2_; have HO166 := n3_; have HB := n4_; clear n0_ n1_ n2_ n3_ n4_; (try clear hb); (try clear hb2); (try clear hk); (try clear hi)) | ((with_reducible refine gate_callee (f := 36) rfl ?_); refine goesL_ (some 34) rfl rfl Try.func36 (by kernel_rfl) rfl #[.int .i64 7, .int .i64 5] rfl (by (try simp only [List.map_toArray, List.map_cons, List.map_nil]); first | done | rfl | (simp only [List.length_drop, List.length_take]; rfl)) ?_; (with_reducible refine (code_Free.calls 7 5 t172 t173 _ A5.out).mono ?_); rintro e w17 ⟨rfl, hb⟩; refine ⟨_, rfl, ?_⟩; have n0_ := Aside0.mk (Kd.R_below (by (with_reducible repeat (first | apply Kd.R_alloc | apply Kd.R_drewN | apply Kd.R_drew)); exact HO154.out) hb); have n1_ := Aside0.mk (Kd.R_below (by (with_reducible repeat (first | apply Kd.R_alloc | apply Kd.R_drewN | apply Kd.R_drew)); exact HO159.out) hb); have n2_ := Aside0.mk (Kd.R_below (by (with_reducible repeat (first | apply Kd.R_alloc | apply Kd.R_drewN | apply Kd.R_drew)); exact HO162.out) hb); have n3_ := Aside0.mk (Kd.R_below (by (with_reducible repeat (first | apply Kd.R_alloc | apply Kd.R_drewN | apply Kd.R_drew)); exact HO166.out) hb); have n4_ := Aside0.mk (below_step (by repeat (first | (with_reducible first | exact HB.out | apply below_alloc | apply pw_below_drewN | apply below_drew1) | exact HB.out)) hb); clear HO154; clear HO159; clear HO162; clear HO166; clear HB; have HO154 := n0_; have HO159 := n1_; have HO162 := n2_; have HO166 := n3_; have HB := n4_; clear n0_ n1_ n2_ n3_ n4_; (try clear hb); (try clear hb2); (try clear hk); (try clear hi)))
 (try simp only [Act.put, List.setIfInBounds_toArray, List.set_cons_zero, List.set_cons_succ])
 go_cut [80] (fun v80 wc => ∃ (kq : Nat) (x80_5 : Bool), v80 = .bool x80_5 ∧ Aside0 (turndownlaw06_awake.j0 kq x80_5 = some r) ∧ Aside0 (kq ≤ k) ∧ Aside0 (Below w.heap.size w wc))
 case first =>
  have H := HC6.out
  clear HC6
  by_cases c18 : t157 = 0
  ·
   rw [if_pos c18] at H
   have c18b0 : (t157 == 0) = true := beq_iff_eq.mpr c18
   have c18b1 : (t157 != 0) = false := bne_eq_false_iff_eq.mpr c18
   clear c18
   (first | rw [c18b0] | (simp only [i64_w, i32_w]; rw [c18b0]) | skip)
   by_cases c19 : t156 = 14
   ·
    rw [if_pos c19] at H
    have c19b0 : (t156 == 14) = true := beq_iff_eq.mpr c19
    have c19b1 : (t156 != 14) = false := bne_eq_false_iff_eq.mpr c19
    clear c19
    by_cases c20 : t164 = 0
    ·
     rw [if_pos c20] at H
     have c20b0 : (t164 == 0) = true := beq_iff_eq.mpr c20
     have c20b1 : (t164 != 0) = false := bne_eq_false_iff_eq.mpr c20
     clear c20
     obtain ⟨y174, hy174⟩ : ∃ y_ : List ByteArray, y_ = (([(⟨#[49, 48]⟩ : ByteArray), (⟨#[48]⟩ : ByteArray), (⟨#[49, 49]⟩ : ByteArray)] : List ByteArray)) := ⟨_, rfl⟩
     replace H : ((turndownlaw06_texts.f k t163 y174).bind fun t177 => (if t177 = true then (if t168 = 0 then (if t167.toList = ([49, 49, 49, 48, 49, 49, 48, 48] : List UInt8) then (if t171 = 0 then (if t169.toList = ([49] : List UInt8) then (if t170 = 0 then (if t173 = 0 then (turndownlaw06_awake.j0 k (t172 != 5)) else (turndownlaw06_awake.j0 k true)) else (turndownlaw06_awake.j0 k true)) else (turndownlaw06_awake.j0 k true)) else (turndownlaw06_awake.j0 k true)) else (turndownlaw06_awake.j0 k true)) else (turndownlaw06_awake.j0 k true)) else (turndownlaw06_awake.j0 k true))) = some r := by first | (rw [hy174]; with_reducible exact H) | (have H2_ := (Option.bind_some _ _).symm.trans H; rw [hy174]; with_reducible exact H2_) | (have H2_ := (Option.bind_some _ _).symm.trans H; with_reducible exact H2_) | with_reducible exact H | (rw [hy174]; exact H) | exact H
     have Ny174 := Aside0.mk hy174
     clear hy174
     replace H := Option.bind_eq_some_iff.mp H
     obtain ⟨t177, A210, H⟩ := H
     replace H : (if t177 = true then (if t168 = 0 then (if t167.toList = ([49, 49, 49, 48, 49, 49, 48, 48] : List UInt8) then (if t171 = 0 then (if t169.toList = ([49] : List UInt8) then (if t170 = 0 then (if t173 = 0 then (turndownlaw06_awake.j0 k (t172 != 5)) else (turndownlaw06_awake.j0 k true)) else (turndownlaw06_awake.j0 k true)) else (turndownlaw06_awake.j0 k true)) else (turndownlaw06_awake.j0 k true)) else (turndownlaw06_awake.j0 k true)) else (turndownlaw06_awake.j0 k true)) else (turndownlaw06_awake.j0 k true)) = some r := H
     have A21 := Aside0.mk A210
     clear A210
     by_cases c22 : t177 = true
     ·
      subst c22
      have H1 : (if t168 = 0 then (if t167.toList = ([49, 49, 49, 48, 49, 49, 48, 48] : List UInt8) then (if t171 = 0 then (if t169.toList = ([49] : List UInt8) then (if t170 = 0 then (if t173 = 0 then (turndownlaw06_awake.j0 k (t172 != 5)) else (turndownlaw06_awake.j0 k true)) else (turndownlaw06_awake.j0 k true)) else (turndownlaw06_awake.j0 k true)) else (turndownlaw06_awake.j0 k true)) else (turndownlaw06_awake.j0 k true)) else (turndownlaw06_awake.j0 k true)) = some r := by rw [if_pos rfl] at H; exact H
      clear H
      have H := H1
      clear H1
      by_cases c23 : t168 = 0
      ·
       rw [if_pos c23] at H
       have c23b0 : (t168 == 0) = true := beq_iff_eq.mpr c23
       have c23b1 : (t168 != 0) = false := bne_eq_false_iff_eq.mpr c23
       clear c23
       by_cases c24 : t167.toList = ([49, 49, 49, 48, 49, 49, 48, 48] : List UInt8)
       ·
        rw [if_pos c24] at H
        have c24b0 : (t167.toList == ([49, 49, 49, 48, 49, 49, 48, 48] : List UInt8)) = true := beq_iff_eq.mpr c24
        have c24b1 : (t167.toList != ([49, 49, 49, 48, 49, 49, 48, 48] : List UInt8)) = false := bne_eq_false_iff_eq.mpr c24
        clear c24
        by_cases c25 : t171 = 0
        ·
         rw [if_pos c25] at H
         have c25b0 : (t171 == 0) = true := beq_iff_eq.mpr c25
         have c25b1 : (t171 != 0) = false := bne_eq_false_iff_eq.mpr c25
         clear c25
         by_cases c26 : t169.toList = ([49] : List UInt8)
         ·
          rw [if_pos c26] at H
          have c26b0 : (t169.toList == ([49] : List UInt8)) = true := beq_iff_eq.mpr c26
          have c26b1 : (t169.toList != ([49] : List UInt8)) = false := bne_eq_false_iff_eq.mpr c26
          clear c26
          by_cases c27 : t170 = 0
          ·
           rw [if_pos c27] at H
           have c27b0 : (t170 == 0) = true := beq_iff_eq.mpr c27
           have c27b1 : (t170 != 0) = false := bne_eq_false_iff_eq.mpr c27
           clear c27
           by_cases c28 : t173 = 0
           ·
            rw [if_pos c28] at H
            have c28b0 : (t173 == 0) = true := beq_iff_eq.mpr c28
            have c28b1 : (t173 != 0) = false := bne_eq_false_iff_eq.mpr c28
            clear c28
            have H' := Aside0.mk H
            clear H
            go_wp2_with (first | ((with_reducible refine gate_dst (N := 49) rfl ?_); (try (refine gate_guard (by rfl) ?_; dsimp only)); refine Kd.R_lit Kd.string _ 9 ?hg (N := 49) ?hd (xs := ([(⟨#[49, 48]⟩ : ByteArray), (⟨#[48]⟩ : ByteArray), (⟨#[49, 49]⟩ : ByteArray)] : List ByteArray)) (inner := [.string (⟨#[49, 48]⟩ : ByteArray), .string (⟨#[48]⟩ : ByteArray), .string (⟨#[49, 49]⟩ : ByteArray)]) (ok := fun _ => True) (okp := fun _ => True) ?hr ?hp (fun _ hk => hk) trivial (Below.refl _ _) (Nat.le_refl _) (by simp) ?_; (case hd => rfl); (case hg => rfl); (case hr => first | (go_simp; done) | (go_simp; rfl)); (case hp => exact (Reps.one (show Kd.M Kd.string _ _ _ (⟨#[49, 48]⟩ : ByteArray) [.string (⟨#[49, 48]⟩ : ByteArray)] from rfl) (Reps.one (show Kd.M Kd.string _ _ _ (⟨#[48]⟩ : ByteArray) [.string (⟨#[48]⟩ : ByteArray)] from rfl) (Reps.one (show Kd.M Kd.string _ _ _ (⟨#[49, 49]⟩ : ByteArray) [.string (⟨#[49, 49]⟩ : ByteArray)] from rfl) (Reps.none _ _))))); intro v175 w29 ho30 hb hg_ hnew_; clear hg_ hnew_; (first | rw [← Ny174.out] at ho30 | (simp only [Int.reduceToNat] at ho30; rw [← Ny174.out] at ho30)); have n0_ := Aside0.mk (Kd.R_below (by (with_reducible repeat (first | apply Kd.R_alloc | apply Kd.R_drewN | apply Kd.R_drew)); exact HO154.out) hb); have n1_ := Aside0.mk (Kd.R_below (by (with_reducible repeat (first | apply Kd.R_alloc | apply Kd.R_drewN | apply Kd.R_drew)); exact HO159.out) hb); have n2_ := Aside0.mk (Kd.R_below (by (with_reducible repeat (first | apply Kd.R_alloc | apply Kd.R_drewN | apply Kd.R_drew)); exact HO162.out) hb); have n3_ := Aside0.mk (Kd.R_elder' (by (with_reducible repeat (first | apply Kd.R_alloc | apply Kd.R_drewN | apply Kd.R_drew)); exact HO166.out) (Kd.R_base ho30) hb); have n4_ := Aside0.mk (Kd.R_lower (Kd.R_new' ho30 (Kd.R_lt (by (with_reducible repeat (first | apply Kd.R_alloc | apply Kd.R_drewN | apply Kd.R_drew)); exact HO166.out))) (below_size (by repeat (first | (with_reducible first | exact HB.out | apply below_alloc | apply pw_below_drewN | apply below_drew1) | exact HB.out)))); have n5_ := Aside0.mk (below_step (by repeat (first | (with_reducible first | exact HB.out | apply below_alloc | apply pw_below_drewN | apply below_drew1) | exact HB.out)) hb); clear HO154; clear HO159; clear HO162; clear HO166; clear HB; have HO154 := n0_; have HO159 := n1_; have HO162 := n2_; have HO166 := n3_; have HO176 := n4_; have HB := n5_; clear n0_ n1_ n2_ n3_ n4_ n5_; clear hb ho30; obtain ⟨Ao31, co31, eo31⟩ := Kd.R_slice HO166.out; subst eo31; obtain ⟨Ao32, co32, eo32⟩ := Kd.R_slice HO176.out; subst eo32) | (go_at_call 28; (with_reducible refine (turndownlaw06_texts.calls k _ _ t163 _ _ y174 true _ ?side1 ?side2 ?side3 ?side4 A21.out).mono ?_); (case side1 => repeat (first | exact (Kd.R_reads' HO166.out).2.2 | (with_reducible refine Kd.C_alloc ?_ _) | (with_reducible refine Kd.C_drewN ?_ _) | (with_reducible refine Kd.C_drew ?_))); (case side2 => exact (Kd.R_reads' HO166.out).2.1); (case side3 => repeat (first | exact (Kd.R_reads' HO176.out).2.2 | (with_reducible refine Kd.C_alloc ?_ _) | (with_reducible refine Kd.C_drewN ?_ _) | (with_reducible refine Kd.C_drew ?_))); (case side4 => exact (Kd.R_reads' HO176.out).2.1); rintro e w' ⟨rfl, ⟨nd, rfl⟩⟩))
            go_meet
            case rel => exact ⟨_, ((t172 != 5)), (by first | rfl | (simp; done) | (simp [*]; done)), H', ⟨by first | omega | exact Nat.le_refl _⟩, ⟨by repeat (first | (with_reducible first | exact HB.out | apply below_alloc | apply pw_below_drewN | apply below_drew1) | exact HB.out)⟩⟩
           ·
            rw [if_neg c28] at H
            have c28b0 : (t173 == 0) = false := beq_eq_false_iff_ne.mpr c28
            have c28b1 : (t173 != 0) = true := bne_iff_ne.mpr c28
            have H' := Aside0.mk H
            clear H
            go_wp2_with (first | ((with_reducible refine gate_dst (N := 49) rfl ?_); (try (refine gate_guard (by rfl) ?_; dsimp only)); refine Kd.R_lit Kd.string _ 9 ?hg (N := 49) ?hd (xs := ([(⟨#[49, 48]⟩ : ByteArray), (⟨#[48]⟩ : ByteArray), (⟨#[49, 49]⟩ : ByteArray)] : List ByteArray)) (inner := [.string (⟨#[49, 48]⟩ : ByteArray), .string (⟨#[48]⟩ : ByteArray), .string (⟨#[49, 49]⟩ : ByteArray)]) (ok := fun _ => True) (okp := fun _ => True) ?hr ?hp (fun _ hk => hk) trivial (Below.refl _ _) (Nat.le_refl _) (by simp) ?_; (case hd => rfl); (case hg => rfl); (case hr => first | (go_simp; done) | (go_simp; rfl)); (case hp => exact (Reps.one (show Kd.M Kd.string _ _ _ (⟨#[49, 48]⟩ : ByteArray) [.string (⟨#[49, 48]⟩ : ByteArray)] from rfl) (Reps.one (show Kd.M Kd.string _ _ _ (⟨#[48]⟩ : ByteArray) [.string (⟨#[48]⟩ : ByteArray)] from rfl) (Reps.one (show Kd.M Kd.string _ _ _ (⟨#[49, 49]⟩ : ByteArray) [.string (⟨#[49, 49]⟩ : ByteArray)] from rfl) (Reps.none _ _))))); intro v175 w33 ho34 hb hg_ hnew_; clear hg_ hnew_; (first | rw [← Ny174.out] at ho34 | (simp only [Int.reduceToNat] at ho34; rw [← Ny174.out] at ho34)); have n0_ := Aside0.mk (Kd.R_below (by (with_reducible repeat (first | apply Kd.R_alloc | apply Kd.R_drewN | apply Kd.R_drew)); exact HO154.out) hb); have n1_ := Aside0.mk (Kd.R_below (by (with_reducible repeat (first | apply Kd.R_alloc | apply Kd.R_drewN | apply Kd.R_drew)); exact HO159.out) hb); have n2_ := Aside0.mk (Kd.R_below (by (with_reducible repeat (first | apply Kd.R_alloc | apply Kd.R_drewN | apply Kd.R_drew)); exact HO162.out) hb); have n3_ := Aside0.mk (Kd.R_elder' (by (with_reducible repeat (first | apply Kd.R_alloc | apply Kd.R_drewN | apply Kd.R_drew)); exact HO166.out) (Kd.R_base ho34) hb); have n4_ := Aside0.mk (Kd.R_lower (Kd.R_new' ho34 (Kd.R_lt (by (with_reducible repeat (first | apply Kd.R_alloc | apply Kd.R_drewN | apply Kd.R_drew)); exact HO166.out))) (below_size (by repeat (first | (with_reducible first | exact HB.out | apply below_alloc | apply pw_below_drewN | apply below_drew1) | exact HB.out)))); have n5_ := Aside0.mk (below_step (by repeat (first | (with_reducible first | exact HB.out | apply below_alloc | apply pw_below_drewN | apply below_drew1) | exact HB.out)) hb); clear HO154; clear HO159; clear HO162; clear HO166; clear HB; have HO154 := n0_; have HO159 := n1_; have HO162 := n2_; have HO166 := n3_; have HO176 := n4_; have HB := n5_; clear n0_ n1_ n2_ n3_ n4_ n5_; clear hb ho34; obtain ⟨Ao35, co35, eo35⟩ := Kd.R_slice HO166.out; subst eo35; obtain ⟨Ao36, co36, eo36⟩ := Kd.R_slice HO176.out; subst eo36) | (go_at_call 28; (with_reducible refine (turndownlaw06_texts.calls k _ _ t163 _ _ y174 true _ ?side1 ?side2 ?side3 ?side4 A21.out).mono ?_); (case side1 => repeat (first | exact (Kd.R_reads' HO166.out).2.2 | (with_reducible refine Kd.C_alloc ?_ _) | (with_reducible refine Kd.C_drewN ?_ _) | (with_reducible refine Kd.C_drew ?_))); (case side2 => exact (Kd.R_reads' HO166.out).2.1); (case side3 => repeat (first | exact (Kd.R_reads' HO176.out).2.2 | (with_reducible refine Kd.C_alloc ?_ _) | (with_reducible refine Kd.C_drewN ?_ _) | (with_reducible refine Kd.C_drew ?_))); (case side4 => exact (Kd.R_reads' HO176.out).2.1); rintro e w' ⟨rfl, ⟨nd, rfl⟩⟩))
            go_meet
            case rel => exact ⟨_, (true), (by first | rfl | (simp; done) | (simp [*]; done)), H', ⟨by first | omega | exact Nat.le_refl _⟩, ⟨by repeat (first | (with_reducible first | exact HB.out | apply below_alloc | apply pw_below_drewN | apply below_drew1) | exact HB.out)⟩⟩
          ·
           rw [if_neg c27] at H
           have c27b0 : (t170 == 0) = false := beq_eq_false_iff_ne.mpr c27
           have c27b1 : (t170 != 0) = true := bne_iff_ne.mpr c27
           have H' := Aside0.mk H
           clear H
           go_wp2_with (first | ((with_reducible refine gate_dst (N := 49) rfl ?_); (try (refine gate_guard (by rfl) ?_; dsimp only)); refine Kd.R_lit Kd.string _ 9 ?hg (N := 49) ?hd (xs := ([(⟨#[49, 48]⟩ : ByteArray), (⟨#[48]⟩ : ByteArray), (⟨#[49, 49]⟩ : ByteArray)] : List ByteArray)) (inner := [.string (⟨#[49, 48]⟩ : ByteArray), .string (⟨#[48]⟩ : ByteArray), .string (⟨#[49, 49]⟩ : ByteArray)]) (ok := fun _ => True) (okp := fun _ => True) ?hr ?hp (fun _ hk => hk) trivial (Below.refl _ _) (Nat.le_refl _) (by simp) ?_; (case hd => rfl); (case hg => rfl); (case hr => first | (go_simp; done) | (go_simp; rfl)); (case hp => exact (Reps.one (show Kd.M Kd.string _ _ _ (⟨#[49, 48]⟩ : ByteArray) [.string (⟨#[49, 48]⟩ : ByteArray)] from rfl) (Reps.one (show Kd.M Kd.string _ _ _ (⟨#[48]⟩ : ByteArray) [.string (⟨#[48]⟩ : ByteArray)] from rfl) (Reps.one (show Kd.M Kd.string _ _ _ (⟨#[49, 49]⟩ : ByteArray) [.string (⟨#[49, 49]⟩ : ByteArray)] from rfl) (Reps.none _ _))))); intro v175 w37 ho38 hb hg_ hnew_; clear hg_ hnew_; (first | rw [← Ny174.out] at ho38 | (simp only [Int.reduceToNat] at ho38; rw [← Ny174.out] at ho38)); have n0_ := Aside0.mk (Kd.R_below (by (with_reducible repeat (first | apply Kd.R_alloc | apply Kd.R_drewN | apply Kd.R_drew)); exact HO154.out) hb); have n1_ := Aside0.mk (Kd.R_below (by (with_reducible repeat (first | apply Kd.R_alloc | apply Kd.R_drewN | apply Kd.R_drew)); exact HO159.out) hb); have n2_ := Aside0.mk (Kd.R_below (by (with_reducible repeat (first | apply Kd.R_alloc | apply Kd.R_drewN | apply Kd.R_drew)); exact HO162.out) hb); have n3_ := Aside0.mk (Kd.R_elder' (by (with_reducible repeat (first | apply Kd.R_alloc | apply Kd.R_drewN | apply Kd.R_drew)); exact HO166.out) (Kd.R_base ho38) hb); have n4_ := Aside0.mk (Kd.R_lower (Kd.R_new' ho38 (Kd.R_lt (by (with_reducible repeat (first | apply Kd.R_alloc | apply Kd.R_drewN | apply Kd.R_drew)); exact HO166.out))) (below_size (by repeat (first | (with_reducible first | exact HB.out | apply below_alloc | apply pw_below_drewN | apply below_drew1) | exact HB.out)))); have n5_ := Aside0.mk (below_step (by repeat (first | (with_reducible first | exact HB.out | apply below_alloc | apply pw_below_drewN | apply below_drew1) | exact HB.out)) hb); clear HO154; clear HO159; clear HO162; clear HO166; clear HB; have HO154 := n0_; have HO159 := n1_; have HO162 := n2_; have HO166 := n3_; have HO176 := n4_; have HB := n5_; clear n0_ n1_ n2_ n3_ n4_ n5_; clear hb ho38; obtain ⟨Ao39, co39, eo39⟩ := Kd.R_slice HO166.out; subst eo39; obtain ⟨Ao40, co40, eo40⟩ := Kd.R_slice HO176.out; subst eo40) | (go_at_call 28; (with_reducible refine (turndownlaw06_texts.calls k _ _ t163 _ _ y174 true _ ?side1 ?side2 ?side3 ?side4 A21.out).mono ?_); (case side1 => repeat (first | exact (Kd.R_reads' HO166.out).2.2 | (with_reducible refine Kd.C_alloc ?_ _) | (with_reducible refine Kd.C_drewN ?_ _) | (with_reducible refine Kd.C_drew ?_))); (case side2 => exact (Kd.R_reads' HO166.out).2.1); (case side3 => repeat (first | exact (Kd.R_reads' HO176.out).2.2 | (with_reducible refine Kd.C_alloc ?_ _) | (with_reducible refine Kd.C_drewN ?_ _) | (with_reducible refine Kd.C_drew ?_))); (case side4 => exact (Kd.R_reads' HO176.out).2.1); rintro e w' ⟨rfl, ⟨nd, rfl⟩⟩))
           go_meet
           case rel => exact ⟨_, (true), (by first | rfl | (simp; done) | (simp [*]; done)), H', ⟨by first | omega | exact Nat.le_refl _⟩, ⟨by repeat (first | (with_reducible first | exact HB.out | apply below_alloc | apply pw_below_drewN | apply below_drew1) | exact HB.out)⟩⟩
         ·
          rw [if_neg c26] at H
          have c26b0 : (t169.toList == ([49] : List UInt8)) = false := beq_eq_false_iff_ne.mpr c26
          have c26b1 : (t169.toList != ([49] : List UInt8)) = true := bne_iff_ne.mpr c26
          have H' := Aside0.mk H
          clear H
          go_wp2_with (first | ((with_reducible refine gate_dst (N := 49) rfl ?_); (try (refine gate_guard (by rfl) ?_; dsimp only)); refine Kd.R_lit Kd.string _ 9 ?hg (N := 49) ?hd (xs := ([(⟨#[49, 48]⟩ : ByteArray), (⟨#[48]⟩ : ByteArray), (⟨#[49, 49]⟩ : ByteArray)] : List ByteArray)) (inner := [.string (⟨#[49, 48]⟩ : ByteArray), .string (⟨#[48]⟩ : ByteArray), .string (⟨#[49, 49]⟩ : ByteArray)]) (ok := fun _ => True) (okp := fun _ => True) ?hr ?hp (fun _ hk => hk) trivial (Below.refl _ _) (Nat.le_refl _) (by simp) ?_; (case hd => rfl); (case hg => rfl); (case hr => first | (go_simp; done) | (go_simp; rfl)); (case hp => exact (Reps.one (show Kd.M Kd.string _ _ _ (⟨#[49, 48]⟩ : ByteArray) [.string (⟨#[49, 48]⟩ : ByteArray)] from rfl) (Reps.one (show Kd.M Kd.string _ _ _ (⟨#[48]⟩ : ByteArray) [.string (⟨#[48]⟩ : ByteArray)] from rfl) (Reps.one (show Kd.M Kd.string _ _ _ (⟨#[49, 49]⟩ : ByteArray) [.string (⟨#[49, 49]⟩ : ByteArray)] from rfl) (Reps.none _ _))))); intro v175 w41 ho42 hb hg_ hnew_; clear hg_ hnew_; (first | rw [← Ny174.out] at ho42 | (simp only [Int.reduceToNat] at ho42; rw [← Ny174.out] at ho42)); have n0_ := Aside0.mk (Kd.R_below (by (with_reducible repeat (first | apply Kd.R_alloc | apply Kd.R_drewN | apply Kd.R_drew)); exact HO154.out) hb); have n1_ := Aside0.mk (Kd.R_below (by (with_reducible repeat (first | apply Kd.R_alloc | apply Kd.R_drewN | apply Kd.R_drew)); exact HO159.out) hb); have n2_ := Aside0.mk (Kd.R_below (by (with_reducible repeat (first | apply Kd.R_alloc | apply Kd.R_drewN | apply Kd.R_drew)); exact HO162.out) hb); have n3_ := Aside0.mk (Kd.R_elder' (by (with_reducible repeat (first | apply Kd.R_alloc | apply Kd.R_drewN | apply Kd.R_drew)); exact HO166.out) (Kd.R_base ho42) hb); have n4_ := Aside0.mk (Kd.R_lower (Kd.R_new' ho42 (Kd.R_lt (by (with_reducible repeat (first | apply Kd.R_alloc | apply Kd.R_drewN | apply Kd.R_drew)); exact HO166.out))) (below_size (by repeat (first | (with_reducible first | exact HB.out | apply below_alloc | apply pw_below_drewN | apply below_drew1) | exact HB.out)))); have n5_ := Aside0.mk (below_step (by repeat (first | (with_reducible first | exact HB.out | apply below_alloc | apply pw_below_drewN | apply below_drew1) | exact HB.out)) hb); clear HO154; clear HO159; clear HO162; clear HO166; clear HB; have HO154 := n0_; have HO159 := n1_; have HO162 := n2_; have HO166 := n3_; have HO176 := n4_; have HB := n5_; clear n0_ n1_ n2_ n3_ n4_ n5_; clear hb ho42; obtain ⟨Ao43, co43, eo43⟩ := Kd.R_slice HO166.out; subst eo43; obtain ⟨Ao44, co44, eo44⟩ := Kd.R_slice HO176.out; subst eo44) | (go_at_call 28; (with_reducible refine (turndownlaw06_texts.calls k _ _ t163 _ _ y174 true _ ?side1 ?side2 ?side3 ?side4 A21.out).mono ?_); (case side1 => repeat (first | exact (Kd.R_reads' HO166.out).2.2 | (with_reducible refine Kd.C_alloc ?_ _) | (with_reducible refine Kd.C_drewN ?_ _) | (with_reducible refine Kd.C_drew ?_))); (case side2 => exact (Kd.R_reads' HO166.out).2.1); (case side3 => repeat (first | exact (Kd.R_reads' HO176.out).2.2 | (with_reducible refine Kd.C_alloc ?_ _) | (with_reducible refine Kd.C_drewN ?_ _) | (with_reducible refine Kd.C_drew ?_))); (case side4 => exact (Kd.R_reads' HO176.out).2.1); rintro e w' ⟨rfl, ⟨nd, rfl⟩⟩))
          go_meet
          case rel => exact ⟨_, (true), (by first | rfl | (simp; done) | (simp [*]; done)), H', ⟨by first | omega | exact Nat.le_refl _⟩, ⟨by repeat (first | (with_reducible first | exact HB.out | apply below_alloc | apply pw_below_drewN | apply below_drew1) | exact HB.out)⟩⟩
        ·
         rw [if_neg c25] at H
         have c25b0 : (t171 == 0) = false := beq_eq_false_iff_ne.mpr c25
         have c25b1 : (t171 != 0) = true := bne_iff_ne.mpr c25
         have H' := Aside0.mk H
         clear H
         go_wp2_with (first | ((with_reducible refine gate_dst (N := 49) rfl ?_); (try (refine gate_guard (by rfl) ?_; dsimp only)); refine Kd.R_lit Kd.string _ 9 ?hg (N := 49) ?hd (xs := ([(⟨#[49, 48]⟩ : ByteArray), (⟨#[48]⟩ : ByteArray), (⟨#[49, 49]⟩ : ByteArray)] : List ByteArray)) (inner := [.string (⟨#[49, 48]⟩ : ByteArray), .string (⟨#[48]⟩ : ByteArray), .string (⟨#[49, 49]⟩ : ByteArray)]) (ok := fun _ => True) (okp := fun _ => True) ?hr ?hp (fun _ hk => hk) trivial (Below.refl _ _) (Nat.le_refl _) (by simp) ?_; (case hd => rfl); (case hg => rfl); (case hr => first | (go_simp; done) | (go_simp; rfl)); (case hp => exact (Reps.one (show Kd.M Kd.string _ _ _ (⟨#[49, 48]⟩ : ByteArray) [.string (⟨#[49, 48]⟩ : ByteArray)] from rfl) (Reps.one (show Kd.M Kd.string _ _ _ (⟨#[48]⟩ : ByteArray) [.string (⟨#[48]⟩ : ByteArray)] from rfl) (Reps.one (show Kd.M Kd.string _ _ _ (⟨#[49, 49]⟩ : ByteArray) [.string (⟨#[49, 49]⟩ : ByteArray)] from rfl) (Reps.none _ _))))); intro v175 w45 ho46 hb hg_ hnew_; clear hg_ hnew_; (first | rw [← Ny174.out] at ho46 | (simp only [Int.reduceToNat] at ho46; rw [← Ny174.out] at ho46)); have n0_ := Aside0.mk (Kd.R_below (by (with_reducible repeat (first | apply Kd.R_alloc | apply Kd.R_drewN | apply Kd.R_drew)); exact HO154.out) hb); have n1_ := Aside0.mk (Kd.R_below (by (with_reducible repeat (first | apply Kd.R_alloc | apply Kd.R_drewN | apply Kd.R_drew)); exact HO159.out) hb); have n2_ := Aside0.mk (Kd.R_below (by (with_reducible repeat (first | apply Kd.R_alloc | apply Kd.R_drewN | apply Kd.R_drew)); exact HO162.out) hb); have n3_ := Aside0.mk (Kd.R_elder' (by (with_reducible repeat (first | apply Kd.R_alloc | apply Kd.R_drewN | apply Kd.R_drew)); exact HO166.out) (Kd.R_base ho46) hb); have n4_ := Aside0.mk (Kd.R_lower (Kd.R_new' ho46 (Kd.R_lt (by (with_reducible repeat (first | apply Kd.R_alloc | apply Kd.R_drewN | apply Kd.R_drew)); exact HO166.out))) (below_size (by repeat (first | (with_reducible first | exact HB.out | apply below_alloc | apply pw_below_drewN | apply below_drew1) | exact HB.out)))); have n5_ := Aside0.mk (below_step (by repeat (first | (with_reducible first | exact HB.out | apply below_alloc | apply pw_below_drewN | apply below_drew1) | exact HB.out)) hb); clear HO154; clear HO159; clear HO162; clear HO166; clear HB; have HO154 := n0_; have HO159 := n1_; have HO162 := n2_; have HO166 := n3_; have HO176 := n4_; have HB := n5_; clear n0_ n1_ n2_ n3_ n4_ n5_; clear hb ho46; obtain ⟨Ao47, co47, eo47⟩ := Kd.R_slice HO166.out; subst eo47; obtain ⟨Ao48, co48, eo48⟩ := Kd.R_slice HO176.out; subst eo48) | (go_at_call 28; (with_reducible refine (turndownlaw06_texts.calls k _ _ t163 _ _ y174 true _ ?side1 ?side2 ?side3 ?side4 A21.out).mono ?_); (case side1 => repeat (first | exact (Kd.R_reads' HO166.out).2.2 | (with_reducible refine Kd.C_alloc ?_ _) | (with_reducible refine Kd.C_drewN ?_ _) | (with_reducible refine Kd.C_drew ?_))); (case side2 => exact (Kd.R_reads' HO166.out).2.1); (case side3 => repeat (first | exact (Kd.R_reads' HO176.out).2.2 | (with_reducible refine Kd.C_alloc ?_ _) | (with_reducible refine Kd.C_drewN ?_ _) | (with_reducible refine Kd.C_drew ?_))); (case side4 => exact (Kd.R_reads' HO176.out).2.1); rintro e w' ⟨rfl, ⟨nd, rfl⟩⟩))
         go_meet
         case rel => exact ⟨_, (true), (by first | rfl | (simp; done) | (simp [*]; done)), H', ⟨by first | omega | exact Nat.le_refl _⟩, ⟨by repeat (first | (with_reducible first | exact HB.out | apply below_alloc | apply pw_below_drewN | apply below_drew1) | exact HB.out)⟩⟩
       ·
        rw [if_neg c24] at H
        have c24b0 : (t167.toList == ([49, 49, 49, 48, 49, 49, 48, 48] : List UInt8)) = false := beq_eq_false_iff_ne.mpr c24
        have c24b1 : (t167.toList != ([49, 49, 49, 48, 49, 49, 48, 48] : List UInt8)) = true := bne_iff_ne.mpr c24
        have H' := Aside0.mk H
        clear H
        go_wp2_with (first | ((with_reducible refine gate_dst (N := 49) rfl ?_); (try (refine gate_guard (by rfl) ?_; dsimp only)); refine Kd.R_lit Kd.string _ 9 ?hg (N := 49) ?hd (xs := ([(⟨#[49, 48]⟩ : ByteArray), (⟨#[48]⟩ : ByteArray), (⟨#[49, 49]⟩ : ByteArray)] : List ByteArray)) (inner := [.string (⟨#[49, 48]⟩ : ByteArray), .string (⟨#[48]⟩ : ByteArray), .string (⟨#[49, 49]⟩ : ByteArray)]) (ok := fun _ => True) (okp := fun _ => True) ?hr ?hp (fun _ hk => hk) trivial (Below.refl _ _) (Nat.le_refl _) (by simp) ?_; (case hd => rfl); (case hg => rfl); (case hr => first | (go_simp; done) | (go_simp; rfl)); (case hp => exact (Reps.one (show Kd.M Kd.string _ _ _ (⟨#[49, 48]⟩ : ByteArray) [.string (⟨#[49, 48]⟩ : ByteArray)] from rfl) (Reps.one (show Kd.M Kd.string _ _ _ (⟨#[48]⟩ : ByteArray) [.string (⟨#[48]⟩ : ByteArray)] from rfl) (Reps.one (show Kd.M Kd.string _ _ _ (⟨#[49, 49]⟩ : ByteArray) [.string (⟨#[49, 49]⟩ : ByteArray)] from rfl) (Reps.none _ _))))); intro v175 w49 ho50 hb hg_ hnew_; clear hg_ hnew_; (first | rw [← Ny174.out] at ho50 | (simp only [Int.reduceToNat] at ho50; rw [← Ny174.out] at ho50)); have n0_ := Aside0.mk (Kd.R_below (by (with_reducible repeat (first | apply Kd.R_alloc | apply Kd.R_drewN | apply Kd.R_drew)); exact HO154.out) hb); have n1_ := Aside0.mk (Kd.R_below (by (with_reducible repeat (first | apply Kd.R_alloc | apply Kd.R_drewN | apply Kd.R_drew)); exact HO159.out) hb); have n2_ := Aside0.mk (Kd.R_below (by (with_reducible repeat (first | apply Kd.R_alloc | apply Kd.R_drewN | apply Kd.R_drew)); exact HO162.out) hb); have n3_ := Aside0.mk (Kd.R_elder' (by (with_reducible repeat (first | apply Kd.R_alloc | apply Kd.R_drewN | apply Kd.R_drew)); exact HO166.out) (Kd.R_base ho50) hb); have n4_ := Aside0.mk (Kd.R_lower (Kd.R_new' ho50 (Kd.R_lt (by (with_reducible repeat (first | apply Kd.R_alloc | apply Kd.R_drewN | apply Kd.R_drew)); exact HO166.out))) (below_size (by repeat (first | (with_reducible first | exact HB.out | apply below_alloc | apply pw_below_drewN | apply below_drew1) | exact HB.out)))); have n5_ := Aside0.mk (below_step (by repeat (first | (with_reducible first | exact HB.out | apply below_alloc | apply pw_below_drewN | apply below_drew1) | exact HB.out)) hb); clear HO154; clear HO159; clear HO162; clear HO166; clear HB; have HO154 := n0_; have HO159 := n1_; have HO162 := n2_; have HO166 := n3_; have HO176 := n4_; have HB := n5_; clear n0_ n1_ n2_ n3_ n4_ n5_; clear hb ho50; obtain ⟨Ao51, co51, eo51⟩ := Kd.R_slice HO166.out; subst eo51; obtain ⟨Ao52, co52, eo52⟩ := Kd.R_slice HO176.out; subst eo52) | (go_at_call 28; (with_reducible refine (turndownlaw06_texts.calls k _ _ t163 _ _ y174 true _ ?side1 ?side2 ?side3 ?side4 A21.out).mono ?_); (case side1 => repeat (first | exact (Kd.R_reads' HO166.out).2.2 | (with_reducible refine Kd.C_alloc ?_ _) | (with_reducible refine Kd.C_drewN ?_ _) | (with_reducible refine Kd.C_drew ?_))); (case side2 => exact (Kd.R_reads' HO166.out).2.1); (case side3 => repeat (first | exact (Kd.R_reads' HO176.out).2.2 | (with_reducible refine Kd.C_alloc ?_ _) | (with_reducible refine Kd.C_drewN ?_ _) | (with_reducible refine Kd.C_drew ?_))); (case side4 => exact (Kd.R_reads' HO176.out).2.1); rintro e w' ⟨rfl, ⟨nd, rfl⟩⟩))
        go_meet
        case rel => exact ⟨_, (true), (by first | rfl | (simp; done) | (simp [*]; done)), H', ⟨by first | omega | exact Nat.le_refl _⟩, ⟨by repeat (first | (with_reducible first | exact HB.out | apply below_alloc | apply pw_below_drewN | apply below_drew1) | exact HB.out)⟩⟩
      ·
       rw [if_neg c23] at H
       have c23b0 : (t168 == 0) = false := beq_eq_false_iff_ne.mpr c23
       have c23b1 : (t168 != 0) = true := bne_iff_ne.mpr c23
       have H' := Aside0.mk H
       clear H
       go_wp2_with (first | ((with_reducible refine gate_dst (N := 49) rfl ?_); (try (refine gate_guard (by rfl) ?_; dsimp only)); refine Kd.R_lit Kd.string _ 9 ?hg (N := 49) ?hd (xs := ([(⟨#[49, 48]⟩ : ByteArray), (⟨#[48]⟩ : ByteArray), (⟨#[49, 49]⟩ : ByteArray)] : List ByteArray)) (inner := [.string (⟨#[49, 48]⟩ : ByteArray), .string (⟨#[48]⟩ : ByteArray), .string (⟨#[49, 49]⟩ : ByteArray)]) (ok := fun _ => True) (okp := fun _ => True) ?hr ?hp (fun _ hk => hk) trivial (Below.refl _ _) (Nat.le_refl _) (by simp) ?_; (case hd => rfl); (case hg => rfl); (case hr => first | (go_simp; done) | (go_simp; rfl)); (case hp => exact (Reps.one (show Kd.M Kd.string _ _ _ (⟨#[49, 48]⟩ : ByteArray) [.string (⟨#[49, 48]⟩ : ByteArray)] from rfl) (Reps.one (show Kd.M Kd.string _ _ _ (⟨#[48]⟩ : ByteArray) [.string (⟨#[48]⟩ : ByteArray)] from rfl) (Reps.one (show Kd.M Kd.string _ _ _ (⟨#[49, 49]⟩ : ByteArray) [.string (⟨#[49, 49]⟩ : ByteArray)] from rfl) (Reps.none _ _))))); intro v175 w53 ho54 hb hg_ hnew_; clear hg_ hnew_; (first | rw [← Ny174.out] at ho54 | (simp only [Int.reduceToNat] at ho54; rw [← Ny174.out] at ho54)); have n0_ := Aside0.mk (Kd.R_below (by (with_reducible repeat (first | apply Kd.R_alloc | apply Kd.R_drewN | apply Kd.R_drew)); exact HO154.out) hb); have n1_ := Aside0.mk (Kd.R_below (by (with_reducible repeat (first | apply Kd.R_alloc | apply Kd.R_drewN | apply Kd.R_drew)); exact HO159.out) hb); have n2_ := Aside0.mk (Kd.R_below (by (with_reducible repeat (first | apply Kd.R_alloc | apply Kd.R_drewN | apply Kd.R_drew)); exact HO162.out) hb); have n3_ := Aside0.mk (Kd.R_elder' (by (with_reducible repeat (first | apply Kd.R_alloc | apply Kd.R_drewN | apply Kd.R_drew)); exact HO166.out) (Kd.R_base ho54) hb); have n4_ := Aside0.mk (Kd.R_lower (Kd.R_new' ho54 (Kd.R_lt (by (with_reducible repeat (first | apply Kd.R_alloc | apply Kd.R_drewN | apply Kd.R_drew)); exact HO166.out))) (below_size (by repeat (first | (with_reducible first | exact HB.out | apply below_alloc | apply pw_below_drewN | apply below_drew1) | exact HB.out)))); have n5_ := Aside0.mk (below_step (by repeat (first | (with_reducible first | exact HB.out | apply below_alloc | apply pw_below_drewN | apply below_drew1) | exact HB.out)) hb); clear HO154; clear HO159; clear HO162; clear HO166; clear HB; have HO154 := n0_; have HO159 := n1_; have HO162 := n2_; have HO166 := n3_; have HO176 := n4_; have HB := n5_; clear n0_ n1_ n2_ n3_ n4_ n5_; clear hb ho54; obtain ⟨Ao55, co55, eo55⟩ := Kd.R_slice HO166.out; subst eo55; obtain ⟨Ao56, co56, eo56⟩ := Kd.R_slice HO176.out; subst eo56) | (go_at_call 28; (with_reducible refine (turndownlaw06_texts.calls k _ _ t163 _ _ y174 true _ ?side1 ?side2 ?side3 ?side4 A21.out).mono ?_); (case side1 => repeat (first | exact (Kd.R_reads' HO166.out).2.2 | (with_reducible refine Kd.C_alloc ?_ _) | (with_reducible refine Kd.C_drewN ?_ _) | (with_reducible refine Kd.C_drew ?_))); (case side2 => exact (Kd.R_reads' HO166.out).2.1); (case side3 => repeat (first | exact (Kd.R_reads' HO176.out).2.2 | (with_reducible refine Kd.C_alloc ?_ _) | (with_reducible refine Kd.C_drewN ?_ _) | (with_reducible refine Kd.C_drew ?_))); (case side4 => exact (Kd.R_reads' HO176.out).2.1); rintro e w' ⟨rfl, ⟨nd, rfl⟩⟩))
       go_meet
       case rel => exact ⟨_, (true), (by first | rfl | (simp; done) | (simp [*]; done)), H', ⟨by first | omega | exact Nat.le_refl _⟩, ⟨by repeat (first | (with_reducible first | exact HB.out | apply below_alloc | apply pw_below_drewN | apply below_drew1) | exact HB.out)⟩⟩
     ·
      replace c22 := Bool.eq_false_iff.mpr c22
      subst c22
      have H1 : (turndownlaw06_awake.j0 k true) = some r := by rw [if_neg (show ¬ (false = true) by decide)] at H; exact H
      clear H
      have H := H1
      clear H1
      have H' := Aside0.mk H
      clear H
      go_wp2_with (first | ((with_reducible refine gate_dst (N := 49) rfl ?_); (try (refine gate_guard (by rfl) ?_; dsimp only)); refine Kd.R_lit Kd.string _ 9 ?hg (N := 49) ?hd (xs := ([(⟨#[49, 48]⟩ : ByteArray), (⟨#[48]⟩ : ByteArray), (⟨#[49, 49]⟩ : ByteArray)] : List ByteArray)) (inner := [.string (⟨#[49, 48]⟩ : ByteArray), .string (⟨#[48]⟩ : ByteArray), .string (⟨#[49, 49]⟩ : ByteArray)]) (ok := fun _ => True) (okp := fun _ => True) ?hr ?hp (fun _ hk => hk) trivial (Below.refl _ _) (Nat.le_refl _) (by simp) ?_; (case hd => rfl); (case hg => rfl); (case hr => first | (go_simp; done) | (go_simp; rfl)); (case hp => exact (Reps.one (show Kd.M Kd.string _ _ _ (⟨#[49, 48]⟩ : ByteArray) [.string (⟨#[49, 48]⟩ : ByteArray)] from rfl) (Reps.one (show Kd.M Kd.string _ _ _ (⟨#[48]⟩ : ByteArray) [.string (⟨#[48]⟩ : ByteArray)] from rfl) (Reps.one (show Kd.M Kd.string _ _ _ (⟨#[49, 49]⟩ : ByteArray) [.string (⟨#[49, 49]⟩ : ByteArray)] from rfl) (Reps.none _ _))))); intro v175 w57 ho58 hb hg_ hnew_; clear hg_ hnew_; (first | rw [← Ny174.out] at ho58 | (simp only [Int.reduceToNat] at ho58; rw [← Ny174.out] at ho58)); have n0_ := Aside0.mk (Kd.R_below (by (with_reducible repeat (first | apply Kd.R_alloc | apply Kd.R_drewN | apply Kd.R_drew)); exact HO154.out) hb); have n1_ := Aside0.mk (Kd.R_below (by (with_reducible repeat (first | apply Kd.R_alloc | apply Kd.R_drewN | apply Kd.R_drew)); exact HO159.out) hb); have n2_ := Aside0.mk (Kd.R_below (by (with_reducible repeat (first | apply Kd.R_alloc | apply Kd.R_drewN | apply Kd.R_drew)); exact HO162.out) hb); have n3_ := Aside0.mk (Kd.R_elder' (by (with_reducible repeat (first | apply Kd.R_alloc | apply Kd.R_drewN | apply Kd.R_drew)); exact HO166.out) (Kd.R_base ho58) hb); have n4_ := Aside0.mk (Kd.R_lower (Kd.R_new' ho58 (Kd.R_lt (by (with_reducible repeat (first | apply Kd.R_alloc | apply Kd.R_drewN | apply Kd.R_drew)); exact HO166.out))) (below_size (by repeat (first | (with_reducible first | exact HB.out | apply below_alloc | apply pw_below_drewN | apply below_drew1) | exact HB.out)))); have n5_ := Aside0.mk (below_step (by repeat (first | (with_reducible first | exact HB.out | apply below_alloc | apply pw_below_drewN | apply below_drew1) | exact HB.out)) hb); clear HO154; clear HO159; clear HO162; clear HO166; clear HB; have HO154 := n0_; have HO159 := n1_; have HO162 := n2_; have HO166 := n3_; have HO176 := n4_; have HB := n5_; clear n0_ n1_ n2_ n3_ n4_ n5_; clear hb ho58; obtain ⟨Ao59, co59, eo59⟩ := Kd.R_slice HO166.out; subst eo59; obtain ⟨Ao60, co60, eo60⟩ := Kd.R_slice HO176.out; subst eo60) | (go_at_call 28; (with_reducible refine (turndownlaw06_texts.calls k _ _ t163 _ _ y174 false _ ?side1 ?side2 ?side3 ?side4 A21.out).mono ?_); (case side1 => repeat (first | exact (Kd.R_reads' HO166.out).2.2 | (with_reducible refine Kd.C_alloc ?_ _) | (with_reducible refine Kd.C_drewN ?_ _) | (with_reducible refine Kd.C_drew ?_))); (case side2 => exact (Kd.R_reads' HO166.out).2.1); (case side3 => repeat (first | exact (Kd.R_reads' HO176.out).2.2 | (with_reducible refine Kd.C_alloc ?_ _) | (with_reducible refine Kd.C_drewN ?_ _) | (with_reducible refine Kd.C_drew ?_))); (case side4 => exact (Kd.R_reads' HO176.out).2.1); rintro e w' ⟨rfl, ⟨nd, rfl⟩⟩))
      go_meet
      case rel => exact ⟨_, (true), (by first | rfl | (simp; done) | (simp [*]; done)), H', ⟨by first | omega | exact Nat.le_refl _⟩, ⟨by repeat (first | (with_reducible first | exact HB.out | apply below_alloc | apply pw_below_drewN | apply below_drew1) | exact HB.out)⟩⟩
    ·
     rw [if_neg c20] at H
     have c20b0 : (t164 == 0) = false := beq_eq_false_iff_ne.mpr c20
     have c20b1 : (t164 != 0) = true := bne_iff_ne.mpr c20
     have H' := Aside0.mk H
     clear H
     go_wp2
     go_meet
     case rel => exact ⟨_, (true), (by first | rfl | (simp; done) | (simp [*]; done)), H', ⟨by first | omega | exact Nat.le_refl _⟩, ⟨by repeat (first | (with_reducible first | exact HB.out | apply below_alloc | apply pw_below_drewN | apply below_drew1) | exact HB.out)⟩⟩
   ·
    rw [if_neg c19] at H
    have c19b0 : (t156 == 14) = false := beq_eq_false_iff_ne.mpr c19
    have c19b1 : (t156 != 14) = true := bne_iff_ne.mpr c19
    have H' := Aside0.mk H
    clear H
    go_wp2
    go_meet
    case rel => exact ⟨_, (true), (by first | rfl | (simp; done) | (simp [*]; done)), H', ⟨by first | omega | exact Nat.le_refl _⟩, ⟨by repeat (first | (with_reducible first | exact HB.out | apply below_alloc | apply pw_below_drewN | apply below_drew1) | exact HB.out)⟩⟩
  ·
   rw [if_neg c18] at H
   have c18b0 : (t157 == 0) = false := beq_eq_false_iff_ne.mpr c18
   have c18b1 : (t157 != 0) = true := bne_iff_ne.mpr c18
   (first | rw [c18b0] | (simp only [i64_w, i32_w]; rw [c18b0]) | skip)
   have H' := Aside0.mk H
   clear H
   go_wp2
   go_meet
   case rel => exact ⟨_, (true), (by first | rfl | (simp; done) | (simp [*]; done)), H', ⟨by first | omega | exact Nat.le_refl _⟩, ⟨by repeat (first | (with_reducible first | exact HB.out | apply below_alloc | apply pw_below_drewN | apply below_drew1) | exact HB.out)⟩⟩
 case rest =>
  clear HC6
  try clear c1
  try clear c2
  try clear p2
  try clear c3
  try clear c18
  try clear c18b0
  try clear c18b1
  try clear c19
  try clear c19b0
  try clear c19b1
  try clear c20
  try clear c20b0
  try clear c20b1
  try clear c22
  try clear c23
  try clear c23b0
  try clear c23b1
  try clear c24
  try clear c24b0
  try clear c24b1
  try clear c25
  try clear c25b0
  try clear c25b1
  try clear c26
  try clear c26b0
  try clear c26b1
  try clear c27
  try clear c27b0
  try clear c27b1
  try clear c28
  try clear c28b0
  try clear c28b1
  try clear c30
  try clear c34
  try clear c36
  obtain ⟨kq, x80_5, rfl, HA, HJ5, HB⟩ := hcut
  cases kq with
  | zero => exact absurd HA.out (by simp [turndownlaw06_awake.j0])
  | succ kj5 =>
   have H := HA.out
   clear HA
   simp only [turndownlaw06_awake.j0] at H
   by_cases c61 : x80_5 = true
   ·
    subst c61
    have H1 : (some false) = some r := by rw [if_pos rfl] at H; exact H
    clear H
    have H := H1
    clear H1
    obtain rfl := Option.some.inj H
    go_wp2
    go_ret
    exact ⟨by first | rfl | (simp [errW_none, errW_some] <;> rfl) | (simp [*, errW_none, errW_some] <;> rfl), by repeat (first | (with_reducible first | exact HB.out | apply below_alloc | apply pw_below_drewN | apply below_drew1) | exact HB.out)⟩
   ·
    replace c61 := Bool.eq_false_iff.mpr c61
    subst c61
    have H1 : (some true) = some r := by rw [if_neg (show ¬ (false = true) by decide)] at H; exact H
    clear H
    have H := H1
    clear H1
    obtain rfl := Option.some.inj H
    go_wp2
    go_ret
    exact ⟨by first | rfl | (simp [errW_none, errW_some] <;> rfl) | (simp [*, errW_none, errW_some] <;> rfl), by repeat (first | (with_reducible first | exact HB.out | apply below_alloc | apply pw_below_drewN | apply below_drew1) | exact HB.out)⟩
end Go.Proofs.Ytcpojohpmcnnhaa.PA

set_option linter.unusedVariables false
set_option linter.unusedSimpArgs false
namespace Go.Proofs.Ytcpojohpmcnnhaa.L
open Go.RowKit Go.Proofs.YtcpojohpmcnnhaaW.PrintWords Go.Proofs.YtcpojohpmcnnhaaW.PrintLast Go.Proofs.YtcpojohpmcnnhaaW.PrintMore
open Go.Proofs.Ytcpojohpmcnnhaa.PA Go.Proofs.Ytcpojohpmcnnhaa.A
def okB (lo hi : Int) (l : List Int) : Bool := l.all (fun x => decide (lo ≤ x) && decide (x ≤ hi))
def lenB (l : List Int) : Bool := decide (1 ≤ (l.length : Int)) && decide ((l.length : Int) ≤ 64)
theorem okB_iff {lo hi : Int} {l : List Int} : okB lo hi l = true ↔ ∀ x, x ∈ l → lo ≤ x ∧ x ≤ hi := by simp [okB]
theorem lenB_iff {l : List Int} : lenB l = true ↔ 1 ≤ l.length ∧ l.length ≤ 64 := by simp [lenB]; omega
theorem within_all (a b c : Int) : code_within.f a b c = some (decide (b ≤ a) && decide (a ≤ c)) := by
  unfold code_within.f
  by_cases h : a ≥ b
  · rw [if_pos h]; simp [h]
  · rw [if_neg h]; simp; omega
theorem every_all (l : List Int) (lo hi : Int) : code_every.f l lo hi = some (okB lo hi l) := by
  unfold code_every.f okB
  congr 1
  induction l with
  | nil => rfl
  | cons x l ih =>
    rw [List.any_cons, List.all_cons, ← ih]
    unfold outB withinB
    cases (decide (lo ≤ x) && decide (x ≤ hi)) <;> simp
theorem areWeights_all (l : List Int) : code_areWeights.f l = some (lenB l && okB 0 1073741824 l) := by
  unfold code_areWeights.f
  rw [within_all]
  simp only [Option.bind_some]
  by_cases h : lenB l = true
  · have h' : (decide (1 ≤ (l.length : Int)) && decide ((l.length : Int) ≤ 64)) = true := h
    rw [if_pos h', every_all, h]
    rfl
  · have h' : ¬ (decide (1 ≤ (l.length : Int)) && decide ((l.length : Int) ≤ 64)) = true := h
    rw [if_neg h']
    simp [h]
theorem rd_nat (l : List Int) (q : Nat) : rd l (q : Int) = l.getD q 0 := rfl
theorem w1 {q : Nat} (h : q ≤ 100000000) : wrap64 ((q : Int) + 1) = ((q + 1 : Nat) : Int) := by unfold wrap64; omega
theorem drop_cons {α : Type} {l : List α} {q : Nat} (h : q < l.length) (d : α) : l.drop q = l.getD q d :: l.drop (q + 1) := by
  rw [List.getD_eq_getElem?_getD, List.getElem?_eq_getElem h]
  exact List.drop_eq_getElem_cons h
def sumI (l : List Int) : Int := (l.map fun x => (2 : Int) ^ (32 - x).toNat).sum
theorem pow_le32 {n : Nat} (h : n ≤ 32) : (2 : Int) ^ n ≤ 4294967296 := by
  have h2 : 2 ^ n ≤ 2 ^ 32 := Nat.pow_le_pow_right (by omega) h
  have h3 : (((2 ^ n : Nat)) : Int) ≤ ((2 ^ 32 : Nat) : Int) := by omega
  have e : (((2 ^ n : Nat)) : Int) = (2 : Int) ^ n := by push_cast; rfl
  rw [← e]; omega
theorem shl_one {n : Int} (h0 : 0 ≤ n) (h : n ≤ 32) : shl .i64 1 n = (2 : Int) ^ n.toNat := by
  unfold shl
  have h64 : IntKind.i64.bits = 64 := rfl
  rw [h64, Nat.min_eq_left (by omega), Int.one_mul]
  obtain ⟨m, rfl⟩ := Int.eq_ofNat_of_zero_le h0
  have h2 : (2 : Int) ^ m ≤ 4294967296 := pow_le32 (by omega)
  have h3 : (0 : Int) < 2 ^ m := Int.pow_pos (by omega)
  rw [Int.toNat_natCast]
  exact IntWalk.i64_in _ (by omega)
theorem sumI_bd {l : List Int} (h : okB 0 32 l = true) : 0 ≤ sumI l ∧ sumI l ≤ 4294967296 * (l.length : Int) := by
  induction l with
  | nil => simp [sumI]
  | cons x l ih =>
    rw [okB_iff] at h
    have hx := h x (by simp)
    have := ih (okB_iff.2 fun y hy => h y (by simp [hy]))
    have h2 : (2 : Int) ^ (32 - x).toNat ≤ 4294967296 := pow_le32 (by omega)
    have h3 : (0 : Int) < 2 ^ (32 - x).toNat := Int.pow_pos (by omega)
    simp only [sumI, List.map_cons, List.sum_cons, List.length_cons] at this ⊢
    push_cast
    omega
theorem sumI_cons (x : Int) (l : List Int) : sumI (x :: l) = (2 : Int) ^ (32 - x).toNat + sumI l := by simp [sumI]
theorem sum_step {l : List Int} (hl : l.length ≤ 1000000) (hok : okB 0 32 l = true) {q : Nat} (hq : q < l.length) : 0 ≤ l.getD q 0 ∧ l.getD q 0 ≤ 32 ∧ wrap64 (32 - l.getD q 0) = 32 - l.getD q 0 ∧ 0 ≤ wrap64 (32 - l.getD q 0) ∧
    ∀ s : Int, s + sumI (l.drop q) = sumI l → 0 ≤ s → wrap64 (s + shl .i64 1 (32 - l.getD q 0)) = s + (2 : Int) ^ (32 - l.getD q 0).toNat ∧ (s + (2 : Int) ^ (32 - l.getD q 0).toNat) + sumI (l.drop (q + 1)) = sumI l ∧ 0 ≤ s + (2 : Int) ^ (32 - l.getD q 0).toNat := by
  have hm : l.getD q 0 ∈ l := by rw [List.getD_eq_getElem?_getD, List.getElem?_eq_getElem hq]; exact List.getElem_mem hq
  have hx := okB_iff.1 hok _ hm
  have e : wrap64 (32 - l.getD q 0) = 32 - l.getD q 0 := by unfold wrap64; omega
  refine ⟨hx.1, hx.2, e, by rw [e]; omega, fun s hs h0 => ?_⟩
  rw [drop_cons hq 0, sumI_cons] at hs
  have h3 : (0 : Int) < 2 ^ (32 - l.getD q 0).toNat := Int.pow_pos (by omega)
  have hb := (sumI_bd (l := l) hok).2
  have hb2 := (sumI_bd (l := l.drop (q + 1)) (okB_iff.2 fun y hy => okB_iff.1 hok y (List.mem_of_mem_drop hy))).1
  rw [shl_one (by omega) (by omega)]
  refine ⟨?_, by omega, by omega⟩
  have h5 : (l.length : Int) ≤ 1000000 := by omega
  have h6 : 4294967296 * (l.length : Int) ≤ 4294967296 * 1000000 := by omega
  unfold wrap64
  omega
def checkI (l : List Int) : Int := if (lenB l && okB 0 32 l) = true then (if sumI l > 4294967296 then 60 else 0) else 2
theorem check_ev (l : List Int) (hl : l.length ≤ 1000000) : Ev (fun k => code_check.f k l) (checkI l) := by
  unfold checkI
  have hj : ∀ k, code_check.f k l = code_check.j0 k l (!(lenB l && okB 0 32 l)) := fun k => by
    unfold code_check.f
    rw [within_all]
    simp only [Option.bind_some]
    by_cases h : lenB l = true
    · have h' : (decide (1 ≤ (l.length : Int)) && decide ((l.length : Int) ≤ 64)) = true := h
      rw [if_pos h', every_all, h]
      rfl
    · have h' : ¬ (decide (1 ≤ (l.length : Int)) && decide ((l.length : Int) ≤ 64)) = true := h
      rw [if_neg h']
      simp [h]
  refine Ev.congr hj ?_
  by_cases hc : (lenB l && okB 0 32 l) = true
  · rw [if_pos hc, hc]
    have hok : okB 0 32 l = true := by rw [Bool.and_eq_true] at hc; exact hc.2
    have key : ∀ e q (s : Int), q + e = l.length → s + sumI (l.drop q) = sumI l → 0 ≤ s → Ev (fun k => code_check.l0 k s l (l.length : Int) (q : Int)) (if sumI l > 4294967296 then 60 else 0) := by
      intro e
      induction e with
      | zero =>
        intro q s hq hs h0
        refine Ev.step (fun k => ?_) (Ev.now _)
        rw [code_check.l0, if_neg (by omega)]
        rw [List.drop_of_length_le (by omega)] at hs
        have : sumI [] = 0 := rfl
        have hs' : s = sumI l := by omega
        rw [hs']
        split <;> rfl
      | succ e ih =>
        intro q s hq hs h0
        have hql : q < l.length := by omega
        obtain ⟨a1, a2, a3, a4, a5⟩ := sum_step hl hok hql
        obtain ⟨b1, b2, b3⟩ := a5 s hs h0
        refine Ev.step (fun k => ?_) (ih (q + 1) _ (by omega) b2 b3)
        rw [code_check.l0, if_pos (by omega), if_pos (by omega), if_pos (by omega), rd_nat, if_pos a4, a3, b1, w1 (by omega)]
    refine Ev.step (fun k => ?_) (key l.length 0 0 (by omega) (by rw [List.drop_zero]; omega) (by omega))
    rw [code_check.j0, if_neg (by simp)]
    rfl
  · rw [if_neg hc]
    refine Ev.step (fun k => ?_) (Ev.now _)
    rw [Bool.eq_false_iff.2 hc, code_check.j0, if_pos (by rfl)]
def costW (ws ls : List Int) : Nat → Int → Int
  | 0, s => s
  | e + 1, s => costW ws ls e (wrap64 (s + wrap64 (ws.getD (ws.length - (e + 1)) 0 * ls.getD (ws.length - (e + 1)) 0)))
theorem cost_ev {ws ls : List Int} (hl : ws.length ≤ 1000000) (h : ws.length ≤ ls.length) : Ev (fun k => code_cost.f k ws ls) (costW ws ls ws.length 0) := by
  have key : ∀ e q (s : Int), q + e = ws.length → Ev (fun k => code_cost.l0 k ls s ws (ws.length : Int) (q : Int)) (costW ws ls e s) := by
    intro e
    induction e with
    | zero =>
      intro q s hq
      refine Ev.step (fun k => ?_) (Ev.now _)
      rw [code_cost.l0, if_neg (by omega)]; rfl
    | succ e ih =>
      intro q s hq
      refine Ev.step (fun k => ?_) (ih (q + 1) _ (by omega))
      rw [code_cost.l0, if_pos (by omega), if_pos (by omega), if_pos (by omega), if_pos (by omega), rd_nat, rd_nat, w1 (by omega), show ws.length - (e + 1) = q by omega]
  exact key ws.length 0 0 (by omega)
theorem awake_ev : Ev (fun k => turndownlaw06_awake.f k) true := Ev.of (fun k => turndownlaw06_awake.mono k) (k := 200) (by decide +kernel)
end Go.Proofs.Ytcpojohpmcnnhaa.L

set_option linter.unusedVariables false
set_option linter.unusedSimpArgs false
namespace Go.Proofs.Ytcpojohpmcnnhaa.L
open Go.RowKit Go.Proofs.YtcpojohpmcnnhaaW.PrintWords Go.Proofs.YtcpojohpmcnnhaaW.PrintLast Go.Proofs.YtcpojohpmcnnhaaW.PrintMore
open Go.Proofs.Ytcpojohpmcnnhaa.PA Go.Proofs.Ytcpojohpmcnnhaa.A Go.Proofs.Ytcpojohpmcnnhaa.K
theorem sumZ_cast (n : Nat) (g : Nat → Nat) : sumZ n (fun s => ((g s : Nat) : Int)) = ((sumN n g : Nat) : Int) := by
  induction n with
  | zero => rfl
  | succ n ih => rw [sumZ_succ, sumN_succ, ih]; push_cast; rfl
def natL (l : List Int) (s : Nat) : Nat := (l.getD s 0).toNat
theorem getD_ok {lo hi : Int} {l : List Int} (h : okB lo hi l = true) {s : Nat} (hs : s < l.length) : lo ≤ l.getD s 0 ∧ l.getD s 0 ≤ hi := by
  refine okB_iff.1 h _ ?_
  rw [List.getD_eq_getElem?_getD, List.getElem?_eq_getElem hs]
  exact List.getElem_mem hs
theorem sumI_nat {l : List Int} (h : okB 0 32 l = true) : sumI l = ((sumN l.length (fun s => 2 ^ (32 - natL l s)) : Nat) : Int) := by
  have e : sumI l = sumZ l.length (fun s => (2 : Int) ^ (32 - l.getD s 0).toNat) := by
    unfold sumI sumZ
    have := range_getD l
    conv => lhs; rw [← this]
    rw [List.map_map]; rfl
  rw [e, ← sumZ_cast]
  refine sumZ_congr (fun s hs => ?_)
  have := getD_ok h hs
  unfold natL
  rw [show (32 - l.getD s 0).toNat = 32 - (l.getD s 0).toNat by omega]
  push_cast; rfl
theorem fits32 {l : List Int} (h : okB 0 32 l = true) : Fits l.length 32 (natL l) ↔ sumI l ≤ 4294967296 := by
  rw [sumI_nat h]
  constructor
  · intro f
    have := f.kraft
    omega
  · intro f
    refine ⟨fun s hs => ?_, by omega⟩
    have := getD_ok h hs
    unfold natL; omega
theorem fits_to {n L M : Nat} {l : Nat → Nat} (h : Fits n L l) (hl : ∀ s, s < n → l s ≤ M) : Fits n M l := by
  have e : (List.replicate n (0 : Int)).length = n := by simp
  have h1 : FitsP L (pairsOf (List.replicate n (0 : Int)) l) := pairs_fits.2 (by rw [e]; exact h)
  have hl' : ∀ p, p ∈ pairsOf (List.replicate n (0 : Int)) l → p.2 ≤ M := by
    intro p hp
    obtain ⟨s, hs, rfl⟩ := List.mem_map.1 hp
    exact hl s (by have := List.mem_range.1 hs; rwa [e] at this)
  have h2 : FitsP M (pairsOf (List.replicate n (0 : Int)) l) := by
    rcases Nat.le_total L M with h3 | h3
    · exact fits_up h1 h3
    · exact fits_dn h1 h3 hl'
  have := pairs_fits.1 h2
  rwa [e] at this
theorem costW_eq {ws ls : List Int} (hn : ws.length ≤ 64) (h : ∀ s, s < ws.length → (0 ≤ ws.getD s 0 ∧ ws.getD s 0 ≤ 1073741824) ∧ 0 ≤ ls.getD s 0 ∧ ls.getD s 0 ≤ 64) : costW ws ls ws.length 0 = sumZ ws.length (fun s => ws.getD s 0 * ls.getD s 0) := by
  have hb : ∀ s, s < ws.length → 0 ≤ ws.getD s 0 * ls.getD s 0 ∧ ws.getD s 0 * ls.getD s 0 ≤ 68719476736 := fun s hs => by
    obtain ⟨⟨a, b⟩, c, d⟩ := h s hs
    refine ⟨Int.mul_nonneg a c, ?_⟩
    exact Int.le_trans (Int.mul_le_mul_of_nonneg_right b c) (Int.mul_le_mul_of_nonneg_left d (by omega))
  have key : ∀ e, e ≤ ws.length → ∀ s : Int, 0 ≤ s → s ≤ 68719476736 * ((ws.length - e : Nat) : Int) → costW ws ls e s + sumZ (ws.length - e) (fun s => ws.getD s 0 * ls.getD s 0) = s + sumZ ws.length (fun s => ws.getD s 0 * ls.getD s 0) := by
    intro e
    induction e with
    | zero => intro _ s _ _; simp [costW]
    | succ e ih =>
      intro he s h0 hs
      obtain ⟨b0, b1⟩ := hb (ws.length - (e + 1)) (by omega)
      have e1 : wrap64 (ws.getD (ws.length - (e + 1)) 0 * ls.getD (ws.length - (e + 1)) 0) = ws.getD (ws.length - (e + 1)) 0 * ls.getD (ws.length - (e + 1)) 0 := by
        generalize ws.getD (ws.length - (e + 1)) 0 * ls.getD (ws.length - (e + 1)) 0 = x at *
        unfold wrap64; omega
      have e3 : sumZ (ws.length - e) (fun s => ws.getD s 0 * ls.getD s 0) = sumZ (ws.length - (e + 1)) (fun s => ws.getD s 0 * ls.getD s 0) + ws.getD (ws.length - (e + 1)) 0 * ls.getD (ws.length - (e + 1)) 0 := by
        rw [← sumZ_succ, show ws.length - (e + 1) + 1 = ws.length - e by omega]
      simp only [costW]
      rw [e1]
      generalize ws.getD (ws.length - (e + 1)) 0 * ls.getD (ws.length - (e + 1)) 0 = x at *
      have e2 : wrap64 (s + x) = s + x := by unfold wrap64; omega
      rw [e2]
      have := ih (by omega) (s + x) (by omega) (by omega)
      rw [e3] at this
      omega
  have := key ws.length (Nat.le_refl _) 0 (by omega) (by omega)
  rw [Nat.sub_self] at this
  have e0 : sumZ 0 (fun s => ws.getD s 0 * ls.getD s 0) = 0 := rfl
  omega
theorem cost_nn : ∀ {ps : WL}, (∀ p, p ∈ ps → 0 ≤ p.1) → 0 ≤ costP ps
  | [], _ => Int.le_refl _
  | p :: ps, h => by
    rw [costP_cons]
    have h2 := cost_nn (ps := ps) (fun q hq => h q (by simp [hq]))
    have h3 : 0 ≤ p.1 * ((p.2 : Nat) : Int) := Int.mul_nonneg (h p (by simp)) (by omega)
    omega
def lensB (ws : List Int) (L : Nat) : List Int := if 1 < ws.length then AP.bestI ws L else List.replicate ws.length 0
structure BestOk (ws : List Int) (L : Nat) : Prop where
  len : (lensB ws L).length = ws.length
  ok : okB 0 32 (lensB ws L) = true
  le : ∀ s, s < ws.length → 0 ≤ (lensB ws L).getD s 0 ∧ (lensB ws L).getD s 0 ≤ (L : Int)
  sum : sumI (lensB ws L) ≤ 4294967296
  cost : costW ws (lensB ws L) ws.length 0 = costN ws (natL (lensB ws L))
  fits : Fits ws.length L (natL (lensB ws L))
  opt : Opt ws L (costN ws (natL (lensB ws L)))
theorem lensB_ok {ws : List Int} (h1 : 1 ≤ ws.length) (h64 : ws.length ≤ 64) (hw : ∀ x, x ∈ ws → 0 ≤ x ∧ x ≤ 1073741824) {L : Nat} (hL : L ≤ 32) (hc : ws.length ≤ 2 ^ L) : BestOk ws L := by
  have hlen : (lensB ws L).length = ws.length := by
    unfold lensB
    split
    · exact AP.bestI_len ws L
    · simp
  obtain ⟨hfit, hopt⟩ : Fits ws.length L (natL (lensB ws L)) ∧ Opt ws L (costN ws (natL (lensB ws L))) := by
    unfold lensB
    split
    · obtain ⟨a, b⟩ := AP.bestI_opt hw h1 hc
      have e : natL (AP.bestI ws L) = AP.lenI ws L := by
        funext s
        unfold natL
        rw [AP.bestI_getD hw]; simp
      rw [e]; exact ⟨a, b⟩
    · have e1 : ws.length = 1 := by omega
      have e : natL (List.replicate ws.length 0) = fun _ => 0 := by
        funext s
        unfold natL
        have : (List.replicate ws.length (0 : Int)).getD s 0 = 0 := by
          rw [List.getD_eq_getElem?_getD, List.getElem?_replicate]
          split <;> rfl
        rw [this]; rfl
      rw [e, e1]
      have hf : Fits 1 L (fun _ => 0) := ⟨fun _ _ => by omega, by rw [sumN_const]; simp⟩
      have hc0 : costN ws (fun _ => 0) = 0 := by
        unfold costN
        have : sumZ ws.length (fun s => ws.getD s 0 * ((0 : Nat) : Int)) = sumZ ws.length (fun _ => 0) := sumZ_congr (fun _ _ => by simp)
        rw [this, sumZ_zero]
      refine ⟨hf, ⟨pairsOf ws (fun _ => 0), by unfold IsFor; rw [pairs_for], pairs_fits.2 (by rw [e1]; exact hf), pairs_cost _ _⟩, fun ps hp _ => ?_⟩
      rw [hc0]
      exact cost_nn (fun p hp' => nn_of (fun x hx => (hw x hx).1) hp hp')
  have hget : ∀ s, s < ws.length → 0 ≤ (lensB ws L).getD s 0 ∧ (lensB ws L).getD s 0 ≤ (L : Int) := by
    intro s hs
    have hle := hfit.le s hs
    have h0 : 0 ≤ (lensB ws L).getD s 0 := by
      unfold lensB
      split
      · rw [AP.bestI_getD hw]; omega
      · rw [List.getD_eq_getElem?_getD, List.getElem?_replicate]
        split <;> simp
    unfold natL at hle
    omega
  have hok : okB 0 32 (lensB ws L) = true := okB_iff.2 (fun x hx => by
    obtain ⟨s, hs, rfl⟩ := List.getElem_of_mem hx
    have := hget s (by omega)
    rw [List.getD_eq_getElem?_getD, List.getElem?_eq_getElem hs] at this
    simp only [Option.getD_some] at this
    omega)
  have hsum : sumI (lensB ws L) ≤ 4294967296 := by
    refine (fits32 hok).1 ?_
    rw [hlen]
    exact fits_to hfit (fun s hs => by have := hfit.le s hs; omega)
  refine ⟨hlen, hok, hget, hsum, ?_, hfit, hopt⟩
  rw [costW_eq h64 (fun s hs => ?_)]
  · unfold costN
    refine sumZ_congr (fun s hs => ?_)
    have := hget s hs
    unfold natL
    rw [Int.toNat_of_nonneg this.1]
  · refine ⟨?_, by have := hget s hs; omega⟩
    exact hw _ (by rw [List.getD_eq_getElem?_getD, List.getElem?_eq_getElem hs]; exact List.getElem_mem hs)
def bestR (ws : List Int) (limit : Int) : List Int × Int × Int :=
  if (lenB ws && okB 0 1073741824 ws) = true ∧ 0 ≤ limit ∧ limit ≤ 32 then (if ws.length ≤ 2 ^ limit.toNat then (lensB ws limit.toNat, costW ws (lensB ws limit.toNat) ws.length 0, 0) else ([], 0, 6)) else ([], 0, 2)
theorem best_ev (ws : List Int) (limit : Int) (hl : ws.length ≤ 1000) : Ev (fun k => code_Best.f k ws limit) (bestR ws limit) := by
  have hj : ∀ k, code_Best.f k ws limit = code_Best.j0 k ws limit (!((lenB ws && okB 0 1073741824 ws) && (decide (0 ≤ limit) && decide (limit ≤ 32)))) := fun k => by
    unfold code_Best.f
    rw [areWeights_all]
    simp only [Option.bind_some]
    by_cases h : (lenB ws && okB 0 1073741824 ws) = true
    · rw [if_pos h, within_all, h]; rfl
    · rw [if_neg h]
      have h' : (lenB ws && okB 0 1073741824 ws) = false := by simpa using h
      rw [h']; rfl
  refine Ev.congr hj ?_
  unfold bestR
  by_cases hc : (lenB ws && okB 0 1073741824 ws) = true ∧ 0 ≤ limit ∧ limit ≤ 32
  · obtain ⟨h1, h2, h3⟩ := hc
    obtain ⟨L, rfl⟩ := Int.eq_ofNat_of_zero_le h2
    rw [if_pos ⟨h1, h2, h3⟩, Int.toNat_natCast]
    have e : (!((lenB ws && okB 0 1073741824 ws) && (decide (0 ≤ (L : Int)) && decide ((L : Int) ≤ 32)))) = false := by rw [h1]; simp; omega
    rw [e]
    have h1' := h1
    rw [Bool.and_eq_true] at h1'
    have hlen := lenB_iff.1 h1'.1
    have hw := okB_iff.1 h1'.2
    have hp : shl .i64 1 (L : Int) = ((2 ^ L : Nat) : Int) := by
      rw [shl_one (by omega) (by omega), Int.toNat_natCast]
      push_cast; rfl
    by_cases h4 : ws.length ≤ 2 ^ L
    · rw [if_pos h4]
      have hB := lensB_ok hlen.1 hlen.2 hw (by omega) h4
      by_cases h5 : 1 < ws.length
      · have hf : code_best.f ws (L : Int) = some (lensB ws L) := by
          unfold code_best.f lensB
          rw [if_pos h5, if_pos]
          · rw [Int.toNat_natCast]
          · unfold bestOk
            have : ws.all (fun x => decide (0 ≤ x) && decide (x ≤ 1073741824)) = true := h1'.2
            rw [this]
            simp; omega
        refine Ev.step (fun k => ?_) (Ev.bind (f := fun _ t => some (lensB ws L, t, (0 : Int))) (cost_ev (ws := ws) (ls := lensB ws L) (by omega) (by rw [hB.len]; exact Nat.le_refl _)) (Ev.now _))
        rw [code_Best.j0, if_neg (by simp), if_pos h2, hp, if_neg (by omega), if_pos (by omega), if_pos (by rw [Int.toNat_natCast]; omega)]
        simp only [Option.bind_some]
        rw [if_pos (by omega), hf]
        rfl
      · have hr : lensB ws L = List.replicate ws.length 0 := by unfold lensB; rw [if_neg h5]
        refine Ev.step (fun k => ?_) (Ev.bind (f := fun _ t => some (lensB ws L, t, (0 : Int))) (cost_ev (ws := ws) (ls := lensB ws L) (by omega) (by rw [hB.len]; exact Nat.le_refl _)) (Ev.now _))
        rw [code_Best.j0, if_neg (by simp), if_pos h2, hp, if_neg (by omega), if_pos (by omega), if_pos (by rw [Int.toNat_natCast]; omega)]
        simp only [Option.bind_some, Int.toNat_natCast]
        rw [if_neg (by omega), hr]
    · rw [if_neg h4]
      refine Ev.step (fun k => ?_) (Ev.now _)
      rw [code_Best.j0, if_neg (by simp), if_pos h2, hp, if_pos (by omega)]
  · rw [if_neg hc]
    have e : (!((lenB ws && okB 0 1073741824 ws) && (decide (0 ≤ limit) && decide (limit ≤ 32)))) = true := by
      rw [Bool.not_eq_true', Bool.eq_false_iff]
      intro h
      rw [Bool.and_eq_true] at h
      refine hc ⟨h.1, ?_⟩
      have := h.2
      simp at this
      exact this
    rw [e]
    refine Ev.step (fun k => ?_) (Ev.now _)
    rw [code_Best.j0, if_pos rfl]
end Go.Proofs.Ytcpojohpmcnnhaa.L

set_option linter.unusedVariables false
set_option linter.unusedSimpArgs false
namespace Go.Proofs.Ytcpojohpmcnnhaa.L
open Go.RowKit Go.Proofs.YtcpojohpmcnnhaaW.PrintWords Go.Proofs.YtcpojohpmcnnhaaW.PrintLast Go.Proofs.YtcpojohpmcnnhaaW.PrintMore
open Go.Proofs.Ytcpojohpmcnnhaa.PA Go.Proofs.Ytcpojohpmcnnhaa.A
def wordsL (l : List Int) : List ByteArray := (foldW l (ordL (keyI l) l.length)).2
theorem wordsL_len (l : List Int) : (wordsL l).length = l.length := foldW_len _ _
theorem foldl_sum (l : List Int) : ∀ (o : List Nat) (st : Int × List ByteArray), (o.foldl (stepW l) st).1 = st.1 + (o.map (fun s => partI (l.getD s 0))).sum
  | [], st => by simp
  | s :: o, st => by
    rw [List.foldl_cons, foldl_sum l o]
    show (st.1 + partI (l.getD s 0)) + _ = _
    rw [List.map_cons, List.sum_cons]; omega
theorem fold_total {l : List Int} (hok : okB 0 32 l = true) : (foldW l (ordL (keyI l) l.length)).1 = sumI l := by
  have h1 : (foldW l (ordL (keyI l) l.length)).1 = 0 + ((ordL (keyI l) l.length).map (fun s => partI (l.getD s 0))).sum := foldl_sum l _ _
  have h2 := K.sum_perm_int ((ordL_perm (keyI l) l.length).map (fun s => partI (l.getD s 0)))
  rw [h1, Int.zero_add, h2]
  unfold sumI
  conv => rhs; rw [← K.range_getD l]
  rw [List.map_map]
  congr 1
  refine List.map_congr_left (fun s hs => ?_)
  have := okB_iff.1 hok (l.getD s 0) (by
    have hs' := List.mem_range.1 hs
    rw [List.getD_eq_getElem?_getD, List.getElem?_eq_getElem hs']; exact List.getElem_mem hs')
  show (2 : Int) ^ (32 - (l.getD s 0).toNat) = 2 ^ (32 - l.getD s 0).toNat
  congr 1; omega
theorem codeWords_f {l : List Int} (h1 : 1 ≤ l.length) (h64 : l.length ≤ 64) (hok : okB 0 32 l = true) (hs : sumI l ≤ 4294967296) : code_words.f l = some (wordsL l) := by
  unfold code_words.f
  rw [if_pos ⟨⟨by omega, by omega⟩, hok, by rw [fold_total hok]; exact hs⟩]
  rfl
def codeR (l : List Int) : List ByteArray × Int := if checkI l = 0 then (wordsL l, 0) else ([], checkI l)
theorem code_ev (l : List Int) (hl : l.length ≤ 1000000) : Ev (fun k => code_Code.f k l) (codeR l) := by
  unfold codeR
  have hc := check_ev l hl
  refine Ev.congr (fun k => rfl) (Ev.bind (f := fun k (t127 : Int) => (if t127 = 0 then ((code_words.f l).bind fun t128 => (some (t128, (0 : Int)))) else (some (([] : List ByteArray), t127)))) hc ?_)
  by_cases h : checkI l = 0
  · simp only [if_pos h]
    have h' := h
    unfold checkI at h'
    split at h'
    · rename_i hb
      rw [Bool.and_eq_true] at hb
      split at h'
      · omega
      · have hlen := lenB_iff.1 hb.1
        rw [codeWords_f hlen.1 hlen.2 hb.2 (by omega)]
        exact Ev.now _
    · omega
  · simp only [if_neg h]
    exact Ev.now _
section
variable {l : List Int}
end
end Go.Proofs.Ytcpojohpmcnnhaa.L

set_option linter.unusedVariables false
set_option linter.unusedSimpArgs false
namespace Go.Proofs.Ytcpojohpmcnnhaa.L
open Go.RowKit Go.Proofs.YtcpojohpmcnnhaaW.PrintWords Go.Proofs.YtcpojohpmcnnhaaW.PrintLast Go.Proofs.YtcpojohpmcnnhaaW.PrintMore
open Go.Proofs.Ytcpojohpmcnnhaa.PA Go.Proofs.Ytcpojohpmcnnhaa.A
theorem dig8_0 (n : Int) : dig8 n 0 = if n % 2 = 1 then 49 else 48 := by
  unfold dig8 digI
  rw [Int.pow_zero, Int.ediv_one]
  rcases (by omega : n % 2 = 0 ∨ n % 2 = 1) with e | e <;> rw [e] <;> rfl
theorem dig8_01 (n : Int) (i : Nat) : dig8 n i = 48 ∨ dig8 n i = 49 := by
  unfold dig8
  rcases digI_01 n i with e | e <;> rw [e]
  · exact .inl rfl
  · exact .inr rfl
theorem ok_at {l : List Int} (hok : okB 0 32 l = true) {s : Nat} (h : s < l.length) : 0 ≤ l.getD s 0 ∧ l.getD s 0 ≤ 32 := by
  refine okB_iff.1 hok _ ?_
  rw [List.getD_eq_getElem?_getD, List.getElem?_eq_getElem h]
  exact List.getElem_mem h
theorem getD_app (a b : List UInt8) (j : Nat) (d : UInt8) : (a ++ b).getD j d = if j < a.length then a.getD j d else b.getD (j - a.length) d := by
  by_cases h : j < a.length
  · rw [if_pos h, List.getD_eq_getElem?_getD, List.getElem?_append_left h, List.getD_eq_getElem?_getD]
  · rw [if_neg h, List.getD_eq_getElem?_getD, List.getElem?_append_right (by omega), List.getD_eq_getElem?_getD]
theorem digs_len0 (n : Int) (a : Nat) : (digs n a 0).length = a := by rw [digs_len]; omega
theorem dig_apart : ∀ (a : Nat) (m n : Int), m < n → 0 ≤ m → n < 2 ^ a → ∃ t, t < a ∧ (∀ j, j < t → (digs m a 0).getD j 0 = (digs n a 0).getD j 0) ∧ (digs m a 0).getD t 0 = 48 ∧ (digs n a 0).getD t 0 = 49
  | 0, m, n, h, h0, hn => by
    rw [Int.pow_zero] at hn; omega
  | a + 1, m, n, h, h0, hn => by
    rw [Int.pow_succ] at hn
    rw [digs_succ m, digs_succ n]
    by_cases hd : m / 2 < n / 2
    · obtain ⟨t, ht, h1, h2, h3⟩ := dig_apart a (m / 2) (n / 2) hd (by omega) (by omega)
      refine ⟨t, by omega, fun j hj => ?_, ?_, ?_⟩
      · rw [getD_app, getD_app, digs_len0, digs_len0, if_pos (by omega), if_pos (by omega)]
        exact h1 j hj
      · rw [getD_app, digs_len0, if_pos ht]; exact h2
      · rw [getD_app, digs_len0, if_pos ht]; exact h3
    · have e : m / 2 = n / 2 := by omega
      refine ⟨a, by omega, fun j hj => ?_, ?_, ?_⟩
      · rw [getD_app, getD_app, digs_len0, digs_len0, if_pos hj, if_pos hj, e]
      · rw [getD_app, digs_len0, if_neg (by omega), Nat.sub_self, dig8_0, if_neg (by omega)]; rfl
      · rw [getD_app, digs_len0, if_neg (by omega), Nat.sub_self, dig8_0, if_pos (by omega)]; rfl
theorem digs_take : ∀ (d a : Nat) (n : Int), (digs n (a + d) 0).take a = digs (n / 2 ^ d) a 0
  | 0, a, n => by
    rw [Int.pow_zero, Int.ediv_one, Nat.add_zero, List.take_of_length_le (by rw [digs_len0]; exact Nat.le_refl _)]
  | d + 1, a, n => by
    rw [show a + (d + 1) = (a + d) + 1 by omega, digs_succ, List.take_append_of_le_length (by rw [digs_len0]; omega), digs_take d a (n / 2)]
    have h := @Int.ediv_ediv n 2 (2 ^ d)
    rw [if_neg (fun h => by omega), Int.sub_zero] at h
    rw [h, Int.pow_succ, Int.mul_comm]
theorem getD_take {l : List UInt8} {a j : Nat} (h : j < a) : (l.take a).getD j 0 = l.getD j 0 := by
  rw [List.getD_eq_getElem?_getD, List.getElem?_take, if_pos h, List.getD_eq_getElem?_getD]
theorem fold_out (l : List Int) (s : Nat) : ∀ (o : List Nat) (st : Int × List ByteArray), s ∉ o → ((o.foldl (stepW l) st).2).getD s ⟨#[]⟩ = st.2.getD s ⟨#[]⟩
  | [], st, _ => rfl
  | x :: o, st, h => by
    simp only [List.mem_cons, not_or] at h
    rw [List.foldl_cons, fold_out l s o _ h.2]
    unfold stepW
    simp only [List.getD_eq_getElem?_getD]
    rw [List.getElem?_set_ne (fun e => h.1 e.symm)]
theorem fold_at (l : List Int) : ∀ (o : List Nat) (st : Int × List ByteArray), o.Nodup → (∀ x, x ∈ o → x < st.2.length) → ∀ q, q < o.length → ((o.foldl (stepW l) st).2).getD (o.getD q 0) ⟨#[]⟩ = wordB ((o.take q).foldl (stepW l) st).1 (l.getD (o.getD q 0) 0)
  | [], st, _, _, q, hq => by simp at hq
  | x :: o, st, h, hx, q, hq => by
    obtain ⟨h1, h2⟩ := List.nodup_cons.1 h
    rw [List.foldl_cons]
    match q, hq with
    | 0, _ =>
      simp only [List.getD_cons_zero, List.take_zero, List.foldl_nil]
      rw [fold_out l x o _ h1]
      unfold stepW
      simp only [List.getD_eq_getElem?_getD]
      rw [List.getElem?_set_self (hx x (List.mem_cons_self ..))]
      rfl
    | q + 1, hq =>
      simp only [List.getD_cons_succ, List.take_succ_cons, List.foldl_cons]
      refine fold_at l o _ h2 (fun y hy => ?_) q (by simp at hq; omega)
      have := hx y (List.mem_cons_of_mem _ hy)
      unfold stepW
      simpa using this
theorem word_at {l : List Int} {q : Nat} (hq : q < (ordL (keyI l) l.length).length) : (wordsL l).getD ((ordL (keyI l) l.length).getD q 0) ⟨#[]⟩ = wordB (foldW l ((ordL (keyI l) l.length).take q)).1 (l.getD ((ordL (keyI l) l.length).getD q 0) 0) := by
  have hp := fold_ins (keyI l) (List.range l.length) List.nodup_range
  refine fold_at l _ _ (srt_nodup hp.2) (fun x hx => ?_) q hq
  have := hp.1.subset hx
  simpa using List.mem_range.1 this
theorem pos_of {l : List Nat} {s : Nat} (h : s ∈ l) : ∃ q, q < l.length ∧ l.getD q 0 = s := by
  obtain ⟨q, hq, e⟩ := List.getElem_of_mem h
  exact ⟨q, hq, by rw [List.getD_eq_getElem?_getD, List.getElem?_eq_getElem hq]; exact e⟩
theorem srt_lx {key : Nat → Int} {l : List Nat} (h : Srt key l) {p q : Nat} (hpq : p < q) (hq : q < l.length) : lx key (l.getD p 0) (l.getD q 0) := by
  have := List.pairwise_iff_getElem.1 h p q (by omega) hq hpq
  rw [List.getD_eq_getElem?_getD, List.getD_eq_getElem?_getD, List.getElem?_eq_getElem hq, List.getElem?_eq_getElem (show p < l.length by omega)]
  exact this
def wordN (l : List Int) (s : Nat) : List UInt8 := ((wordsL l).getD s ⟨#[]⟩).data.toList
theorem words_apart {l : List Int} (hok : okB 0 32 l = true) (hs : sumI l ≤ 4294967296) {s z : Nat} (h1 : s < l.length) (h2 : z < l.length) (hlx : lx (keyI l) s z) :
    ∃ t, t < (wordN l s).length ∧ t < (wordN l z).length ∧ (∀ j, j < t → (wordN l s).getD j 0 = (wordN l z).getD j 0) ∧ (wordN l s).getD t 0 = 48 ∧ (wordN l z).getD t 0 = 49 := by
  obtain ⟨o, ho⟩ : ∃ o, ordL (keyI l) l.length = o := ⟨_, rfl⟩
  have hp := fold_ins (keyI l) (List.range l.length) List.nodup_range
  have hoo : (List.range l.length).foldr (insL (keyI l)) [] = o := ho
  rw [hoo] at hp
  have hnd := srt_nodup hp.2
  obtain ⟨p, hpo, ep⟩ := pos_of (hp.1.symm.subset (List.mem_range.2 h1))
  obtain ⟨q, hqo, eq⟩ := pos_of (hp.1.symm.subset (List.mem_range.2 h2))
  have hpq : p < q := by
    rcases Nat.lt_trichotomy p q with h | h | h
    · exact h
    · subst h
      rw [ep] at eq
      subst eq
      unfold lx at hlx
      omega
    · have := srt_lx hp.2 h hpo
      rw [ep, eq] at this
      unfold lx at this hlx
      omega
  have hwp := word_at (l := l) (q := p) (by rw [ho]; exact hpo)
  have hwq := word_at (l := l) (q := q) (by rw [ho]; exact hqo)
  rw [ho, ep] at hwp
  rw [ho, eq] at hwq
  have hnp := foldW_next l hpo
  have hnq := foldW_next l hqo
  rw [ep] at hnp
  rw [eq] at hnq
  have e1 : (foldW l (o.take (p + 1))).1 = (foldW l (o.take p)).1 + partI (l.getD s 0) := by rw [hnp]; rfl
  have e2 : (foldW l (o.take (q + 1))).1 = (foldW l (o.take q)).1 + partI (l.getD z 0) := by rw [hnq]; rfl
  have htot : (foldW l o).1 = sumI l := by rw [← ho]; exact fold_total hok
  have e3 := foldW_le l o (q + 1)
  have e4 : (foldW l (o.take (p + 1))).1 ≤ (foldW l (o.take q)).1 := by
    have h := foldW_le l (o.take q) (p + 1)
    rw [List.take_take, Nat.min_eq_left (by omega)] at h
    exact h
  have hpz := partI_pos (l.getD z 0)
  have hN0 := foldW_nn l (o.take p)
  obtain ⟨N, hN⟩ : ∃ N, (foldW l (o.take p)).1 = N := ⟨_, rfl⟩
  obtain ⟨M, hM⟩ : ∃ M, (foldW l (o.take q)).1 = M := ⟨_, rfl⟩
  rw [hN] at hwp e1 hN0
  rw [hM] at hwq e2 e4
  have hs1 := ok_at hok h1
  have hz1 := ok_at hok h2
  have hle : l.getD s 0 ≤ l.getD z 0 := by
    unfold lx keyI at hlx
    omega
  obtain ⟨a, ha⟩ := Int.eq_ofNat_of_zero_le hs1.1
  obtain ⟨b, hb⟩ := Int.eq_ofNat_of_zero_le hz1.1
  have hab : a ≤ b := by omega
  have hb32 : b ≤ 32 := by omega
  have es : wordN l s = digs (N / 2 ^ (32 - a)) a 0 := by
    unfold wordN; rw [hwp, ha]; unfold wordB; rw [Int.toNat_natCast]
  have ez : wordN l z = digs (M / 2 ^ (32 - b)) b 0 := by
    unfold wordN; rw [hwq, hb]; unfold wordB; rw [Int.toNat_natCast]
  have etk : (digs (M / 2 ^ (32 - b)) b 0).take a = digs (M / 2 ^ (32 - a)) a 0 := by
    have h := digs_take (b - a) a (M / 2 ^ (32 - b))
    rw [show a + (b - a) = b by omega] at h
    rw [h]
    have hq := @Int.ediv_ediv M (2 ^ (32 - b)) (2 ^ (b - a))
    have hpos : (0 : Int) < 2 ^ (32 - b) := Int.pow_pos (by omega)
    rw [if_neg (fun h => by omega), Int.sub_zero, ← Int.pow_add, show 32 - b + (b - a) = 32 - a by omega] at hq
    rw [hq]
  have hpa : partI (l.getD s 0) = 2 ^ (32 - a) := by rw [ha]; unfold partI; rw [Int.toNat_natCast]
  have hP : (0 : Int) < 2 ^ (32 - a) := Int.pow_pos (by omega)
  have hsplit : (2 : Int) ^ (32 - a) * 2 ^ a = 4294967296 := by rw [← Int.pow_add, show 32 - a + a = 32 by omega]; rfl
  rw [hpa] at e1
  have hMlt : M < 4294967296 := by omega
  have hNM : N + 2 ^ (32 - a) ≤ M := by omega
  obtain ⟨t, ht, g1, g2, g3⟩ := dig_apart a (N / 2 ^ (32 - a)) (M / 2 ^ (32 - a)) (by
      have h5 : (N + 1 * 2 ^ (32 - a)) / 2 ^ (32 - a) = N / 2 ^ (32 - a) + 1 := Int.add_mul_ediv_right _ _ (by omega)
      have h6 : (N + 1 * 2 ^ (32 - a)) / 2 ^ (32 - a) ≤ M / 2 ^ (32 - a) := Int.ediv_le_ediv hP (by omega)
      omega) (Int.ediv_nonneg hN0 (Int.le_of_lt hP)) (Int.ediv_lt_of_lt_mul hP (by rw [Int.mul_comm, hsplit]; exact hMlt))
  rw [← etk] at g1 g3
  rw [es, ez, digs_len0, digs_len0]
  refine ⟨t, ht, by omega, fun j hj => ?_, g2, ?_⟩
  · rw [g1 j hj, getD_take (by omega)]
  · rw [getD_take ht] at g3; exact g3
theorem wordN_len {l : List Int} (hok : okB 0 32 l = true) {s : Nat} (h1 : s < l.length) : ((wordN l s).length : Int) = l.getD s 0 := by
  have hp := fold_ins (keyI l) (List.range l.length) List.nodup_range
  obtain ⟨p, hpo, ep⟩ := pos_of (hp.1.symm.subset (List.mem_range.2 h1))
  have hwp := word_at (l := l) (q := p) hpo
  have ep' : (ordL (keyI l) l.length).getD p 0 = s := ep
  rw [ep'] at hwp
  have hs1 := ok_at hok h1
  obtain ⟨a, ha⟩ := Int.eq_ofNat_of_zero_le hs1.1
  unfold wordN
  rw [hwp, ha]
  unfold wordB
  rw [Int.toNat_natCast]
  simp only [digs_len0]
theorem wordN_01 {l : List Int} {s : Nat} (h1 : s < l.length) : ∀ c, c ∈ wordN l s → c = 48 ∨ c = 49 := by
  have hp := fold_ins (keyI l) (List.range l.length) List.nodup_range
  obtain ⟨p, hpo, ep⟩ := pos_of (hp.1.symm.subset (List.mem_range.2 h1))
  have hwp := word_at (l := l) (q := p) hpo
  have ep' : (ordL (keyI l) l.length).getD p 0 = s := ep
  rw [ep'] at hwp
  unfold wordN
  rw [hwp]
  unfold wordB digs
  intro c hc
  simp only [List.mem_map] at hc
  obtain ⟨j, _, rfl⟩ := hc
  exact dig8_01 _ _
end Go.Proofs.Ytcpojohpmcnnhaa.L

set_option linter.unusedVariables false
set_option linter.unusedSimpArgs false
namespace Go.Proofs.Ytcpojohpmcnnhaa.L
open Go.RowKit Go.Proofs.YtcpojohpmcnnhaaW.PrintWords Go.Proofs.YtcpojohpmcnnhaaW.PrintLast Go.Proofs.YtcpojohpmcnnhaaW.PrintMore
open Go.Proofs.Ytcpojohpmcnnhaa.PA Go.Proofs.Ytcpojohpmcnnhaa.A
def findD (wd : Nat → List UInt8) (x : List UInt8) : Nat → Option Nat
  | 0 => none
  | k + 1 => if wd k = x then some k else findD wd x k
theorem findD_lt {wd : Nat → List UInt8} {x : List UInt8} {s : Nat} : ∀ {n}, findD wd x n = some s → s < n ∧ wd s = x
  | 0, h => by cases h
  | k + 1, h => by
    unfold findD at h
    split at h
    · rename_i e
      obtain rfl := Option.some.inj h
      exact ⟨Nat.lt_succ_self k, e⟩
    · have := findD_lt h
      exact ⟨by omega, this.2⟩
theorem findD_none {wd : Nat → List UInt8} {x : List UInt8} : ∀ {n}, findD wd x n = none → ∀ s, s < n → wd s ≠ x
  | 0, _, s, hs => by omega
  | k + 1, h, s, hs => by
    unfold findD at h
    split at h
    · cases h
    · rename_i e
      by_cases hk : s = k
      · subst hk; exact e
      · exact findD_none h s (by omega)
def datD (wd : Nat → List UInt8) : Nat → DataW Unit
  | 0 => .map []
  | k + 1 => (datD wd k).put (.string (wd k)) (.lit (.int .i64 (k : Int)))
theorem datD_map (wd : Nat → List UInt8) : ∀ n, Maps.IsMap (datD wd n)
  | 0 => Maps.isMap_empty
  | k + 1 => (datD_map wd k).put _ _
theorem str_key (x : List UInt8) : WideAt.IsKeyLit (.string x) := by
  simp [WideAt.IsKeyLit]
theorem datD_has (wd : Nat → List UInt8) (x : List UInt8) : ∀ n, Maps.has (datD wd n) (.string x) = (findD wd x n).isSome
  | 0 => rfl
  | k + 1 => by
    unfold datD findD
    by_cases h : wd k = x
    · rw [if_pos h, h, Maps.has_put_same (datD_map wd k) (str_key x)]; rfl
    · rw [if_neg h, Maps.has_put_other (fun e => h (by injection e with e; exact e.symm)), datD_has wd x k]
theorem datD_at (wd : Nat → List UInt8) (x : List UInt8) (z : DataW Unit) : ∀ n, (datD wd n).atKey (.string x) z = match findD wd x n with | some s => .lit (.int .i64 (s : Int)) | none => z
  | 0 => rfl
  | k + 1 => by
    unfold datD findD
    by_cases h : wd k = x
    · rw [if_pos h, h, Maps.atKey_put_same (datD_map wd k) (str_key x)]
    · rw [if_neg h, Maps.atKey_put_other (fun e => h (by injection e with e; exact e.symm)), datD_at wd x z k]
def longD (wd : Nat → List UInt8) : Nat → Nat
  | 0 => 0
  | k + 1 => max (longD wd k) (wd k).length
theorem longD_ge (wd : Nat → List UInt8) : ∀ {n s}, s < n → (wd s).length ≤ longD wd n
  | 0, s, h => by omega
  | k + 1, s, h => by
    unfold longD
    by_cases e : s = k
    · subst e; exact Nat.le_max_right _ _
    · exact Nat.le_trans (longD_ge wd (by omega)) (Nat.le_max_left _ _)
theorem longD_le (wd : Nat → List UInt8) {m : Nat} : ∀ {n}, (∀ s, s < n → (wd s).length ≤ m) → longD wd n ≤ m
  | 0, _ => Nat.zero_le _
  | k + 1, h => by
    unfold longD
    exact Nat.max_le.2 ⟨longD_le wd (fun s hs => h s (by omega)), h k (by omega)⟩
def piece (T : List UInt8) (f a : Nat) : List UInt8 := (T.drop f).take (a - f)
def runD (wd : Nat → List UInt8) (n : Nat) (T : List UInt8) : Nat → Option (Nat × List Int)
  | 0 => some (0, [])
  | a + 1 => match runD wd n T a with
    | none => none
    | some (f, out) => match findD wd (piece T f (a + 1)) n with
      | some s => some (a + 1, out ++ [(s : Int)])
      | none => if a + 1 - f ≥ longD wd n then none else some (f, out)
def decD (wd : Nat → List UInt8) (n : Nat) (T : List UInt8) : Option (List Int) := match runD wd n T T.length with
  | none => none
  | some (f, out) => if f < T.length then none else some out
theorem runD_le {wd : Nat → List UInt8} {n : Nat} {T : List UInt8} {f : Nat} {out : List Int} : ∀ {a}, runD wd n T a = some (f, out) → f ≤ a ∧ out.length ≤ a
  | 0, h => by
    obtain ⟨rfl, rfl⟩ := Prod.mk.inj (Option.some.inj h)
    exact ⟨Nat.le_refl _, Nat.le_refl _⟩
  | a + 1, h => by
    unfold runD at h
    cases hr : runD wd n T a with
    | none => rw [hr] at h; cases h
    | some p =>
      obtain ⟨f0, o0⟩ := p
      have ih := runD_le hr
      rw [hr] at h
      simp only at h
      cases hf : findD wd (piece T f0 (a + 1)) n with
      | some s =>
        rw [hf] at h
        obtain ⟨rfl, rfl⟩ := Prod.mk.inj (Option.some.inj h)
        refine ⟨Nat.le_refl _, ?_⟩
        rw [List.length_append]
        simp only [List.length_cons, List.length_nil]
        omega
      | none =>
        rw [hf] at h
        simp only at h
        split at h
        · cases h
        · obtain ⟨rfl, rfl⟩ := Prod.mk.inj (Option.some.inj h)
          exact ⟨by omega, by omega⟩
theorem runD_stop {wd : Nat → List UInt8} {n : Nat} {T : List UInt8} {a : Nat} (h : runD wd n T a = none) : ∀ d, runD wd n T (a + d) = none
  | 0 => h
  | d + 1 => by
    show runD wd n T (a + d + 1) = none
    unfold runD
    rw [runD_stop h d]
theorem decD_stop {wd : Nat → List UInt8} {n : Nat} {T : List UInt8} {a : Nat} (h : runD wd n T a = none) (ha : a ≤ T.length) : decD wd n T = none := by
  have := runD_stop h (T.length - a)
  rw [show a + (T.length - a) = T.length by omega] at this
  unfold decD
  rw [this]
theorem runD_next {wd : Nat → List UInt8} {n : Nat} {T : List UInt8} {a f : Nat} {out : List Int} (h : runD wd n T a = some (f, out)) :
    runD wd n T (a + 1) = match findD wd (piece T f (a + 1)) n with
      | some s => some (a + 1, out ++ [(s : Int)])
      | none => if a + 1 - f ≥ longD wd n then none else some (f, out) := by
  rw [runD, h]
end Go.Proofs.Ytcpojohpmcnnhaa.L

set_option linter.unusedVariables false
set_option linter.unusedSimpArgs false
namespace Go.Proofs.Ytcpojohpmcnnhaa.L
open Go.RowKit Go.Proofs.YtcpojohpmcnnhaaW.PrintWords Go.Proofs.YtcpojohpmcnnhaaW.PrintLast Go.Proofs.YtcpojohpmcnnhaaW.PrintMore
open Go.Proofs.Ytcpojohpmcnnhaa.PA Go.Proofs.Ytcpojohpmcnnhaa.A
def encL (wd : Nat → List UInt8) : List Int → List UInt8
  | [] => []
  | x :: r => wd x.toNat ++ encL wd r
theorem encL_app (wd : Nat → List UInt8) : ∀ a b : List Int, encL wd (a ++ b) = encL wd a ++ encL wd b
  | [], b => rfl
  | x :: a, b => by simp [encL, encL_app wd a b]
theorem encL_next (wd : Nat → List UInt8) (s : List Int) {i : Nat} (hi : i < s.length) : encL wd (s.take (i + 1)) = encL wd (s.take i) ++ wd (s.getD i 0).toNat := by
  rw [List.take_succ_eq_append_getElem hi, encL_app]
  congr 1
  simp [encL, List.getD_eq_getElem?_getD, hi]
theorem encL_len {wd : Nat → List UInt8} {m : Nat} {s : List Int} (h : ∀ x, x ∈ s → (wd x.toNat).length ≤ m) : (encL wd s).length ≤ m * s.length := by
  induction s with
  | nil => simp [encL]
  | cons x r ih =>
    have h1 := h x (List.mem_cons_self ..)
    have h2 := ih (fun y hy => h y (List.mem_cons_of_mem _ hy))
    rw [encL, List.length_append, List.length_cons, Nat.mul_succ]
    omega
theorem byteCells_app (a b : List UInt8) : Lib.byteCells (a ++ b) = Lib.byteCells a ++ Lib.byteCells b := by simp [Lib.byteCells]
theorem R_str {g cap : Nat} {w : World} {base : Nat} {l : List ByteArray} (h : Kd.R Kd.string 9 w base (fun _ => True) (.slice (some ⟨g, 0, none⟩) l.length cap) l) {i : Nat} (hi : i < l.length) : w.cell? ⟨g, i, none⟩ = some (.string (l.getD i ⟨#[]⟩)) := by
  have h1 := (Kd.R_cell (ByteArray.empty) h (i : Int) (by omega) (by omega)).1
  rw [Int.toNat_natCast] at h1
  refine h1.trans ?_
  congr 1
set_option maxHeartbeats 4000000 in
set_option maxRecDepth 100000 in
theorem enc_bad (A0 : Option Addr) (c0 : Nat) (l : List Int) (A1 : Option Addr) (c1 : Nat) (s : List Int) (w : World) (hr0 : Kd.C (Kd.int .i64) w A0 l.length l) (hc0 : l.length ≤ c0) (k : Nat) (hck : code_check.f k l = some 2) :
    Calls Try.prog 44 #[.slice A0 l.length c0, .slice A1 s.length c1] w fun e w' => e = .returned (.tuple #[.string ⟨#[]⟩, .int .i64 2]) ∧ Below w.heap.size w w' := by
  have HC := Lib.hid (code_check.calls k A0 c0 l 2 w hr0 hc0 hck)
  clear hr0 hck hc0
  go_enter Try.func44, Try.ntmps44
  go_wp2_with (go_at_call 55; refine HC.out.mono ?_; rintro e w1 ⟨rfl, hB1⟩)
  go_ret2
  exact ⟨rfl, hB1⟩
set_option maxHeartbeats 4000000 in
set_option maxRecDepth 100000 in
theorem enc_long (A0 : Option Addr) (c0 : Nat) (l : List Int) (A1 : Option Addr) (c1 : Nat) (s : List Int) (w : World) (hr0 : Kd.C (Kd.int .i64) w A0 l.length l) (hc0 : l.length ≤ c0) (k : Nat) (e : Int) (he : e = 0 ∨ e = 60) (hck : code_check.f k l = some e) (hs : 4096 < s.length) :
    Calls Try.prog 44 #[.slice A0 l.length c0, .slice A1 s.length c1] w fun e w' => e = .returned (.tuple #[.string ⟨#[]⟩, .int .i64 2]) ∧ Below w.heap.size w w' := by
  have HC := Lib.hid (code_check.calls k A0 c0 l e w hr0 hc0 hck)
  have hs' : (4096 : Int) < (s.length : Int) := by omega
  clear hr0 hck hc0
  rcases he with rfl | rfl
  all_goals
    go_enter Try.func44, Try.ntmps44
    go_wp2_with (go_at_call 55; refine HC.out.mono ?_; rintro e w1 ⟨rfl, hB1⟩)
    go_ret2
    exact ⟨rfl, hB1⟩
set_option maxHeartbeats 4000000 in
set_option maxRecDepth 100000 in
theorem enc_out (A0 : Option Addr) (c0 : Nat) (l : List Int) (A1 : Option Addr) (c1 : Nat) (s : List Int) (w : World) (hr0 : Kd.C (Kd.int .i64) w A0 l.length l) (hc0 : l.length ≤ c0) (hr1 : Kd.C (Kd.int .i64) w A1 s.length s) (hc1 : s.length ≤ c1) (k : Nat) (e : Int) (he : e = 0 ∨ e = 60) (hck : code_check.f k l = some e) (hs : s.length ≤ 4096)
    (hl : l.length ≤ 1000000) (hev : code_every.f s 0 ((l.length : Int) - 1) = some false) :
    Calls Try.prog 44 #[.slice A0 l.length c0, .slice A1 s.length c1] w fun e w' => e = .returned (.tuple #[.string ⟨#[]⟩, .int .i64 2]) ∧ Below w.heap.size w w' := by
  have HC := Lib.hid (code_check.calls k A0 c0 l e w hr0 hc0 hck)
  have HE : Hid (∀ W, Below w.heap.size w W → Calls Try.prog 66 #[.slice A1 s.length c1, .int .i64 0, .int .i64 ((l.length : Int) - 1)] W fun e w' => e = .returned (.bool false) ∧ Below W.heap.size W w') := Lib.hid (fun W hW => code_every.calls A1 c1 s 0 ((l.length : Int) - 1) false W (Kd.C_below hr1 hW) hc1 hev)
  have hs' : ¬ (4096 : Int) < (s.length : Int) := by omega
  clear hr0 hck hc0 hr1 hc1 hev
  rcases he with rfl | rfl
  all_goals
    go_enter Try.func44, Try.ntmps44
    go_wp2_with (first | (go_at_call 55; refine HC.out.mono ?_; rintro e w1 ⟨rfl, hB1⟩) | (go_at_call 66; refine (HE.out _ hB1).mono ?_; rintro e w2 ⟨rfl, hB2⟩))
    go_ret2
    exact ⟨rfl, hB1.trans (hB2.mono hB1.size)⟩
set_option maxHeartbeats 4000000 in
set_option maxRecDepth 100000 in
theorem enc_code (A0 : Option Addr) (c0 : Nat) (l : List Int) (A1 : Option Addr) (c1 : Nat) (s : List Int) (w : World) (hr0 : Kd.C (Kd.int .i64) w A0 l.length l) (hc0 : l.length ≤ c0) (hr1 : Kd.C (Kd.int .i64) w A1 s.length s) (hc1 : s.length ≤ c1) (k : Nat) (hck : code_check.f k l = some 60) (hs : s.length ≤ 4096)
    (hl : l.length ≤ 1000000) (hev : code_every.f s 0 ((l.length : Int) - 1) = some true) :
    Calls Try.prog 44 #[.slice A0 l.length c0, .slice A1 s.length c1] w fun e w' => e = .returned (.tuple #[.string ⟨#[]⟩, .int .i64 60]) ∧ Below w.heap.size w w' := by
  have HC := Lib.hid (code_check.calls k A0 c0 l 60 w hr0 hc0 hck)
  have HE : Hid (∀ W, Below w.heap.size w W → Calls Try.prog 66 #[.slice A1 s.length c1, .int .i64 0, .int .i64 ((l.length : Int) - 1)] W fun e w' => e = .returned (.bool true) ∧ Below W.heap.size W w') := Lib.hid (fun W hW => code_every.calls A1 c1 s 0 ((l.length : Int) - 1) true W (Kd.C_below hr1 hW) hc1 hev)
  have hs' : ¬ (4096 : Int) < (s.length : Int) := by omega
  clear hr0 hck hc0 hr1 hc1 hev
  go_enter Try.func44, Try.ntmps44
  go_wp2_with (first | (go_at_call 55; refine HC.out.mono ?_; rintro e w1 ⟨rfl, hB1⟩) | (go_at_call 66; refine (HE.out _ hB1).mono ?_; rintro e w2 ⟨rfl, hB2⟩))
  go_ret2
  exact ⟨rfl, hB1.trans (hB2.mono hB1.size)⟩
set_option maxHeartbeats 4000000 in
set_option maxRecDepth 100000 in
theorem enc_good (A0 : Option Addr) (c0 : Nat) (l : List Int) (A1 : Option Addr) (c1 : Nat) (s : List Int) (w : World) (hr0 : Kd.C (Kd.int .i64) w A0 l.length l) (hc0 : l.length ≤ c0) (hr1 : Kd.C (Kd.int .i64) w A1 s.length s) (hc1 : s.length ≤ c1) (k : Nat) (hck : code_check.f k l = some 0) (hs : s.length ≤ 4096)
    (hl0 : 1 ≤ l.length) (hl : l.length ≤ 1000000) (hev : code_every.f s 0 ((l.length : Int) - 1) = some true) (hev2 : okB 0 ((l.length : Int) - 1) s = true) (hw : code_words.f l = some (wordsL l)) (hwl : ∀ i, i < l.length → (wordN l i).length ≤ 32) :
    Calls Try.prog 44 #[.slice A0 l.length c0, .slice A1 s.length c1] w fun e w' => e = .returned (.tuple #[.string ⟨(encL (wordN l) s).toArray⟩, .int .i64 0]) ∧ Below w.heap.size w w' := by
  have HC := Lib.hid (code_check.calls k A0 c0 l 0 w hr0 hc0 hck)
  have HE : Hid (∀ W, Below w.heap.size w W → Calls Try.prog 66 #[.slice A1 s.length c1, .int .i64 0, .int .i64 ((l.length : Int) - 1)] W fun e w' => e = .returned (.bool true) ∧ Below W.heap.size W w') := Lib.hid (fun W hW => code_every.calls A1 c1 s 0 ((l.length : Int) - 1) true W (Kd.C_below hr1 hW) hc1 hev)
  have HW : Hid (∀ W, Below w.heap.size w W → Calls Try.prog 56 #[.slice A0 l.length c0] W fun e w' => ∃ v, e = .returned v ∧ Kd.R Kd.string 9 w' W.heap.size (fun _ => True) v (wordsL l) ∧ Below W.heap.size W w') := Lib.hid (fun W hW => code_words.calls A0 c0 l _ W (Kd.C_below hr0 hW) hc0 hw)
  have HRC : Hid (∀ W, Below w.heap.size w W → ∀ i, i < s.length → ∃ ad, A1 = some ad ∧ W.cell? (ad.add i) = some (.int .i64 (s.getD i 0))) := Lib.hid (fun W hW i hi => by
    obtain ⟨ad, vx, e1, e2, e3⟩ := at_int hr1 hW i hi
    exact ⟨ad, e1, by rw [List.getD_eq_getElem?_getD, e2.out]; exact e3⟩)
  have hs' : ¬ (4096 : Int) < (s.length : Int) := by omega
  have HIN : Hid (∀ i, i < s.length → ∃ j : Nat, s.getD i 0 = (j : Int) ∧ j < l.length) := Lib.hid (fun i hi => by
    have h1 := okB_iff.1 hev2 (s.getD i 0) (by rw [List.getD_eq_getElem?_getD, List.getElem?_eq_getElem hi]; exact List.getElem_mem hi)
    exact ⟨(s.getD i 0).toNat, by omega, by omega⟩)
  have HWL := Lib.hid hwl
  have HENC : Hid (∀ i, (encL (wordN l) (s.take i)).length ≤ 32 * 4096) := Lib.hid (fun i => by
    have h1 := encL_len (wd := wordN l) (m := 32) (s := s.take i) (fun x hx => by
      have h2 := okB_iff.1 hev2 x (List.mem_of_mem_take hx)
      exact hwl _ (by omega))
    have h3 : (s.take i).length ≤ 4096 := by rw [List.length_take]; omega
    have h4 : 32 * (s.take i).length ≤ 32 * 4096 := Nat.mul_le_mul_left _ h3
    omega)
  clear hr0 hck hc0 hr1 hc1 hev hev2 hw hwl
  go_enter Try.func44, Try.ntmps44
  go_upto_region 7 with (first | (go_at_call 55; refine HC.out.mono ?_; rintro e w1 ⟨rfl, hB1⟩) | (go_at_call 66; refine (HE.out _ hB1).mono ?_; rintro e w2 ⟨rfl, hB2⟩) | (go_at_call 56; refine (HW.out _ (hB1.trans (hB2.mono hB1.size))).mono ?_; rintro e w3 ⟨v, rfl, hR, hB3⟩))
  have hBA : Below w.heap.size w w3 := (hB1.trans (hB2.mono hB1.size)).trans (hB3.mono (Nat.le_trans hB1.size hB2.size))
  have hlen : (wordsL l).length = l.length := wordsL_len l
  obtain ⟨g, cap, rfl, hg1, hg2, -⟩ := Kd.R_form hR (by omega)
  have HWD : Hid (∀ W, Below w3.heap.size w3 W → ∀ i, i < l.length → W.cell? ⟨g, i, none⟩ = some (.string ((wordsL l).getD i ⟨#[]⟩))) := Lib.hid (fun W hW i hi => (hW.cell hg2).trans (R_str hR (by omega)))
  rw [hlen]
  have HBA := Lib.hid hBA
  clear hB1 hB2 hB3 hR hBA hlen HC HE HW
  have hB4 : Below w3.heap.size w3 (w3.alloc (Obj.cells #[Value.pointer none, Value.slice none 0 0] 89)) := (Below.refl _ _).alloc (Nat.le_refl _) _
  have hI : Lib.IsBuilder 89 5 w3.heap.size w3.heap.size (Lib.byteCells (encL (wordN l) (s.take 0))) (w3.alloc (Obj.cells #[Value.pointer none, Value.slice none 0 0] 89)) := by
    refine .inl ⟨Nat.le_refl _, .slice none 0 0, heap_alloc_new _ _, ?_, by simp [Value.ownBlock]⟩
    refine ⟨by simp [encL, Lib.byteCells], .inl ⟨rfl, by simp [encL, Lib.byteCells]⟩⟩
  have HI := Lib.hid hI
  have HB4 := Lib.hid hB4
  clear hI hB4
  go_wp2_with fail
  obtain ⟨w4, hw4⟩ : ∃ w4, w3.alloc (Obj.cells #[Value.pointer none, Value.slice none 0 0] 89) = w4 := ⟨_, rfl⟩
  rw [hw4] at HI HB4 ⊢
  clear hw4
  go_loopw [10, 35] (fun _ v35 wr => ∃ i : Nat, v35 = .int .i64 (i : Int) ∧ i ≤ s.length ∧ Hid (Lib.IsBuilder 89 5 w3.heap.size w3.heap.size (Lib.byteCells (encL (wordN l) (s.take i))) wr) ∧ Hid (Below w3.heap.size w3 wr)) (fun _ v35 _ => s.length - (intOf v35).toNat)
  case atStart => exact ⟨0, rfl, Nat.zero_le _, HI, HB4⟩
  case round =>
    rename World => wr
    obtain ⟨i, rfl, hi, HIi, HBi⟩ := hrel
    by_cases hlt : i < s.length
    · have hlt' : (i : Int) < (s.length : Int) := by omega
      have hi0 : (0 : Int) ≤ (i : Int) := by omega
      obtain ⟨ad, hA, hcell⟩ := HRC.out wr (HBA.out.trans (HBi.out.mono HBA.out.size)) i hlt
      subst hA
      obtain ⟨j, hj, hjl⟩ := HIN.out i hlt
      rw [hj] at hcell
      have hjl' : (j : Int) < (l.length : Int) := by omega
      have hj0 : (0 : Int) ≤ (j : Int) := by omega
      have hword := HWD.out wr HBi.out j hjl
      have hnx := encL_next (wordN l) s hlt
      rw [hj, Int.toNat_natCast] at hnx
      have hwz := HWL.out j hjl
      have hez := HENC.out i
      have hwd : wordN l j = ((wordsL l).getD j ⟨#[]⟩).data.toList := rfl
      obtain ⟨sw, hsw⟩ : ∃ sw, (wordsL l).getD j ⟨#[]⟩ = sw := ⟨_, rfl⟩
      rw [hsw] at hword hwd
      rw [hwd] at hnx hwz
      have hsz : sw.size = sw.data.toList.length := (by rw [Array.length_toList]; rfl)
      have HNX := Lib.hid hnx
      clear hnx hwd hsw
      go_wp2_with fail
      refine (WriteString_c _ _ _ sw _ HIi.out (by rw [byteCells_len]; omega) HBi.out.size).mono ?_
      rintro e w5 ⟨rfl, hI5, hB5⟩
      have HI5 : Hid (Lib.IsBuilder 89 5 w3.heap.size w3.heap.size (Lib.byteCells (encL (wordN l) (s.take (i + 1)))) w5) := by
        rw [HNX.out, byteCells_app]
        exact Lib.hid (.inr hI5)
      have HB5 := Lib.hid (HBi.out.trans hB5)
      clear hI5 hB5
      go_wp2_with fail
      exact ⟨⟨i + 1, by go_num, by omega, HI5, HB5⟩, by simp [intOf]; omega⟩
    · obtain rfl : i = s.length := by omega
      rw [List.take_length] at HIi
      go_wp2_with (go_at_call 68; refine (Builder_String_any _ _ _ _ HIi.out HBi.out.size).mono ?_; rintro e w5 ⟨rfl, hB5⟩)
      go_ret2
      exact ⟨rfl, HBA.out.trans ((HBi.out.trans hB5).mono HBA.out.size)⟩
end Go.Proofs.Ytcpojohpmcnnhaa.L

set_option linter.unusedVariables false
set_option linter.unusedSimpArgs false
namespace Go.Proofs.Ytcpojohpmcnnhaa.L
open Go.RowKit Go.Proofs.YtcpojohpmcnnhaaW.PrintWords Go.Proofs.YtcpojohpmcnnhaaW.PrintLast Go.Proofs.YtcpojohpmcnnhaaW.PrintMore
open Go.Proofs.Ytcpojohpmcnnhaa.PA Go.Proofs.Ytcpojohpmcnnhaa.A
def ApartW (wd : Nat → List UInt8) (n : Nat) : Prop := ∀ s z, s < n → z < n → s ≠ z → ∃ t, t < (wd s).length ∧ t < (wd z).length ∧ (wd s).getD t 0 ≠ (wd z).getD t 0
theorem words_ap {l : List Int} (hok : okB 0 32 l = true) (hs : sumI l ≤ 4294967296) : ApartW (wordN l) l.length := by
  intro s z h1 h2 hne
  have hl : lx (keyI l) s z ∨ lx (keyI l) z s := by unfold lx; omega
  rcases hl with h | h
  · obtain ⟨t, a1, a2, _, a4, a5⟩ := words_apart hok hs h1 h2 h
    exact ⟨t, a1, a2, by rw [a4, a5]; decide⟩
  · obtain ⟨t, a1, a2, _, a4, a5⟩ := words_apart hok hs h2 h1 h
    exact ⟨t, a2, a1, by rw [a4, a5]; decide⟩
theorem piece_len {T : List UInt8} {f a : Nat} (ha : a ≤ T.length) : (piece T f a).length = a - f := by
  unfold piece
  rw [List.length_take, List.length_drop]; omega
theorem piece_at {T : List UInt8} {f a t : Nat} (h : t < a - f) : (piece T f a).getD t 0 = T.getD (f + t) 0 := by
  unfold piece
  rw [List.getD_eq_getElem?_getD, List.getElem?_take, if_pos h, List.getElem?_drop, List.getD_eq_getElem?_getD]
theorem two_match {wd : Nat → List UInt8} {n : Nat} (H : ApartW wd n) {T : List UInt8} {f a b s z : Nat} (ha : a ≤ T.length) (hb : b ≤ T.length) (hs : s < n) (hz : z < n) (e1 : wd s = piece T f a) (e2 : wd z = piece T f b) : s = z := by
  refine Classical.byContradiction (fun hne => ?_)
  obtain ⟨t, t1, t2, t3⟩ := H s z hs hz hne
  rw [e1, piece_len ha] at t1
  rw [e2, piece_len hb] at t2
  rw [e1, e2, piece_at t1, piece_at t2] at t3
  exact t3 rfl
structure MatchW (wd : Nat → List UInt8) (T : List UInt8) (f s : Nat) : Prop where
  pos : 0 < (wd s).length
  fit : f + (wd s).length ≤ T.length
  is : piece T f (f + (wd s).length) = wd s
theorem run_match {wd : Nat → List UInt8} {n : Nat} (H : ApartW wd n) {T : List UInt8} {f s : Nat} {out : List Int} (h0 : runD wd n T f = some (f, out)) (hs : s < n) (hm : MatchW wd T f s) : runD wd n T (f + (wd s).length) = some (f + (wd s).length, out ++ [(s : Int)]) := by
  have hfit := hm.fit
  have hpos := hm.pos
  have stay : ∀ d, d < (wd s).length → runD wd n T (f + d) = some (f, out) := by
    intro d
    induction d with
    | zero => intro _; exact h0
    | succ d ih =>
      intro hd
      have hx := runD_next (ih (by omega))
      rw [show f + (d + 1) = f + d + 1 from rfl, hx]
      cases hfd : findD wd (piece T f (f + d + 1)) n with
      | some z =>
        have hz := findD_lt hfd
        have e := two_match H (a := f + (wd s).length) (b := f + d + 1) hm.fit (by omega) hs hz.1 hm.is.symm hz.2
        subst e
        have := congrArg List.length hz.2
        rw [piece_len (by omega)] at this
        omega
      | none =>
        have hlg := longD_ge wd hs
        simp only
        rw [if_neg (by omega)]
  obtain ⟨p, hp⟩ : ∃ p, (wd s).length = p + 1 := ⟨(wd s).length - 1, by omega⟩
  have hx := runD_next (stay p (by omega))
  have his := hm.is
  rw [hp] at his ⊢
  rw [show f + (p + 1) = f + p + 1 from rfl] at his ⊢
  rw [hx, his]
  cases hfd : findD wd (wd s) n with
  | some z =>
    have hz := findD_lt hfd
    have e := two_match H (a := f + (wd s).length) (b := f + (wd s).length) hm.fit hm.fit hs hz.1 hm.is.symm (hz.2.trans hm.is.symm)
    subst e
    rfl
  | none => exact absurd rfl (findD_none hfd s hs)
theorem dec_end {wd : Nat → List UInt8} {n : Nat} {T : List UInt8} {out : List Int} (h0 : runD wd n T T.length = some (T.length, out)) : decD wd n T = some out := by
  unfold decD
  rw [h0]
  simp only [if_neg (Nat.lt_irrefl _)]
theorem piece_mid (a b c : List UInt8) : piece (a ++ b ++ c) a.length (a.length + b.length) = b := by
  unfold piece
  rw [List.append_assoc, List.drop_left, Nat.add_sub_cancel_left, List.take_left]
theorem dec_enc {wd : Nat → List UInt8} {n : Nat} (H : ApartW wd n) (h2 : 2 ≤ n) {s : List Int} (hs : ∀ i, i < s.length → ∃ j : Nat, s.getD i 0 = (j : Int) ∧ j < n) : decD wd n (encL wd s) = some s := by
  have pos : ∀ j, j < n → 0 < (wd j).length := fun j hj => by
    obtain ⟨z, hz, hne⟩ : ∃ z, z < n ∧ j ≠ z := by
      by_cases h : j = 0
      · exact ⟨1, by omega, by omega⟩
      · exact ⟨0, by omega, h⟩
    obtain ⟨t, ht, _⟩ := H j z hj hz hne
    omega
  have key : ∀ i, i ≤ s.length → runD wd n (encL wd s) (encL wd (s.take i)).length = some ((encL wd (s.take i)).length, s.take i) := by
    intro i
    induction i with
    | zero => intro _; rfl
    | succ i ih =>
      intro hi
      have h0 := ih (by omega)
      obtain ⟨j, hj, hjn⟩ := hs i (by omega)
      have hnx := encL_next wd s (i := i) (by omega)
      rw [hj, Int.toNat_natCast] at hnx
      have hall : encL wd s = encL wd (s.take i) ++ wd j ++ encL wd (s.drop (i + 1)) := by
        rw [← hnx, ← encL_app, List.take_append_drop]
      have hlen := congrArg List.length hall
      rw [List.length_append, List.length_append] at hlen
      have hm : MatchW wd (encL wd s) (encL wd (s.take i)).length j := ⟨pos j hjn, by omega, by rw [hall]; exact piece_mid _ _ _⟩
      have hr := run_match H h0 hjn hm
      have htk : s.take (i + 1) = s.take i ++ [(j : Int)] := by
        rw [List.take_succ_eq_append_getElem (show i < s.length by omega), ← hj, List.getD_eq_getElem?_getD, List.getElem?_eq_getElem (show i < s.length by omega)]; rfl
      rw [hnx, List.length_append, hr, htk]
  have h := key s.length (Nat.le_refl _)
  rw [List.take_length] at h
  exact dec_end h
end Go.Proofs.Ytcpojohpmcnnhaa.L

set_option linter.unusedVariables false
set_option linter.unusedSimpArgs false
namespace Go.Proofs.Ytcpojohpmcnnhaa.L
open Go.RowKit Go.Proofs.YtcpojohpmcnnhaaW.PrintWords Go.Proofs.YtcpojohpmcnnhaaW.PrintLast Go.Proofs.YtcpojohpmcnnhaaW.PrintMore
open Go.Proofs.Ytcpojohpmcnnhaa.PA Go.Proofs.Ytcpojohpmcnnhaa.A
theorem checkI_cases (l : List Int) : checkI l = 2 ∨ checkI l = 60 ∨ (checkI l = 0 ∧ (1 ≤ l.length ∧ l.length ≤ 64) ∧ okB 0 32 l = true ∧ sumI l ≤ 4294967296) := by
  unfold checkI
  by_cases h : (lenB l && okB 0 32 l) = true
  · rw [if_pos h]
    simp only [Bool.and_eq_true] at h
    by_cases h2 : sumI l > 4294967296
    · rw [if_pos h2]; exact .inr (.inl rfl)
    · rw [if_neg h2]; exact .inr (.inr ⟨rfl, lenB_iff.1 h.1, h.2, by omega⟩)
  · rw [if_neg h]; exact .inl rfl
def encR (l s : List Int) : ByteArray × Int := if checkI l = 2 ∨ 4096 < s.length ∨ okB 0 ((l.length : Int) - 1) s = false then (⟨#[]⟩, 2) else if checkI l = 60 then (⟨#[]⟩, 60) else (⟨(encL (wordN l) s).toArray⟩, 0)
theorem encode_c (A0 : Option Addr) (c0 : Nat) (l : List Int) (A1 : Option Addr) (c1 : Nat) (s : List Int) (w : World) (hr0 : Kd.C (Kd.int .i64) w A0 l.length l) (hc0 : l.length ≤ c0) (hr1 : Kd.C (Kd.int .i64) w A1 s.length s) (hc1 : s.length ≤ c1) (hl : l.length ≤ 1000000) :
    Calls Try.prog 44 #[.slice A0 l.length c0, .slice A1 s.length c1] w fun e w' => e = .returned (.tuple #[.string (encR l s).1, .int .i64 (encR l s).2]) ∧ Below w.heap.size w w' := by
  obtain ⟨k, hk⟩ := check_ev l hl
  have hk : code_check.f k l = some (checkI l) := hk k (Nat.le_refl _)
  have hall := every_all s 0 ((l.length : Int) - 1)
  unfold encR
  rcases checkI_cases l with h | h | ⟨h, h1, h2, h3⟩
  · rw [if_pos (.inl h)]
    exact enc_bad A0 c0 l A1 c1 s w hr0 hc0 k (by rw [hk, h])
  · by_cases h4 : 4096 < s.length
    · rw [if_pos (.inr (.inl h4))]
      exact enc_long A0 c0 l A1 c1 s w hr0 hc0 k 60 (.inr rfl) (by rw [hk, h]) h4
    · by_cases h5 : okB 0 ((l.length : Int) - 1) s = false
      · rw [if_pos (.inr (.inr h5))]
        exact enc_out A0 c0 l A1 c1 s w hr0 hc0 hr1 hc1 k 60 (.inr rfl) (by rw [hk, h]) (by omega) hl (by rw [hall, h5])
      · have h5' : okB 0 ((l.length : Int) - 1) s = true := by simpa using h5
        rw [if_neg (by rw [h]; simp [h4, h5']), if_pos h]
        exact enc_code A0 c0 l A1 c1 s w hr0 hc0 hr1 hc1 k (by rw [hk, h]) (by omega) hl (by rw [hall, h5'])
  · by_cases h4 : 4096 < s.length
    · rw [if_pos (.inr (.inl h4))]
      exact enc_long A0 c0 l A1 c1 s w hr0 hc0 k 0 (.inl rfl) (by rw [hk, h]) h4
    · by_cases h5 : okB 0 ((l.length : Int) - 1) s = false
      · rw [if_pos (.inr (.inr h5))]
        exact enc_out A0 c0 l A1 c1 s w hr0 hc0 hr1 hc1 k 0 (.inl rfl) (by rw [hk, h]) (by omega) hl (by rw [hall, h5])
      · have h5' : okB 0 ((l.length : Int) - 1) s = true := by simpa using h5
        rw [if_neg (by rw [h]; simp [h4, h5']), if_neg (by rw [h]; decide)]
        refine enc_good A0 c0 l A1 c1 s w hr0 hc0 hr1 hc1 k (by rw [hk, h]) (by omega) h1.1 hl (by rw [hall, h5']) h5' (codeWords_f h1.1 h1.2 h2 h3) (fun i hi => ?_)
        have e1 := wordN_len h2 hi
        have e2 := ok_at h2 hi
        omega
end Go.Proofs.Ytcpojohpmcnnhaa.L
namespace Go.Proofs.Ytcpojohpmcnnhaa.PA
open Go.RowKit Go.Proofs.YtcpojohpmcnnhaaW.PrintWords Go.Proofs.YtcpojohpmcnnhaaW.PrintLast Go.Proofs.YtcpojohpmcnnhaaW.PrintMore
def code_Encode.f (l0 : List Int) (l1 : List Int) : Option (ByteArray × Int) := if l0.length ≤ 1000000 then some (L.encR l0 l1) else none
theorem code_Encode.calls (A0 : Option Addr) (c0 : Nat) (l0 : List Int) (A1 : Option Addr) (c1 : Nat) (l1 : List Int) (r1 : ByteArray) (r2 : Int) (w : World) (hr0 : Kd.C (Kd.int .i64) w A0 l0.length l0) (hc0 : l0.length ≤ c0) (hr1 : Kd.C (Kd.int .i64) w A1 l1.length l1) (hc1 : l1.length ≤ c1) (h : code_Encode.f l0 l1 = some (r1, r2)) :
    Calls Try.prog 44 #[.slice A0 l0.length c0, .slice A1 l1.length c1] w fun e w' => e = .returned (.tuple #[.string r1, .int .i64 r2]) ∧ Below w.heap.size w w' := by
  unfold code_Encode.f at h
  split at h
  · rename_i hl
    have e := Option.some.inj h
    have hc := L.encode_c A0 c0 l0 A1 c1 l1 w hr0 hc0 hr1 hc1 hl
    rw [e] at hc
    exact hc
  · cases h
end Go.Proofs.Ytcpojohpmcnnhaa.PA

set_option linter.unusedVariables false
set_option linter.unusedSimpArgs false
namespace Go.Proofs.Ytcpojohpmcnnhaa.L
open Go.RowKit Go.Proofs.YtcpojohpmcnnhaaW.PrintWords Go.Proofs.YtcpojohpmcnnhaaW.PrintLast Go.Proofs.YtcpojohpmcnnhaaW.PrintMore
open Go.Proofs.Ytcpojohpmcnnhaa.PA Go.Proofs.Ytcpojohpmcnnhaa.A
open Go.Maps (string_keyed)
open Go.ChangeMaps
theorem zeroE3 (w : World) : (zeroValue 3).run Try.prog w = .ok (.int .i64 0) w := by kernel_rfl
theorem wf_small (j : Nat) (h : j ≤ 1000000) : (Lit.int .i64 (j : Int)).wf = true := by
  have h1 : IntKind.i64.min = -9223372036854775808 := by decide
  have h2 : IntKind.i64.max = 9223372036854775807 := by decide
  show (decide (IntKind.i64.min ≤ (j : Int)) && decide ((j : Int) ≤ IntKind.i64.max)) = true
  rw [h1, h2, decide_eq_true (show (-9223372036854775808 : Int) ≤ (j : Int) by omega), decide_eq_true (show (j : Int) ≤ 9223372036854775807 by omega)]
  rfl
theorem extract_piece (s : ByteArray) (f a : Nat) : (s.extract f a).data.toList = piece s.data.toList f a := by
  unfold piece
  rw [ByteArray.data_extract, Array.toList_extract]
  try rfl
set_option maxHeartbeats 4000000 in
set_option maxRecDepth 100000 in
theorem dec_bad (A0 : Option Addr) (c0 : Nat) (l : List Int) (s : ByteArray) (w : World) (hr0 : Kd.C (Kd.int .i64) w A0 l.length l) (hc0 : l.length ≤ c0) (k : Nat) (hck : code_check.f k l = some 2) :
    Calls Try.prog 47 #[.slice A0 l.length c0, .string s] w fun e w' => e = .returned (.tuple #[.slice none 0 0, .int .i64 2]) ∧ Below w.heap.size w w' := by
  have HC := Lib.hid (code_check.calls k A0 c0 l 2 w hr0 hc0 hck)
  clear hr0 hck hc0
  go_enter Try.func47, Try.ntmps47
  go_wp2_with (go_at_call 55; refine HC.out.mono ?_; rintro e w1 ⟨rfl, hB1⟩)
  go_ret2
  exact ⟨rfl, hB1⟩
set_option maxHeartbeats 4000000 in
set_option maxRecDepth 100000 in
theorem dec_long (A0 : Option Addr) (c0 : Nat) (l : List Int) (s : ByteArray) (w : World) (hr0 : Kd.C (Kd.int .i64) w A0 l.length l) (hc0 : l.length ≤ c0) (k : Nat) (e : Int) (he : e = 0 ∨ e = 60) (hck : code_check.f k l = some e) (hs : 65536 < s.size) :
    Calls Try.prog 47 #[.slice A0 l.length c0, .string s] w fun e w' => e = .returned (.tuple #[.slice none 0 0, .int .i64 2]) ∧ Below w.heap.size w w' := by
  have HC := Lib.hid (code_check.calls k A0 c0 l e w hr0 hc0 hck)
  have hs' : (65536 : Int) < (s.size : Int) := by omega
  clear hr0 hck hc0
  rcases he with rfl | rfl
  all_goals
    go_enter Try.func47, Try.ntmps47
    go_wp2_with (go_at_call 55; refine HC.out.mono ?_; rintro e w1 ⟨rfl, hB1⟩)
    go_ret2
    exact ⟨rfl, hB1⟩
set_option maxHeartbeats 4000000 in
set_option maxRecDepth 100000 in
theorem dec_bits (A0 : Option Addr) (c0 : Nat) (l : List Int) (s : ByteArray) (w : World) (hr0 : Kd.C (Kd.int .i64) w A0 l.length l) (hc0 : l.length ≤ c0) (k : Nat) (e : Int) (he : e = 0 ∨ e = 60) (hck : code_check.f k l = some e) (hs : s.size ≤ 65536) (hbt : code_isBits.f k s = some false) :
    Calls Try.prog 47 #[.slice A0 l.length c0, .string s] w fun e w' => e = .returned (.tuple #[.slice none 0 0, .int .i64 2]) ∧ Below w.heap.size w w' := by
  have HC := Lib.hid (code_check.calls k A0 c0 l e w hr0 hc0 hck)
  have HE := Lib.hid (fun W => code_isBits.calls k s false W hbt)
  have hs' : ¬ (65536 : Int) < (s.size : Int) := by omega
  clear hr0 hck hc0 hbt
  rcases he with rfl | rfl
  all_goals
    go_enter Try.func47, Try.ntmps47
    go_wp2_with (first | (go_at_call 55; refine HC.out.mono ?_; rintro e w1 ⟨rfl, hB1⟩) | (go_at_call 58; refine (HE.out _).mono ?_; rintro e w2 ⟨rfl, nd, rfl⟩))
    go_ret2
    exact ⟨rfl, pw_below_drewN hB1 _⟩
set_option maxHeartbeats 4000000 in
set_option maxRecDepth 100000 in
theorem dec_code (A0 : Option Addr) (c0 : Nat) (l : List Int) (s : ByteArray) (w : World) (hr0 : Kd.C (Kd.int .i64) w A0 l.length l) (hc0 : l.length ≤ c0) (k : Nat) (hck : code_check.f k l = some 60) (hs : s.size ≤ 65536) (hbt : code_isBits.f k s = some true) :
    Calls Try.prog 47 #[.slice A0 l.length c0, .string s] w fun e w' => e = .returned (.tuple #[.slice none 0 0, .int .i64 60]) ∧ Below w.heap.size w w' := by
  have HC := Lib.hid (code_check.calls k A0 c0 l 60 w hr0 hc0 hck)
  have HE := Lib.hid (fun W => code_isBits.calls k s true W hbt)
  have hs' : ¬ (65536 : Int) < (s.size : Int) := by omega
  clear hr0 hck hc0 hbt
  go_enter Try.func47, Try.ntmps47
  go_wp2_with (first | (go_at_call 55; refine HC.out.mono ?_; rintro e w1 ⟨rfl, hB1⟩) | (go_at_call 58; refine (HE.out _).mono ?_; rintro e w2 ⟨rfl, nd, rfl⟩))
  go_ret2
  exact ⟨rfl, pw_below_drewN hB1 _⟩
set_option maxHeartbeats 8000000 in
set_option maxRecDepth 100000 in
theorem dec_good (A0 : Option Addr) (c0 : Nat) (l : List Int) (s : ByteArray) (w : World) (hr0 : Kd.C (Kd.int .i64) w A0 l.length l) (hc0 : l.length ≤ c0) (k : Nat) (hck : code_check.f k l = some 0) (hs : s.size ≤ 65536) (hbt : code_isBits.f k s = some true)
    (hl0 : 1 ≤ l.length) (hl : l.length ≤ 64) (hw : code_words.f l = some (wordsL l)) (hwl : ∀ i, i < l.length → (wordN l i).length ≤ 32) (ro : List Int) (re : Int) (hdn : decD (wordN l) l.length s.data.toList = none → ro = [] ∧ re = 60) (hds : ∀ o, decD (wordN l) l.length s.data.toList = some o → ro = o ∧ re = 0) :
    Calls Try.prog 47 #[.slice A0 l.length c0, .string s] w fun e w' => ∃ v, e = .returned (.tuple #[v, .int .i64 re]) ∧ Kd.R (Kd.int .i64) 3 w' w.heap.size (fun _ => True) v ro ∧ Below w.heap.size w w' := by
  have HC := Lib.hid (code_check.calls k A0 c0 l 0 w hr0 hc0 hck)
  have HE := Lib.hid (fun W => code_isBits.calls k s true W hbt)
  have HW : Hid (∀ W, Below w.heap.size w W → Calls Try.prog 56 #[.slice A0 l.length c0] W fun e w' => ∃ g cap, e = .returned (.slice (some ⟨g, 0, none⟩) l.length cap) ∧ W.heap.size ≤ g ∧ g < w'.heap.size ∧ (∀ i, i < l.length → w'.cell? ⟨g, i, none⟩ = some (.string ((wordsL l).getD i ⟨#[]⟩))) ∧ Below W.heap.size W w') := Lib.hid (fun W hW => (code_words.calls A0 c0 l _ W (Kd.C_below hr0 hW) hc0 hw).mono (by
    rintro e w' ⟨v, rfl, hR, hB⟩
    have hlen : (wordsL l).length = l.length := wordsL_len l
    obtain ⟨g, cap, rfl, hg1, hg2, -⟩ := Kd.R_form hR (by omega)
    refine ⟨g, cap, by rw [hlen], hg1, hg2, fun i hi => R_str hR (by omega), hB⟩))
  have hs' : ¬ (65536 : Int) < (s.size : Int) := by omega
  have hmm := @run_makeMap Try.prog
  have HWL := Lib.hid hwl
  obtain ⟨T, hT⟩ : ∃ T, s.data.toList = T := ⟨_, rfl⟩
  have hTl : T.length = s.size := by rw [← hT, Array.length_toList]; rfl
  have hex : ∀ f a, (s.extract f a).data.toList = piece T f a := fun f a => by rw [← hT]; exact extract_piece s f a
  rw [hT] at hdn hds
  have HDN2 := Lib.hid hdn
  have HDS2 := Lib.hid hds
  have HEX := Lib.hid hex
  have HTL := Lib.hid hTl
  clear hr0 hck hc0 hbt hw hwl hex hTl hT hdn hds
  go_enter Try.func47, Try.ntmps47
  go_upto_region 6 with (first | (go_at_call 55; refine HC.out.mono ?_; rintro e w1 ⟨rfl, hB1⟩) | (go_at_call 58; refine (HE.out _).mono ?_; rintro e wq ⟨rfl, nd, rfl⟩))
  have hB2 := pw_below_drewN hB1 nd
  obtain ⟨w2, hw2⟩ : ∃ w2, w1.drewN nd = w2 := ⟨_, rfl⟩
  rw [hw2] at hB2 ⊢
  clear hw2 hB1
  obtain ⟨M, hM⟩ : ∃ M, w2.heap.size = M := ⟨_, rfl⟩
  have hMw : w.heap.size ≤ M := by rw [← hM]; exact hB2.size
  have hB2' : Below w.heap.size w (w2.alloc (.map #[] 0)) := hB2.alloc hB2.size _
  have hO2 : (w2.alloc (.map #[] 0)).ownsMap Try.prog 9 (plainElem (H := Unit) Try.prog 3) M 0 (.map []) := by rw [← hM]; exact World.ownsMap_made w2 Try.prog 9 _
  have hz2 : (w2.alloc (.map #[] 0)).heap.size = M + 1 := by simp [hM]
  have HB2 := Lib.hid hB2'
  have HO2 := Lib.hid hO2
  clear hB2 hB2' hO2
  go_wp2_with (go_at_call 56; refine (HW.out _ HB2.out).mono ?_; rintro e w3 ⟨g, cap, rfl, hg1, hg2, hcells, hB3⟩)
  rw [hz2] at hg1
  have hO3 := HO2.out.kept (grown_of_below hB3 none) (by simp)
  have HO3 := Lib.hid hO3
  have HB3 := Lib.hid (HB2.out.trans (hB3.mono HB2.out.size))
  have hM3 : M < w3.heap.size := by omega
  have HCE := Lib.hid hcells
  clear hO3 hB3 hcells HO2 HC HE HW hmm
  go_loopw [8, 9, 10, 37] (fun v8 _ _ v37 wr => ∃ j : Nat, v37 = .int .i64 (j : Int) ∧ v8 = .int .i64 (longD (wordN l) j : Int) ∧ j ≤ l.length ∧ Hid (wr.ownsMap Try.prog 9 (plainElem (H := Unit) Try.prog 3) M j (datD (wordN l) j)) ∧ Hid (w3.grownBy wr (some M))) (fun _ _ _ v37 _ => l.length - (intOf v37).toNat)
  case atStart => exact ⟨0, rfl, rfl, Nat.zero_le _, HO3, Lib.hid (World.grownBy.refl _ _)⟩
  case round =>
    rename World => wr
    obtain ⟨j, rfl, rfl, hj, HOj, HGj⟩ := hrel
    by_cases hlt : j < l.length
    · have hlt' : (j : Int) < (l.length : Int) := by omega
      have hj0 : (0 : Int) ≤ (j : Int) := by omega
      have hcell := HGj.out.cell (HCE.out j hlt) (by simp; omega)
      have hwz := HWL.out j hlt
      have hwd : wordN l j = ((wordsL l).getD j ⟨#[]⟩).data.toList := rfl
      have hlong := longD_le (wordN l) (m := 32) (n := j) (fun q hq => HWL.out q (by omega))
      have hln : longD (wordN l) (j + 1) = max (longD (wordN l) j) (wordN l j).length := rfl
      have hdn : datD (wordN l) (j + 1) = (datD (wordN l) j).put (.string (wordN l j)) (.lit (.int .i64 (j : Int))) := rfl
      obtain ⟨sw, hsw⟩ : ∃ sw, (wordsL l).getD j ⟨#[]⟩ = sw := ⟨_, rfl⟩
      rw [hsw] at hcell hwd
      have hsz : sw.size = (wordN l j).length := by rw [hwd, Array.length_toList]; rfl
      have hkey : keyOf Try.prog 9 (.string sw) = some (.string (wordN l j)) := by rw [hwd]; exact WideMaps.keyOf_string_mk Try.underlying9 (by unfold maxLen; omega)
      have HKY := Lib.hid hkey
      have HLN := Lib.hid hln
      have HDN := Lib.hid hdn
      obtain ⟨lg, hlg⟩ : ∃ lg, longD (wordN l) j = lg := ⟨_, rfl⟩
      rw [hlg] at hlong HLN ⊢
      obtain ⟨wz, hwz2⟩ : ∃ wz, (wordN l j).length = wz := ⟨_, rfl⟩
      rw [hwz2] at hwz hsz HLN
      clear hwd hsw hkey hln hdn hlg hwz2
      have hmx : max (lg : Int) (wz : Int) = ((max lg wz : Nat) : Int) := by omega
      have HMX := Lib.hid hmx
      clear hmx
      go_wp2_with (at_mapUpdate; refine wpList_mapUpdate_own _ rfl _ _ _ 95 rfl 9 3 (string_keyed Try.underlying9) Try.underlying95 _ M j _ rfl HOj.out (by unfold maxLen; omega) _ _ _ rfl rfl HKY.out _ [] (plainElem_int Try.underlying3 (wf_small j (by omega))) ?_)
      intro w5 hown5 hgrow5
      have HO5 : Hid (w5.ownsMap Try.prog 9 (plainElem (H := Unit) Try.prog 3) M (j + 1) (datD (wordN l) (j + 1))) := by rw [HDN.out]; exact Lib.hid hown5
      have HG5 := Lib.hid (HGj.out.trans hgrow5)
      clear hown5 hgrow5
      go_wp2_with fail
      rw [HMX.out]
      exact ⟨⟨j + 1, by go_num, by rw [HLN.out], by omega, HO5, HG5⟩, by simp [intOf]; omega⟩
    · obtain rfl : j = l.length := by omega
      have hBw : Below w.heap.size w wr := HB3.out.grown HGj.out HB3.out.size (fun k hk => by cases hk; exact hMw)
      have HBW := Lib.hid hBw
      have hML : M < wr.heap.size := by have := HGj.out.size; omega
      have hlong := longD_le (wordN l) (m := 32) (n := l.length) (fun q hq => HWL.out q hq)
      clear hBw HGj HB3 HCE HO3
      generalize wr = w4 at *
      go_wp2_with fail
      have HR0 : Hid (runD (wordN l) l.length T 0 = some (0, [])) := Lib.hid rfl
      go_loopw [11, 12, 13, 14, 15] (fun v11 v12 v13 _ _ wq => ∃ (a f : Nat) (out : List Int), v13 = .int .i64 ((a : Int) + 1) ∧ v12 = .int .i64 (f : Int) ∧ a ≤ T.length ∧ Hid (runD (wordN l) l.length T a = some (f, out)) ∧ Hid (Kd.R (Kd.int .i64) 3 wq w4.heap.size (fun _ => True) v11 out) ∧ Hid (Below w4.heap.size w4 wq)) (fun _ _ v13 _ _ _ => T.length + 1 - (intOf v13).toNat)
      case atStart => exact ⟨0, 0, [], rfl, rfl, Nat.zero_le _, HR0, Lib.hid (Kd.R_nil _ _ _ _ _), Lib.hid (Below.refl _ _)⟩
      case round =>
        rename World => wq
        obtain ⟨a, f, out, rfl, rfl, ha, HRU, HRo, HBq⟩ := hrel
        have hle := runD_le HRU.out
        have htl := HTL.out
        by_cases haT : a < T.length
        · have haT' : (a : Int) + 1 ≤ (s.size : Int) := by omega
          have hf0 : (0 : Int) ≤ (f : Int) := by omega
          have hfa : (f : Int) ≤ (a : Int) + 1 := by omega
          have hnext := runD_next HRU.out
          obtain ⟨sx, hsx⟩ : ∃ sx, s.extract f (a + 1) = sx := ⟨_, rfl⟩
          have hxd : sx.data.toList = piece T f (a + 1) := by rw [← hsx]; exact HEX.out f (a + 1)
          obtain ⟨x, hx⟩ : ∃ x, piece T f (a + 1) = x := ⟨_, rfl⟩
          rw [hx] at hnext hxd
          have hxz : sx.size ≤ 65536 := by rw [← hsx, ByteArray.size_extract]; omega
          have hkey : keyOf Try.prog 9 (.string sx) = some (.string x) := by rw [← hxd]; exact WideMaps.keyOf_string_mk Try.underlying9 (by unfold maxLen; omega)
          have HKY := Lib.hid hkey
          have HMq : Hid (wq.ownsMap Try.prog 9 (plainElem (H := Unit) Try.prog 3) M l.length (datD (wordN l) l.length)) := Lib.hid (HOj.out.kept (grown_of_below HBq.out none) (by simp))
          cases hfd : findD (wordN l) x l.length with
          | some q =>
            rw [hfd] at hnext
            have hql := findD_lt hfd
            have hhas : Maps.has (datD (wordN l) l.length) (.string x) = true := by rw [datD_has, hfd]; rfl
            have hat : ∀ z, (datD (wordN l) l.length).atKey (.string x) z = .lit (.int .i64 (q : Int)) := fun z => by rw [datD_at, hfd]
            have HHAS := Lib.hid hhas
            have HAT := Lib.hid hat
            have HNX := Lib.hid hnext
            have hol : out.length ≤ 65536 := by omega
            have hqw := wf_small q (by omega)
            clear hhas hat hnext hkey hxd hfd
            go_upto_region 20 with (at_lookup; refine wpList_lookup_own_ok_int _ rfl _ _ 95 rfl 9 3 .i64 (string_keyed Try.underlying9) Try.underlying95 Try.underlying3 (zeroE3 _) M l.length (datD (wordN l) l.length) rfl HMq.out _ _ rfl (by first | exact HKY.out | (rw [hsx]; exact HKY.out)) ?_; intro cc hat hwc; rw [HHAS.out])
            obtain rfl : cc = (q : Int) := by
              have h9 := hat.symm.trans (HAT.out _)
              injection h9 with h9
              injection h9
            clear hat hwc HKY HMq HHAS HAT
            go_wp2_with (at_builtin; refine Kd.R_append (Kd.int .i64) (w0 := w4) w4.heap.size rfl (.tmp 66) (.tmp 68) 22 3 (.int .i64 0) 8 rfl Try.underlying22 info3 rfl (by decide) (by omega) _ out (q : Int) [.int .i64 q] (fun _ => True) (fun _ => False) rfl rfl ?aP (fun _ hk => hk.elim) (fun _ _ => trivial) ?aO ?aB ?aS ?aL ?_)
            case aP => exact rfl
            case aO => exact HRo.out
            case aB => exact HBq.out
            case aS => exact HBq.out.size
            case aL => omega
            intro v1 w6 ho hb hg hat
            have HO := Lib.hid ho
            have HB6 := Lib.hid hb
            clear ho hb hg hat
            go_wp2_with fail
            exact ⟨⟨a + 1, a + 1, out ++ [(q : Int)], by go_num, by go_num, by omega, HNX, HO, HB6⟩, by simp [intOf]; omega⟩
          | none =>
            rw [hfd] at hnext
            have hhas : Maps.has (datD (wordN l) l.length) (.string x) = false := by rw [datD_has, hfd]; rfl
            have HHAS := Lib.hid hhas
            obtain ⟨lg, hlg⟩ : ∃ lg, longD (wordN l) l.length = lg := ⟨_, rfl⟩
            rw [hlg] at hnext hlong ⊢
            by_cases hge : a + 1 - f ≥ lg
            · simp only [if_pos hge] at hnext
              have hdec := decD_stop hnext (by omega)
              have HDE := Lib.hid hdec
              have hge' : (lg : Int) ≤ (a : Int) + 1 - (f : Int) := by omega
              clear hhas hnext hkey hxd hfd hdec hlg
              go_upto_region 20 with (at_lookup; refine wpList_lookup_own_ok_int _ rfl _ _ 95 rfl 9 3 .i64 (string_keyed Try.underlying9) Try.underlying95 Try.underlying3 (zeroE3 _) M l.length (datD (wordN l) l.length) rfl HMq.out _ _ rfl (by first | exact HKY.out | (rw [hsx]; exact HKY.out)) ?_; intro cc hat hwc; rw [HHAS.out])
              clear hat hwc HKY HMq HHAS
              go_wp2_with fail
              obtain ⟨rfl, rfl⟩ := HDN2.out HDE.out
              go_ret2
              exact ⟨_, rfl, Kd.R_nil _ _ _ _ _, HBW.out.trans (HBq.out.mono HBW.out.size)⟩
            · simp only [if_neg hge] at hnext
              have HNX := Lib.hid hnext
              have hge' : ¬ (lg : Int) ≤ (a : Int) + 1 - (f : Int) := by omega
              clear hhas hnext hkey hxd hfd hlg
              go_upto_region 20 with (at_lookup; refine wpList_lookup_own_ok_int _ rfl _ _ 95 rfl 9 3 .i64 (string_keyed Try.underlying9) Try.underlying95 Try.underlying3 (zeroE3 _) M l.length (datD (wordN l) l.length) rfl HMq.out _ _ rfl (by first | exact HKY.out | (rw [hsx]; exact HKY.out)) ?_; intro cc hat hwc; rw [HHAS.out])
              clear hat hwc HKY HMq HHAS
              go_wp2_with fail
              exact ⟨⟨a + 1, f, out, by go_num, rfl, by omega, HNX, HRo, HBq⟩, by simp [intOf]; omega⟩
        · obtain rfl : a = T.length := by omega
          have haT' : ¬ (T.length : Int) + 1 ≤ (s.size : Int) := by omega
          have hru := HRU.out
          by_cases hfT : f < T.length
          · have hdec : decD (wordN l) l.length T = none := by unfold decD; rw [hru]; simp only [if_pos hfT]
            have HDE := Lib.hid hdec
            have hfT' : (f : Int) < (s.size : Int) := by omega
            clear hru hdec
            go_wp2_with fail
            obtain ⟨rfl, rfl⟩ := HDN2.out HDE.out
            go_ret2
            exact ⟨_, rfl, Kd.R_nil _ _ _ _ _, HBW.out.trans (HBq.out.mono HBW.out.size)⟩
          · have hdec : decD (wordN l) l.length T = some out := by unfold decD; rw [hru]; simp only [if_neg hfT]
            have HDE := Lib.hid hdec
            have hfT' : ¬ (f : Int) < (s.size : Int) := by omega
            clear hru hdec
            go_wp2_with fail
            obtain ⟨rfl, rfl⟩ := HDS2.out _ HDE.out
            go_ret2
            exact ⟨_, rfl, Kd.R_lower HRo.out HBW.out.size, HBW.out.trans (HBq.out.mono HBW.out.size)⟩
end Go.Proofs.Ytcpojohpmcnnhaa.L

namespace Go.Proofs.Ytcpojohpmcnnhaa.PA
open Go.RowKit Go.Proofs.YtcpojohpmcnnhaaW.PrintWords Go.Proofs.YtcpojohpmcnnhaaW.PrintLast Go.Proofs.YtcpojohpmcnnhaaW.PrintMore
attribute [local go_sem] max2_int min2_int max_two min_two max_three min_three max_four min_four
set_option linter.unusedVariables false
set_option linter.unusedSimpArgs false
def turndownref06_Bits.l0 : Nat → ByteArray → Int → Option (Bool)
 | 0, _, _ => none
 | k + 1, x0, x3 => if x3 < (x0.size : Int) then (if 0 ≤ x3 then (if (bt x0 x3) = 48 then (turndownref06_Bits.l0 k x0 (wrap64 (x3 + 1))) else (if (bt x0 x3) = 49 then (turndownref06_Bits.l0 k x0 (wrap64 (x3 + 1))) else (some false))) else (none)) else (some true)
def turndownref06_Bits.f (k : Nat) (a0 : ByteArray) : Option (Bool) := turndownref06_Bits.l0 k a0 0
set_option maxHeartbeats 8000000 in
set_option maxRecDepth 100000 in
theorem turndownref06_Bits.calls (k : Nat) (a0 : ByteArray) (r : Bool) (w : World) (h : turndownref06_Bits.f k a0 = some r) :
  Calls Try.prog 31 #[.string a0] w fun e w' => e = .returned (.bool r) ∧ Drawn0 w w' := by
 have H : (turndownref06_Bits.l0 k a0 0) = some r := h
 clear h
 have H' := Aside0.mk H
 clear H
 go_enter Try.func31, Try.ntmps31
 go_wp2
 go_loopg [3] k (fun kq v3 w' => ∃ (x3_1 : Int), v3 = .int .i64 x3_1 ∧ Aside0 (turndownref06_Bits.l0 kq a0 x3_1 = some r) ∧ Aside0 (kq ≤ k) ∧ Drawn0 w w')
 case atStart => exact ⟨(0), (by first | rfl | (simp; done) | (simp [*]; done)), H', ⟨Nat.le_refl _⟩, by repeat (first | exact Drawn0.refl _ | apply Drawn0.step)⟩
 case round =>
  clear H'
  obtain ⟨x3_1, rfl, HA, HK1, ⟨m1, rfl⟩⟩ := hrel
  cases gk with
  | zero => exact absurd HA.out (by simp [turndownref06_Bits.l0])
  | succ k1 =>
   have H := HA.out
   clear HA
   simp only [turndownref06_Bits.l0] at H
   by_cases c2 : x3_1 < (a0.size : Int)
   ·
    rw [if_pos c2] at H
    have c2b0 : decide (x3_1 < (a0.size : Int)) = true := decide_eq_true c2
    clear c2
    by_cases c3 : 0 ≤ x3_1
    ·
     rw [if_pos c3] at H
     have c3b0 : decide (0 ≤ x3_1) = true := decide_eq_true c3
     clear c3
     by_cases c5 : (bt a0 x3_1) = 48
     ·
      rw [if_pos c5] at H
      have c5b0 : ((bt a0 x3_1) == 48) = true := beq_iff_eq.mpr c5
      have c5b1 : ((bt a0 x3_1) != 48) = false := bne_eq_false_iff_eq.mpr c5
      clear c5
      have H' := Aside0.mk H
      clear H
      have p4 : 0 ≤ (x3_1 : Int) := of_decide_eq_true (by first | (with_reducible assumption) | assumption)
      have q4 : x3_1 < (a0.size : Int) := of_decide_eq_true (by first | (with_reducible assumption) | assumption)
      have hx4 := bt_at a0 x3_1
      replace p4 := eq_true p4
      replace q4 := eq_true q4
      go_wp2
      go_roundg k1
      case measure => have := HK1.out; omega
      case rel => exact ⟨(wrap64 (x3_1 + 1)), (by first | rfl | (simp; done) | (simp [*]; done)), H', ⟨by have := HK1.out; omega⟩, by repeat (first | exact Drawn0.refl _ | apply Drawn0.step)⟩
     ·
      rw [if_neg c5] at H
      have c5b0 : ((bt a0 x3_1) == 48) = false := beq_eq_false_iff_ne.mpr c5
      have c5b1 : ((bt a0 x3_1) != 48) = true := bne_iff_ne.mpr c5
      by_cases c7 : (bt a0 x3_1) = 49
      ·
       rw [if_pos c7] at H
       have c7b0 : ((bt a0 x3_1) == 49) = true := beq_iff_eq.mpr c7
       have c7b1 : ((bt a0 x3_1) != 49) = false := bne_eq_false_iff_eq.mpr c7
       clear c7
       have H' := Aside0.mk H
       clear H
       have p4 : 0 ≤ (x3_1 : Int) := of_decide_eq_true (by first | (with_reducible assumption) | assumption)
       have q4 : x3_1 < (a0.size : Int) := of_decide_eq_true (by first | (with_reducible assumption) | assumption)
       have hx4 := bt_at a0 x3_1
       replace p4 := eq_true p4
       replace q4 := eq_true q4
       have p6 : 0 ≤ (x3_1 : Int) := of_decide_eq_true (by first | (with_reducible assumption) | assumption)
       have q6 : x3_1 < (a0.size : Int) := of_decide_eq_true (by first | (with_reducible assumption) | assumption)
       have hx6 := bt_at a0 x3_1
       replace p6 := eq_true p6
       replace q6 := eq_true q6
       go_wp2
       go_roundg k1
       case measure => have := HK1.out; omega
       case rel => exact ⟨(wrap64 (x3_1 + 1)), (by first | rfl | (simp; done) | (simp [*]; done)), H', ⟨by have := HK1.out; omega⟩, by repeat (first | exact Drawn0.refl _ | apply Drawn0.step)⟩
      ·
       rw [if_neg c7] at H
       have c7b0 : ((bt a0 x3_1) == 49) = false := beq_eq_false_iff_ne.mpr c7
       have c7b1 : ((bt a0 x3_1) != 49) = true := bne_iff_ne.mpr c7
       obtain rfl := Option.some.inj H
       have p4 : 0 ≤ (x3_1 : Int) := of_decide_eq_true (by first | (with_reducible assumption) | assumption)
       have q4 : x3_1 < (a0.size : Int) := of_decide_eq_true (by first | (with_reducible assumption) | assumption)
       have hx4 := bt_at a0 x3_1
       replace p4 := eq_true p4
       replace q4 := eq_true q4
       have p6 : 0 ≤ (x3_1 : Int) := of_decide_eq_true (by first | (with_reducible assumption) | assumption)
       have q6 : x3_1 < (a0.size : Int) := of_decide_eq_true (by first | (with_reducible assumption) | assumption)
       have hx6 := bt_at a0 x3_1
       replace p6 := eq_true p6
       replace q6 := eq_true q6
       go_wp2
       go_ret
       exact ⟨by first | rfl | (simp; done) | (simp [*]; done), by repeat (first | exact Drawn0.refl _ | apply Drawn0.step)⟩
    ·
     rw [if_neg c3] at H
     exact absurd H (by simp)
   ·
    rw [if_neg c2] at H
    have c2b0 : decide (x3_1 < (a0.size : Int)) = false := decide_eq_false c2
    clear c2
    obtain rfl := Option.some.inj H
    go_wp2
    go_ret
    exact ⟨by first | rfl | (simp; done) | (simp [*]; done), by repeat (first | exact Drawn0.refl _ | apply Drawn0.step)⟩
end Go.Proofs.Ytcpojohpmcnnhaa.PA

set_option linter.unusedVariables false
set_option linter.unusedSimpArgs false
namespace Go.Proofs.Ytcpojohpmcnnhaa.L
open Go.RowKit Go.Proofs.YtcpojohpmcnnhaaW.PrintWords Go.Proofs.YtcpojohpmcnnhaaW.PrintLast Go.Proofs.YtcpojohpmcnnhaaW.PrintMore
open Go.Proofs.Ytcpojohpmcnnhaa.PA Go.Proofs.Ytcpojohpmcnnhaa.A
def bitsS (s : ByteArray) : Bool := bitsB s.data.toList
theorem bt_nat (s : ByteArray) {q : Nat} (h : q < s.size) : bt s (q : Int) = ((s.data.toList.getD q 0).toNat : Int) := by
  unfold bt
  rw [Int.toNat_natCast, dif_pos h, List.getD_eq_getElem?_getD, Array.getElem?_toList, Array.getElem?_eq_getElem (show q < s.data.size from h)]
  rfl
theorem bitsB_step {l : List UInt8} {q : Nat} (h : q < l.length) : bitsB (l.drop q) = ((l.getD q 0 == 48 || l.getD q 0 == 49) && bitsB (l.drop (q + 1))) := by
  rw [drop_cons h 0]
  simp only [bitsB, List.all_cons]
theorem bits_ev (s : ByteArray) (hs : s.size ≤ 1000000) : Ev (fun k => code_isBits.f k s) (bitsS s) := by
  have hl : s.data.toList.length = s.size := by rw [Array.length_toList]; rfl
  have key : ∀ e q, q + e = s.size → Ev (fun k => code_isBits.l0 k s (s.size : Int) (q : Int)) (bitsB (s.data.toList.drop q)) := by
    intro e
    induction e with
    | zero =>
      intro q hq
      refine Ev.step (fun k => ?_) (Ev.now _)
      rw [code_isBits.l0, if_neg (by omega), List.drop_of_length_le (by omega)]; rfl
    | succ e ih =>
      intro q hq
      have h1 := ih (q + 1) (by omega)
      rw [bitsB_step (by omega)]
      have hst : ∀ k, code_isBits.l0 (k + 1) s (s.size : Int) (q : Int) = if ((s.data.toList.getD q 0).toNat : Int) = 48 then code_isBits.l0 k s (s.size : Int) ((q + 1 : Nat) : Int) else if ((s.data.toList.getD q 0).toNat : Int) = 49 then code_isBits.l0 k s (s.size : Int) ((q + 1 : Nat) : Int) else some false := fun k => by
        rw [code_isBits.l0, if_pos (by omega), if_pos (by omega), if_pos (by omega), bt_nat s (by omega), w1 (by omega)]
      generalize s.data.toList.getD q 0 = c at *
      by_cases c1 : c = 48
      · refine Ev.step (fun k => ?_) (by rw [c1]; exact h1)
        rw [hst, if_pos (by rw [c1]; rfl)]
      · have n1 : ¬ ((c.toNat : Int) = 48) := fun h => c1 (UInt8.toNat_inj.1 (by rw [show c.toNat = 48 by omega]; rfl))
        by_cases c2 : c = 49
        · refine Ev.step (fun k => ?_) (by rw [c2]; exact h1)
          rw [hst, if_neg n1, if_pos (by rw [c2]; rfl)]
        · have n2 : ¬ ((c.toNat : Int) = 49) := fun h => c2 (UInt8.toNat_inj.1 (by rw [show c.toNat = 49 by omega]; rfl))
          refine Ev.step (fun k => ?_) (Ev.now _)
          rw [hst, if_neg n1, if_neg n2]
          have : (c == 48 || c == 49) = false := by simp [c1, c2]
          rw [this]; rfl
  have := key s.size 0 (by omega)
  rw [List.drop_zero] at this
  exact this
theorem refBits_ev (s : ByteArray) (hs : s.size ≤ 1000000) : Ev (fun k => turndownref06_Bits.f k s) (bitsS s) := by
  have hl : s.data.toList.length = s.size := by rw [Array.length_toList]; rfl
  have key : ∀ e q, q + e = s.size → Ev (fun k => turndownref06_Bits.l0 k s (q : Int)) (bitsB (s.data.toList.drop q)) := by
    intro e
    induction e with
    | zero =>
      intro q hq
      refine Ev.step (fun k => ?_) (Ev.now _)
      rw [turndownref06_Bits.l0, if_neg (by omega), List.drop_of_length_le (by omega)]; rfl
    | succ e ih =>
      intro q hq
      have h1 := ih (q + 1) (by omega)
      rw [bitsB_step (by omega)]
      have hst : ∀ k, turndownref06_Bits.l0 (k + 1) s (q : Int) = if ((s.data.toList.getD q 0).toNat : Int) = 48 then turndownref06_Bits.l0 k s ((q + 1 : Nat) : Int) else if ((s.data.toList.getD q 0).toNat : Int) = 49 then turndownref06_Bits.l0 k s ((q + 1 : Nat) : Int) else some false := fun k => by
        rw [turndownref06_Bits.l0, if_pos (by omega), if_pos (by omega), bt_nat s (by omega), w1 (by omega)]
      generalize s.data.toList.getD q 0 = c at *
      by_cases c1 : c = 48
      · refine Ev.step (fun k => ?_) (by rw [c1]; exact h1)
        rw [hst, if_pos (by rw [c1]; rfl)]
      · have n1 : ¬ ((c.toNat : Int) = 48) := fun h => c1 (UInt8.toNat_inj.1 (by rw [show c.toNat = 48 by omega]; rfl))
        by_cases c2 : c = 49
        · refine Ev.step (fun k => ?_) (by rw [c2]; exact h1)
          rw [hst, if_neg n1, if_pos (by rw [c2]; rfl)]
        · have n2 : ¬ ((c.toNat : Int) = 49) := fun h => c2 (UInt8.toNat_inj.1 (by rw [show c.toNat = 49 by omega]; rfl))
          refine Ev.step (fun k => ?_) (Ev.now _)
          rw [hst, if_neg n1, if_neg n2]
          have : (c == 48 || c == 49) = false := by simp [c1, c2]
          rw [this]; rfl
  have := key s.size 0 (by omega)
  rw [List.drop_zero] at this
  exact this
end Go.Proofs.Ytcpojohpmcnnhaa.L

set_option linter.unusedVariables false
set_option linter.unusedSimpArgs false
namespace Go.Proofs.Ytcpojohpmcnnhaa.L
open Go.RowKit Go.Proofs.YtcpojohpmcnnhaaW.PrintWords Go.Proofs.YtcpojohpmcnnhaaW.PrintLast Go.Proofs.YtcpojohpmcnnhaaW.PrintMore
open Go.Proofs.Ytcpojohpmcnnhaa.PA Go.Proofs.Ytcpojohpmcnnhaa.A
def decR (l : List Int) (s : ByteArray) : List Int × Int := if checkI l = 2 ∨ 65536 < s.size ∨ bitsS s = false then ([], 2) else if checkI l = 60 then ([], 60) else match decD (wordN l) l.length s.data.toList with | some o => (o, 0) | none => ([], 60)
theorem decode_c (A0 : Option Addr) (c0 : Nat) (l : List Int) (s : ByteArray) (w : World) (hr0 : Kd.C (Kd.int .i64) w A0 l.length l) (hc0 : l.length ≤ c0) (hl : l.length ≤ 1000000) (hs : s.size ≤ 1000000) :
    Calls Try.prog 47 #[.slice A0 l.length c0, .string s] w fun e w' => ∃ v, e = .returned (.tuple #[v, .int .i64 (decR l s).2]) ∧ Kd.R (Kd.int .i64) 3 w' w.heap.size (fun _ => True) v (decR l s).1 ∧ Below w.heap.size w w' := by
  obtain ⟨k1, hk1⟩ := check_ev l hl
  obtain ⟨k2, hk2⟩ := bits_ev s hs
  obtain ⟨k, hkk⟩ : ∃ k, k = k1 + k2 := ⟨_, rfl⟩
  have hk : code_check.f k l = some (checkI l) := hk1 k (by omega)
  have hb : code_isBits.f k s = some (bitsS s) := hk2 k (by omega)
  have nilR : ∀ w' : World, Kd.R (Kd.int .i64) 3 w' w.heap.size (fun _ => True) (.slice none 0 0) ([] : List Int) := fun w' => Kd.R_nil _ _ _ _ _
  unfold decR
  rcases checkI_cases l with h | h | ⟨h, h1, h2, h3⟩
  · rw [if_pos (.inl h)]
    exact (dec_bad A0 c0 l s w hr0 hc0 k (by rw [hk, h])).mono (by rintro e w' ⟨rfl, hB⟩; exact ⟨_, rfl, nilR w', hB⟩)
  · by_cases h4 : 65536 < s.size
    · rw [if_pos (.inr (.inl h4))]
      exact (dec_long A0 c0 l s w hr0 hc0 k 60 (.inr rfl) (by rw [hk, h]) h4).mono (by rintro e w' ⟨rfl, hB⟩; exact ⟨_, rfl, nilR w', hB⟩)
    · by_cases h5 : bitsS s = false
      · rw [if_pos (.inr (.inr h5))]
        exact (dec_bits A0 c0 l s w hr0 hc0 k 60 (.inr rfl) (by rw [hk, h]) (by omega) (by rw [hb, h5])).mono (by rintro e w' ⟨rfl, hB⟩; exact ⟨_, rfl, nilR w', hB⟩)
      · have h5' : bitsS s = true := by simpa using h5
        rw [if_neg (by rw [h]; simp [h4, h5']), if_pos h]
        exact (dec_code A0 c0 l s w hr0 hc0 k (by rw [hk, h]) (by omega) (by rw [hb, h5'])).mono (by rintro e w' ⟨rfl, hB⟩; exact ⟨_, rfl, nilR w', hB⟩)
  · by_cases h4 : 65536 < s.size
    · rw [if_pos (.inr (.inl h4))]
      exact (dec_long A0 c0 l s w hr0 hc0 k 0 (.inl rfl) (by rw [hk, h]) h4).mono (by rintro e w' ⟨rfl, hB⟩; exact ⟨_, rfl, nilR w', hB⟩)
    · by_cases h5 : bitsS s = false
      · rw [if_pos (.inr (.inr h5))]
        exact (dec_bits A0 c0 l s w hr0 hc0 k 0 (.inl rfl) (by rw [hk, h]) (by omega) (by rw [hb, h5])).mono (by rintro e w' ⟨rfl, hB⟩; exact ⟨_, rfl, nilR w', hB⟩)
      · have h5' : bitsS s = true := by simpa using h5
        rw [if_neg (by rw [h]; simp [h4, h5']), if_neg (by rw [h]; decide)]
        refine dec_good A0 c0 l s w hr0 hc0 k (by rw [hk, h]) (by omega) (by rw [hb, h5']) h1.1 h1.2 (codeWords_f h1.1 h1.2 h2 h3) (fun i hi => ?_) _ _ (fun hn => ?_) (fun o ho => ?_)
        · have e1 := wordN_len h2 hi
          have e2 := ok_at h2 hi
          omega
        · rw [hn]; exact ⟨rfl, rfl⟩
        · rw [ho]; exact ⟨rfl, rfl⟩
end Go.Proofs.Ytcpojohpmcnnhaa.L
namespace Go.Proofs.Ytcpojohpmcnnhaa.PA
open Go.RowKit Go.Proofs.YtcpojohpmcnnhaaW.PrintWords Go.Proofs.YtcpojohpmcnnhaaW.PrintLast Go.Proofs.YtcpojohpmcnnhaaW.PrintMore
def code_Decode.f (l0 : List Int) (a1 : ByteArray) : Option (List Int × Int) := if l0.length ≤ 1000000 ∧ a1.size ≤ 1000000 then some (L.decR l0 a1) else none
theorem code_Decode.calls (A0 : Option Addr) (c0 : Nat) (l0 : List Int) (a1 : ByteArray) (r1 : List Int) (r2 : Int) (w : World) (hr0 : Kd.C (Kd.int .i64) w A0 l0.length l0) (hc0 : l0.length ≤ c0) (h : code_Decode.f l0 a1 = some (r1, r2)) :
    Calls Try.prog 47 #[.slice A0 l0.length c0, .string a1] w fun e w' => ∃ v0_ : Value, e = .returned (.tuple #[v0_, .int .i64 r2]) ∧ Kd.R (Kd.int .i64) 3 w' w.heap.size (fun _ => True) v0_ r1 ∧ Below w.heap.size w w' := by
  unfold code_Decode.f at h
  split at h
  · rename_i hl
    have e := Option.some.inj h
    have hc := L.decode_c A0 c0 l0 a1 w hr0 hc0 hl.1 hl.2
    rw [e] at hc
    exact hc
  · cases h
end Go.Proofs.Ytcpojohpmcnnhaa.PA

namespace Go.Proofs.Ytcpojohpmcnnhaa.PA
open Go.RowKit Go.Proofs.YtcpojohpmcnnhaaW.PrintWords Go.Proofs.YtcpojohpmcnnhaaW.PrintLast Go.Proofs.YtcpojohpmcnnhaaW.PrintMore
attribute [local go_sem] max2_int min2_int max_two min_two max_three min_three max_four min_four
set_option linter.unusedVariables false
set_option linter.unusedSimpArgs false
def turndownlaw06_ints.l0 : Nat → List Int → List Int → Int → Option (Bool)
 | 0, _, _, _ => none
 | k + 1, x0, x1, x5 => if x5 < (x0.length : Int) then (if 0 ≤ x5 then (if x5 < (x1.length : Int) then (if (rd x0 x5) = (rd x1 x5) then (turndownlaw06_ints.l0 k x0 x1 (wrap64 (x5 + 1))) else (some false)) else (none)) else (none)) else (some true)
def turndownlaw06_ints.f (k : Nat) (l0 : List Int) (l1 : List Int) : Option (Bool) := if (l0.length : Int) = (l1.length : Int) then (turndownlaw06_ints.l0 k l0 l1 0) else (some false)
set_option maxHeartbeats 8000000 in
set_option maxRecDepth 100000 in
theorem turndownlaw06_ints.calls (k : Nat) (A0 : Option Addr) (c0 : Nat) (l0 : List Int) (A1 : Option Addr) (c1 : Nat) (l1 : List Int) (r : Bool) (w : World) (hr0 : Kd.C (Kd.int .i64) w A0 l0.length l0) (hc0 : l0.length ≤ c0) (hr1 : Kd.C (Kd.int .i64) w A1 l1.length l1) (hc1 : l1.length ≤ c1) (h : turndownlaw06_ints.f k l0 l1 = some r) :
  Calls Try.prog 46 #[.slice A0 l0.length c0, .slice A1 l1.length c1] w fun e w' => e = .returned (.bool r) ∧ Drawn0 w w' := by
 have HR0 := Aside0.mk hr0
 have HC0 := Aside0.mk hc0
 clear hr0 hc0
 have HR1 := Aside0.mk hr1
 have HC1 := Aside0.mk hc1
 clear hr1 hc1
 have H : (if (l0.length : Int) = (l1.length : Int) then (turndownlaw06_ints.l0 k l0 l1 0) else (some false)) = some r := h
 clear h
 by_cases c3 : (l0.length : Int) = (l1.length : Int)
 ·
  rw [if_pos c3] at H
  have c3b0 : ((l0.length : Int) == (l1.length : Int)) = true := beq_iff_eq.mpr c3
  have c3b1 : ((l0.length : Int) != (l1.length : Int)) = false := bne_eq_false_iff_eq.mpr c3
  have c3b2 : (l0.length == l1.length) = true := by first | simpa using c3 | (simp at c3 ⊢; omega)
  clear c3
  have H' := Aside0.mk H
  clear H
  go_enter Try.func46, Try.ntmps46
  go_wp2
  repeat (go_quiet (fail); try go_wp2)
  go_loopg [5] k (fun kq v5 w' => ∃ (x5_1 : Int), v5 = .int .i64 x5_1 ∧ Aside0 (turndownlaw06_ints.l0 kq l0 l1 x5_1 = some r) ∧ Aside0 (kq ≤ k) ∧ Drawn0 w w')
  case atStart => exact ⟨(0), (by first | rfl | (simp; done) | (simp [*]; done)), H', ⟨Nat.le_refl _⟩, by repeat (first | exact Drawn0.refl _ | apply Drawn0.step)⟩
  case round =>
   clear H'
   try clear c1
   try clear p2
   try clear c3
   try clear c3b0
   try clear c3b1
   try clear c3b2
   obtain ⟨x5_1, rfl, HA, HK1, ⟨m1, rfl⟩⟩ := hrel
   cases gk with
   | zero => exact absurd HA.out (by simp [turndownlaw06_ints.l0])
   | succ k1 =>
    have H := HA.out
    clear HA
    simp only [turndownlaw06_ints.l0] at H
    by_cases c4 : x5_1 < (l0.length : Int)
    ·
     rw [if_pos c4] at H
     have c4b0 : decide (x5_1 < (l0.length : Int)) = true := decide_eq_true c4
     clear c4
     by_cases c5 : 0 ≤ x5_1
     ·
      rw [if_pos c5] at H
      have c5b0 : decide (0 ≤ x5_1) = true := decide_eq_true c5
      clear c5
      by_cases c6 : x5_1 < (l1.length : Int)
      ·
       rw [if_pos c6] at H
       have c6b0 : decide (x5_1 < (l1.length : Int)) = true := decide_eq_true c6
       clear c6
       by_cases c7 : (rd l0 x5_1) = (rd l1 x5_1)
       ·
        rw [if_pos c7] at H
        have c7b0 : ((rd l0 x5_1) == (rd l1 x5_1)) = true := beq_iff_eq.mpr c7
        have c7b1 : ((rd l0 x5_1) != (rd l1 x5_1)) = false := bne_eq_false_iff_eq.mpr c7
        clear c7
        have H' := Aside0.mk H
        clear H
        have p502 : 0 ≤ (x5_1 : Int) := of_decide_eq_true (by first | (with_reducible assumption) | assumption)
        have q502 : x5_1 < (l0.length : Int) := of_decide_eq_true (by first | (with_reducible assumption) | assumption)
        obtain ⟨ad502, e502, hx502_0⟩ := Kd.at_int HR0.out x5_1 p502 q502
        cases e502
        replace p502 := eq_true p502
        replace q502 := eq_true q502
        have p503 : 0 ≤ (x5_1 : Int) := of_decide_eq_true (by first | (with_reducible assumption) | assumption)
        have q503 : x5_1 < (l1.length : Int) := of_decide_eq_true (by first | (with_reducible assumption) | assumption)
        obtain ⟨ad503, e503, hx503_0⟩ := Kd.at_int HR1.out x5_1 p503 q503
        cases e503
        replace p503 := eq_true p503
        replace q503 := eq_true q503
        go_wp2
        repeat (go_quiet (fail); try go_wp2)
        go_roundg k1
        case measure => have := HK1.out; omega
        case rel => exact ⟨(wrap64 (x5_1 + 1)), (by first | rfl | (simp; done) | (simp [*]; done)), H', ⟨by have := HK1.out; omega⟩, by repeat (first | exact Drawn0.refl _ | apply Drawn0.step)⟩
       ·
        rw [if_neg c7] at H
        have c7b0 : ((rd l0 x5_1) == (rd l1 x5_1)) = false := beq_eq_false_iff_ne.mpr c7
        have c7b1 : ((rd l0 x5_1) != (rd l1 x5_1)) = true := bne_iff_ne.mpr c7
        obtain rfl := Option.some.inj H
        have p502 : 0 ≤ (x5_1 : Int) := of_decide_eq_true (by first | (with_reducible assumption) | assumption)
        have q502 : x5_1 < (l0.length : Int) := of_decide_eq_true (by first | (with_reducible assumption) | assumption)
        obtain ⟨ad502, e502, hx502_0⟩ := Kd.at_int HR0.out x5_1 p502 q502
        cases e502
        replace p502 := eq_true p502
        replace q502 := eq_true q502
        have p503 : 0 ≤ (x5_1 : Int) := of_decide_eq_true (by first | (with_reducible assumption) | assumption)
        have q503 : x5_1 < (l1.length : Int) := of_decide_eq_true (by first | (with_reducible assumption) | assumption)
        obtain ⟨ad503, e503, hx503_0⟩ := Kd.at_int HR1.out x5_1 p503 q503
        cases e503
        replace p503 := eq_true p503
        replace q503 := eq_true q503
        go_wp2
        repeat (go_quiet (fail); try go_wp2)
        go_ret
        exact ⟨by first | rfl | (simp; done) | (simp [*]; done), by repeat (first | exact Drawn0.refl _ | apply Drawn0.step)⟩
      ·
       rw [if_neg c6] at H
       exact absurd H (by simp)
     ·
      rw [if_neg c5] at H
      exact absurd H (by simp)
    ·
     rw [if_neg c4] at H
     have c4b0 : decide (x5_1 < (l0.length : Int)) = false := decide_eq_false c4
     clear c4
     obtain rfl := Option.some.inj H
     go_wp2
     repeat (go_quiet (fail); try go_wp2)
     go_ret
     exact ⟨by first | rfl | (simp; done) | (simp [*]; done), by repeat (first | exact Drawn0.refl _ | apply Drawn0.step)⟩
 ·
  rw [if_neg c3] at H
  have c3b0 : ((l0.length : Int) == (l1.length : Int)) = false := beq_eq_false_iff_ne.mpr c3
  have c3b1 : ((l0.length : Int) != (l1.length : Int)) = true := bne_iff_ne.mpr c3
  have c3b2 : (l0.length == l1.length) = false := by first | simpa using c3 | (simp at c3 ⊢; omega)
  obtain rfl := Option.some.inj H
  go_enter Try.func46, Try.ntmps46
  go_wp2
  repeat (go_quiet (fail); try go_wp2)
  go_ret
  exact ⟨by first | rfl | (simp; done) | (simp [*]; done), by repeat (first | exact Drawn0.refl _ | apply Drawn0.step)⟩
end Go.Proofs.Ytcpojohpmcnnhaa.PA

namespace Go.Proofs.Ytcpojohpmcnnhaa.PA
open Go.RowKit Go.Proofs.YtcpojohpmcnnhaaW.PrintWords Go.Proofs.YtcpojohpmcnnhaaW.PrintLast Go.Proofs.YtcpojohpmcnnhaaW.PrintMore
attribute [local go_sem] max2_int min2_int max_two min_two max_three min_three max_four min_four
set_option linter.unusedVariables false
set_option linter.unusedSimpArgs false
def turndownlaw06_mod.f (a0 : Int) (a1 : Int) : Option (Int) := if (IntKind.u64.wrap (a1)) = 0 then (none) else (some (wrap64 (Int.tmod (IntKind.u64.wrap (a0)) (IntKind.u64.wrap (a1)))))
set_option maxHeartbeats 8000000 in
set_option maxRecDepth 100000 in
theorem turndownlaw06_mod.calls (a0 : Int) (a1 : Int) (r : Int) (w : World) (h : turndownlaw06_mod.f a0 a1 = some r) :
  Calls Try.prog 39 #[.int .i64 a0, .int .i64 a1] w fun e w' => e = .returned (.int .i64 r) ∧ Drawn0 w w' := by
 have H : (if (IntKind.u64.wrap (a1)) = 0 then (none) else (some (wrap64 (Int.tmod (IntKind.u64.wrap (a0)) (IntKind.u64.wrap (a1)))))) = some r := h
 clear h
 by_cases c3 : (IntKind.u64.wrap (a1)) = 0
 ·
  rw [if_pos c3] at H
  exact absurd H (by simp)
 ·
  rw [if_neg c3] at H
  have c3b0 : ((IntKind.u64.wrap (a1)) == 0) = false := beq_eq_false_iff_ne.mpr c3
  have c3b1 : ((IntKind.u64.wrap (a1)) != 0) = true := bne_iff_ne.mpr c3
  obtain rfl := Option.some.inj H
  go_enter Try.func39, Try.ntmps39
  go_wp2
  go_ret
  exact ⟨by first | rfl | (simp; done) | (simp [*]; done), by repeat (first | exact Drawn0.refl _ | apply Drawn0.step)⟩
end Go.Proofs.Ytcpojohpmcnnhaa.PA

namespace Go.Proofs.Ytcpojohpmcnnhaa.PA
open Go.RowKit Go.Proofs.YtcpojohpmcnnhaaW.PrintWords Go.Proofs.YtcpojohpmcnnhaaW.PrintLast Go.Proofs.YtcpojohpmcnnhaaW.PrintMore
attribute [local go_sem] max2_int min2_int max_two min_two max_three min_three max_four min_four
set_option linter.unusedVariables false
set_option linter.unusedSimpArgs false
mutual
def turndownlaw06_tame.l0 : Nat → List Int → Int → Int → List Int → Int → Option (List Int)
 | 0, _, _, _, _, _ => none
 | k + 1, x0, x1, x2, x7, x8 => if x8 < (x0.length : Int) then (turndownlaw06_tame.j1 k x0 x1 x2 x7 x8 (decide (x8 < x1))) else (turndownlaw06_tame.j1 k x0 x1 x2 x7 x8 false)
def turndownlaw06_tame.j1 : Nat → List Int → Int → Int → List Int → Int → Bool → Option (List Int)
 | 0, _, _, _, _, _, _ => none
 | k + 1, x0, x1, x2, x7, x8, x18 => if x18 = true then (if 0 ≤ x8 then (if x8 < (x0.length : Int) then (if (rd x0 x8) < x2 then ((turndownlaw06_mod.f (rd x0 x8) 1000).bind fun t316 => (if x7.length < 17592186044416 then (turndownlaw06_tame.l0 k x0 x1 x2 (x7 ++ [wrap64 (x2 + t316)]) (wrap64 (x8 + 1))) else (none))) else (if (rd x0 x8) > 1073741824 then ((turndownlaw06_mod.f (rd x0 x8) 1000).bind fun t320 => (if x7.length < 17592186044416 then (turndownlaw06_tame.l0 k x0 x1 x2 (x7 ++ [wrap64 (x2 + t320)]) (wrap64 (x8 + 1))) else (none))) else (if x7.length < 17592186044416 then (turndownlaw06_tame.l0 k x0 x1 x2 (x7 ++ [rd x0 x8]) (wrap64 (x8 + 1))) else (none)))) else (none)) else (none)) else (if (x7.length : Int) = 0 then (if x7.length < 17592186044416 then (some (x7 ++ [1])) else (none)) else (some x7))
end
def turndownlaw06_tame.f (k : Nat) (l0 : List Int) (a1 : Int) (a2 : Int) : Option (List Int) := turndownlaw06_tame.l0 k l0 a1 a2 ([] : List Int) 0
set_option maxHeartbeats 8000000 in
set_option maxRecDepth 100000 in
theorem turndownlaw06_tame.calls (k : Nat) (A0 : Option Addr) (c0 : Nat) (l0 : List Int) (a1 : Int) (a2 : Int) (r : List Int) (w : World) (hr0 : Kd.C (Kd.int .i64) w A0 l0.length l0) (hc0 : l0.length ≤ c0) (h : turndownlaw06_tame.f k l0 a1 a2 = some r) :
  Calls Try.prog 38 #[.slice A0 l0.length c0, .int .i64 a1, .int .i64 a2] w fun e w' => ∃ v0_ : Value, e = .returned (v0_) ∧ Kd.R (Kd.int .i64) 3 w' w.heap.size (fun _ => True) v0_ r ∧ Below w.heap.size w w' := by
 have HR0 := Aside0.mk hr0
 have HC0 := Aside0.mk hc0
 clear hr0 hc0
 have HB := Aside0.mk (Below.refl w.heap.size w)
 have H : (turndownlaw06_tame.l0 k l0 a1 a2 ([] : List Int) 0) = some r := h
 clear h
 have H' := Aside0.mk H
 clear H
 go_enter Try.func38, Try.ntmps38
 go_wp2
 go_loopg [7, 8] k (fun kq v7 v8 w' => ∃ (x7_1 : List Int) (x8_1 : Int), v8 = .int .i64 x8_1 ∧ Aside0 (turndownlaw06_tame.l0 kq l0 a1 a2 x7_1 x8_1 = some r) ∧ Aside0 (kq ≤ k) ∧ Aside0 (Kd.R (Kd.int .i64) 3 w' w.heap.size (fun _ => True) v7 x7_1) ∧ Aside0 (Below w.heap.size w w'))
 case atStart => exact ⟨(([] : List Int)), (0), (by first | rfl | (simp; done) | (simp [*]; done)), H', ⟨Nat.le_refl _⟩, ⟨by first | exact Kd.R_nil _ _ _ _ _ | exact Kd.N_nil _ _ _ _ _ | exact Kd.V_nil _ _ _ _ _ | exact Kd.Q_nil _ _ _ _ _ | exact Kd.S_nil _ _ _ _ _⟩, ⟨by repeat (first | (with_reducible first | exact HB.out | apply below_alloc | apply pw_below_drewN | apply below_drew1) | exact HB.out)⟩⟩
 case round =>
  clear H'
  try clear p2
  try clear c3
  obtain ⟨x7_1, x8_1, rfl, HA, HK1, HO_7, HB⟩ := hrel
  cases gk with
  | zero => exact absurd HA.out (by simp [turndownlaw06_tame.l0])
  | succ k1 =>
   have H := HA.out
   clear HA
   simp only [turndownlaw06_tame.l0] at H
   have HC4 := Aside0.mk H
   clear H
   go_upto_region 3 with (fail)
   go_cut [18] (fun v18 wc => ∃ (kq : Nat) (x18_3 : Bool), v18 = .bool x18_3 ∧ Aside0 (turndownlaw06_tame.j1 kq l0 a1 a2 x7_1 x8_1 x18_3 = some r) ∧ Aside0 (kq ≤ k1) ∧ Aside0 (Kd.R (Kd.int .i64) 3 wc w.heap.size (fun _ => True) u7 x7_1) ∧ Aside0 (Below w.heap.size w wc))
   case first =>
    have H := HC4.out
    clear HC4
    by_cases c5 : x8_1 < (l0.length : Int)
    ·
     rw [if_pos c5] at H
     have c5b0 : decide (x8_1 < (l0.length : Int)) = true := decide_eq_true c5
     clear c5
     (first | rw [c5b0] | (simp only [i64_w, i32_w]; rw [c5b0]) | skip)
     have H' := Aside0.mk H
     clear H
     go_wp2
     go_meet
     case rel => exact ⟨_, (decide (x8_1 < a1)), (by first | rfl | (simp; done) | (simp [*]; done)), H', ⟨by have := HK1.out; first | omega | exact Nat.le_refl _⟩, ⟨by (with_reducible repeat (first | apply Kd.R_alloc | apply Kd.R_drewN | apply Kd.R_drew)); exact HO_7.out⟩, ⟨by repeat (first | (with_reducible first | exact HB.out | apply below_alloc | apply pw_below_drewN | apply below_drew1) | exact HB.out)⟩⟩
    ·
     rw [if_neg c5] at H
     have c5b0 : decide (x8_1 < (l0.length : Int)) = false := decide_eq_false c5
     clear c5
     (first | rw [c5b0] | (simp only [i64_w, i32_w]; rw [c5b0]) | skip)
     have H' := Aside0.mk H
     clear H
     go_wp2
     go_meet
     case rel => exact ⟨_, (false), (by first | rfl | (simp; done) | (simp [*]; done)), H', ⟨by have := HK1.out; first | omega | exact Nat.le_refl _⟩, ⟨by (with_reducible repeat (first | apply Kd.R_alloc | apply Kd.R_drewN | apply Kd.R_drew)); exact HO_7.out⟩, ⟨by repeat (first | (with_reducible first | exact HB.out | apply below_alloc | apply pw_below_drewN | apply below_drew1) | exact HB.out)⟩⟩
   case rest =>
    clear HC4
    try clear p2
    try clear c3
    try clear c5
    try clear c5b0
    try clear p2
    obtain ⟨kq, x18_3, rfl, HA, HJ3, HO_7, HB⟩ := hcut
    cases kq with
    | zero => exact absurd HA.out (by simp [turndownlaw06_tame.j1])
    | succ kj3 =>
     have H := HA.out
     clear HA
     simp only [turndownlaw06_tame.j1] at H
     by_cases c6 : x18_3 = true
     ·
      subst c6
      have H1 : (if 0 ≤ x8_1 then (if x8_1 < (l0.length : Int) then (if (rd l0 x8_1) < a2 then ((turndownlaw06_mod.f (rd l0 x8_1) 1000).bind fun t316 => (if x7_1.length < 17592186044416 then (turndownlaw06_tame.l0 kj3 l0 a1 a2 (x7_1 ++ [wrap64 (a2 + t316)]) (wrap64 (x8_1 + 1))) else (none))) else (if (rd l0 x8_1) > 1073741824 then ((turndownlaw06_mod.f (rd l0 x8_1) 1000).bind fun t320 => (if x7_1.length < 17592186044416 then (turndownlaw06_tame.l0 kj3 l0 a1 a2 (x7_1 ++ [wrap64 (a2 + t320)]) (wrap64 (x8_1 + 1))) else (none))) else (if x7_1.length < 17592186044416 then (turndownlaw06_tame.l0 kj3 l0 a1 a2 (x7_1 ++ [rd l0 x8_1]) (wrap64 (x8_1 + 1))) else (none)))) else (none)) else (none)) = some r := by rw [if_pos rfl] at H; exact H
      clear H
      have H := H1
      clear H1
      by_cases c7 : 0 ≤ x8_1
      ·
       rw [if_pos c7] at H
       have c7b0 : decide (0 ≤ x8_1) = true := decide_eq_true c7
       clear c7
       by_cases c8 : x8_1 < (l0.length : Int)
       ·
        rw [if_pos c8] at H
        have c8b0 : decide (x8_1 < (l0.length : Int)) = true := decide_eq_true c8
        clear c8
        by_cases c9 : (rd l0 x8_1) < a2
        ·
         rw [if_pos c9] at H
         have c9b0 : decide ((rd l0 x8_1) < a2) = true := decide_eq_true c9
         clear c9
         replace H := Option.bind_eq_some_iff.mp H
         obtain ⟨t316, A100, H⟩ := H
         replace H : (if x7_1.length < 17592186044416 then (turndownlaw06_tame.l0 kj3 l0 a1 a2 (x7_1 ++ [wrap64 (a2 + t316)]) (wrap64 (x8_1 + 1))) else (none)) = some r := H
         have A10 := Aside0.mk A100
         clear A100
         by_cases c11 : x7_1.length < 17592186044416
         ·
          rw [if_pos c11] at H
          have LMc11 := Aside0.mk c11
          clear c11
          obtain ⟨y317, hy317⟩ : ∃ y_ : List Int, y_ = (x7_1 ++ [wrap64 (a2 + t316)]) := ⟨_, rfl⟩
          replace H : (turndownlaw06_tame.l0 kj3 l0 a1 a2 y317 (wrap64 (x8_1 + 1))) = some r := by first | (rw [hy317]; with_reducible exact H) | (have H2_ := (Option.bind_some _ _).symm.trans H; rw [hy317]; with_reducible exact H2_) | (have H2_ := (Option.bind_some _ _).symm.trans H; with_reducible exact H2_) | with_reducible exact H | (rw [hy317]; exact H) | exact H
          have Ny317 := Aside0.mk hy317
          clear hy317
          have H' := Aside0.mk H
          clear H
          have p315 : 0 ≤ (x8_1 : Int) := of_decide_eq_true (by first | (with_reducible assumption) | assumption)
          have q315 : x8_1 < (l0.length : Int) := of_decide_eq_true (by first | (with_reducible assumption) | assumption)
          obtain ⟨ad315, e315, hx315_0⟩ := Kd.at_int HR0.out x8_1 p315 q315
          cases e315
          replace hx315_0 := (HB.out.cell (World.block_lt_of_cell? w _ hx315_0)).trans hx315_0
          replace p315 := eq_true p315
          replace q315 := eq_true q315
          go_wp2_with (first | ((with_reducible refine gate_callee (f := 39) rfl ?_); refine goesL_ (some 34) rfl rfl Try.func39 (by kernel_rfl) rfl #[.int .i64 (rd l0 x8_1), .int .i64 1000] rfl (by (try simp only [List.map_toArray, List.map_cons, List.map_nil]); first | done | rfl | (simp only [List.length_drop, List.length_take]; rfl)) ?_; (with_reducible refine (turndownlaw06_mod.calls (rd l0 x8_1) 1000 t316 _ A10.out).mono ?_); rintro e w' ⟨rfl, ⟨nd, rfl⟩⟩; refine ⟨_, rfl, ?_⟩) | ((with_reducible refine gate_builtin (b := .append) (xs := #[.tmp 36, .tmp 38]) rfl ?_); at_builtin; refine Kd.R_append (Kd.int .i64) (w0 := w) w.heap.size rfl (.tmp 36) (.tmp 38) 22 3 (.int .i64 0) 8 rfl Try.underlying22 info3 rfl (by decide) (by omega) u7 x7_1 (wrap64 (a2 + t316)) [.int .i64 (wrap64 (a2 + t316))] (fun _ => True) (fun _ => False) rfl rfl ?aP (fun _ hk => hk.elim) ?aF ?aO ?aB ?aS ?aL ?_; (case aP => exact rfl); (case aB => exact (by repeat (first | (with_reducible first | exact HB.out | apply below_alloc | apply pw_below_drewN | apply below_drew1) | exact HB.out))); (case aF => exact (fun _ _ => trivial)); (case aO => exact (by (with_reducible repeat (first | apply Kd.R_alloc | apply Kd.R_drewN | apply Kd.R_drew)); exact HO_7.out)); (case aS => exact (below_size (by repeat (first | (with_reducible first | exact HB.out | apply below_alloc | apply pw_below_drewN | apply below_drew1) | exact HB.out)))); (case aL => have := LMc11.out; omega); intro v318 w12 ho hb hg hat; rw [← Ny317.out] at ho; have n0_ := Aside0.mk (hb); have n1_ := Aside0.mk (ho); clear HB; clear HO_7; have HB := n0_; have HO319 := n1_; clear n0_ n1_; clear ho hb hg hat))
          go_roundg kj3
          case measure => have := HK1.out; have := HJ3.out; omega
          case rel => exact ⟨(y317), (wrap64 (x8_1 + 1)), (by first | rfl | (simp; done) | (simp [*]; done)), H', ⟨by have := HK1.out; have := HJ3.out; omega⟩, ⟨by (with_reducible repeat (first | apply Kd.R_alloc | apply Kd.R_drewN | apply Kd.R_drew)); exact HO319.out⟩, ⟨by repeat (first | (with_reducible first | exact HB.out | apply below_alloc | apply pw_below_drewN | apply below_drew1) | exact HB.out)⟩⟩
         ·
          rw [if_neg c11] at H
          exact absurd H (by simp)
        ·
         rw [if_neg c9] at H
         have c9b0 : decide ((rd l0 x8_1) < a2) = false := decide_eq_false c9
         clear c9
         by_cases c13 : (rd l0 x8_1) > 1073741824
         ·
          rw [if_pos c13] at H
          have c13b0 : decide (1073741824 < (rd l0 x8_1)) = true := decide_eq_true c13
          clear c13
          replace H := Option.bind_eq_some_iff.mp H
          obtain ⟨t320, A140, H⟩ := H
          replace H : (if x7_1.length < 17592186044416 then (turndownlaw06_tame.l0 kj3 l0 a1 a2 (x7_1 ++ [wrap64 (a2 + t320)]) (wrap64 (x8_1 + 1))) else (none)) = some r := H
          have A14 := Aside0.mk A140
          clear A140
          by_cases c15 : x7_1.length < 17592186044416
          ·
           rw [if_pos c15] at H
           have LMc15 := Aside0.mk c15
           clear c15
           obtain ⟨y321, hy321⟩ : ∃ y_ : List Int, y_ = (x7_1 ++ [wrap64 (a2 + t320)]) := ⟨_, rfl⟩
           replace H : (turndownlaw06_tame.l0 kj3 l0 a1 a2 y321 (wrap64 (x8_1 + 1))) = some r := by first | (rw [hy321]; with_reducible exact H) | (have H2_ := (Option.bind_some _ _).symm.trans H; rw [hy321]; with_reducible exact H2_) | (have H2_ := (Option.bind_some _ _).symm.trans H; with_reducible exact H2_) | with_reducible exact H | (rw [hy321]; exact H) | exact H
           have Ny321 := Aside0.mk hy321
           clear hy321
           have H' := Aside0.mk H
           clear H
           have p315 : 0 ≤ (x8_1 : Int) := of_decide_eq_true (by first | (with_reducible assumption) | assumption)
           have q315 : x8_1 < (l0.length : Int) := of_decide_eq_true (by first | (with_reducible assumption) | assumption)
           obtain ⟨ad315, e315, hx315_0⟩ := Kd.at_int HR0.out x8_1 p315 q315
           cases e315
           replace hx315_0 := (HB.out.cell (World.block_lt_of_cell? w _ hx315_0)).trans hx315_0
           replace p315 := eq_true p315
           replace q315 := eq_true q315
           go_wp2_with (first | ((with_reducible refine gate_callee (f := 39) rfl ?_); refine goesL_ (some 34) rfl rfl Try.func39 (by kernel_rfl) rfl #[.int .i64 (rd l0 x8_1), .int .i64 1000] rfl (by (try simp only [List.map_toArray, List.map_cons, List.map_nil]); first | done | rfl | (simp only [List.length_drop, List.length_take]; rfl)) ?_; (with_reducible refine (turndownlaw06_mod.calls (rd l0 x8_1) 1000 t320 _ A14.out).mono ?_); rintro e w' ⟨rfl, ⟨nd, rfl⟩⟩; refine ⟨_, rfl, ?_⟩) | ((with_reducible refine gate_builtin (b := .append) (xs := #[.tmp 36, .tmp 38]) rfl ?_); at_builtin; refine Kd.R_append (Kd.int .i64) (w0 := w) w.heap.size rfl (.tmp 36) (.tmp 38) 22 3 (.int .i64 0) 8 rfl Try.underlying22 info3 rfl (by decide) (by omega) u7 x7_1 (wrap64 (a2 + t320)) [.int .i64 (wrap64 (a2 + t320))] (fun _ => True) (fun _ => False) rfl rfl ?aP (fun _ hk => hk.elim) ?aF ?aO ?aB ?aS ?aL ?_; (case aP => exact rfl); (case aB => exact (by repeat (first | (with_reducible first | exact HB.out | apply below_alloc | apply pw_below_drewN | apply below_drew1) | exact HB.out))); (case aF => exact (fun _ _ => trivial)); (case aO => exact (by (with_reducible repeat (first | apply Kd.R_alloc | apply Kd.R_drewN | apply Kd.R_drew)); exact HO_7.out)); (case aS => exact (below_size (by repeat (first | (with_reducible first | exact HB.out | apply below_alloc | apply pw_below_drewN | apply below_drew1) | exact HB.out)))); (case aL => have := LMc15.out; omega); intro v322 w16 ho hb hg hat; rw [← Ny321.out] at ho; have n0_ := Aside0.mk (hb); have n1_ := Aside0.mk (ho); clear HB; clear HO_7; have HB := n0_; have HO323 := n1_; clear n0_ n1_; clear ho hb hg hat))
           go_roundg kj3
           case measure => have := HK1.out; have := HJ3.out; omega
           case rel => exact ⟨(y321), (wrap64 (x8_1 + 1)), (by first | rfl | (simp; done) | (simp [*]; done)), H', ⟨by have := HK1.out; have := HJ3.out; omega⟩, ⟨by (with_reducible repeat (first | apply Kd.R_alloc | apply Kd.R_drewN | apply Kd.R_drew)); exact HO323.out⟩, ⟨by repeat (first | (with_reducible first | exact HB.out | apply below_alloc | apply pw_below_drewN | apply below_drew1) | exact HB.out)⟩⟩
          ·
           rw [if_neg c15] at H
           exact absurd H (by simp)
         ·
          rw [if_neg c13] at H
          have c13b0 : decide (1073741824 < (rd l0 x8_1)) = false := decide_eq_false c13
          clear c13
          by_cases c17 : x7_1.length < 17592186044416
          ·
           rw [if_pos c17] at H
           have LMc17 := Aside0.mk c17
           clear c17
           obtain ⟨y324, hy324⟩ : ∃ y_ : List Int, y_ = (x7_1 ++ [rd l0 x8_1]) := ⟨_, rfl⟩
           replace H : (turndownlaw06_tame.l0 kj3 l0 a1 a2 y324 (wrap64 (x8_1 + 1))) = some r := by first | (rw [hy324]; with_reducible exact H) | (have H2_ := (Option.bind_some _ _).symm.trans H; rw [hy324]; with_reducible exact H2_) | (have H2_ := (Option.bind_some _ _).symm.trans H; with_reducible exact H2_) | with_reducible exact H | (rw [hy324]; exact H) | exact H
           have Ny324 := Aside0.mk hy324
           clear hy324
           have H' := Aside0.mk H
           clear H
           have p315 : 0 ≤ (x8_1 : Int) := of_decide_eq_true (by first | (with_reducible assumption) | assumption)
           have q315 : x8_1 < (l0.length : Int) := of_decide_eq_true (by first | (with_reducible assumption) | assumption)
           obtain ⟨ad315, e315, hx315_0⟩ := Kd.at_int HR0.out x8_1 p315 q315
           cases e315
           replace hx315_0 := (HB.out.cell (World.block_lt_of_cell? w _ hx315_0)).trans hx315_0
           replace p315 := eq_true p315
           replace q315 := eq_true q315
           go_wp2_with (first | ((with_reducible refine gate_builtin (b := .append) (xs := #[.tmp 36, .tmp 38]) rfl ?_); at_builtin; refine Kd.R_append (Kd.int .i64) (w0 := w) w.heap.size rfl (.tmp 36) (.tmp 38) 22 3 (.int .i64 0) 8 rfl Try.underlying22 info3 rfl (by decide) (by omega) u7 x7_1 (rd l0 x8_1) [.int .i64 (rd l0 x8_1)] (fun _ => True) (fun _ => False) rfl rfl ?aP (fun _ hk => hk.elim) ?aF ?aO ?aB ?aS ?aL ?_; (case aP => exact rfl); (case aB => exact (by repeat (first | (with_reducible first | exact HB.out | apply below_alloc | apply pw_below_drewN | apply below_drew1) | exact HB.out))); (case aF => exact (fun _ _ => trivial)); (case aO => exact (by (with_reducible repeat (first | apply Kd.R_alloc | apply Kd.R_drewN | apply Kd.R_drew)); exact HO_7.out)); (case aS => exact (below_size (by repeat (first | (with_reducible first | exact HB.out | apply below_alloc | apply pw_below_drewN | apply below_drew1) | exact HB.out)))); (case aL => have := LMc17.out; omega); intro v325 w18 ho hb hg hat; rw [← Ny324.out] at ho; have n0_ := Aside0.mk (hb); have n1_ := Aside0.mk (ho); clear HB; clear HO_7; have HB := n0_; have HO326 := n1_; clear n0_ n1_; clear ho hb hg hat))
           go_roundg kj3
           case measure => have := HK1.out; have := HJ3.out; omega
           case rel => exact ⟨(y324), (wrap64 (x8_1 + 1)), (by first | rfl | (simp; done) | (simp [*]; done)), H', ⟨by have := HK1.out; have := HJ3.out; omega⟩, ⟨by (with_reducible repeat (first | apply Kd.R_alloc | apply Kd.R_drewN | apply Kd.R_drew)); exact HO326.out⟩, ⟨by repeat (first | (with_reducible first | exact HB.out | apply below_alloc | apply pw_below_drewN | apply below_drew1) | exact HB.out)⟩⟩
          ·
           rw [if_neg c17] at H
           exact absurd H (by simp)
       ·
        rw [if_neg c8] at H
        exact absurd H (by simp)
      ·
       rw [if_neg c7] at H
       exact absurd H (by simp)
     ·
      replace c6 := Bool.eq_false_iff.mpr c6
      subst c6
      have H1 : (if (x7_1.length : Int) = 0 then (if x7_1.length < 17592186044416 then (some (x7_1 ++ [1])) else (none)) else (some x7_1)) = some r := by rw [if_neg (show ¬ (false = true) by decide)] at H; exact H
      clear H
      have H := H1
      clear H1
      by_cases c19 : (x7_1.length : Int) = 0
      ·
       rw [if_pos c19] at H
       have c19b0 : ((x7_1.length : Int) == 0) = true := beq_iff_eq.mpr c19
       have c19b1 : ((x7_1.length : Int) != 0) = false := bne_eq_false_iff_eq.mpr c19
       clear c19
       by_cases c20 : x7_1.length < 17592186044416
       ·
        rw [if_pos c20] at H
        have LMc20 := Aside0.mk c20
        clear c20
        obtain ⟨y327, hy327⟩ : ∃ y_ : List Int, y_ = (x7_1 ++ [1]) := ⟨_, rfl⟩
        replace H : (some y327) = some r := by first | (rw [hy327]; with_reducible exact H) | (have H2_ := (Option.bind_some _ _).symm.trans H; rw [hy327]; with_reducible exact H2_) | (have H2_ := (Option.bind_some _ _).symm.trans H; with_reducible exact H2_) | with_reducible exact H | (rw [hy327]; exact H) | exact H
        have Ny327 := Aside0.mk hy327
        clear hy327
        obtain rfl := Option.some.inj H
        obtain ⟨Ao21, co21, eo21⟩ := Kd.R_slice HO_7.out
        subst eo21
        go_wp2_with (first | ((with_reducible refine gate_builtin (b := .append) (xs := #[.tmp 43, .tmp 44]) rfl ?_); at_builtin; refine Kd.R_append (Kd.int .i64) (w0 := w) w.heap.size rfl (.tmp 43) (.tmp 44) 22 3 (.int .i64 0) 8 rfl Try.underlying22 info3 rfl (by decide) (by omega) (.slice Ao21 x7_1.length co21) x7_1 1 [.int .i64 1] (fun _ => True) (fun _ => False) rfl rfl ?aP (fun _ hk => hk.elim) ?aF ?aO ?aB ?aS ?aL ?_; (case aP => exact rfl); (case aB => exact (by repeat (first | (with_reducible first | exact HB.out | apply below_alloc | apply pw_below_drewN | apply below_drew1) | exact HB.out))); (case aF => exact (fun _ _ => trivial)); (case aO => exact (by (with_reducible repeat (first | apply Kd.R_alloc | apply Kd.R_drewN | apply Kd.R_drew)); exact HO_7.out)); (case aS => exact (below_size (by repeat (first | (with_reducible first | exact HB.out | apply below_alloc | apply pw_below_drewN | apply below_drew1) | exact HB.out)))); (case aL => have := LMc20.out; omega); intro v328 w22 ho hb hg hat; rw [← Ny327.out] at ho; have n0_ := Aside0.mk (hb); have n1_ := Aside0.mk (ho); clear HB; clear HO_7; have HB := n0_; have HO329 := n1_; clear n0_ n1_; clear ho hb hg hat))
        go_ret
        exact ⟨_, by first | rfl | (simp [errW_none, errW_some] <;> rfl) | (simp [*, errW_none, errW_some] <;> rfl), by (with_reducible repeat (first | apply Kd.R_alloc | apply Kd.R_drewN | apply Kd.R_drew)); exact HO329.out, by repeat (first | (with_reducible first | exact HB.out | apply below_alloc | apply pw_below_drewN | apply below_drew1) | exact HB.out)⟩
       ·
        rw [if_neg c20] at H
        exact absurd H (by simp)
      ·
       rw [if_neg c19] at H
       have c19b0 : ((x7_1.length : Int) == 0) = false := beq_eq_false_iff_ne.mpr c19
       have c19b1 : ((x7_1.length : Int) != 0) = true := bne_iff_ne.mpr c19
       have c19b2 : ¬ (x7_1 = []) := fun h_ => c19 (by rw [h_]; rfl)
       obtain rfl := Option.some.inj H
       obtain ⟨Ao23, co23, eo23⟩ := Kd.R_slice HO_7.out
       subst eo23
       go_wp2
       go_ret
       exact ⟨_, by first | rfl | (simp [errW_none, errW_some] <;> rfl) | (simp [*, errW_none, errW_some] <;> rfl), by (with_reducible repeat (first | apply Kd.R_alloc | apply Kd.R_drewN | apply Kd.R_drew)); exact HO_7.out, by repeat (first | (with_reducible first | exact HB.out | apply below_alloc | apply pw_below_drewN | apply below_drew1) | exact HB.out)⟩
end Go.Proofs.Ytcpojohpmcnnhaa.PA

set_option linter.unusedVariables false
set_option linter.unusedSimpArgs false
namespace Go.Proofs.Ytcpojohpmcnnhaa.L
open Go.RowKit Go.Proofs.YtcpojohpmcnnhaaW.PrintWords Go.Proofs.YtcpojohpmcnnhaaW.PrintLast Go.Proofs.YtcpojohpmcnnhaaW.PrintMore
open Go.Proofs.Ytcpojohpmcnnhaa.PA Go.Proofs.Ytcpojohpmcnnhaa.A Go.Proofs.Ytcpojohpmcnnhaa.K
def modI (x n : Int) : Int := Int.tmod (IntKind.u64.wrap x) n
theorem u64_nn (x : Int) : 0 ≤ IntKind.u64.wrap x := by
  have e : IntKind.u64.wrap x = x % 18446744073709551616 := by simp [IntKind.wrap, IntKind.bits, IntKind.signed]
  rw [e]; omega
theorem u64_small {x : Int} (h : 0 ≤ x) (h2 : x ≤ 1000000000000) : IntKind.u64.wrap x = x := by
  have e : IntKind.u64.wrap x = x % 18446744073709551616 := by simp [IntKind.wrap, IntKind.bits, IntKind.signed]
  rw [e]; omega
theorem modI_bd (x : Int) {n : Int} (h : 1 ≤ n) : 0 ≤ modI x n ∧ modI x n < n := by
  unfold modI
  have h0 := u64_nn x
  rw [Int.tmod_eq_emod_of_nonneg h0]
  exact ⟨Int.emod_nonneg _ (by omega), Int.emod_lt_of_pos _ (by omega)⟩
theorem mod_all (x : Int) {n : Int} (h : 1 ≤ n) (h2 : n ≤ 1000000000000) : turndownlaw06_mod.f x n = some (modI x n) := by
  unfold turndownlaw06_mod.f
  rw [u64_small (by omega) h2, if_neg (by omega)]
  have := modI_bd x h
  unfold modI at this ⊢
  congr 1
  unfold wrap64
  omega
theorem tame_ev (l : List Int) {most : Nat} {low : Int} (hl : l.length ≤ 17592186044416) (hm : 1 ≤ most) (hm2 : most ≤ 1000) (h0 : 0 ≤ low) (h1 : low ≤ 1) : ∃ w, Ev (fun k => turndownlaw06_tame.f k l (most : Int) low) w ∧ 1 ≤ w.length ∧ w.length ≤ most ∧ ∀ x, x ∈ w → low ≤ x ∧ x ≤ 1073741824 := by
  have fin : ∀ (out : List Int) (q : Nat), out.length ≤ most → (∀ x, x ∈ out → low ≤ x ∧ x ≤ 1073741824) → ∃ w, Ev (fun k => turndownlaw06_tame.j1 k l (most : Int) low out (q : Int) false) w ∧ 1 ≤ w.length ∧ w.length ≤ most ∧ ∀ x, x ∈ w → low ≤ x ∧ x ≤ 1073741824 := by
    intro out q ho hx
    by_cases h : (out.length : Int) = 0
    · refine ⟨out ++ [1], Ev.step (fun k => ?_) (Ev.now _), by simp, by simp; omega, fun x hx' => ?_⟩
      · rw [turndownlaw06_tame.j1, if_neg (by simp), if_pos h, if_pos (by omega)]
      · rcases List.mem_append.1 hx' with hx' | hx'
        · exact hx x hx'
        · rw [List.mem_singleton.1 hx']; omega
    · refine ⟨out, Ev.step (fun k => ?_) (Ev.now _), by omega, ho, hx⟩
      rw [turndownlaw06_tame.j1, if_neg (by simp), if_neg h]
  have key : ∀ e q (out : List Int), q + e = min l.length most → out.length = q → (∀ x, x ∈ out → low ≤ x ∧ x ≤ 1073741824) → ∃ w, Ev (fun k => turndownlaw06_tame.l0 k l (most : Int) low out (q : Int)) w ∧ 1 ≤ w.length ∧ w.length ≤ most ∧ ∀ x, x ∈ w → low ≤ x ∧ x ≤ 1073741824 := by
    intro e
    induction e with
    | zero =>
      intro q out hq ho hx
      obtain ⟨w, hw, h3⟩ := fin out q (by omega) hx
      refine ⟨w, Ev.step (fun k => ?_) hw, h3⟩
      rw [turndownlaw06_tame.l0]
      by_cases h : (q : Int) < (l.length : Int)
      · rw [if_pos h, decide_eq_false (show ¬ (q : Int) < (most : Int) by omega)]
      · rw [if_neg h]
    | succ e ih =>
      intro q out hq ho hx
      have hql : q < l.length := by omega
      have hqm : q < most := by omega
      obtain ⟨y, hy, hstep⟩ : ∃ y, (low ≤ y ∧ y ≤ 1073741824) ∧ ∀ k, turndownlaw06_tame.j1 (k + 1) l (most : Int) low out (q : Int) true = turndownlaw06_tame.l0 k l (most : Int) low (out ++ [y]) ((q + 1 : Nat) : Int) := by
        have hm3 := modI_bd (l.getD q 0) (n := 1000) (by omega)
        have hm4 : wrap64 (low + modI (l.getD q 0) 1000) = low + modI (l.getD q 0) 1000 := by unfold wrap64; omega
        by_cases c1 : l.getD q 0 < low
        · refine ⟨low + modI (l.getD q 0) 1000, by omega, fun k => ?_⟩
          rw [turndownlaw06_tame.j1, if_pos rfl, if_pos (by omega), if_pos (by omega), rd_nat, if_pos c1, mod_all _ (by omega) (by omega)]
          simp only [Option.bind_some]
          rw [if_pos (by omega), hm4, w1 (by omega)]
        · by_cases c2 : l.getD q 0 > 1073741824
          · refine ⟨low + modI (l.getD q 0) 1000, by omega, fun k => ?_⟩
            rw [turndownlaw06_tame.j1, if_pos rfl, if_pos (by omega), if_pos (by omega), rd_nat, if_neg c1, if_pos c2, mod_all _ (by omega) (by omega)]
            simp only [Option.bind_some]
            rw [if_pos (by omega), hm4, w1 (by omega)]
          · refine ⟨l.getD q 0, by omega, fun k => ?_⟩
            rw [turndownlaw06_tame.j1, if_pos rfl, if_pos (by omega), if_pos (by omega), rd_nat, if_neg c1, if_neg c2, if_pos (by omega), w1 (by omega)]
      obtain ⟨w, hw, h3⟩ := ih (q + 1) (out ++ [y]) (by omega) (by simp [ho]) (fun x hx' => by
        rcases List.mem_append.1 hx' with hx' | hx'
        · exact hx x hx'
        · rw [List.mem_singleton.1 hx']; exact hy)
      refine ⟨w, Ev.step (fun k => ?_) (Ev.step (g := fun k => turndownlaw06_tame.j1 k l (most : Int) low out (q : Int) true) hstep hw), h3⟩
      rw [turndownlaw06_tame.l0, if_pos (by omega), decide_eq_true (show (q : Int) < (most : Int) by omega)]
  exact key (min l.length most) 0 [] (by omega) rfl (fun x hx => by cases hx)
theorem getD_mem {l : List Int} {s : Nat} (hs : s < l.length) : l.getD s 0 ∈ l := by
  rw [List.getD_eq_getElem?_getD, List.getElem?_eq_getElem hs]
  exact List.getElem_mem hs
end Go.Proofs.Ytcpojohpmcnnhaa.L

set_option linter.unusedVariables false
set_option linter.unusedSimpArgs false
namespace Go.Proofs.Ytcpojohpmcnnhaa.L
open Go.RowKit Go.Proofs.YtcpojohpmcnnhaaW.PrintWords Go.Proofs.YtcpojohpmcnnhaaW.PrintLast Go.Proofs.YtcpojohpmcnnhaaW.PrintMore
open Go.Proofs.Ytcpojohpmcnnhaa.PA Go.Proofs.Ytcpojohpmcnnhaa.A
theorem loop_toList (a : ByteArray) : ∀ d i r, i + d = a.size → ByteArray.toList.loop a i r = r.reverse ++ a.data.toList.drop i
  | 0, i, r, h => by
    have hl : a.data.toList.length = a.size := by rw [Array.length_toList]; rfl
    unfold ByteArray.toList.loop
    rw [if_neg (by omega), List.drop_of_length_le (by omega), List.append_nil]
  | d + 1, i, r, h => by
    have hl : a.data.toList.length = a.size := by rw [Array.length_toList]; rfl
    have ih := loop_toList a d (i + 1) (a.get! i :: r) (by omega)
    unfold ByteArray.toList.loop
    rw [if_pos (by omega), ih]
    have e : a.get! i = a.data.toList[i]'(by omega) := by
      have hi : i < a.data.size := by rw [← Array.length_toList]; omega
      show a.data[i]! = _
      rw [getElem!_pos a.data i hi]
      rfl
    rw [List.drop_eq_getElem_cons (show i < a.data.toList.length by omega), e]
    simp
theorem toList_data (a : ByteArray) : a.toList = a.data.toList := by
  have := loop_toList a a.size 0 [] (by omega)
  unfold ByteArray.toList
  rw [this]; simp
theorem data_len (s : ByteArray) : s.data.toList.length = s.size := by rw [Array.length_toList]; rfl
end Go.Proofs.Ytcpojohpmcnnhaa.L

set_option linter.unusedVariables false
set_option linter.unusedSimpArgs false
namespace Go.Proofs.Ytcpojohpmcnnhaa.L
open Go.RowKit Go.Proofs.YtcpojohpmcnnhaaW.PrintWords Go.Proofs.YtcpojohpmcnnhaaW.PrintLast Go.Proofs.YtcpojohpmcnnhaaW.PrintMore
open Go.Proofs.Ytcpojohpmcnnhaa.PA Go.Proofs.Ytcpojohpmcnnhaa.A
theorem ints_ev {a : List Int} (ha : a.length ≤ 1000000) : Ev (fun k => turndownlaw06_ints.f k a a) true := by
  have key : ∀ e q, q + e = a.length → Ev (fun k => turndownlaw06_ints.l0 k a a (q : Int)) true := by
    intro e
    induction e with
    | zero =>
      intro q hq
      refine Ev.step (fun k => ?_) (Ev.now _)
      rw [turndownlaw06_ints.l0, if_neg (by omega)]
    | succ e ih =>
      intro q hq
      refine Ev.step (fun k => ?_) (ih (q + 1) (by omega))
      rw [turndownlaw06_ints.l0, if_pos (by omega), if_pos (by omega), if_pos (by omega), if_pos rfl, L.w1 (by omega)]
  refine Ev.congr (fun k => ?_) (key a.length 0 (by omega))
  unfold turndownlaw06_ints.f
  rw [if_pos rfl]; rfl
theorem wd_size (l : List Int) (q : Nat) : ((wordsL l).getD q ⟨#[]⟩).size = (wordN l q).length := by
  unfold wordN
  rw [data_len]
end Go.Proofs.Ytcpojohpmcnnhaa.L

set_option linter.unusedVariables false
set_option linter.unusedSimpArgs false
namespace Go.Proofs.Ytcpojohpmcnnhaa.L
open Go.RowKit Go.Proofs.YtcpojohpmcnnhaaW.PrintWords Go.Proofs.YtcpojohpmcnnhaaW.PrintLast Go.Proofs.YtcpojohpmcnnhaaW.PrintMore
open Go.Proofs.Ytcpojohpmcnnhaa.PA Go.Proofs.Ytcpojohpmcnnhaa.A
theorem less_true : ∀ (t : Nat) (a b : List UInt8), t < a.length → t < b.length → (∀ j, j < t → a.getD j 0 = b.getD j 0) → a.getD t 0 = 48 → b.getD t 0 = 49 → Op.bytesLess a b = true
  | _, [], _, h, _, _, _, _ => by simp at h
  | _, _ :: _, [], _, h, _, _, _ => by simp at h
  | 0, x :: a, y :: b, _, _, _, e1, e2 => by
    simp only [List.getD_cons_zero] at e1 e2
    unfold Op.bytesLess
    rw [e1, e2]
    rfl
  | t + 1, x :: a, y :: b, h1, h2, h, e1, e2 => by
    have h0 := h 0 (by omega)
    simp only [List.getD_cons_zero] at h0
    unfold Op.bytesLess
    have ih := less_true t a b (by simpa using h1) (by simpa using h2) (fun j hj => by simpa using h (j + 1) (by omega)) (by simpa using e1) (by simpa using e2)
    rw [ih, h0]
    simp
theorem ev_all {f : Nat → Nat → Option Bool} : ∀ n, (∀ i, i < n → Ev (f i) true) → ∃ K, ∀ i, i < n → ∀ k, K ≤ k → f i k = some true
  | 0, _ => ⟨0, fun i hi => by omega⟩
  | n + 1, h => by
    obtain ⟨K1, h1⟩ := ev_all n (fun i hi => h i (by omega))
    obtain ⟨K2, h2⟩ := h n (by omega)
    refine ⟨K1 + K2, fun i hi k hk => ?_⟩
    by_cases e : i = n
    · subst e; exact h2 k (by omega)
    · exact h1 i (by omega) k (by omega)
theorem dec_nil (wd : Nat → List UInt8) (n : Nat) : decD wd n [] = some [] := by
  unfold decD
  rfl
theorem round_trip {l s : List Int} (h1 : 1 ≤ l.length) (h20 : l.length ≤ 20) (hok : okB 0 32 l = true) (hsum : sumI l ≤ 4294967296) (hs : s.length ≤ 200) (hin : ∀ i, i < s.length → ∃ j : Nat, s.getD i 0 = (j : Int) ∧ j < l.length) (h0 : l.length = 1 → s = []) :
    code_Encode.f l s = some (⟨(encL (wordN l) s).toArray⟩, 0) ∧ code_Decode.f l ⟨(encL (wordN l) s).toArray⟩ = some (s, 0) := by
  have hck : checkI l = 0 := by
    unfold checkI
    rw [if_pos (by rw [lenB_iff.2 (by omega), hok]; rfl), if_neg (by omega)]
  have hwz : ∀ j, j < l.length → (wordN l j).length ≤ 32 := fun j hj => by
    have e1 := wordN_len hok hj
    have e2 := ok_at hok hj
    omega
  have hmem : ∀ x, x ∈ s → ∃ j : Nat, x = (j : Int) ∧ j < l.length := fun x hx => by
    obtain ⟨i, hi, e⟩ := List.getElem_of_mem hx
    obtain ⟨j, hj, hl⟩ := hin i hi
    rw [List.getD_eq_getElem?_getD, List.getElem?_eq_getElem hi, Option.getD_some, e] at hj
    exact ⟨j, hj, hl⟩
  have hin2 : okB 0 ((l.length : Int) - 1) s = true := okB_iff.2 (fun x hx => by
    obtain ⟨j, rfl, hj⟩ := hmem x hx
    omega)
  have hel : (encL (wordN l) s).length ≤ 32 * s.length := encL_len (fun x hx => by
    obtain ⟨j, rfl, hj⟩ := hmem x hx
    rw [Int.toNat_natCast]
    exact hwz j hj)
  have hzs : (⟨(encL (wordN l) s).toArray⟩ : ByteArray).size = (encL (wordN l) s).length := rfl
  refine ⟨?_, ?_⟩
  · unfold code_Encode.f encR
    rw [if_pos (by omega), if_neg (by rw [hck, hin2]; simp; omega), if_neg (by rw [hck]; decide)]
  · have hbt : bitsS ⟨(encL (wordN l) s).toArray⟩ = true := by
      unfold bitsS bitsB
      rw [List.all_eq_true]
      have key : ∀ s : List Int, (∀ x, x ∈ s → ∃ j : Nat, x = (j : Int) ∧ j < l.length) → ∀ c, c ∈ encL (wordN l) s → c = 48 ∨ c = 49 := by
        intro s
        induction s with
        | nil => intro _ c hc; simp [encL] at hc
        | cons x r ih =>
          intro h c hc
          rw [encL] at hc
          rcases List.mem_append.1 hc with hc | hc
          · obtain ⟨j, rfl, hj⟩ := h x (List.mem_cons_self ..)
            rw [Int.toNat_natCast] at hc
            exact wordN_01 hj c hc
          · exact ih (fun y hy => h y (List.mem_cons_of_mem _ hy)) c hc
      intro c hc
      have := key s hmem c hc
      simpa using this
    have hdec : decD (wordN l) l.length (encL (wordN l) s) = some s := by
      by_cases h2 : 2 ≤ l.length
      · exact dec_enc (words_ap hok hsum) h2 hin
      · rw [h0 (by omega)]
        exact dec_nil _ _
    unfold code_Decode.f decR
    have hdl : (⟨(encL (wordN l) s).toArray⟩ : ByteArray).data.toList = encL (wordN l) s := rfl
    rw [if_pos ⟨by omega, by omega⟩, if_neg (by rw [hck, hbt]; simp; omega), if_neg (by rw [hck]; decide), hdl, hdec]
end Go.Proofs.Ytcpojohpmcnnhaa.L
