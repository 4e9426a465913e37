/- What the statements of this seat lean on: the functions that they reach, walked. -/
import Derived.Test.YtakbijpcfnipoaaZm7
set_option linter.unusedSimpArgs false
set_option linter.unusedVariables false

set_option linter.unusedVariables false
set_option linter.unusedSimpArgs false
namespace Go.Proofs.Ytakbijpcfnipoaa.A
open Go.RowKit Go.Proofs.YtakbijpcfnipoaaW.PrintWords Go.Proofs.YtakbijpcfnipoaaW.PrintLast Go.Proofs.YtakbijpcfnipoaaW.PrintMore
open Go.Proofs.Ytakbijpcfnipoaa.PA Go.Proofs.Ytakbijpcfnipoaa.Lf
def okI (k : Nat) (c : List Int) (l : List (List Int)) (i : Nat) : Bool := posB (l.getD i []) && (decide ((l.getD i []).length = k) && (l.getD i []).contains (c.getD i 0))
def schedB (k : Nat) (c : List Int) (l : List (List Int)) : Bool := decide (l.length = c.length) && (List.range l.length).all (okI k c l)
def pR (s : List Int) (l : List (List Int)) : Nat → List Int
  | 0 => s
  | i + 1 => l.getD i []
theorem costs_pR : ∀ (l : List (List Int)) (s : List Int), costs (pR s l) l.length = cost s l
  | [], _ => rfl
  | r :: l, s => by
    rw [List.length_cons, costs_shift]
    have ih := costs_pR l r
    have e : (fun j => pR s (r :: l) (j + 1)) = pR r l := by
      funext j
      cases j <;> rfl
    rw [e, ih]
    rfl
set_option maxHeartbeats 16000000 in
set_option maxRecDepth 100000 in
theorem Cost_c (A : Option Addr) (ca : Nat) (s : List Int) (C : Option Addr) (cc : Nat) (c : List Int) (E : Option Addr) (ce : Nat) (l : List (List Int)) (w : World) (hr : Kd.C (Kd.int .i64) w A s.length s) (hc : Kd.C (Kd.int .i64) w C c.length c) (hl : Kd.C (Kd.slice 3 (Kd.int .i64)) w E l.length l) (hh : hallB s c = true) (hlen : l.length = c.length) (Post : Ending → World → Prop)
    (hyes : ∀ w', (List.range l.length).all (okI s.length c l) = true → Below w.heap.size w w' → Post (.returned (.tuple #[.int .i64 (cost s l), .int .i64 0])) w')
    (hno : ∀ w', (List.range l.length).all (okI s.length c l) = false → Below w.heap.size w w' → Post (.returned (.tuple #[.int .i64 0, .int .i64 10])) w') :
    Calls Try.prog 16 #[.slice A s.length ca, .slice C c.length cc, .slice E l.length ce] w Post := by
  obtain ⟨hp, hcb⟩ : posB s = true ∧ callB c = true := by simpa [hallB] using hh
  obtain ⟨hk1, hk3, hs⟩ := posB_iff.1 hp
  obtain ⟨h40, hfl⟩ := callB_iff.1 hcb
  have HALL := Lib.hid (hall_c A ca s C cc c w hr hc)
  rw [hh] at HALL
  simp only [if_true] at HALL
  obtain ⟨s0, e0⟩ : ∃ x, s.getD 0 0 = x := ⟨_, rfl⟩
  obtain ⟨s1, e1⟩ : ∃ x, s.getD 1 0 = x := ⟨_, rfl⟩
  obtain ⟨s2, e2⟩ : ∃ x, s.getD 2 0 = x := ⟨_, rfl⟩
  have hp0 : pad (pR s l 0) = sv s0 s1 s2 := by rw [← e0, ← e1, ← e2]; rfl
  rw [e0, e1, e2] at HALL
  obtain ⟨k, hk⟩ : ∃ n, s.length = n := ⟨_, rfl⟩
  obtain ⟨m, hm⟩ : ∃ m, c.length = m := ⟨_, rfl⟩
  obtain ⟨n, hn⟩ : ∃ m, l.length = m := ⟨_, rfl⟩
  rw [hk, hm] at HALL
  rw [hk] at hk1 hk3 hs hyes hno
  rw [hm] at h40
  have hnm : n = m := by rw [← hn, ← hm]; exact hlen
  have HFL : Hid (∀ i, i < n → Fl (c.getD i 0)) := Lib.hid (fun i hi => by
    rw [List.getD_eq_getElem?_getD, List.getElem?_eq_getElem (by omega)]; exact hfl _ (List.getElem_mem (by omega)))
  have HROW : Hid (∀ i W, i < n → Below w.heap.size w W → ∃ ad Ai ci len, E = some ad ∧ len = (l.getD i []).length ∧ W.cell? (ad.add i) = some (.slice Ai len ci) ∧ Calls Try.prog 45 #[.slice Ai len ci] W fun e w' => e = .returned (.tuple #[if posB (l.getD i []) then pad (l.getD i []) else sv 0 0 0, .bool (posB (l.getD i []))]) ∧ Below W.heap.size W w') := by
    refine Lib.hid (fun i W hi hW => ?_)
    obtain ⟨ad, Ai, ci, e, h1, h2, h3⟩ := at_L1 hl (i : Int) (by omega) (by omega)
    rw [Int.toNat_natCast] at h1
    have e9 : rd_L1 l (i : Int) = l.getD i [] := by unfold rd_L1; rw [Int.toNat_natCast]
    rw [e9] at h1 h2 h3
    exact ⟨ad, Ai, ci, _, e, rfl, (hW.cell (World.block_lt_of_cell? w _ h1)).trans h1, spots_c Ai ci _ W (Kd.C_below h3 hW)⟩
  have HCAL : Hid (∀ i W, i < n → Below w.heap.size w W → ∃ ad, C = some ad ∧ W.cell? (ad.add i) = some (.int .i64 (c.getD i 0))) := by
    refine Lib.hid (fun i W hi hW => ?_)
    obtain ⟨ad, e, hM⟩ := mem1 hc (by omega)
    have h1 := hM i _ (List.getElem?_eq_getElem (by omega))
    refine ⟨ad, e, ?_⟩
    rw [List.getD_eq_getElem?_getD, List.getElem?_eq_getElem (by omega)]
    exact (hW.cell h1.2).trans h1.1
  have HY := Lib.hid hyes
  have HNO := Lib.hid hno
  have HPS : Hid (∀ i, i ≤ n → (∀ j, j < i → okI k c l j = true) → Pos k (pR s l i)) := Lib.hid (fun i hi hok => by
    cases i with
    | zero => exact hs
    | succ i =>
      have h1 := hok i (by omega)
      simp only [okI, Bool.and_eq_true, decide_eq_true_eq] at h1
      have h2 := (posB_iff.1 h1.1).2.2
      rw [h1.2.1] at h2
      exact h2)
  have HCO : Hid (costs (pR s l) n = cost s l) := Lib.hid (by rw [← hn]; exact costs_pR l s)
  have HN := Lib.hid hn
  rw [hk, hm, hn]
  clear hr hc hl hh hp hcb hs hfl e0 e1 e2 hk hm hn hlen hyes hno
  subst hnm
  go_enter Try.func16, Try.ntmps16
  go_upto_region 2 with (go_at_call 44; (with_reducible refine HALL.out.mono ?_); rintro e w2 ⟨rfl, hb⟩)
  have hB2 := hb.alloc hb.size (Obj.cells #[Value.int IntKind.i64 k, Value.int IntKind.i64 s0, Value.int IntKind.i64 s1, Value.int IntKind.i64 s2, Value.slice C n cc] 54)
  have hH2 : HallAt w2.heap.size (k : Int) s0 s1 s2 (.slice C n cc) (w2.alloc (Obj.cells #[Value.int IntKind.i64 k, Value.int IntKind.i64 s0, Value.int IntKind.i64 s1, Value.int IntKind.i64 s2, Value.slice C n cc] 54)) := ⟨by simp [go_sem], by simp [go_sem], by simp [go_sem], by simp [go_sem], by simp [go_sem]⟩
  obtain ⟨T, hT⟩ : ∃ T, w2.heap.size = T := ⟨_, rfl⟩
  rw [hT] at hH2 ⊢
  generalize (w2.alloc (Obj.cells #[Value.int IntKind.i64 k, Value.int IntKind.i64 s0, Value.int IntKind.i64 s1, Value.int IntKind.i64 s2, Value.slice C n cc] 54)) = w3 at *
  obtain ⟨h20, h21, h22, h23, h24⟩ := id hH2
  go_upto_region 8 with fail
  have hgs : w3.grownBy (w3.alloc (Obj.cells #[Value.int IntKind.i64 s0, Value.int IntKind.i64 s1, Value.int IntKind.i64 s2] 52)) none := World.grownBy_alloc _ _ _
  have hH4 := hH2.of (hgs.block T hH2.lt (by simp))
  have hN4 := SpotsAt.new w3 s0 s1 s2
  have hB4 := hB2.alloc hB2.size (Obj.cells #[Value.int IntKind.i64 s0, Value.int IntKind.i64 s1, Value.int IntKind.i64 s2] 52)
  obtain ⟨U, hU⟩ : ∃ U, w3.heap.size = U := ⟨_, rfl⟩
  have hTU : T < U := by have := hH2.lt; omega
  rw [hU] at hN4 ⊢
  generalize (w3.alloc (Obj.cells #[Value.int IntKind.i64 s0, Value.int IntKind.i64 s1, Value.int IntKind.i64 s2] 52)) = w4 at *
  have HH4 := Lib.hid hH4
  have HB4 := Lib.hid hB4
  have HN4 : Hid (∃ a0 a1 a2, pad (pR s l 0) = sv a0 a1 a2 ∧ SpotsAt U a0 a1 a2 w4) := Lib.hid ⟨s0, s1, s2, hp0, hN4⟩
  have hT0 : w.heap.size ≤ T := by have := hb.size; omega
  clear h20 h21 h22 h23 h24 hb hB2 hT hH2 hgs hH4 hN4 hB4 hU hp0 HALL
  go_wp2_with fail
  go_loopw [10, 12, 13, 14, 15, 33] (fun v10 _ _ _ _ v33 wr => ∃ i : Nat, v33 = .int .i64 (i : Int) ∧ v10 = .int .i64 (costs (pR s l) i) ∧ i ≤ n ∧ Hid (∀ j, j < i → okI k c l j = true) ∧ Hid (Below w.heap.size w wr) ∧ Hid (HallAt T (k : Int) s0 s1 s2 (.slice C n cc) wr) ∧ Hid (∃ a0 a1 a2, pad (pR s l i) = sv a0 a1 a2 ∧ SpotsAt U a0 a1 a2 wr)) (fun _ _ _ _ _ v33 _ => n - (intOf v33).toNat)
  case atStart => exact ⟨0, rfl, rfl, Nat.zero_le _, Lib.hid (fun j hj => absurd hj (Nat.not_lt_zero _)), HB4, HH4, HN4⟩
  case round =>
    rename World => wr
    obtain ⟨i, rfl, rfl, hi, HOK, HB, HHr, HNr⟩ := hrel
    clear HB4 HH4 HN4
    by_cases hlt : i < n
    · have hlt' : (i : Int) < (n : Int) := by omega
      have hi0 : (0 : Int) ≤ (i : Int) := by omega
      obtain ⟨ad, Ai, ci, len, rfl, hle, hcl, hsp⟩ := HROW.out i wr hlt HB.out
      obtain ⟨a0, a1, a2, ea, hN⟩ := HNr.out
      have HSP := Lib.hid hsp
      have HEA := Lib.hid ea
      have HNN := Lib.hid hN
      obtain ⟨Rw, hR⟩ : ∃ Rw, l.getD i [] = Rw := ⟨_, rfl⟩
      rw [hR] at HSP hle
      have HNXT : Hid (pR s l (i + 1) = Rw) := Lib.hid hR
      have HOKI : Hid (okI k c l i = (posB Rw && (decide (Rw.length = k) && Rw.contains (c.getD i 0)))) := Lib.hid (by unfold okI; rw [hR])
      have HLE := Lib.hid hle
      clear hsp ea hN hR hle HNr
      cases hpb : posB Rw with
      | false =>
        rw [hpb] at HSP HOKI
        simp only [Bool.false_eq_true, if_false] at HSP
        go_upto_region 12 with (go_at_call 45; (with_reducible refine HSP.out.mono ?_); rintro e w5 ⟨rfl, hb5⟩)
        have HB5 := Lib.hid ((HB.out.trans (hb5.mono HB.out.size)).alloc (Nat.le_trans HB.out.size hb5.size) (Obj.cells #[Value.int IntKind.i64 0, Value.int IntKind.i64 0, Value.int IntKind.i64 0] 52))
        clear hb5
        go_quiet (fail)
        go_wp2_with fail
        refine HNO.out _ ?_ ?_
        · rw [List.all_eq_false]
          exact ⟨i, List.mem_range.2 (by rw [HN.out]; exact hlt), by rw [HOKI.out]; simp⟩
        · exact HB5.out.trans ⟨rfl, rfl, rfl, Nat.le_refl _, fun _ _ => rfl⟩
      | true =>
        rw [hpb] at HSP HOKI
        simp only [if_true] at HSP
        obtain ⟨b0, b1, b2, eb⟩ : ∃ b0 b1 b2, pad Rw = sv b0 b1 b2 := ⟨_, _, _, rfl⟩
        rw [eb] at HSP
        go_upto_region 12 with (go_at_call 45; (with_reducible refine HSP.out.mono ?_); rintro e w5 ⟨rfl, hb5⟩)
        have hB5 := (HB.out.trans (hb5.mono HB.out.size)).alloc (Nat.le_trans HB.out.size hb5.size) (Obj.cells #[Value.int IntKind.i64 b0, Value.int IntKind.i64 b1, Value.int IntKind.i64 b2] 52)
        have hX5 := SpotsAt.new w5 b0 b1 b2
        have hgn : w5.grownBy (w5.alloc (Obj.cells #[Value.int IntKind.i64 b0, Value.int IntKind.i64 b1, Value.int IntKind.i64 b2] 52)) none := World.grownBy_alloc _ _ _
        have hH5 := (HHr.out.of (hb5.block T HHr.out.lt)).of (hgn.block T (Nat.lt_of_lt_of_le HHr.out.lt hb5.size) (by simp))
        have hN5 := (HNN.out.of (hb5.block U HNN.out.lt)).of (hgn.block U (Nat.lt_of_lt_of_le HNN.out.lt hb5.size) (by simp))
        have hUX : U < w5.heap.size := Nat.lt_of_lt_of_le HNN.out.lt hb5.size
        obtain ⟨X, hX⟩ : ∃ X, w5.heap.size = X := ⟨_, rfl⟩
        rw [hX] at hX5 hUX ⊢
        generalize (w5.alloc (Obj.cells #[Value.int IntKind.i64 b0, Value.int IntKind.i64 b1, Value.int IntKind.i64 b2] 52)) = w6 at *
        have HB6 := Lib.hid hB5
        have HH6 := Lib.hid hH5
        have HN6 := Lib.hid hN5
        have HX6 := Lib.hid hX5
        clear hb5 hgn hX
        obtain ⟨g0, g1, g2, g3, g4⟩ := id hH5
        obtain ⟨n0, n1, n2, _, _, _, _⟩ := id hN5
        obtain ⟨x0, x1, x2, _, _, _, _⟩ := id hX5
        clear hB5 hH5 hN5 hX5 HB HHr HNN HSP
        by_cases hlk : len = k
        · subst hlk
          obtain ⟨adc, rfl, hcl2⟩ := HCAL.out i w6 hlt HB6.out
          obtain ⟨f, hf⟩ : ∃ f, c.getD i 0 = f := ⟨_, rfl⟩
          rw [hf] at hcl2 HOKI
          obtain ⟨hb, hhb⟩ : ∃ b, Rw.contains f = b := ⟨_, rfl⟩
          have hRp := (posB_iff.1 hpb).2.2
          rw [← HLE.out] at hRp
          have eR : T3 len b0 b1 b2 = Rw := by
            have h8 := eb
            unfold pad at h8
            injection h8 with h8
            injection h8 with h8
            have e1 : Rw.getD 0 0 = b0 := by injection h8 with h8; injection h8
            have e2 : Rw.getD 1 0 = b1 := by injection h8 with _ h8; injection h8 with h8; injection h8
            have e3 : Rw.getD 2 0 = b2 := by injection h8 with _ h8; injection h8 with _ h8; injection h8 with h8; injection h8
            rw [← e1, ← e2, ← e3]
            exact t3_self hRp.len hk3
          have HHAS : Hid (∀ W, Calls Try.prog 46 #[hv len s0 s1 s2 (.slice (some adc) n cc), sv b0 b1 b2, .int .i64 f] W fun e w' => e = .returned (.bool hb) ∧ Below W.heap.size W w') := Lib.hid (fun W => by
            have := has_c len hk3 s0 s1 s2 (some adc) n cc b0 b1 b2 f W
            rw [eR, hhb] at this
            exact this)
          have HXX : Hid (∀ w', Below w6.heap.size w6 w' → HallAt T (len : Int) s0 s1 s2 (.slice (some adc) n cc) w' ∧ SpotsAt U a0 a1 a2 w' ∧ SpotsAt X b0 b1 b2 w' ∧ w'.cell? (adc.add i) = some (.int .i64 f)) := Lib.hid (fun w' h =>
            ⟨HH6.out.of (h.block T HH6.out.lt), HN6.out.of (h.block U HN6.out.lt), HX6.out.of (h.block X HX6.out.lt), (h.cell (World.block_lt_of_cell? w6 _ hcl2)).trans hcl2⟩)
          have HOK2 : Hid (okI len c l i = hb) := Lib.hid (by rw [HOKI.out, decide_eq_true HLE.out.symm, hhb]; simp)
          have HPP := Lib.hid (HPS.out i hi HOK.out)
          have HPR := Lib.hid hRp
          have HEB := Lib.hid eb
          clear g0 g1 g2 g3 g4 n0 n1 n2 x0 x1 x2 hcl2 hf hhb eR hRp HOKI hcl
          go_wp2_with fail
          apply R.wp_region_text [0, 1, 2, 3, 4, 5, 6, 7, 8, 9, 10, 11, 12, 13, 14, 15] [16, 17, 18] 19 (fun w' => Below w6.heap.size w6 w')
          case hm => kernel_rfl
          case hB => kernel_rfl
          case hd => rfl
          case hQ => exact fun _ _ _ _ _ h => h
          case hS => exact (Below.refl _ _).drew
          case hF =>
            intro w' hS
            obtain ⟨⟨g0, g1, g2, g3, g4⟩, _, ⟨x0, x1, x2, _, _, _, _⟩, q0⟩ := HXX.out w' hS
            clear hS
            simp only [R.pickC, List.filterMap_cons, List.getElem?_toArray, List.getElem?_cons_zero, List.getElem?_cons_succ, List.filterMap_nil]
            (with_reducible refine R.wpStill_plain rfl (fun K hK => ?_)); go_simp; with_reducible refine hK _ ?_; clear hK K
            (with_reducible refine R.wpStill_plain rfl (fun K hK => ?_)); go_simp; with_reducible refine hK _ ?_; clear hK K
            (with_reducible refine R.wpStill_plain rfl (fun K hK => ?_)); go_simp; with_reducible refine hK _ ?_; clear hK K
            (refine R.wpStill_yes rfl (by exact rfl) (fun K hK => ?_)); go_simp; with_reducible refine hK _ ?_; clear hK K
            (refine R.wpStill_yes rfl (by exact rfl) (fun K hK => ?_)); go_simp; with_reducible refine hK _ ?_; clear hK K
            (refine R.wpStill_yes rfl (by exact rfl) (fun K hK => ?_)); go_simp; with_reducible refine hK _ ?_; clear hK K
            (refine R.wpStill_yes rfl (by exact rfl) (fun K hK => ?_)); go_simp; with_reducible refine hK _ ?_; clear hK K
            (refine R.wpStill_yes rfl (by exact rfl) (fun K hK => ?_)); go_simp; with_reducible refine hK _ ?_; clear hK K
            (with_reducible refine R.wpStill_plain rfl (fun K hK => ?_)); go_simp; with_reducible refine hK _ ?_; clear hK K
            (with_reducible refine R.wpStill_plain rfl (fun K hK => ?_)); go_simp; with_reducible refine hK _ ?_; clear hK K
            (refine R.wpStill_yes rfl (by exact rfl) (fun K hK => ?_)); go_simp; with_reducible refine hK _ ?_; clear hK K
            (refine R.wpStill_yes rfl (by exact rfl) (fun K hK => ?_)); go_simp; with_reducible refine hK _ ?_; clear hK K
            (refine R.wpStill_yes rfl (by exact rfl) (fun K hK => ?_)); go_simp; with_reducible refine hK _ ?_; clear hK K
            (refine R.wpStill_yes rfl (by exact rfl) (fun K hK => ?_)); go_simp; with_reducible refine hK _ ?_; clear hK K
            (refine R.wpStill_yes rfl (by exact rfl) (fun K hK => ?_)); go_simp; with_reducible refine hK _ ?_; clear hK K
            (refine R.wpStill_yes rfl (by exact rfl) (fun K hK => ?_)); go_simp; with_reducible refine hK _ ?_; clear hK K
            exact wpStill_nil rfl
          case hC =>
            simp only [R.chainOf, List.getElem?_toArray, List.getElem?_cons_zero, List.getElem?_cons_succ, Nat.reduceBNe, Bool.and_true, Bool.and_false, Bool.false_and]
            refine R.wpSeq_same (fun K hK => ?_)
            go_simp
            refine (HHAS.out _).mono ?_
            rintro e w7 ⟨rfl, hb7⟩
            have hS7 : Below w6.heap.size w6 w7 := (Below.refl _ w6).drew.trans hb7
            refine hK _ _ hS7 ?_
            clear hK K hb7
            refine R.wpSeq_same (fun K hK => ?_)
            go_simp
            refine hK _ _ hS7 ?_
            clear hK K
            refine R.wpSeq_same (fun K hK => ?_)
            go_simp
            refine hK _ _ hS7 ?_
            clear hK K
            refine R.wpSeq_nil ?_
            cases hb with
            | false =>
              go_wp2_with fail
              refine HNO.out _ ?_ (HB6.out.trans (hS7.mono HB6.out.size))
              rw [List.all_eq_false]
              exact ⟨i, List.mem_range.2 (by rw [HN.out]; exact hlt), by rw [HOK2.out]; simp⟩
            | true =>
              have hB7 := HB6.out.trans (hS7.mono HB6.out.size)
              obtain ⟨hH7, hN7, hX7, _⟩ := HXX.out w7 hS7
              have HD := Lib.hid (dist_pad hk1 hk3 s0 s1 s2 (some adc) n cc HPP.out HPR.out w7)
              rw [HEA.out, HEB.out] at HD
              have hdb := dist_bd hk3 HPP.out HPR.out
              have hcb : 0 ≤ costs (pR s l) i ∧ costs (pR s l) i ≤ 90 * i := by
                have h9 : ∀ j, j ≤ i → Pos len (pR s l j) := fun j hj => HPS.out j (by omega) (fun j' hj' => HOK.out j' (by omega))
                exact costs_bd hk3 h9 i (Nat.le_refl _)
              have HCS : Hid (costs (pR s l) (i + 1) = costs (pR s l) i + dist (pR s l i) Rw) := Lib.hid (by rw [costs, HNXT.out])
              obtain ⟨d, hd⟩ : ∃ d, dist (pR s l i) Rw = d := ⟨_, rfl⟩
              rw [hd] at HD hdb HCS
              obtain ⟨q, hq⟩ : ∃ q, costs (pR s l) i = q := ⟨_, rfl⟩
              rw [hq] at hcb HCS ⊢
              have HT2 : Hid (∀ W : World, Calls Try.prog 47 #[.slice (some ⟨W.heap.size, 0, none⟩) 2 2] (W.alloc (Obj.cells #[.int .i64 q, .int .i64 d] 3)) fun e w' => e = .returned (.int .i64 (q + d)) ∧ Below W.heap.size W w') :=
                Lib.hid (fun W => total2_c W q d ⟨hcb.1, by omega⟩ ⟨hdb.1, by omega⟩)
              have HB7 := Lib.hid hB7
              have HH7 := Lib.hid hH7
              have HN7 := Lib.hid hN7
              have HX7 := Lib.hid hX7
              obtain ⟨g0, g1, g2, g3, g4⟩ := hH7
              obtain ⟨n0, n1, n2, _, _, _, _⟩ := hN7
              obtain ⟨x0, x1, x2, _, _, _, _⟩ := hX7
              clear hB7 hdb hcb hd hq HXX HHAS hS7 HB6 HH6 HN6 HX6
              go_upto_region 15 with (first | (go_at_call 48; (with_reducible refine HD.out.mono ?_); rintro e w8 ⟨rfl, hb8⟩) | (go_at_call 47; (with_reducible refine (HT2.out _).mono ?_); rintro e w9 ⟨rfl, hb9⟩))
              have hb79 : Below w7.heap.size w7 w9 := hb8.trans (hb9.mono hb8.size)
              have hH9 := HH7.out.of (hb79.block T HH7.out.lt)
              have hN9 := HN7.out.of (hb79.block U HN7.out.lt)
              have hX9 := HX7.out.of (hb79.block X HX7.out.lt)
              have hB9 := HB7.out.trans (hb79.mono HB7.out.size)
              have hN10 := hN9.put b0 b1 b2
              have hg10 := grown_put (B := U) (W := w9) (.int .i64 b0) (.int .i64 b1) (.int .i64 b2)
              have hH10 := hH9.of (hg10.block T hH9.lt (by simp; omega))
              have hB10 := hB9.grown hg10 hB9.size (fun r hr => by injection hr with hr; omega)
              have HFIN := Lib.hid (And.intro hB10 (And.intro hH10 hN10))
              obtain ⟨n0, n1, n2, n3, n4, n5, _⟩ := hN9
              obtain ⟨x0, x1, x2, _, _, _, _⟩ := hX9
              have HOKN : Hid (∀ j, j < i + 1 → okI len c l j = true) := Lib.hid (fun j hj => by
                by_cases e : j = i
                · rw [e]; exact HOK2.out
                · exact HOK.out j (by omega))
              clear g0 g1 g2 g3 g4 hb8 hb9 hb79 hH9 hB9 hN10 hg10 hH10 hB10
              go_wp2_with fail
              exact ⟨⟨i + 1, by go_num, by rw [HCS.out], by omega, HOKN, Lib.hid HFIN.out.1, Lib.hid HFIN.out.2.1, Lib.hid ⟨b0, b1, b2, by rw [HNXT.out]; exact HEB.out, HFIN.out.2.2⟩⟩, by simp [intOf]; omega⟩
        · have hne : ¬ ((len : Int) = (k : Int)) := by omega
          go_quiet (fail)
          go_wp2_with fail
          refine HNO.out _ ?_ ?_
          · rw [List.all_eq_false]
            exact ⟨i, List.mem_range.2 (by rw [HN.out]; exact hlt), by rw [HOKI.out, decide_eq_false (by rw [← HLE.out]; exact hlk)]; simp⟩
          · exact HB6.out.trans ⟨rfl, rfl, rfl, Nat.le_refl _, fun _ _ => rfl⟩
    · obtain rfl : i = n := by omega
      go_wp2_with fail
      show Post (.returned (.tuple #[.int .i64 (costs (pR s l) i), .int .i64 0])) wr
      rw [HCO.out]
      refine HY.out wr ?_ HB.out
      rw [List.all_eq_true]
      intro j hj
      rw [HN.out] at hj
      exact HOK.out j (List.mem_range.1 hj)
set_option maxHeartbeats 8000000 in
set_option maxRecDepth 100000 in
theorem Cost_no (A : Option Addr) (ca : Nat) (s : List Int) (C : Option Addr) (cc : Nat) (c : List Int) (E : Option Addr) (n ce : Nat) (w : World) (hr : Kd.C (Kd.int .i64) w A s.length s) (hc : Kd.C (Kd.int .i64) w C c.length c) (hh : hallB s c = false) :
    Calls Try.prog 16 #[.slice A s.length ca, .slice C c.length cc, .slice E n ce] w fun e w' => e = .returned (.tuple #[.int .i64 0, .int .i64 2]) ∧ Below w.heap.size w w' := by
  have HALL := Lib.hid (hall_c A ca s C cc c w hr hc)
  rw [hh] at HALL
  simp only [Bool.false_eq_true, if_false] at HALL
  clear hr hc hh
  go_enter Try.func16, Try.ntmps16
  go_wp2_with (go_at_call 44; (with_reducible refine HALL.out.mono ?_); rintro e w2 ⟨rfl, hb⟩)
  go_ret2
  exact ⟨rfl, hb.alloc hb.size _⟩
set_option maxHeartbeats 8000000 in
set_option maxRecDepth 100000 in
theorem Cost_len (A : Option Addr) (ca : Nat) (s : List Int) (C : Option Addr) (cc : Nat) (c : List Int) (E : Option Addr) (n ce : Nat) (w : World) (hr : Kd.C (Kd.int .i64) w A s.length s) (hc : Kd.C (Kd.int .i64) w C c.length c) (hh : hallB s c = true) (hn : n ≠ c.length) :
    Calls Try.prog 16 #[.slice A s.length ca, .slice C c.length cc, .slice E n ce] w fun e w' => e = .returned (.tuple #[.int .i64 0, .int .i64 10]) ∧ Below w.heap.size w w' := by
  have HALL := Lib.hid (hall_c A ca s C cc c w hr hc)
  rw [hh] at HALL
  simp only [if_true] at HALL
  obtain ⟨k, hk⟩ : ∃ n, s.length = n := ⟨_, rfl⟩
  obtain ⟨m, hm⟩ : ∃ m, c.length = m := ⟨_, rfl⟩
  obtain ⟨s0, e0⟩ : ∃ x, s.getD 0 0 = x := ⟨_, rfl⟩
  obtain ⟨s1, e1⟩ : ∃ x, s.getD 1 0 = x := ⟨_, rfl⟩
  obtain ⟨s2, e2⟩ : ∃ x, s.getD 2 0 = x := ⟨_, rfl⟩
  rw [hk, hm, e0, e1, e2] at HALL
  rw [hm] at hn
  rw [hk, hm]
  have hne : ¬ ((n : Int) = (m : Int)) := by omega
  clear hr hc hh hk hm e0 e1 e2
  go_enter Try.func16, Try.ntmps16
  go_wp2_with (go_at_call 44; (with_reducible refine HALL.out.mono ?_); rintro e w2 ⟨rfl, hb⟩)
  go_ret2
  exact ⟨rfl, hb.alloc hb.size _⟩
end Go.Proofs.Ytakbijpcfnipoaa.A
namespace Go.Proofs.Ytakbijpcfnipoaa.PA
open Go.RowKit Go.Proofs.YtakbijpcfnipoaaW.PrintWords Go.Proofs.YtakbijpcfnipoaaW.PrintLast Go.Proofs.YtakbijpcfnipoaaW.PrintMore
open Go.Proofs.Ytakbijpcfnipoaa.A Go.Proofs.Ytakbijpcfnipoaa.Lf
def lifts_Cost.f (l0 : List Int) (l1 : List Int) (l2 : List (List Int)) : Option (Int × Int) := if hallB l0 l1 then (if schedB l0.length l1 l2 then some (cost l0 l2, 0) else some (0, 10)) else some (0, 2)
theorem lifts_Cost.calls (A0 : Option Addr) (c0 : Nat) (l0 : List Int) (A1 : Option Addr) (c1 : Nat) (l1 : List Int) (A2 : Option Addr) (c2 : Nat) (l2 : List (List Int)) (r1 : Int) (r2 : Int) (w : World) (hr0 : Kd.C (Kd.int .i64) w A0 l0.length l0) (_hc0 : l0.length ≤ c0) (hr1 : Kd.C (Kd.int .i64) w A1 l1.length l1) (_hc1 : l1.length ≤ c1) (hr2 : Kd.C (Kd.slice 3 (Kd.int .i64)) w A2 l2.length l2) (_hc2 : l2.length ≤ c2) (h : lifts_Cost.f l0 l1 l2 = some (r1, r2)) :
    Calls Try.prog 16 #[.slice A0 l0.length c0, .slice A1 l1.length c1, .slice A2 l2.length c2] w fun e w' => e = .returned (.tuple #[.int .i64 r1, .int .i64 r2]) ∧ Below w.heap.size w w' := by
  unfold lifts_Cost.f at h
  cases hh : hallB l0 l1 with
  | false =>
    rw [hh] at h
    simp only [Bool.false_eq_true, if_false, Option.some.injEq, Prod.mk.injEq] at h
    obtain ⟨rfl, rfl⟩ := h
    exact Cost_no A0 c0 l0 A1 c1 l1 A2 l2.length c2 w hr0 hr1 hh
  | true =>
    rw [hh] at h
    simp only [if_true] at h
    by_cases hlen : l2.length = l1.length
    · refine Cost_c A0 c0 l0 A1 c1 l1 A2 c2 l2 w hr0 hr1 hr2 hh hlen _ ?_ ?_
      · intro w' ha hb
        have e : schedB l0.length l1 l2 = true := by unfold schedB; rw [ha, decide_eq_true hlen]; rfl
        rw [e] at h
        simp only [if_true, Option.some.injEq, Prod.mk.injEq] at h
        obtain ⟨rfl, rfl⟩ := h
        exact ⟨rfl, hb⟩
      · intro w' ha hb
        have e : schedB l0.length l1 l2 = false := by unfold schedB; rw [ha, Bool.and_false]
        rw [e] at h
        simp only [Bool.false_eq_true, if_false, Option.some.injEq, Prod.mk.injEq] at h
        obtain ⟨rfl, rfl⟩ := h
        exact ⟨rfl, hb⟩
    · have e : schedB l0.length l1 l2 = false := by unfold schedB; rw [decide_eq_false hlen]; rfl
      rw [e] at h
      simp only [Bool.false_eq_true, if_false, Option.some.injEq, Prod.mk.injEq] at h
      obtain ⟨rfl, rfl⟩ := h
      exact Cost_len A0 c0 l0 A1 c1 l1 A2 l2.length c2 w hr0 hr1 hh hlen
end Go.Proofs.Ytakbijpcfnipoaa.PA

set_option linter.unusedVariables false
set_option linter.unusedSimpArgs false
namespace Go.Proofs.Ytakbijpcfnipoaa.A
open Go.RowKit Go.Proofs.YtakbijpcfnipoaaW.PrintWords Go.Proofs.YtakbijpcfnipoaaW.PrintLast Go.Proofs.YtakbijpcfnipoaaW.PrintMore
open Go.Proofs.Ytakbijpcfnipoaa.PA Go.Proofs.Ytakbijpcfnipoaa.Lf
theorem back_ok {k : Nat} : ∀ (c : List Int) (w : List Int → Int) (l : List (List Int)), Back k w c l → ∀ i, i < c.length → Pos k (l.getD i []) ∧ c.getD i 0 ∈ l.getD i []
  | [], _, _, _, i, hi => absurd hi (Nat.not_lt_zero _)
  | f :: c, w, [], h, _, _ => h.elim
  | f :: c, w, t :: l, h, 0, _ => ⟨h.1, h.2.1⟩
  | f :: c, w, t :: l, h, i + 1, hi => back_ok c (nxt k w f) l h.2.2.1 i (Nat.lt_of_succ_lt_succ hi)
theorem bk_all {k : Nat} (hk1 : 1 ≤ k) (hk3 : k ≤ 3) {s c : List Int} (hs : Pos k s) (hc : Fls c) : (List.range (bkF k (dist s) c).length).all (okI k c (bkF k (dist s) c)) = true := by
  have hb := bkF_back hk1 c (dist s) hc (first_lip k hs) (fun x _ => dist_nonneg s x)
  rw [List.all_eq_true]
  intro i hi
  rw [List.mem_range, bkF_len] at hi
  obtain ⟨h1, h2⟩ := back_ok c _ _ hb i hi
  unfold okI
  have h3 := h1.len
  have h4 : posB ((bkF k (dist s) c).getD i []) = true := posB_iff.2 ⟨by omega, by omega, by rw [h3]; exact h1⟩
  rw [h4, decide_eq_true h3]
  simpa using h2
theorem bk_sched {k : Nat} (hk1 : 1 ≤ k) (hk3 : k ≤ 3) {s c : List Int} (hs : Pos k s) (hc : Fls c) : schedB k c (bkF k (dist s) c) = true := by
  unfold schedB
  rw [bk_all hk1 hk3 hs hc, decide_eq_true (bkF_len k c (dist s))]
  rfl
set_option maxHeartbeats 8000000 in
set_option maxRecDepth 100000 in
theorem Best_c (A : Option Addr) (ca : Nat) (s : List Int) (C : Option Addr) (cc : Nat) (c : List Int) (w : World) (hr : Kd.C (Kd.int .i64) w A s.length s) (hca : s.length ≤ ca) (hc : Kd.C (Kd.int .i64) w C c.length c) (hcc : c.length ≤ cc) (hh : hallB s c = true) :
    Calls Try.prog 22 #[.slice A s.length ca, .slice C c.length cc] w fun e w' => ∃ v, e = .returned (.tuple #[v, .int .i64 (cost s (bkF s.length (dist s) c)), .int .i64 0]) ∧ Kd.S (Kd.slice 3 (Kd.int .i64)) 22 w' w.heap.size (fun _ => True) v (bkF s.length (dist s) c) ∧ Below w.heap.size w w' := by
  obtain ⟨hp, hcb⟩ : posB s = true ∧ callB c = true := by simpa [hallB] using hh
  obtain ⟨hk1, hk3, hs⟩ := posB_iff.1 hp
  obtain ⟨h40, hfl⟩ := callB_iff.1 hcb
  have HALL := Lib.hid (hall_c A ca s C cc c w hr hc)
  rw [hh] at HALL
  simp only [if_true] at HALL
  obtain ⟨s0, e0⟩ : ∃ x, s.getD 0 0 = x := ⟨_, rfl⟩
  obtain ⟨s1, e1⟩ : ∃ x, s.getD 1 0 = x := ⟨_, rfl⟩
  obtain ⟨s2, e2⟩ : ∃ x, s.getD 2 0 = x := ⟨_, rfl⟩
  have es : pad s = sv s0 s1 s2 := by rw [← e0, ← e1, ← e2]; rfl
  rw [e0, e1, e2] at HALL
  have HBE : Hid (∀ W, Below w.heap.size w W → Calls Try.prog 51 #[hv (s.length : Int) s0 s1 s2 (.slice C c.length cc)] W fun e w' => ∃ v, e = .returned v ∧ Kd.S (Kd.slice 3 (Kd.int .i64)) 22 w' W.heap.size (fun _ => True) v (bkF s.length (dist s) c) ∧ Below W.heap.size W w') := by
    refine Lib.hid (fun W hW => ?_)
    refine best_c hk1 hk3 s0 s1 s2 C c.length cc s hs es c rfl h40 hfl W ?_
    intro h0
    obtain ⟨ad, e, hm⟩ := mem1 hc h0
    refine ⟨ad, e, fun i hi => ?_⟩
    have h1 := hm i _ (List.getElem?_eq_getElem hi)
    rw [List.getD_eq_getElem?_getD, List.getElem?_eq_getElem hi]
    exact (hW.cell h1.2).trans h1.1
  have HCO : Hid (∀ W E ce, Below w.heap.size w W → Kd.C (Kd.slice 3 (Kd.int .i64)) W E (bkF s.length (dist s) c).length (bkF s.length (dist s) c) → (bkF s.length (dist s) c).length ≤ ce → Calls Try.prog 16 #[.slice A s.length ca, .slice C c.length cc, .slice E (bkF s.length (dist s) c).length ce] W fun e w' => e = .returned (.tuple #[.int .i64 (cost s (bkF s.length (dist s) c)), .int .i64 0]) ∧ Below W.heap.size W w') := by
    refine Lib.hid (fun W E ce hW hE hce => ?_)
    refine lifts_Cost.calls A ca s C cc c E ce _ _ _ W (Kd.C_below hr hW) hca (Kd.C_below hc hW) hcc hE hce ?_
    unfold lifts_Cost.f
    rw [hh, bk_sched hk1 hk3 hs hfl]
    rfl
  obtain ⟨n, hn⟩ : ∃ n, s.length = n := ⟨_, rfl⟩
  obtain ⟨m, hm⟩ : ∃ m, c.length = m := ⟨_, rfl⟩
  obtain ⟨R, hR⟩ : ∃ R, bkF s.length (dist s) c = R := ⟨_, rfl⟩
  obtain ⟨q, hq⟩ : ∃ q, cost s R = q := ⟨_, rfl⟩
  obtain ⟨z, hz⟩ : ∃ z, R.length = z := ⟨_, rfl⟩
  rw [hR] at HBE HCO
  rw [hq, hz] at HCO
  rw [hn, hm] at HBE HCO HALL
  rw [hR, hq, hn, hm]
  have HZ := Lib.hid hz
  clear hR hq hn hm hz e0 e1 e2 es hs hfl h40 hk1 hk3 hp hcb hh hr hc hca hcc
  go_enter Try.func22, Try.ntmps22
  go_upto_region 2 with (go_at_call 44; (with_reducible refine HALL.out.mono ?_); rintro e w2 ⟨rfl, hb⟩)
  have hB2 : Below w.heap.size w (w2.alloc (Obj.cells #[Value.int IntKind.i64 n, Value.int IntKind.i64 s0, Value.int IntKind.i64 s1, Value.int IntKind.i64 s2, Value.slice C m cc] 54)) := hb.alloc hb.size _
  have c0 : (w2.alloc (Obj.cells #[Value.int IntKind.i64 n, Value.int IntKind.i64 s0, Value.int IntKind.i64 s1, Value.int IntKind.i64 s2, Value.slice C m cc] 54)).cell? ⟨w2.heap.size, 0, none⟩ = some (.int .i64 n) := by simp [go_sem]
  have c1 : (w2.alloc (Obj.cells #[Value.int IntKind.i64 n, Value.int IntKind.i64 s0, Value.int IntKind.i64 s1, Value.int IntKind.i64 s2, Value.slice C m cc] 54)).cell? ⟨w2.heap.size, 1, none⟩ = some (.int .i64 s0) := by simp [go_sem]
  have c2 : (w2.alloc (Obj.cells #[Value.int IntKind.i64 n, Value.int IntKind.i64 s0, Value.int IntKind.i64 s1, Value.int IntKind.i64 s2, Value.slice C m cc] 54)).cell? ⟨w2.heap.size, 2, none⟩ = some (.int .i64 s1) := by simp [go_sem]
  have c3 : (w2.alloc (Obj.cells #[Value.int IntKind.i64 n, Value.int IntKind.i64 s0, Value.int IntKind.i64 s1, Value.int IntKind.i64 s2, Value.slice C m cc] 54)).cell? ⟨w2.heap.size, 3, none⟩ = some (.int .i64 s2) := by simp [go_sem]
  have c4 : (w2.alloc (Obj.cells #[Value.int IntKind.i64 n, Value.int IntKind.i64 s0, Value.int IntKind.i64 s1, Value.int IntKind.i64 s2, Value.slice C m cc] 54)).cell? ⟨w2.heap.size, 4, none⟩ = some (.slice C m cc) := by simp [go_sem]
  obtain ⟨T, hT⟩ : ∃ T, w2.heap.size = T := ⟨_, rfl⟩
  rw [hT] at c0 c1 c2 c3 c4 ⊢
  generalize (w2.alloc (Obj.cells #[Value.int IntKind.i64 n, Value.int IntKind.i64 s0, Value.int IntKind.i64 s1, Value.int IntKind.i64 s2, Value.slice C m cc] 54)) = w3 at *
  have HB2 := Lib.hid hB2
  clear hb hT hB2
  go_upto_region 5 with (go_at_call 51; (with_reducible refine (HBE.out _ HB2.out).mono ?_); rintro e w4 ⟨v, rfl, hSv, hb4⟩)
  obtain ⟨E, ce, ev, hce, hCE⟩ := Kd.S_reads hSv
  rw [HZ.out] at ev hce hCE
  subst ev
  have HB4 := Lib.hid (HB2.out.trans (hb4.mono HB2.out.size))
  have HS4 := Lib.hid hSv
  have HCC := Lib.hid (HCO.out w4 E ce HB4.out hCE hce)
  clear hSv hb4 hCE hce c0 c1 c2 c3 c4
  go_wp2_with (go_at_call 16; (with_reducible refine HCC.out.mono ?_); rintro e w5 ⟨rfl, hb5⟩)
  go_ret3
  exact ⟨_, rfl, Kd.S_lower (Kd.S_below HS4.out hb5) HB2.out.size, HB4.out.trans (hb5.mono HB4.out.size)⟩
set_option maxHeartbeats 8000000 in
set_option maxRecDepth 100000 in
theorem Best_no (A : Option Addr) (ca : Nat) (s : List Int) (C : Option Addr) (cc : Nat) (c : List Int) (w : World) (hr : Kd.C (Kd.int .i64) w A s.length s) (hc : Kd.C (Kd.int .i64) w C c.length c) (hh : hallB s c = false) :
    Calls Try.prog 22 #[.slice A s.length ca, .slice C c.length cc] w fun e w' => e = .returned (.tuple #[.slice none 0 0, .int .i64 0, .int .i64 2]) ∧ Below w.heap.size w w' := by
  have HALL := Lib.hid (hall_c A ca s C cc c w hr hc)
  rw [hh] at HALL
  simp only [Bool.false_eq_true, if_false] at HALL
  clear hr hc hh
  go_enter Try.func22, Try.ntmps22
  go_wp2_with (go_at_call 44; (with_reducible refine HALL.out.mono ?_); rintro e w2 ⟨rfl, hb⟩)
  go_ret3
  exact ⟨rfl, hb.alloc hb.size _⟩
end Go.Proofs.Ytakbijpcfnipoaa.A
namespace Go.Proofs.Ytakbijpcfnipoaa.PA
open Go.RowKit Go.Proofs.YtakbijpcfnipoaaW.PrintWords Go.Proofs.YtakbijpcfnipoaaW.PrintLast Go.Proofs.YtakbijpcfnipoaaW.PrintMore
open Go.Proofs.Ytakbijpcfnipoaa.A Go.Proofs.Ytakbijpcfnipoaa.Lf
def lifts_Best.f (l0 : List Int) (l1 : List Int) : Option ((List (List Int)) × Int × Int) := if hallB l0 l1 then some (bkF l0.length (dist l0) l1, cost l0 (bkF l0.length (dist l0) l1), 0) else some ([], 0, 2)
theorem lifts_Best.calls (A0 : Option Addr) (c0 : Nat) (l0 : List Int) (A1 : Option Addr) (c1 : Nat) (l1 : List Int) (r1 : List (List Int)) (r2 : Int) (r3 : Int) (w : World) (hr0 : Kd.C (Kd.int .i64) w A0 l0.length l0) (_hc0 : l0.length ≤ c0) (hr1 : Kd.C (Kd.int .i64) w A1 l1.length l1) (_hc1 : l1.length ≤ c1) (h : lifts_Best.f l0 l1 = some (r1, r2, r3)) :
    Calls Try.prog 22 #[.slice A0 l0.length c0, .slice A1 l1.length c1] w fun e w' => ∃ v0_ : Value, e = .returned (.tuple #[v0_, .int .i64 r2, .int .i64 r3]) ∧ Kd.S (Kd.slice 3 (Kd.int .i64)) 22 w' w.heap.size (fun _ => True) v0_ r1 ∧ Below w.heap.size w w' := by
  unfold lifts_Best.f at h
  cases hh : hallB l0 l1 with
  | false =>
    rw [hh] at h
    simp only [Bool.false_eq_true, if_false, Option.some.injEq, Prod.mk.injEq] at h
    obtain ⟨rfl, rfl, rfl⟩ := h
    exact (Best_no A0 c0 l0 A1 c1 l1 w hr0 hr1 hh).mono fun e w' ⟨he, hb⟩ => ⟨_, he, Kd.S_nil _ _ _ _ _, hb⟩
  | true =>
    rw [hh] at h
    simp only [if_true, Option.some.injEq, Prod.mk.injEq] at h
    obtain ⟨rfl, rfl, rfl⟩ := h
    exact Best_c A0 c0 l0 A1 c1 l1 w hr0 _hc0 hr1 _hc1 hh
end Go.Proofs.Ytakbijpcfnipoaa.PA

set_option linter.unusedVariables false
set_option linter.unusedSimpArgs false
namespace Go.Proofs.Ytakbijpcfnipoaa.A
open Go.RowKit Go.Proofs.YtakbijpcfnipoaaW.PrintWords Go.Proofs.YtakbijpcfnipoaaW.PrintLast Go.Proofs.YtakbijpcfnipoaaW.PrintMore
open Go.Proofs.Ytakbijpcfnipoaa.PA Go.Proofs.Ytakbijpcfnipoaa.Lf
set_option maxHeartbeats 8000000 in
set_option maxRecDepth 100000 in
theorem Work_c (A : Option Addr) (ca : Nat) (s : List Int) (C : Option Addr) (cc : Nat) (c : List Int) (E : Option Addr) (ce : Nat) (t : List Int) (w : World) (hr : Kd.C (Kd.int .i64) w A s.length s) (hc : Kd.C (Kd.int .i64) w C c.length c) (hE : Kd.C (Kd.int .i64) w E t.length t) (hh : hallB s c = true) (ht : posB t = true) (hst : s.length = t.length) :
    Calls Try.prog 24 #[.slice A s.length ca, .slice C c.length cc, .slice E t.length ce] w fun e w' => e = .returned (.tuple #[.int .i64 (works s.length (dist s) c t), .int .i64 0]) ∧ Below w.heap.size w w' := by
  obtain ⟨hp, hcb⟩ : posB s = true ∧ callB c = true := by simpa [hallB] using hh
  obtain ⟨hk1, hk3, hs⟩ := posB_iff.1 hp
  obtain ⟨h40, hfl⟩ := callB_iff.1 hcb
  obtain ⟨_, _, htp⟩ := posB_iff.1 ht
  rw [← hst] at htp
  have HALL := Lib.hid (hall_c A ca s C cc c w hr hc)
  rw [hh] at HALL
  simp only [if_true] at HALL
  obtain ⟨s0, e0⟩ : ∃ x, s.getD 0 0 = x := ⟨_, rfl⟩
  obtain ⟨s1, e1⟩ : ∃ x, s.getD 1 0 = x := ⟨_, rfl⟩
  obtain ⟨s2, e2⟩ : ∃ x, s.getD 2 0 = x := ⟨_, rfl⟩
  have es : pad s = sv s0 s1 s2 := by rw [← e0, ← e1, ← e2]; rfl
  rw [e0, e1, e2] at HALL
  obtain ⟨t0, t1, t2, et⟩ : ∃ t0 t1 t2, pad t = sv t0 t1 t2 := ⟨_, _, _, rfl⟩
  have HSP : Hid (∀ W, Below w.heap.size w W → Calls Try.prog 45 #[.slice E t.length ce] W fun e w' => e = .returned (.tuple #[sv t0 t1 t2, .bool true]) ∧ Below W.heap.size W w') := by
    refine Lib.hid (fun W hW => ?_)
    have h := spots_c E ce t W (Kd.C_below hE hW)
    rw [ht] at h
    simp only [if_true] at h
    rwa [et] at h
  have HCA : Hid (∀ i W, i < c.length → Below w.heap.size w W → ∃ ad, C = some ad ∧ W.cell? (ad.add i) = some (.int .i64 (c.getD i 0))) := by
    refine Lib.hid (fun i W hi hW => ?_)
    obtain ⟨ad, e, hm⟩ := mem1 hc (by omega)
    refine ⟨ad, e, ?_⟩
    have h1 := hm i _ (List.getElem?_eq_getElem hi)
    rw [List.getD_eq_getElem?_getD, List.getElem?_eq_getElem hi]
    exact (hW.cell h1.2).trans h1.1
  have HCF : Hid (∀ i, i < c.length → Fl (c.getD i 0)) := Lib.hid (fun i hi => by
    rw [List.getD_eq_getElem?_getD, List.getElem?_eq_getElem hi]; exact hfl _ (List.getElem_mem hi))
  have HBD : Hid (∀ i x, Pos s.length x → 0 ≤ works s.length (dist s) (c.take i) x ∧ works s.length (dist s) (c.take i) x ≤ 100000) := Lib.hid (fun i x hx => by
    have h9 := works_bd hk1 hs hk3 (c.take i) (dist s) 90 (fun y hy => hfl y (List.mem_of_mem_take hy)) (first_lip _ hs) (fun y hy => dist_bd hk3 hs hy) x hx
    have h8 : (c.take i).length ≤ 40 := by rw [List.length_take]; omega
    omega)
  have HNX : Hid (∀ i, i < c.length → nxt s.length (works s.length (dist s) (c.take i)) (c.getD i 0) = works s.length (dist s) (c.take (i + 1))) := Lib.hid (fun i hi => by
    rw [List.take_add_one, List.getElem?_eq_getElem hi, ← works_snoc]
    simp only [Option.toList]
    rw [List.getD_eq_getElem?_getD, List.getElem?_eq_getElem hi]
    rfl)
  have HLL : Hid (works s.length (dist s) (c.take c.length) t = works s.length (dist s) c t) := Lib.hid (by rw [List.take_length])
  obtain ⟨k, hn⟩ : ∃ n, s.length = n := ⟨_, rfl⟩
  obtain ⟨n, hm⟩ : ∃ m, c.length = m := ⟨_, rfl⟩
  obtain ⟨res, hres⟩ : ∃ r, works s.length (dist s) c t = r := ⟨_, rfl⟩
  rw [hres] at HLL ⊢
  rw [← hst, hn] at HSP
  rw [hn, hm] at HALL HLL
  rw [hm] at HCA HCF HNX h40
  rw [hn] at HBD HNX hk1 hk3 hs htp
  rw [← hst, hn, hm]
  have HS := Lib.hid hs
  have HES := Lib.hid es
  have HET := Lib.hid et
  have HTP := Lib.hid htp
  have HFI := Lib.hid (fun W : World => first_c hk1 hk3 s0 s1 s2 C n cc s hs es W)
  clear hres hn hm e0 e1 e2 es et hs htp hfl hp hcb hh hr hc hE ht hst
  go_enter Try.func24, Try.ntmps24
  go_upto_region 2 with (go_at_call 44; (with_reducible refine HALL.out.mono ?_); rintro e w2 ⟨rfl, hb⟩)
  have hB2 : Below w.heap.size w (w2.alloc (Obj.cells #[Value.int IntKind.i64 k, Value.int IntKind.i64 s0, Value.int IntKind.i64 s1, Value.int IntKind.i64 s2, Value.slice C n cc] 54)) := hb.alloc hb.size _
  have hH : HallAt w2.heap.size (k : Int) s0 s1 s2 (.slice C n cc) (w2.alloc (Obj.cells #[Value.int IntKind.i64 k, Value.int IntKind.i64 s0, Value.int IntKind.i64 s1, Value.int IntKind.i64 s2, Value.slice C n cc] 54)) := ⟨by simp [go_sem], by simp [go_sem], by simp [go_sem], by simp [go_sem], by simp [go_sem]⟩
  obtain ⟨T, hT⟩ : ∃ T, w2.heap.size = T := ⟨_, rfl⟩
  rw [hT] at hH ⊢
  generalize (w2.alloc (Obj.cells #[Value.int IntKind.i64 k, Value.int IntKind.i64 s0, Value.int IntKind.i64 s1, Value.int IntKind.i64 s2, Value.slice C n cc] 54)) = w3 at *
  have HB2 := Lib.hid hB2
  have HH := Lib.hid hH
  clear hb hT hB2 hH
  go_upto_region 3 with (go_at_call 45; (with_reducible refine (HSP.out _ HB2.out).mono ?_); rintro e w4 ⟨rfl, hb⟩)
  have hB4 : Below w.heap.size w (w4.alloc (Obj.cells #[Value.int IntKind.i64 t0, Value.int IntKind.i64 t1, Value.int IntKind.i64 t2] 52)) := (HB2.out.trans (hb.mono HB2.out.size)).alloc (by have := HB2.out.size; have := hb.size; omega) _
  have hS := SpotsAt.new w4 t0 t1 t2
  have hH4 := (HH.out.of (hb.block T HH.out.lt)).of ((World.grownBy_alloc w4 (Obj.cells #[Value.int IntKind.i64 t0, Value.int IntKind.i64 t1, Value.int IntKind.i64 t2] 52) none).block T (by have := HH.out.lt; have := hb.size; omega) (by simp))
  obtain ⟨U, hU⟩ : ∃ U, w4.heap.size = U := ⟨_, rfl⟩
  rw [hU] at hS ⊢
  generalize (w4.alloc (Obj.cells #[Value.int IntKind.i64 t0, Value.int IntKind.i64 t1, Value.int IntKind.i64 t2] 52)) = w5 at *
  have HB4 := Lib.hid hB4
  have HH4 := Lib.hid hH4
  have HS4 := Lib.hid hS
  obtain ⟨g0, g1, g2, g3, g4⟩ := hH4
  clear hb hU hB4 hS HB2 HH
  go_upto_region 6 with (go_at_call 52; (with_reducible refine (HFI.out _).mono ?_); rintro e w6 ⟨b0, rfl, hb0, hW6, hb6⟩)
  clear g0 g1 g2 g3 g4
  have HW6 := Lib.hid hW6
  have HB6 : Hid (Below w5.heap.size w5 w6) := Lib.hid hb6
  clear hW6 hb6 hb0
  go_wp2_with fail
  go_loopw [12, 43] (fun v12 v43 wr => ∃ (i b : Nat), v43 = .int .i64 (i : Int) ∧ v12 = .map (some b) ∧ i ≤ n ∧ Hid (Wk wr b k 29791 (works k (dist s) (c.take i)) (fun _ => True)) ∧ Hid (Below w5.heap.size w5 wr)) (fun _ v43 _ => n - (intOf v43).toNat)
  case atStart => exact ⟨0, b0, rfl, rfl, Nat.zero_le _, HW6, HB6⟩
  case round =>
    rename World => wr
    obtain ⟨i, b, rfl, rfl, hi, HWr, HBr⟩ := hrel
    clear HW6 HB6
    by_cases hlt : i < n
    · have hlt' : (i : Int) < (n : Int) := by omega
      have hi0 : (0 : Int) ≤ (i : Int) := by omega
      obtain ⟨ad, rfl, hca⟩ := HCA.out i wr hlt (HB4.out.trans (HBr.out.mono HB4.out.size))
      obtain ⟨f, hf⟩ : ∃ f, c.getD i 0 = f := ⟨_, rfl⟩
      rw [hf] at hca
      have HAF := Lib.hid (fun W hW => after_c hk1 hk3 s0 s1 s2 (some ad) n cc b (works k (dist s) (c.take i)) f (by rw [← hf]; exact HCF.out i hlt) (HBD.out i) (N := 29791) (by omega) W hW)
      have HNF : Hid (nxt k (works k (dist s) (c.take i)) f = works k (dist s) (c.take (i + 1))) := Lib.hid (by rw [← hf]; exact HNX.out i hlt)
      obtain ⟨g0, g1, g2, g3, g4⟩ := HH4.out.of (HBr.out.block T HH4.out.lt)
      clear hf
      go_wp2_with (go_at_call 53; (with_reducible refine (HAF.out _ HWr.out).mono ?_); rintro e w7 ⟨b7, rfl, hb7, hW7, hB7⟩)
      rw [HNF.out] at hW7
      exact ⟨⟨i + 1, b7, by go_num, rfl, by omega, Lib.hid hW7, Lib.hid (HBr.out.trans (hB7.mono HBr.out.size))⟩, by simp [intOf]; omega⟩
    · obtain rfl : i = n := by omega
      have hge : ¬ (i : Int) < (i : Int) := by omega
      obtain ⟨q0, q1, q2, _, _, _, _⟩ := HS4.out.of (HBr.out.block U HS4.out.lt)
      have hl := HWr.out.look HTP.out trivial
      rw [HET.out, HLL.out] at hl
      go_wp2_with fail
      go_ret2
      exact ⟨rfl, HB4.out.trans (HBr.out.mono HB4.out.size)⟩
set_option maxHeartbeats 8000000 in
set_option maxRecDepth 100000 in
theorem Work_no (A : Option Addr) (ca : Nat) (s : List Int) (C : Option Addr) (cc : Nat) (c : List Int) (E : Option Addr) (ce : Nat) (t : List Int) (w : World) (hr : Kd.C (Kd.int .i64) w A s.length s) (hc : Kd.C (Kd.int .i64) w C c.length c) (hE : Kd.C (Kd.int .i64) w E t.length t) (hh : (hallB s c && (posB t && decide (s.length = t.length))) = false) :
    Calls Try.prog 24 #[.slice A s.length ca, .slice C c.length cc, .slice E t.length ce] w fun e w' => e = .returned (.tuple #[.int .i64 0, .int .i64 2]) ∧ Below w.heap.size w w' := by
  have hall := hall_c A ca s C cc c w hr hc
  obtain ⟨X, hX⟩ : ∃ X, X = hallB s c := ⟨_, rfl⟩
  obtain ⟨Y, hY⟩ : ∃ Y, Y = posB t := ⟨_, rfl⟩
  have HSP : Hid (∀ W, Below w.heap.size w W → Calls Try.prog 45 #[.slice E t.length ce] W fun e w' => ∃ t0 t1 t2, e = .returned (.tuple #[sv t0 t1 t2, .bool Y]) ∧ Below W.heap.size W w') := by
    refine Lib.hid (fun W hW => (spots_c E ce t W (Kd.C_below hE hW)).mono ?_)
    rintro e w' ⟨rfl, hb⟩
    rw [← hY]
    cases Y
    · exact ⟨_, _, _, rfl, hb⟩
    · exact ⟨_, _, _, rfl, hb⟩
  rw [← hX, ← hY] at hh
  obtain ⟨n, hn⟩ : ∃ n, s.length = n := ⟨_, rfl⟩
  obtain ⟨m, hm⟩ : ∃ m, c.length = m := ⟨_, rfl⟩
  obtain ⟨q, hq⟩ : ∃ m, t.length = m := ⟨_, rfl⟩
  have HALL : Hid (Calls Try.prog 44 #[.slice A n ca, .slice C m cc] w fun e w' => ∃ k s0 s1 s2 Ac nc zc, e = .returned (.tuple #[hv k s0 s1 s2 (.slice Ac nc zc), .bool X]) ∧ Below w.heap.size w w') := by
    rw [← hn, ← hm]
    refine Lib.hid (hall.mono ?_)
    rintro e w' ⟨rfl, hb⟩
    rw [← hX]
    cases X
    · exact ⟨_, _, _, _, _, _, _, rfl, hb⟩
    · exact ⟨_, _, _, _, _, _, _, rfl, hb⟩
  rw [hn, hq] at hh
  rw [hq] at HSP
  rw [hn, hm, hq]
  clear hall hr hc hE hn hm hq hX hY
  have fin : ∀ (k s0 s1 s2 : Int) (cv : Value) (t0 t1 t2 : Int) (w2 w4 : World), Below w.heap.size w w2 → Below (w2.alloc (Obj.cells #[Value.int IntKind.i64 k, Value.int IntKind.i64 s0, Value.int IntKind.i64 s1, Value.int IntKind.i64 s2, cv] 54)).heap.size (w2.alloc (Obj.cells #[Value.int IntKind.i64 k, Value.int IntKind.i64 s0, Value.int IntKind.i64 s1, Value.int IntKind.i64 s2, cv] 54)) w4 →
      Below w.heap.size w (w4.alloc (Obj.cells #[Value.int IntKind.i64 t0, Value.int IntKind.i64 t1, Value.int IntKind.i64 t2] 52)) := fun k s0 s1 s2 cv t0 t1 t2 w2 w4 h2 h4 => by
    have h3 := h2.alloc h2.size (Obj.cells #[Value.int IntKind.i64 k, Value.int IntKind.i64 s0, Value.int IntKind.i64 s1, Value.int IntKind.i64 s2, cv] 54)
    have h5 := h3.trans (h4.mono h3.size)
    exact h5.alloc h5.size _
  have HFN := Lib.hid fin
  clear fin
  cases X with
  | false =>
    clear hh
    go_enter Try.func24, Try.ntmps24
    go_upto_region 2 with (go_at_call 44; (with_reducible refine HALL.out.mono ?_); rintro e w2 ⟨k, s0, s1, s2, Ac, nc, zc, rfl, hb⟩)
    have HB := Lib.hid hb
    have h3 := hb.alloc hb.size (Obj.cells #[Value.int IntKind.i64 k, Value.int IntKind.i64 s0, Value.int IntKind.i64 s1, Value.int IntKind.i64 s2, .slice Ac nc zc] 54)
    have HSQ := Lib.hid (HSP.out _ h3)
    clear hb h3
    go_wp2_with (go_at_call 45; (with_reducible refine HSQ.out.mono ?_); rintro e w4 ⟨t0, t1, t2, rfl, hb4⟩)
    go_ret2
    exact ⟨rfl, HFN.out _ _ _ _ _ _ _ _ _ _ HB.out hb4⟩
  | true =>
    cases Y with
    | false =>
      clear hh
      go_enter Try.func24, Try.ntmps24
      go_upto_region 2 with (go_at_call 44; (with_reducible refine HALL.out.mono ?_); rintro e w2 ⟨k, s0, s1, s2, Ac, nc, zc, rfl, hb⟩)
      have HB := Lib.hid hb
      have h3 := hb.alloc hb.size (Obj.cells #[Value.int IntKind.i64 k, Value.int IntKind.i64 s0, Value.int IntKind.i64 s1, Value.int IntKind.i64 s2, .slice Ac nc zc] 54)
      have HSQ := Lib.hid (HSP.out _ h3)
      clear hb h3
      go_wp2_with (go_at_call 45; (with_reducible refine HSQ.out.mono ?_); rintro e w4 ⟨t0, t1, t2, rfl, hb4⟩)
      go_ret2
      exact ⟨rfl, HFN.out _ _ _ _ _ _ _ _ _ _ HB.out hb4⟩
    | true =>
      have hne : ((n : Int) != (q : Int)) = true := by
        simp only [Bool.true_and, decide_eq_false_iff_not] at hh
        simp only [bne_iff_ne, ne_eq]; omega
      have hne2 : ((n : Int) == (q : Int)) = false := by
        simp only [Bool.true_and, decide_eq_false_iff_not] at hh
        simp only [beq_eq_false_iff_ne, ne_eq]; omega
      have hne3 : ¬ n = q := by
        simpa using hh
      clear hh
      go_enter Try.func24, Try.ntmps24
      go_upto_region 2 with (go_at_call 44; (with_reducible refine HALL.out.mono ?_); rintro e w2 ⟨k, s0, s1, s2, Ac, nc, zc, rfl, hb⟩)
      have HB := Lib.hid hb
      have h3 := hb.alloc hb.size (Obj.cells #[Value.int IntKind.i64 k, Value.int IntKind.i64 s0, Value.int IntKind.i64 s1, Value.int IntKind.i64 s2, .slice Ac nc zc] 54)
      have HSQ := Lib.hid (HSP.out _ h3)
      clear hb h3
      go_wp2_with (go_at_call 45; (with_reducible refine HSQ.out.mono ?_); rintro e w4 ⟨t0, t1, t2, rfl, hb4⟩)
      go_ret2
      exact ⟨rfl, HFN.out _ _ _ _ _ _ _ _ _ _ HB.out hb4⟩
end Go.Proofs.Ytakbijpcfnipoaa.A
namespace Go.Proofs.Ytakbijpcfnipoaa.PA
open Go.RowKit Go.Proofs.YtakbijpcfnipoaaW.PrintWords Go.Proofs.YtakbijpcfnipoaaW.PrintLast Go.Proofs.YtakbijpcfnipoaaW.PrintMore
open Go.Proofs.Ytakbijpcfnipoaa.A Go.Proofs.Ytakbijpcfnipoaa.Lf
def lifts_Work.f (l0 : List Int) (l1 : List Int) (l2 : List Int) : Option (Int × Int) := if hallB l0 l1 && (posB l2 && decide (l0.length = l2.length)) then some (works l0.length (dist l0) l1 l2, 0) else some (0, 2)
theorem lifts_Work.calls (A0 : Option Addr) (c0 : Nat) (l0 : List Int) (A1 : Option Addr) (c1 : Nat) (l1 : List Int) (A2 : Option Addr) (c2 : Nat) (l2 : List Int) (r1 : Int) (r2 : Int) (w : World) (hr0 : Kd.C (Kd.int .i64) w A0 l0.length l0) (_hc0 : l0.length ≤ c0) (hr1 : Kd.C (Kd.int .i64) w A1 l1.length l1) (_hc1 : l1.length ≤ c1) (hr2 : Kd.C (Kd.int .i64) w A2 l2.length l2) (_hc2 : l2.length ≤ c2) (h : lifts_Work.f l0 l1 l2 = some (r1, r2)) :
    Calls Try.prog 24 #[.slice A0 l0.length c0, .slice A1 l1.length c1, .slice A2 l2.length c2] w fun e w' => e = .returned (.tuple #[.int .i64 r1, .int .i64 r2]) ∧ Below w.heap.size w w' := by
  unfold lifts_Work.f at h
  cases hh : (hallB l0 l1 && (posB l2 && decide (l0.length = l2.length))) with
  | false =>
    rw [hh] at h
    simp only [Bool.false_eq_true, if_false, Option.some.injEq, Prod.mk.injEq] at h
    obtain ⟨rfl, rfl⟩ := h
    exact Work_no A0 c0 l0 A1 c1 l1 A2 c2 l2 w hr0 hr1 hr2 hh
  | true =>
    rw [hh] at h
    simp only [if_true, Option.some.injEq, Prod.mk.injEq] at h
    obtain ⟨rfl, rfl⟩ := h
    simp only [Bool.and_eq_true, decide_eq_true_eq] at hh
    exact Work_c A0 c0 l0 A1 c1 l1 A2 c2 l2 w hr0 hr1 hr2 hh.1 hh.2.1 hh.2.2
end Go.Proofs.Ytakbijpcfnipoaa.PA

set_option linter.unusedVariables false
set_option linter.unusedSimpArgs false
namespace Go.Proofs.Ytakbijpcfnipoaa.A
open Go.RowKit Go.Proofs.YtakbijpcfnipoaaW.PrintWords Go.Proofs.YtakbijpcfnipoaaW.PrintLast Go.Proofs.YtakbijpcfnipoaaW.PrintMore
open Go.Proofs.Ytakbijpcfnipoaa.PA Go.Proofs.Ytakbijpcfnipoaa.Lf
theorem enters57 : Enters 57 := enters_mk Try.func57 (by kernel_rfl) rfl
set_option maxHeartbeats 8000000 in
set_option maxRecDepth 100000 in
theorem Careful_c (A : Option Addr) (ca : Nat) (s : List Int) (C : Option Addr) (cc : Nat) (c : List Int) (w : World) (hr : Kd.C (Kd.int .i64) w A s.length s) (hc : Kd.C (Kd.int .i64) w C c.length c) (hh : hallB s c = true) :
    Calls Try.prog 34 #[.slice A s.length ca, .slice C c.length cc] w fun e w' => ∃ v, e = .returned (.tuple #[v, .int .i64 (cost s (runL Lf.serve s c)), .int .i64 0]) ∧ Kd.S (Kd.slice 3 (Kd.int .i64)) 22 w' w.heap.size (fun _ => True) v (runL Lf.serve s c) ∧ Below w.heap.size w w' := by
  obtain ⟨hp, hcb⟩ : posB s = true ∧ callB c = true := by simpa [hallB] using hh
  obtain ⟨hk1, hk3, hs⟩ := posB_iff.1 hp
  obtain ⟨h40, hfl⟩ := callB_iff.1 hcb
  have hst : ∀ s' f, Pos s.length s' → Fl f → Pos s.length (Lf.serve s' f) := fun s' f hs hf => (serve_pos hk1 hk3 hs hf.1 hf.2).1
  have hpos := run_pos hst hs hfl
  have HALL := Lib.hid (hall_c A ca s C cc c w hr hc)
  rw [hh] at HALL
  simp only [if_true] at HALL
  obtain ⟨s0, e0⟩ : ∃ x, s.getD 0 0 = x := ⟨_, rfl⟩
  obtain ⟨s1, e1⟩ : ∃ x, s.getD 1 0 = x := ⟨_, rfl⟩
  obtain ⟨s2, e2⟩ : ∃ x, s.getD 2 0 = x := ⟨_, rfl⟩
  have hp0 : pad (pth Lf.serve s c 0) = sv s0 s1 s2 := by rw [← e0, ← e1, ← e2]; rfl
  rw [e0, e1, e2] at HALL
  have HS : Hid (∀ W, Below w.heap.size w W → Calls Try.prog 56 #[hv (s.length : Int) s0 s1 s2 (.slice C c.length cc), .func (.func 57) #[hv (s.length : Int) s0 s1 s2 (.slice C c.length cc)] #[]] W fun e w' => ∃ v, e = .returned (.tuple #[v, .int .i64 (cost s (runL Lf.serve s c))]) ∧ Kd.S (Kd.slice 3 (Kd.int .i64)) 22 w' W.heap.size (fun _ => True) v (runL Lf.serve s c) ∧ Below W.heap.size W w') := by
    refine Lib.hid (fun W hW => ?_)
    have h := sched_c hk1 hk3 s0 s1 s2 C c.length cc h40 (pth Lf.serve s c) (fun i _ => hpos i) hp0 (fun i => c.getD i 0)
      (fun i hi => by rw [List.getD_eq_getElem?_getD, List.getElem?_eq_getElem hi]; exact hfl _ (List.getElem_mem hi))
      57 #[hv (s.length : Int) s0 s1 s2 (.slice C c.length cc)] #[] enters57 none (fun _ _ => True) W ?hca ?hse (fun b hb => by cases hb) (fun _ _ _ _ _ _ _ => trivial) trivial
    case hca =>
      intro h0
      obtain ⟨ad, e, hm⟩ := mem1 hc h0
      refine ⟨ad, e, fun i X hi hX => ?_⟩
      have h1 := hm i _ (List.getElem?_eq_getElem hi)
      have h2 : (W.cell? (ad.add i)) = some (.int .i64 c[i]) := (hW.cell h1.2).trans h1.1
      show X.cell? (ad.add i) = some (.int .i64 (c.getD i 0))
      rw [List.getD_eq_getElem?_getD, List.getElem?_eq_getElem hi]
      exact hX.cell h2 (by simp)
    case hse =>
      intro i X hi hX _
      rw [pth_succ Lf.serve s hi]
      have hf : Fl (c.getD i 0) := by rw [List.getD_eq_getElem?_getD, List.getElem?_eq_getElem hi]; exact hfl _ (List.getElem_mem hi)
      exact (careful_c hk1 hk3 s0 s1 s2 C c.length cc (hpos i) (c.getD i 0) hf X).mono fun e w' ⟨he, hb⟩ => ⟨he, grown_of hb, trivial⟩
    refine Calls.mono h ?_
    rintro e w' ⟨v, rfl, hS, hG, _⟩
    rw [outs_pth] at hS
    rw [costs_pth]
    exact ⟨v, rfl, hS, ⟨hG.os, hG.tape, hG.output, hG.size, fun k hk => hG.block k hk (by simp)⟩⟩
  obtain ⟨n, hn⟩ : ∃ n, s.length = n := ⟨_, rfl⟩
  obtain ⟨m, hm⟩ : ∃ m, c.length = m := ⟨_, rfl⟩
  obtain ⟨R, hR⟩ : ∃ R, runL Lf.serve s c = R := ⟨_, rfl⟩
  obtain ⟨q, hq⟩ : ∃ q, cost s R = q := ⟨_, rfl⟩
  rw [hR, hq, hn, hm] at HS
  rw [hn, hm] at HALL
  rw [hR, hq, hn, hm]
  clear hR hq hn hm hst hpos hp0 e0 e1 e2 hs hfl h40 hk1 hk3 hp hcb hh hr hc
  go_enter Try.func34, Try.ntmps34
  go_upto_region 2 with (go_at_call 44; (with_reducible refine HALL.out.mono ?_); rintro e w2 ⟨rfl, hb⟩)
  have hB2 : Below w.heap.size w (w2.alloc (Obj.cells #[Value.int IntKind.i64 n, Value.int IntKind.i64 s0, Value.int IntKind.i64 s1, Value.int IntKind.i64 s2, Value.slice C m cc] 54)) := hb.alloc hb.size _
  have c0 : (w2.alloc (Obj.cells #[Value.int IntKind.i64 n, Value.int IntKind.i64 s0, Value.int IntKind.i64 s1, Value.int IntKind.i64 s2, Value.slice C m cc] 54)).cell? ⟨w2.heap.size, 0, none⟩ = some (.int .i64 n) := by simp [go_sem]
  have c1 : (w2.alloc (Obj.cells #[Value.int IntKind.i64 n, Value.int IntKind.i64 s0, Value.int IntKind.i64 s1, Value.int IntKind.i64 s2, Value.slice C m cc] 54)).cell? ⟨w2.heap.size, 1, none⟩ = some (.int .i64 s0) := by simp [go_sem]
  have c2 : (w2.alloc (Obj.cells #[Value.int IntKind.i64 n, Value.int IntKind.i64 s0, Value.int IntKind.i64 s1, Value.int IntKind.i64 s2, Value.slice C m cc] 54)).cell? ⟨w2.heap.size, 2, none⟩ = some (.int .i64 s1) := by simp [go_sem]
  have c3 : (w2.alloc (Obj.cells #[Value.int IntKind.i64 n, Value.int IntKind.i64 s0, Value.int IntKind.i64 s1, Value.int IntKind.i64 s2, Value.slice C m cc] 54)).cell? ⟨w2.heap.size, 3, none⟩ = some (.int .i64 s2) := by simp [go_sem]
  have c4 : (w2.alloc (Obj.cells #[Value.int IntKind.i64 n, Value.int IntKind.i64 s0, Value.int IntKind.i64 s1, Value.int IntKind.i64 s2, Value.slice C m cc] 54)).cell? ⟨w2.heap.size, 4, none⟩ = some (.slice C m cc) := by simp [go_sem]
  obtain ⟨T, hT⟩ : ∃ T, w2.heap.size = T := ⟨_, rfl⟩
  rw [hT] at c0 c1 c2 c3 c4 ⊢
  generalize (w2.alloc (Obj.cells #[Value.int IntKind.i64 n, Value.int IntKind.i64 s0, Value.int IntKind.i64 s1, Value.int IntKind.i64 s2, Value.slice C m cc] 54)) = w3 at *
  have HB2 := Lib.hid hB2
  clear hb hT hB2
  go_wp2_with (go_at_call 56; (with_reducible refine (HS.out _ HB2.out).mono ?_); rintro e w4 ⟨v, rfl, hSv, hb4⟩)
  go_ret3
  exact ⟨v, rfl, Kd.S_lower hSv HB2.out.size, HB2.out.trans (hb4.mono HB2.out.size)⟩
set_option maxHeartbeats 8000000 in
set_option maxRecDepth 100000 in
theorem Careful_no (A : Option Addr) (ca : Nat) (s : List Int) (C : Option Addr) (cc : Nat) (c : List Int) (w : World) (hr : Kd.C (Kd.int .i64) w A s.length s) (hc : Kd.C (Kd.int .i64) w C c.length c) (hh : hallB s c = false) :
    Calls Try.prog 34 #[.slice A s.length ca, .slice C c.length cc] w fun e w' => e = .returned (.tuple #[.slice none 0 0, .int .i64 0, .int .i64 2]) ∧ Below w.heap.size w w' := by
  have HALL := Lib.hid (hall_c A ca s C cc c w hr hc)
  rw [hh] at HALL
  simp only [Bool.false_eq_true, if_false] at HALL
  clear hr hc hh
  go_enter Try.func34, Try.ntmps34
  go_wp2_with (go_at_call 44; (with_reducible refine HALL.out.mono ?_); rintro e w2 ⟨rfl, hb⟩)
  go_ret3
  exact ⟨rfl, hb.alloc hb.size _⟩
end Go.Proofs.Ytakbijpcfnipoaa.A
namespace Go.Proofs.Ytakbijpcfnipoaa.PA
open Go.RowKit Go.Proofs.YtakbijpcfnipoaaW.PrintWords Go.Proofs.YtakbijpcfnipoaaW.PrintLast Go.Proofs.YtakbijpcfnipoaaW.PrintMore
open Go.Proofs.Ytakbijpcfnipoaa.A Go.Proofs.Ytakbijpcfnipoaa.Lf
def lifts_Careful.f (l0 : List Int) (l1 : List Int) : Option ((List (List Int)) × Int × Int) := if hallB l0 l1 then some (runL Lf.serve l0 l1, cost l0 (runL Lf.serve l0 l1), 0) else some ([], 0, 2)
theorem lifts_Careful.calls (A0 : Option Addr) (c0 : Nat) (l0 : List Int) (A1 : Option Addr) (c1 : Nat) (l1 : List Int) (r1 : List (List Int)) (r2 : Int) (r3 : Int) (w : World) (hr0 : Kd.C (Kd.int .i64) w A0 l0.length l0) (_hc0 : l0.length ≤ c0) (hr1 : Kd.C (Kd.int .i64) w A1 l1.length l1) (_hc1 : l1.length ≤ c1) (h : lifts_Careful.f l0 l1 = some (r1, r2, r3)) :
    Calls Try.prog 34 #[.slice A0 l0.length c0, .slice A1 l1.length c1] w fun e w' => ∃ v0_ : Value, e = .returned (.tuple #[v0_, .int .i64 r2, .int .i64 r3]) ∧ Kd.S (Kd.slice 3 (Kd.int .i64)) 22 w' w.heap.size (fun _ => True) v0_ r1 ∧ Below w.heap.size w w' := by
  unfold lifts_Careful.f at h
  cases hh : hallB l0 l1 with
  | false =>
    rw [hh] at h
    simp only [Bool.false_eq_true, if_false, Option.some.injEq, Prod.mk.injEq] at h
    obtain ⟨rfl, rfl, rfl⟩ := h
    exact (Careful_no A0 c0 l0 A1 c1 l1 w hr0 hr1 hh).mono fun e w' ⟨he, hb⟩ => ⟨_, he, Kd.S_nil _ _ _ _ _, hb⟩
  | true =>
    rw [hh] at h
    simp only [if_true, Option.some.injEq, Prod.mk.injEq] at h
    obtain ⟨rfl, rfl, rfl⟩ := h
    exact Careful_c A0 c0 l0 A1 c1 l1 w hr0 hr1 hh
end Go.Proofs.Ytakbijpcfnipoaa.PA

set_option linter.unusedVariables false
set_option linter.unusedSimpArgs false
namespace Go.Proofs.Ytakbijpcfnipoaa.A
open Go.RowKit Go.Proofs.YtakbijpcfnipoaaW.PrintWords Go.Proofs.YtakbijpcfnipoaaW.PrintLast Go.Proofs.YtakbijpcfnipoaaW.PrintMore
open Go.Proofs.Ytakbijpcfnipoaa.PA Go.Proofs.Ytakbijpcfnipoaa.Lf
theorem ret_two {a b : Int} (h : a = b) : Ending.returned (.tuple #[.int .i64 a, .int .i64 0]) = .returned (.tuple #[.int .i64 b, .int .i64 0]) := by rw [h]
set_option maxHeartbeats 8000000 in
set_option maxRecDepth 100000 in
theorem Pot_no (A : Option Addr) (ca : Nat) (a : List Int) (C : Option Addr) (cc : Nat) (b : List Int) (w : World) (hr : Kd.C (Kd.int .i64) w A a.length a) (hc : Kd.C (Kd.int .i64) w C b.length b) (hh : (posB a && (posB b && decide (a.length = b.length))) = false) :
    Calls Try.prog 28 #[.slice A a.length ca, .slice C b.length cc] w fun e w' => e = .returned (.tuple #[.int .i64 0, .int .i64 2]) ∧ Below w.heap.size w w' := by
  have H1 := Lib.hid (spots_c A ca a w hr)
  have H2 : Hid (∀ W, Below w.heap.size w W → Calls Try.prog 45 #[.slice C b.length cc] W fun e w' => e = .returned (.tuple #[if posB b then pad b else sv 0 0 0, .bool (posB b)]) ∧ Below W.heap.size W w') := Lib.hid (fun W hW => spots_c C cc b W (Kd.C_below hc hW))
  unfold pad at H1 H2
  obtain ⟨x0, hx0⟩ : ∃ x, a.getD 0 0 = x := ⟨_, rfl⟩
  obtain ⟨x1, hx1⟩ : ∃ x, a.getD 1 0 = x := ⟨_, rfl⟩
  obtain ⟨x2, hx2⟩ : ∃ x, a.getD 2 0 = x := ⟨_, rfl⟩
  obtain ⟨y0, hy0⟩ : ∃ x, b.getD 0 0 = x := ⟨_, rfl⟩
  obtain ⟨y1, hy1⟩ : ∃ x, b.getD 1 0 = x := ⟨_, rfl⟩
  obtain ⟨y2, hy2⟩ : ∃ x, b.getD 2 0 = x := ⟨_, rfl⟩
  obtain ⟨n, hn⟩ : ∃ x, a.length = x := ⟨_, rfl⟩
  obtain ⟨m, hm⟩ : ∃ x, b.length = x := ⟨_, rfl⟩
  obtain ⟨p, hp⟩ : ∃ x, posB a = x := ⟨_, rfl⟩
  obtain ⟨q, hq⟩ : ∃ x, posB b = x := ⟨_, rfl⟩
  rw [hx0, hx1, hx2, hn, hp] at H1
  rw [hy0, hy1, hy2, hm, hq] at H2
  rw [hp, hq, hn, hm] at hh
  rw [hn, hm]
  clear hx0 hx1 hx2 hy0 hy1 hy2 hn hm hp hq hr hc
  cases p
  · cases q
    all_goals
      go_enter Try.func28, Try.ntmps28
      go_upto_region 2 with (go_at_call 45; (with_reducible refine H1.out.mono ?_); rintro e w2 ⟨rfl, hb⟩)
      have hb2 := hb.alloc hb.size (Obj.cells #[Value.int IntKind.i64 0, Value.int IntKind.i64 0, Value.int IntKind.i64 0] 52)
      go_upto_region 3 with (go_at_call 45; (with_reducible refine (H2.out _ hb2).mono ?_); rintro e w3 ⟨rfl, hb3⟩)
      go_wp2_with fail
      go_ret2
      exact ⟨rfl, (hb2.trans (hb3.mono hb2.size)).alloc (Nat.le_trans hb2.size hb3.size) _⟩
  · cases q
    · go_enter Try.func28, Try.ntmps28
      go_upto_region 2 with (go_at_call 45; (with_reducible refine H1.out.mono ?_); rintro e w2 ⟨rfl, hb⟩)
      have hb2 := hb.alloc hb.size (Obj.cells #[Value.int IntKind.i64 x0, Value.int IntKind.i64 x1, Value.int IntKind.i64 x2] 52)
      go_upto_region 3 with (go_at_call 45; (with_reducible refine (H2.out _ hb2).mono ?_); rintro e w3 ⟨rfl, hb3⟩)
      go_wp2_with fail
      go_ret2
      exact ⟨rfl, (hb2.trans (hb3.mono hb2.size)).alloc (Nat.le_trans hb2.size hb3.size) _⟩
    · have hne : ¬ ((n : Int) = (m : Int)) := by simp at hh; omega
      clear hh
      go_enter Try.func28, Try.ntmps28
      go_upto_region 2 with (go_at_call 45; (with_reducible refine H1.out.mono ?_); rintro e w2 ⟨rfl, hb⟩)
      have hb2 := hb.alloc hb.size (Obj.cells #[Value.int IntKind.i64 x0, Value.int IntKind.i64 x1, Value.int IntKind.i64 x2] 52)
      go_upto_region 3 with (go_at_call 45; (with_reducible refine (H2.out _ hb2).mono ?_); rintro e w3 ⟨rfl, hb3⟩)
      go_wp2_with fail
      go_ret2
      exact ⟨rfl, (hb2.trans (hb3.mono hb2.size)).alloc (Nat.le_trans hb2.size hb3.size) _⟩
set_option maxHeartbeats 8000000 in
set_option maxRecDepth 100000 in
theorem Pot1 (A : Option Addr) (ca : Nat) (x0 : Int) (C : Option Addr) (cc : Nat) (y0 : Int) (w : World) (hr : Kd.C (Kd.int .i64) w A 1 [x0]) (hc : Kd.C (Kd.int .i64) w C 1 [y0]) (hp : Pos 1 [x0]) (hq : Pos 1 [y0]) (hcap : 1 ≤ ca) :
    Calls Try.prog 28 #[.slice A 1 ca, .slice C 1 cc] w fun e w' => e = .returned (.tuple #[.int .i64 (phi 1 [x0] [y0]), .int .i64 0]) ∧ Below w.heap.size w w' := by
  obtain ⟨ad, rfl, HM⟩ := mem1 (l := [x0]) hr (by simp)
  have hpa : posB [x0] = true := posB_iff.2 ⟨by simp, by simp, hp⟩
  have hpb : posB [y0] = true := posB_iff.2 ⟨by simp, by simp, hq⟩
  have H1 : Hid (Calls Try.prog 45 #[.slice (some ad) 1 ca] w fun e w' => e = .returned (.tuple #[sv x0 0 0, .bool true]) ∧ Below w.heap.size w w') := by
    have := spots_c (some ad) ca [x0] w hr
    rw [hpa] at this
    exact Lib.hid this
  have H2 : Hid (∀ W, Below w.heap.size w W → Calls Try.prog 45 #[.slice C 1 cc] W fun e w' => e = .returned (.tuple #[sv y0 0 0, .bool true]) ∧ Below W.heap.size W w') := Lib.hid (fun W hW => by
    have := spots_c C cc [y0] W (Kd.C_below hc hW)
    rw [hpb] at this
    exact this)
  obtain ⟨d, hd⟩ : ∃ d, dist [x0] [y0] = d := ⟨_, rfl⟩
  have hdb := dist_bd (by omega) hp hq
  rw [hd] at hdb
  have HD : Hid (∀ W, Calls Try.prog 48 #[hv 1 0 0 0 (.slice none 0 0), sv x0 0 0, sv y0 0 0] W fun e w' => e = .returned (.int .i64 d) ∧ Below W.heap.size W w') := Lib.hid (fun W => by
    have := dist_pad (k := 1) (by omega) (by omega) 0 0 0 none 0 0 hp hq W
    rw [hd] at this
    exact this)
  have HV : Hid (phi 1 [x0] [y0] = 1 * d + 0) := Lib.hid (by
    have e9 : invs [x0] = 0 := rfl
    unfold phi
    rw [hd, e9]
    rfl)
  have HRN : Hid (Fl x0) := Lib.hid (by
    have hx := hp.rng
    simp only [List.mem_cons, List.not_mem_nil, or_false, forall_eq_or_imp, forall_eq] at hx
    omega)
  have HDB := Lib.hid hdb
  obtain ⟨B, hB⟩ : ∃ B, w.heap.size = B := ⟨_, rfl⟩
  clear hpa hpb hd hdb hr hc hp hq
  go_enter Try.func28, Try.ntmps28
  go_upto_region 2 with (go_at_call 45; (with_reducible refine H1.out.mono ?_); rintro e w2 ⟨rfl, hb⟩)
  have hb2 := hb.alloc hb.size (Obj.cells #[Value.int IntKind.i64 x0, Value.int IntKind.i64 0, Value.int IntKind.i64 0] 52)
  have hS2 := SpotsAt.new w2 x0 0 0
  obtain ⟨T, hT⟩ : ∃ T, w2.heap.size = T := ⟨_, rfl⟩
  rw [hT] at hS2 ⊢
  generalize (w2.alloc (Obj.cells #[Value.int IntKind.i64 x0, Value.int IntKind.i64 0, Value.int IntKind.i64 0] 52)) = w3 at *
  go_upto_region 3 with (go_at_call 45; (with_reducible refine (H2.out _ hb2).mono ?_); rintro e w4 ⟨rfl, hb4⟩)
  have hS4 := (hS2.of (hb4.block T hS2.lt)).of ((World.grownBy_alloc w4 (Obj.cells #[Value.int IntKind.i64 y0, Value.int IntKind.i64 0, Value.int IntKind.i64 0] 52) none).block T (by have := hS2.lt; have := hb4.size; omega) (by simp))
  have hR4 := SpotsAt.new w4 y0 0 0
  have hb5 := (hb2.trans (hb4.mono hb2.size)).alloc (Nat.le_trans hb2.size hb4.size) (Obj.cells #[Value.int IntKind.i64 y0, Value.int IntKind.i64 0, Value.int IntKind.i64 0] 52)
  obtain ⟨U, hU⟩ : ∃ U, w4.heap.size = U := ⟨_, rfl⟩
  rw [hU] at hR4 ⊢
  generalize (w4.alloc (Obj.cells #[Value.int IntKind.i64 y0, Value.int IntKind.i64 0, Value.int IntKind.i64 0] 52)) = w5 at *
  go_upto_region 6 with fail
  have hg5 : w5.grownBy (w5.alloc (Obj.cells #[Value.int IntKind.i64 1, Value.int IntKind.i64 0, Value.int IntKind.i64 0, Value.int IntKind.i64 0, Value.slice none 0 0] 54)) none := World.grownBy_alloc _ _ _
  have hS6 := hS4.of (hg5.block T hS4.lt (by simp))
  have hR6 := hR4.of (hg5.block U hR4.lt (by simp))
  have hb6 := hb5.alloc hb5.size (Obj.cells #[Value.int IntKind.i64 1, Value.int IntKind.i64 0, Value.int IntKind.i64 0, Value.int IntKind.i64 0, Value.slice none 0 0] 54)
  have hH6 : HallAt w5.heap.size 1 0 0 0 (.slice none 0 0) (w5.alloc (Obj.cells #[Value.int IntKind.i64 1, Value.int IntKind.i64 0, Value.int IntKind.i64 0, Value.int IntKind.i64 0, Value.slice none 0 0] 54)) := ⟨by simp [go_sem], by simp [go_sem], by simp [go_sem], by simp [go_sem], by simp [go_sem]⟩
  obtain ⟨V, hV⟩ : ∃ V, w5.heap.size = V := ⟨_, rfl⟩
  rw [hV] at hH6 ⊢
  generalize (w5.alloc (Obj.cells #[Value.int IntKind.i64 1, Value.int IntKind.i64 0, Value.int IntKind.i64 0, Value.int IntKind.i64 0, Value.slice none 0 0] 54)) = w6 at *
  have HX : Hid (∀ w', Below w6.heap.size w6 w' → HallAt V 1 0 0 0 (.slice none 0 0) w' ∧ SpotsAt T x0 0 0 w' ∧ SpotsAt U y0 0 0 w') := Lib.hid (fun w' h => ⟨hH6.of (h.block V hH6.lt), hS6.of (h.block T hS6.lt), hR6.of (h.block U hR6.lt)⟩)
  have HB6 := Lib.hid hb6
  clear hb hb2 hS2 hT hb4 hS4 hR4 hb5 hU hg5 hS6 hR6 hb6 hH6 hV H1 H2
  apply R.wp_region_text [0, 1, 2, 3, 4] [5, 6, 7] 7 (fun w' => Below w6.heap.size w6 w')
  case hm => kernel_rfl
  case hB => kernel_rfl
  case hd => rfl
  case hQ => exact fun _ _ _ _ _ h => h
  case hS => exact (Below.refl _ _).drew
  case hF =>
    intro w' hS
    obtain ⟨⟨z0, z1, z2, z3, z4⟩, ⟨u0, u1, u2, _, _, _, _⟩, ⟨v0, v1, v2, _, _, _, _⟩⟩ := HX.out w' hS
    clear hS
    simp only [R.pickC, List.filterMap_cons, List.getElem?_toArray, List.getElem?_cons_zero, List.getElem?_cons_succ, List.filterMap_nil]
    (with_reducible refine R.wpStill_plain rfl (fun K hK => ?_)); go_simp; with_reducible refine hK _ ?_; clear hK K
    (with_reducible refine R.wpStill_plain rfl (fun K hK => ?_)); go_simp; with_reducible refine hK _ ?_; clear hK K
    (with_reducible refine R.wpStill_plain rfl (fun K hK => ?_)); go_simp; with_reducible refine hK _ ?_; clear hK K
    (with_reducible refine R.wpStill_plain rfl (fun K hK => ?_)); go_simp; with_reducible refine hK _ ?_; clear hK K
    (with_reducible refine R.wpStill_plain rfl (fun K hK => ?_)); go_simp; with_reducible refine hK _ ?_; clear hK K
    exact wpStill_nil rfl
  case hC =>
    simp only [R.chainOf, List.getElem?_toArray, List.getElem?_cons_zero, List.getElem?_cons_succ, Nat.reduceBNe, Bool.and_true, Bool.and_false, Bool.false_and]
    refine R.wpSeq_same (fun K hK => ?_)
    go_simp
    refine (HD.out _).mono ?_
    rintro e w7 ⟨rfl, hb7⟩
    have hS7 : Below w6.heap.size w6 w7 := (Below.refl _ w6).drew.trans hb7
    refine hK _ _ hS7 ?_
    clear hK K hb7
    have HB7 := Lib.hid (HB6.out.trans (hS7.mono HB6.out.size))
    have m0 := (HB7.out.cell (HM 0 x0 rfl).2).trans (HM 0 x0 rfl).1
    rw [ad_flat] at m0
    refine R.wpSeq_same (fun K hK => ?_)
    go_simp
    refine hK _ _ hS7 ?_
    clear hK K hS7
    refine R.wpSeq_tail _ rfl ?_
    simp only [List.map_cons, List.map_nil]
    go_wp2_with fail
    refine wp_loop_rounds 2 ?_
    rw [rounds_succ]
    go_wp2_with fail
    refine wp_loop_rounds 1 ?_
    rw [rounds_succ]
    go_wp2_with fail
    rw [rounds_succ]
    go_wp2_with fail
    go_ret2
    refine ⟨?_, HB7.out⟩
    rw [HV.out]
    refine ret_two ?_
    have := HRN.out
    have := HDB.out
    try simp only [i64_w]
    try unfold wrap64
    omega
set_option maxHeartbeats 8000000 in
set_option maxRecDepth 100000 in
theorem Pot2 (A : Option Addr) (ca : Nat) (x0 x1 : Int) (C : Option Addr) (cc : Nat) (y0 y1 : Int) (w : World) (hr : Kd.C (Kd.int .i64) w A 2 [x0, x1]) (hc : Kd.C (Kd.int .i64) w C 2 [y0, y1]) (hp : Pos 2 [x0, x1]) (hq : Pos 2 [y0, y1]) (hcap : 2 ≤ ca) :
    Calls Try.prog 28 #[.slice A 2 ca, .slice C 2 cc] w fun e w' => e = .returned (.tuple #[.int .i64 (phi 2 [x0, x1] [y0, y1]), .int .i64 0]) ∧ Below w.heap.size w w' := by
  obtain ⟨ad, rfl, HM⟩ := mem1 (l := [x0, x1]) hr (by simp)
  have hpa : posB [x0, x1] = true := posB_iff.2 ⟨by simp, by simp, hp⟩
  have hpb : posB [y0, y1] = true := posB_iff.2 ⟨by simp, by simp, hq⟩
  have H1 : Hid (Calls Try.prog 45 #[.slice (some ad) 2 ca] w fun e w' => e = .returned (.tuple #[sv x0 x1 0, .bool true]) ∧ Below w.heap.size w w') := by
    have := spots_c (some ad) ca [x0, x1] w hr
    rw [hpa] at this
    exact Lib.hid this
  have H2 : Hid (∀ W, Below w.heap.size w W → Calls Try.prog 45 #[.slice C 2 cc] W fun e w' => e = .returned (.tuple #[sv y0 y1 0, .bool true]) ∧ Below W.heap.size W w') := Lib.hid (fun W hW => by
    have := spots_c C cc [y0, y1] W (Kd.C_below hc hW)
    rw [hpb] at this
    exact this)
  obtain ⟨d, hd⟩ : ∃ d, dist [x0, x1] [y0, y1] = d := ⟨_, rfl⟩
  have hdb := dist_bd (by omega) hp hq
  rw [hd] at hdb
  have HD : Hid (∀ W, Calls Try.prog 48 #[hv 2 0 0 0 (.slice none 0 0), sv x0 x1 0, sv y0 y1 0] W fun e w' => e = .returned (.int .i64 d) ∧ Below W.heap.size W w') := Lib.hid (fun W => by
    have := dist_pad (k := 2) (by omega) (by omega) 0 0 0 none 0 0 hp hq W
    rw [hd] at this
    exact this)
  have HV : Hid (phi 2 [x0, x1] [y0, y1] = 2 * d + (x1 - x0)) := Lib.hid (by
    have e9 : invs [x0, x1] = (x1 - x0) := rfl
    unfold phi
    rw [hd, e9]
    rfl)
  have HRN : Hid (Fl x0 ∧ Fl x1) := Lib.hid (by
    have hx := hp.rng
    simp only [List.mem_cons, List.not_mem_nil, or_false, forall_eq_or_imp, forall_eq] at hx
    omega)
  have HDB := Lib.hid hdb
  obtain ⟨B, hB⟩ : ∃ B, w.heap.size = B := ⟨_, rfl⟩
  clear hpa hpb hd hdb hr hc hp hq
  go_enter Try.func28, Try.ntmps28
  go_upto_region 2 with (go_at_call 45; (with_reducible refine H1.out.mono ?_); rintro e w2 ⟨rfl, hb⟩)
  have hb2 := hb.alloc hb.size (Obj.cells #[Value.int IntKind.i64 x0, Value.int IntKind.i64 x1, Value.int IntKind.i64 0] 52)
  have hS2 := SpotsAt.new w2 x0 x1 0
  obtain ⟨T, hT⟩ : ∃ T, w2.heap.size = T := ⟨_, rfl⟩
  rw [hT] at hS2 ⊢
  generalize (w2.alloc (Obj.cells #[Value.int IntKind.i64 x0, Value.int IntKind.i64 x1, Value.int IntKind.i64 0] 52)) = w3 at *
  go_upto_region 3 with (go_at_call 45; (with_reducible refine (H2.out _ hb2).mono ?_); rintro e w4 ⟨rfl, hb4⟩)
  have hS4 := (hS2.of (hb4.block T hS2.lt)).of ((World.grownBy_alloc w4 (Obj.cells #[Value.int IntKind.i64 y0, Value.int IntKind.i64 y1, Value.int IntKind.i64 0] 52) none).block T (by have := hS2.lt; have := hb4.size; omega) (by simp))
  have hR4 := SpotsAt.new w4 y0 y1 0
  have hb5 := (hb2.trans (hb4.mono hb2.size)).alloc (Nat.le_trans hb2.size hb4.size) (Obj.cells #[Value.int IntKind.i64 y0, Value.int IntKind.i64 y1, Value.int IntKind.i64 0] 52)
  obtain ⟨U, hU⟩ : ∃ U, w4.heap.size = U := ⟨_, rfl⟩
  rw [hU] at hR4 ⊢
  generalize (w4.alloc (Obj.cells #[Value.int IntKind.i64 y0, Value.int IntKind.i64 y1, Value.int IntKind.i64 0] 52)) = w5 at *
  go_upto_region 6 with fail
  have hg5 : w5.grownBy (w5.alloc (Obj.cells #[Value.int IntKind.i64 2, Value.int IntKind.i64 0, Value.int IntKind.i64 0, Value.int IntKind.i64 0, Value.slice none 0 0] 54)) none := World.grownBy_alloc _ _ _
  have hS6 := hS4.of (hg5.block T hS4.lt (by simp))
  have hR6 := hR4.of (hg5.block U hR4.lt (by simp))
  have hb6 := hb5.alloc hb5.size (Obj.cells #[Value.int IntKind.i64 2, Value.int IntKind.i64 0, Value.int IntKind.i64 0, Value.int IntKind.i64 0, Value.slice none 0 0] 54)
  have hH6 : HallAt w5.heap.size 2 0 0 0 (.slice none 0 0) (w5.alloc (Obj.cells #[Value.int IntKind.i64 2, Value.int IntKind.i64 0, Value.int IntKind.i64 0, Value.int IntKind.i64 0, Value.slice none 0 0] 54)) := ⟨by simp [go_sem], by simp [go_sem], by simp [go_sem], by simp [go_sem], by simp [go_sem]⟩
  obtain ⟨V, hV⟩ : ∃ V, w5.heap.size = V := ⟨_, rfl⟩
  rw [hV] at hH6 ⊢
  generalize (w5.alloc (Obj.cells #[Value.int IntKind.i64 2, Value.int IntKind.i64 0, Value.int IntKind.i64 0, Value.int IntKind.i64 0, Value.slice none 0 0] 54)) = w6 at *
  have HX : Hid (∀ w', Below w6.heap.size w6 w' → HallAt V 2 0 0 0 (.slice none 0 0) w' ∧ SpotsAt T x0 x1 0 w' ∧ SpotsAt U y0 y1 0 w') := Lib.hid (fun w' h => ⟨hH6.of (h.block V hH6.lt), hS6.of (h.block T hS6.lt), hR6.of (h.block U hR6.lt)⟩)
  have HB6 := Lib.hid hb6
  clear hb hb2 hS2 hT hb4 hS4 hR4 hb5 hU hg5 hS6 hR6 hb6 hH6 hV H1 H2
  apply R.wp_region_text [0, 1, 2, 3, 4] [5, 6, 7] 7 (fun w' => Below w6.heap.size w6 w')
  case hm => kernel_rfl
  case hB => kernel_rfl
  case hd => rfl
  case hQ => exact fun _ _ _ _ _ h => h
  case hS => exact (Below.refl _ _).drew
  case hF =>
    intro w' hS
    obtain ⟨⟨z0, z1, z2, z3, z4⟩, ⟨u0, u1, u2, _, _, _, _⟩, ⟨v0, v1, v2, _, _, _, _⟩⟩ := HX.out w' hS
    clear hS
    simp only [R.pickC, List.filterMap_cons, List.getElem?_toArray, List.getElem?_cons_zero, List.getElem?_cons_succ, List.filterMap_nil]
    (with_reducible refine R.wpStill_plain rfl (fun K hK => ?_)); go_simp; with_reducible refine hK _ ?_; clear hK K
    (with_reducible refine R.wpStill_plain rfl (fun K hK => ?_)); go_simp; with_reducible refine hK _ ?_; clear hK K
    (with_reducible refine R.wpStill_plain rfl (fun K hK => ?_)); go_simp; with_reducible refine hK _ ?_; clear hK K
    (with_reducible refine R.wpStill_plain rfl (fun K hK => ?_)); go_simp; with_reducible refine hK _ ?_; clear hK K
    (with_reducible refine R.wpStill_plain rfl (fun K hK => ?_)); go_simp; with_reducible refine hK _ ?_; clear hK K
    exact wpStill_nil rfl
  case hC =>
    simp only [R.chainOf, List.getElem?_toArray, List.getElem?_cons_zero, List.getElem?_cons_succ, Nat.reduceBNe, Bool.and_true, Bool.and_false, Bool.false_and]
    refine R.wpSeq_same (fun K hK => ?_)
    go_simp
    refine (HD.out _).mono ?_
    rintro e w7 ⟨rfl, hb7⟩
    have hS7 : Below w6.heap.size w6 w7 := (Below.refl _ w6).drew.trans hb7
    refine hK _ _ hS7 ?_
    clear hK K hb7
    have HB7 := Lib.hid (HB6.out.trans (hS7.mono HB6.out.size))
    have m0 := (HB7.out.cell (HM 0 x0 rfl).2).trans (HM 0 x0 rfl).1
    have m1 := (HB7.out.cell (HM 1 x1 rfl).2).trans (HM 1 x1 rfl).1
    rw [ad_flat] at m0
    rw [show ad.add 1 = ⟨ad.block, ad.off + 1, none⟩ by simp [Addr.add]] at m1
    refine R.wpSeq_same (fun K hK => ?_)
    go_simp
    refine hK _ _ hS7 ?_
    clear hK K hS7
    refine R.wpSeq_tail _ rfl ?_
    simp only [List.map_cons, List.map_nil]
    go_wp2_with fail
    refine wp_loop_rounds 3 ?_
    rw [rounds_succ]
    go_wp2_with fail
    refine wp_loop_rounds 1 ?_
    rw [rounds_succ]
    go_wp2_with fail
    rw [rounds_succ]
    go_wp2_with fail
    refine wp_loop_rounds 2 ?_
    rw [rounds_succ]
    go_wp2_with fail
    rw [rounds_succ]
    go_wp2_with fail
    rw [rounds_succ]
    go_wp2_with fail
    go_ret2
    refine ⟨?_, HB7.out⟩
    rw [HV.out]
    refine ret_two ?_
    have := HRN.out
    have := HDB.out
    try simp only [i64_w]
    try unfold wrap64
    omega
set_option maxHeartbeats 8000000 in
set_option maxRecDepth 100000 in
theorem Pot3 (A : Option Addr) (ca : Nat) (x0 x1 x2 : Int) (C : Option Addr) (cc : Nat) (y0 y1 y2 : Int) (w : World) (hr : Kd.C (Kd.int .i64) w A 3 [x0, x1, x2]) (hc : Kd.C (Kd.int .i64) w C 3 [y0, y1, y2]) (hp : Pos 3 [x0, x1, x2]) (hq : Pos 3 [y0, y1, y2]) (hcap : 3 ≤ ca) :
    Calls Try.prog 28 #[.slice A 3 ca, .slice C 3 cc] w fun e w' => e = .returned (.tuple #[.int .i64 (phi 3 [x0, x1, x2] [y0, y1, y2]), .int .i64 0]) ∧ Below w.heap.size w w' := by
  obtain ⟨ad, rfl, HM⟩ := mem1 (l := [x0, x1, x2]) hr (by simp)
  have hpa : posB [x0, x1, x2] = true := posB_iff.2 ⟨by simp, by simp, hp⟩
  have hpb : posB [y0, y1, y2] = true := posB_iff.2 ⟨by simp, by simp, hq⟩
  have H1 : Hid (Calls Try.prog 45 #[.slice (some ad) 3 ca] w fun e w' => e = .returned (.tuple #[sv x0 x1 x2, .bool true]) ∧ Below w.heap.size w w') := by
    have := spots_c (some ad) ca [x0, x1, x2] w hr
    rw [hpa] at this
    exact Lib.hid this
  have H2 : Hid (∀ W, Below w.heap.size w W → Calls Try.prog 45 #[.slice C 3 cc] W fun e w' => e = .returned (.tuple #[sv y0 y1 y2, .bool true]) ∧ Below W.heap.size W w') := Lib.hid (fun W hW => by
    have := spots_c C cc [y0, y1, y2] W (Kd.C_below hc hW)
    rw [hpb] at this
    exact this)
  obtain ⟨d, hd⟩ : ∃ d, dist [x0, x1, x2] [y0, y1, y2] = d := ⟨_, rfl⟩
  have hdb := dist_bd (by omega) hp hq
  rw [hd] at hdb
  have HD : Hid (∀ W, Calls Try.prog 48 #[hv 3 0 0 0 (.slice none 0 0), sv x0 x1 x2, sv y0 y1 y2] W fun e w' => e = .returned (.int .i64 d) ∧ Below W.heap.size W w') := Lib.hid (fun W => by
    have := dist_pad (k := 3) (by omega) (by omega) 0 0 0 none 0 0 hp hq W
    rw [hd] at this
    exact this)
  have HV : Hid (phi 3 [x0, x1, x2] [y0, y1, y2] = 3 * d + ((x1 - x0) + (x2 - x0) + (x2 - x1))) := Lib.hid (by
    have e9 : invs [x0, x1, x2] = ((x1 - x0) + (x2 - x0) + (x2 - x1)) := rfl
    unfold phi
    rw [hd, e9]
    rfl)
  have HRN : Hid (Fl x0 ∧ Fl x1 ∧ Fl x2) := Lib.hid (by
    have hx := hp.rng
    simp only [List.mem_cons, List.not_mem_nil, or_false, forall_eq_or_imp, forall_eq] at hx
    omega)
  have HDB := Lib.hid hdb
  obtain ⟨B, hB⟩ : ∃ B, w.heap.size = B := ⟨_, rfl⟩
  clear hpa hpb hd hdb hr hc hp hq
  go_enter Try.func28, Try.ntmps28
  go_upto_region 2 with (go_at_call 45; (with_reducible refine H1.out.mono ?_); rintro e w2 ⟨rfl, hb⟩)
  have hb2 := hb.alloc hb.size (Obj.cells #[Value.int IntKind.i64 x0, Value.int IntKind.i64 x1, Value.int IntKind.i64 x2] 52)
  have hS2 := SpotsAt.new w2 x0 x1 x2
  obtain ⟨T, hT⟩ : ∃ T, w2.heap.size = T := ⟨_, rfl⟩
  rw [hT] at hS2 ⊢
  generalize (w2.alloc (Obj.cells #[Value.int IntKind.i64 x0, Value.int IntKind.i64 x1, Value.int IntKind.i64 x2] 52)) = w3 at *
  go_upto_region 3 with (go_at_call 45; (with_reducible refine (H2.out _ hb2).mono ?_); rintro e w4 ⟨rfl, hb4⟩)
  have hS4 := (hS2.of (hb4.block T hS2.lt)).of ((World.grownBy_alloc w4 (Obj.cells #[Value.int IntKind.i64 y0, Value.int IntKind.i64 y1, Value.int IntKind.i64 y2] 52) none).block T (by have := hS2.lt; have := hb4.size; omega) (by simp))
  have hR4 := SpotsAt.new w4 y0 y1 y2
  have hb5 := (hb2.trans (hb4.mono hb2.size)).alloc (Nat.le_trans hb2.size hb4.size) (Obj.cells #[Value.int IntKind.i64 y0, Value.int IntKind.i64 y1, Value.int IntKind.i64 y2] 52)
  obtain ⟨U, hU⟩ : ∃ U, w4.heap.size = U := ⟨_, rfl⟩
  rw [hU] at hR4 ⊢
  generalize (w4.alloc (Obj.cells #[Value.int IntKind.i64 y0, Value.int IntKind.i64 y1, Value.int IntKind.i64 y2] 52)) = w5 at *
  go_upto_region 6 with fail
  have hg5 : w5.grownBy (w5.alloc (Obj.cells #[Value.int IntKind.i64 3, Value.int IntKind.i64 0, Value.int IntKind.i64 0, Value.int IntKind.i64 0, Value.slice none 0 0] 54)) none := World.grownBy_alloc _ _ _
  have hS6 := hS4.of (hg5.block T hS4.lt (by simp))
  have hR6 := hR4.of (hg5.block U hR4.lt (by simp))
  have hb6 := hb5.alloc hb5.size (Obj.cells #[Value.int IntKind.i64 3, Value.int IntKind.i64 0, Value.int IntKind.i64 0, Value.int IntKind.i64 0, Value.slice none 0 0] 54)
  have hH6 : HallAt w5.heap.size 3 0 0 0 (.slice none 0 0) (w5.alloc (Obj.cells #[Value.int IntKind.i64 3, Value.int IntKind.i64 0, Value.int IntKind.i64 0, Value.int IntKind.i64 0, Value.slice none 0 0] 54)) := ⟨by simp [go_sem], by simp [go_sem], by simp [go_sem], by simp [go_sem], by simp [go_sem]⟩
  obtain ⟨V, hV⟩ : ∃ V, w5.heap.size = V := ⟨_, rfl⟩
  rw [hV] at hH6 ⊢
  generalize (w5.alloc (Obj.cells #[Value.int IntKind.i64 3, Value.int IntKind.i64 0, Value.int IntKind.i64 0, Value.int IntKind.i64 0, Value.slice none 0 0] 54)) = w6 at *
  have HX : Hid (∀ w', Below w6.heap.size w6 w' → HallAt V 3 0 0 0 (.slice none 0 0) w' ∧ SpotsAt T x0 x1 x2 w' ∧ SpotsAt U y0 y1 y2 w') := Lib.hid (fun w' h => ⟨hH6.of (h.block V hH6.lt), hS6.of (h.block T hS6.lt), hR6.of (h.block U hR6.lt)⟩)
  have HB6 := Lib.hid hb6
  clear hb hb2 hS2 hT hb4 hS4 hR4 hb5 hU hg5 hS6 hR6 hb6 hH6 hV H1 H2
  apply R.wp_region_text [0, 1, 2, 3, 4] [5, 6, 7] 7 (fun w' => Below w6.heap.size w6 w')
  case hm => kernel_rfl
  case hB => kernel_rfl
  case hd => rfl
  case hQ => exact fun _ _ _ _ _ h => h
  case hS => exact (Below.refl _ _).drew
  case hF =>
    intro w' hS
    obtain ⟨⟨z0, z1, z2, z3, z4⟩, ⟨u0, u1, u2, _, _, _, _⟩, ⟨v0, v1, v2, _, _, _, _⟩⟩ := HX.out w' hS
    clear hS
    simp only [R.pickC, List.filterMap_cons, List.getElem?_toArray, List.getElem?_cons_zero, List.getElem?_cons_succ, List.filterMap_nil]
    (with_reducible refine R.wpStill_plain rfl (fun K hK => ?_)); go_simp; with_reducible refine hK _ ?_; clear hK K
    (with_reducible refine R.wpStill_plain rfl (fun K hK => ?_)); go_simp; with_reducible refine hK _ ?_; clear hK K
    (with_reducible refine R.wpStill_plain rfl (fun K hK => ?_)); go_simp; with_reducible refine hK _ ?_; clear hK K
    (with_reducible refine R.wpStill_plain rfl (fun K hK => ?_)); go_simp; with_reducible refine hK _ ?_; clear hK K
    (with_reducible refine R.wpStill_plain rfl (fun K hK => ?_)); go_simp; with_reducible refine hK _ ?_; clear hK K
    exact wpStill_nil rfl
  case hC =>
    simp only [R.chainOf, List.getElem?_toArray, List.getElem?_cons_zero, List.getElem?_cons_succ, Nat.reduceBNe, Bool.and_true, Bool.and_false, Bool.false_and]
    refine R.wpSeq_same (fun K hK => ?_)
    go_simp
    refine (HD.out _).mono ?_
    rintro e w7 ⟨rfl, hb7⟩
    have hS7 : Below w6.heap.size w6 w7 := (Below.refl _ w6).drew.trans hb7
    refine hK _ _ hS7 ?_
    clear hK K hb7
    have HB7 := Lib.hid (HB6.out.trans (hS7.mono HB6.out.size))
    have m0 := (HB7.out.cell (HM 0 x0 rfl).2).trans (HM 0 x0 rfl).1
    have m1 := (HB7.out.cell (HM 1 x1 rfl).2).trans (HM 1 x1 rfl).1
    have m2 := (HB7.out.cell (HM 2 x2 rfl).2).trans (HM 2 x2 rfl).1
    rw [ad_flat] at m0
    rw [show ad.add 1 = ⟨ad.block, ad.off + 1, none⟩ by simp [Addr.add]] at m1
    rw [show ad.add 2 = ⟨ad.block, ad.off + 2, none⟩ by simp [Addr.add]] at m2
    refine R.wpSeq_same (fun K hK => ?_)
    go_simp
    refine hK _ _ hS7 ?_
    clear hK K hS7
    refine R.wpSeq_tail _ rfl ?_
    simp only [List.map_cons, List.map_nil]
    go_wp2_with fail
    refine wp_loop_rounds 4 ?_
    rw [rounds_succ]
    go_wp2_with fail
    refine wp_loop_rounds 1 ?_
    rw [rounds_succ]
    go_wp2_with fail
    rw [rounds_succ]
    go_wp2_with fail
    refine wp_loop_rounds 2 ?_
    rw [rounds_succ]
    go_wp2_with fail
    rw [rounds_succ]
    go_wp2_with fail
    rw [rounds_succ]
    go_wp2_with fail
    refine wp_loop_rounds 3 ?_
    rw [rounds_succ]
    go_wp2_with fail
    rw [rounds_succ]
    go_wp2_with fail
    rw [rounds_succ]
    go_wp2_with fail
    rw [rounds_succ]
    go_wp2_with fail
    go_ret2
    refine ⟨?_, HB7.out⟩
    rw [HV.out]
    refine ret_two ?_
    have := HRN.out
    have := HDB.out
    try simp only [i64_w]
    try unfold wrap64
    omega
theorem Pot_c (A : Option Addr) (ca : Nat) (a : List Int) (C : Option Addr) (cc : Nat) (b : List Int) (w : World) (hr : Kd.C (Kd.int .i64) w A a.length a) (hc : Kd.C (Kd.int .i64) w C b.length b) (hcap : a.length ≤ ca) (hh : (posB a && (posB b && decide (a.length = b.length))) = true) :
    Calls Try.prog 28 #[.slice A a.length ca, .slice C b.length cc] w fun e w' => e = .returned (.tuple #[.int .i64 (phi a.length a b), .int .i64 0]) ∧ Below w.heap.size w w' := by
  simp only [Bool.and_eq_true, decide_eq_true_eq] at hh
  obtain ⟨h1, h2, h3⟩ := hh
  obtain ⟨a1, a3, ha⟩ := posB_iff.1 h1
  obtain ⟨_, _, hb⟩ := posB_iff.1 h2
  match a, b, a1, a3, h3 with
  | [x], [y], _, _, _ => exact Pot1 A ca x C cc y w hr hc ha hb hcap
  | [x0, x1], [y0, y1], _, _, _ => exact Pot2 A ca x0 x1 C cc y0 y1 w hr hc ha hb hcap
  | [x0, x1, x2], [y0, y1, y2], _, _, _ => exact Pot3 A ca x0 x1 x2 C cc y0 y1 y2 w hr hc ha hb hcap
  | [], _, h, _, _ => exact absurd h (by simp)
  | _ :: _ :: _ :: _ :: _, _, _, h, _ => exact absurd h (by simp)
  | [_], [], _, _, h => exact absurd h (by simp)
  | [_], _ :: _ :: _, _, _, h => exact absurd h (by simp)
  | [_, _], [], _, _, h => exact absurd h (by simp)
  | [_, _], [_], _, _, h => exact absurd h (by simp)
  | [_, _], _ :: _ :: _ :: _, _, _, h => exact absurd h (by simp)
  | [_, _, _], [], _, _, h => exact absurd h (by simp)
  | [_, _, _], [_], _, _, h => exact absurd h (by simp)
  | [_, _, _], [_, _], _, _, h => exact absurd h (by simp)
  | [_, _, _], _ :: _ :: _ :: _ :: _, _, _, h => exact absurd h (by simp)
end Go.Proofs.Ytakbijpcfnipoaa.A
namespace Go.Proofs.Ytakbijpcfnipoaa.PA
open Go.RowKit Go.Proofs.YtakbijpcfnipoaaW.PrintWords Go.Proofs.YtakbijpcfnipoaaW.PrintLast Go.Proofs.YtakbijpcfnipoaaW.PrintMore
open Go.Proofs.Ytakbijpcfnipoaa.A Go.Proofs.Ytakbijpcfnipoaa.Lf
def lifts_Potential.f (l0 : List Int) (l1 : List Int) : Option (Int × Int) := if posB l0 && (posB l1 && decide (l0.length = l1.length)) then some (phi l0.length l0 l1, 0) else some (0, 2)
theorem lifts_Potential.calls (A0 : Option Addr) (c0 : Nat) (l0 : List Int) (A1 : Option Addr) (c1 : Nat) (l1 : List Int) (r1 : Int) (r2 : Int) (w : World) (hr0 : Kd.C (Kd.int .i64) w A0 l0.length l0) (hc0 : l0.length ≤ c0) (hr1 : Kd.C (Kd.int .i64) w A1 l1.length l1) (_hc1 : l1.length ≤ c1) (h : lifts_Potential.f l0 l1 = some (r1, r2)) :
    Calls Try.prog 28 #[.slice A0 l0.length c0, .slice A1 l1.length c1] w fun e w' => e = .returned (.tuple #[.int .i64 r1, .int .i64 r2]) ∧ Below w.heap.size w w' := by
  unfold lifts_Potential.f at h
  cases hh : (posB l0 && (posB l1 && decide (l0.length = l1.length))) with
  | false =>
    rw [hh] at h
    simp only [Bool.false_eq_true, if_false, Option.some.injEq, Prod.mk.injEq] at h
    obtain ⟨rfl, rfl⟩ := h
    exact Pot_no A0 c0 l0 A1 c1 l1 w hr0 hr1 hh
  | true =>
    rw [hh] at h
    simp only [if_true, Option.some.injEq, Prod.mk.injEq] at h
    obtain ⟨rfl, rfl⟩ := h
    exact Pot_c A0 c0 l0 A1 c1 l1 w hr0 hr1 hc0 hh
end Go.Proofs.Ytakbijpcfnipoaa.PA

namespace Go.Proofs.Ytakbijpcfnipoaa.PA
open Go.RowKit Go.Proofs.YtakbijpcfnipoaaW.PrintWords Go.Proofs.YtakbijpcfnipoaaW.PrintLast Go.Proofs.YtakbijpcfnipoaaW.PrintMore
attribute [local go_sem] max2_int min2_int max_two min_two max_three min_three max_four min_four
set_option linter.unusedVariables false
set_option linter.unusedSimpArgs false
def turndownlaw07_ints.l0 : Nat → List Int → List Int → Int → Option (Bool)
 | 0, _, _, _ => none
 | k + 1, x0, x1, x5 => if x5 < (x0.length : Int) then (if 0 ≤ x5 then (if x5 < (x1.length : Int) then (if (rd x0 x5) = (rd x1 x5) then (turndownlaw07_ints.l0 k x0 x1 (wrap64 (x5 + 1))) else (some false)) else (none)) else (none)) else (some true)
def turndownlaw07_ints.f (k : Nat) (l0 : List Int) (l1 : List Int) : Option (Bool) := if (l0.length : Int) = (l1.length : Int) then (turndownlaw07_ints.l0 k l0 l1 0) else (some false)
set_option maxHeartbeats 8000000 in
set_option maxRecDepth 100000 in
theorem turndownlaw07_ints.calls (k : Nat) (A0 : Option Addr) (c0 : Nat) (l0 : List Int) (A1 : Option Addr) (c1 : Nat) (l1 : List Int) (r : Bool) (w : World) (hr0 : Kd.C (Kd.int .i64) w A0 l0.length l0) (hc0 : l0.length ≤ c0) (hr1 : Kd.C (Kd.int .i64) w A1 l1.length l1) (hc1 : l1.length ≤ c1) (h : turndownlaw07_ints.f k l0 l1 = some r) :
  Calls Try.prog 40 #[.slice A0 l0.length c0, .slice A1 l1.length c1] w fun e w' => e = .returned (.bool r) ∧ Drawn0 w w' := by
 have HR0 := Aside0.mk hr0
 have HC0 := Aside0.mk hc0
 clear hr0 hc0
 have HR1 := Aside0.mk hr1
 have HC1 := Aside0.mk hc1
 clear hr1 hc1
 have H : (if (l0.length : Int) = (l1.length : Int) then (turndownlaw07_ints.l0 k l0 l1 0) else (some false)) = some r := h
 clear h
 by_cases c3 : (l0.length : Int) = (l1.length : Int)
 ·
  rw [if_pos c3] at H
  have c3b0 : ((l0.length : Int) == (l1.length : Int)) = true := beq_iff_eq.mpr c3
  have c3b1 : ((l0.length : Int) != (l1.length : Int)) = false := bne_eq_false_iff_eq.mpr c3
  have c3b2 : (l0.length == l1.length) = true := by first | simpa using c3 | (simp at c3 ⊢; omega)
  clear c3
  have H' := Aside0.mk H
  clear H
  go_enter Try.func40, Try.ntmps40
  go_wp2
  repeat (go_quiet (fail); try go_wp2)
  go_loopg [5] k (fun kq v5 w' => ∃ (x5_1 : Int), v5 = .int .i64 x5_1 ∧ Aside0 (turndownlaw07_ints.l0 kq l0 l1 x5_1 = some r) ∧ Aside0 (kq ≤ k) ∧ Drawn0 w w')
  case atStart => exact ⟨(0), (by first | rfl | (simp; done) | (simp [*]; done)), H', ⟨Nat.le_refl _⟩, by repeat (first | exact Drawn0.refl _ | apply Drawn0.step)⟩
  case round =>
   clear H'
   try clear c1
   try clear p2
   try clear c3
   try clear c3b0
   try clear c3b1
   try clear c3b2
   obtain ⟨x5_1, rfl, HA, HK1, ⟨m1, rfl⟩⟩ := hrel
   cases gk with
   | zero => exact absurd HA.out (by simp [turndownlaw07_ints.l0])
   | succ k1 =>
    have H := HA.out
    clear HA
    simp only [turndownlaw07_ints.l0] at H
    by_cases c4 : x5_1 < (l0.length : Int)
    ·
     rw [if_pos c4] at H
     have c4b0 : decide (x5_1 < (l0.length : Int)) = true := decide_eq_true c4
     clear c4
     by_cases c5 : 0 ≤ x5_1
     ·
      rw [if_pos c5] at H
      have c5b0 : decide (0 ≤ x5_1) = true := decide_eq_true c5
      clear c5
      by_cases c6 : x5_1 < (l1.length : Int)
      ·
       rw [if_pos c6] at H
       have c6b0 : decide (x5_1 < (l1.length : Int)) = true := decide_eq_true c6
       clear c6
       by_cases c7 : (rd l0 x5_1) = (rd l1 x5_1)
       ·
        rw [if_pos c7] at H
        have c7b0 : ((rd l0 x5_1) == (rd l1 x5_1)) = true := beq_iff_eq.mpr c7
        have c7b1 : ((rd l0 x5_1) != (rd l1 x5_1)) = false := bne_eq_false_iff_eq.mpr c7
        clear c7
        have H' := Aside0.mk H
        clear H
        have p243 : 0 ≤ (x5_1 : Int) := of_decide_eq_true (by first | (with_reducible assumption) | assumption)
        have q243 : x5_1 < (l0.length : Int) := of_decide_eq_true (by first | (with_reducible assumption) | assumption)
        obtain ⟨ad243, e243, hx243_0⟩ := Kd.at_int HR0.out x5_1 p243 q243
        cases e243
        replace p243 := eq_true p243
        replace q243 := eq_true q243
        have p244 : 0 ≤ (x5_1 : Int) := of_decide_eq_true (by first | (with_reducible assumption) | assumption)
        have q244 : x5_1 < (l1.length : Int) := of_decide_eq_true (by first | (with_reducible assumption) | assumption)
        obtain ⟨ad244, e244, hx244_0⟩ := Kd.at_int HR1.out x5_1 p244 q244
        cases e244
        replace p244 := eq_true p244
        replace q244 := eq_true q244
        go_wp2
        repeat (go_quiet (fail); try go_wp2)
        go_roundg k1
        case measure => have := HK1.out; omega
        case rel => exact ⟨(wrap64 (x5_1 + 1)), (by first | rfl | (simp; done) | (simp [*]; done)), H', ⟨by have := HK1.out; omega⟩, by repeat (first | exact Drawn0.refl _ | apply Drawn0.step)⟩
       ·
        rw [if_neg c7] at H
        have c7b0 : ((rd l0 x5_1) == (rd l1 x5_1)) = false := beq_eq_false_iff_ne.mpr c7
        have c7b1 : ((rd l0 x5_1) != (rd l1 x5_1)) = true := bne_iff_ne.mpr c7
        obtain rfl := Option.some.inj H
        have p243 : 0 ≤ (x5_1 : Int) := of_decide_eq_true (by first | (with_reducible assumption) | assumption)
        have q243 : x5_1 < (l0.length : Int) := of_decide_eq_true (by first | (with_reducible assumption) | assumption)
        obtain ⟨ad243, e243, hx243_0⟩ := Kd.at_int HR0.out x5_1 p243 q243
        cases e243
        replace p243 := eq_true p243
        replace q243 := eq_true q243
        have p244 : 0 ≤ (x5_1 : Int) := of_decide_eq_true (by first | (with_reducible assumption) | assumption)
        have q244 : x5_1 < (l1.length : Int) := of_decide_eq_true (by first | (with_reducible assumption) | assumption)
        obtain ⟨ad244, e244, hx244_0⟩ := Kd.at_int HR1.out x5_1 p244 q244
        cases e244
        replace p244 := eq_true p244
        replace q244 := eq_true q244
        go_wp2
        repeat (go_quiet (fail); try go_wp2)
        go_ret
        exact ⟨by first | rfl | (simp; done) | (simp [*]; done), by repeat (first | exact Drawn0.refl _ | apply Drawn0.step)⟩
      ·
       rw [if_neg c6] at H
       exact absurd H (by simp)
     ·
      rw [if_neg c5] at H
      exact absurd H (by simp)
    ·
     rw [if_neg c4] at H
     have c4b0 : decide (x5_1 < (l0.length : Int)) = false := decide_eq_false c4
     clear c4
     obtain rfl := Option.some.inj H
     go_wp2
     repeat (go_quiet (fail); try go_wp2)
     go_ret
     exact ⟨by first | rfl | (simp; done) | (simp [*]; done), by repeat (first | exact Drawn0.refl _ | apply Drawn0.step)⟩
 ·
  rw [if_neg c3] at H
  have c3b0 : ((l0.length : Int) == (l1.length : Int)) = false := beq_eq_false_iff_ne.mpr c3
  have c3b1 : ((l0.length : Int) != (l1.length : Int)) = true := bne_iff_ne.mpr c3
  have c3b2 : (l0.length == l1.length) = false := by first | simpa using c3 | (simp at c3 ⊢; omega)
  obtain rfl := Option.some.inj H
  go_enter Try.func40, Try.ntmps40
  go_wp2
  repeat (go_quiet (fail); try go_wp2)
  go_ret
  exact ⟨by first | rfl | (simp; done) | (simp [*]; done), by repeat (first | exact Drawn0.refl _ | apply Drawn0.step)⟩
end Go.Proofs.Ytakbijpcfnipoaa.PA

set_option linter.unusedVariables false
set_option linter.unusedSimpArgs false
namespace Go.Proofs.Ytakbijpcfnipoaa.A
open Go.RowKit Go.Proofs.YtakbijpcfnipoaaW.PrintWords Go.Proofs.YtakbijpcfnipoaaW.PrintLast Go.Proofs.YtakbijpcfnipoaaW.PrintMore
open Go.Proofs.Ytakbijpcfnipoaa.PA Go.Proofs.Ytakbijpcfnipoaa.Lf
theorem add0 (g j : Nat) : (⟨g, 0, none⟩ : Addr).add j = ⟨g, j, none⟩ := by
  unfold Addr.add
  split
  · next h => subst h; rfl
  · simp
theorem lit_C {W : World} {g : Nat} {xs : List Int} (hx : xs.length ≤ 1000) (h : ∀ i (hi : i < xs.length), W.cell? ⟨g, i, none⟩ = some (.int .i64 xs[i])) : Kd.C (Kd.int .i64) W (some ⟨g, 0, none⟩) xs.length xs := by
  refine ⟨rfl, by omega, fun _ => ⟨⟨g, 0, none⟩, rfl, fun j p hj => ⟨[.int .i64 p], rfl, rfl, fun i u hu => ?_⟩⟩⟩
  have hi0 : i = 0 := by
    have := (List.getElem?_eq_some_iff.1 hu).1
    simp at this; exact this
  subst hi0
  simp at hu
  subst hu
  obtain ⟨hjl, rfl⟩ := List.getElem?_eq_some_iff.1 hj
  show W.cell? ((⟨g, 0, none⟩ : Addr).add (j * 1 + 0)) = _
  rw [show j * 1 + 0 = j by omega, add0]
  exact h j hjl
theorem sched8 : Sched 2 [6, 4, 6] [[4, 6], [4, 6], [4, 6]] := by
  have hp : Pos 2 [4, 6] := ⟨rfl, by simp [Srt], by intro x hx; simp at hx; omega⟩
  exact ⟨hp, by simp, hp, by simp, hp, by simp, trivial⟩
set_option maxRecDepth 100000 in
theorem low8 : (allF 2 0).all (fun X => decide (8 ≤ works 2 (dist [0, 10]) [6, 4, 6] X)) = true := by decide +kernel
theorem hp10 : Pos 2 [0, 10] := ⟨rfl, by simp [Srt], by intro x hx; simp at hx; omega⟩
theorem fls646 : Fls [6, 4, 6] := by intro x hx; simp at hx; omega
theorem best8 : cost [0, 10] (bkF 2 (dist [0, 10]) [6, 4, 6]) = 8 := by
  have hb := bkF_back (k := 2) (by omega) [6, 4, 6] (dist [0, 10]) fls646 (first_lip 2 hp10) (fun x _ => dist_nonneg _ x)
  have h1 := best_le (by omega) hp10 fls646 hb sched8
  have h2 : cost [0, 10] [[4, 6], [4, 6], [4, 6]] = 8 := by decide
  have h3 := (back_best (by omega) hp10 fls646 hb).1
  have h4 : Pos 2 (endOf [0, 10] (bkF 2 (dist [0, 10]) [6, 4, 6])) := endOf_pos hp10 (Back.sched hb)
  have h5 := List.all_eq_true.1 low8 _ (allF_pos.2 h4)
  have h6 := of_decide_eq_true h5
  omega
theorem careful8 : lifts_Careful.f [0, 10] [6, 4, 6] = some (runL Lf.serve [0, 10] [6, 4, 6], 8, 0) := by decide +kernel
theorem runl8 : (runL Lf.serve [0, 10] [6, 4, 6]).length = 3 ∧ (runL Lf.serve [0, 10] [6, 4, 6]).getD 0 [] = [4, 6] := by decide +kernel
theorem pot10 : lifts_Potential.f [0, 10] [0, 10] = some (10, 0) := by decide +kernel
theorem work7 : lifts_Work.f [5] [7, 3] [4] = some (7, 0) := by decide +kernel
theorem hall8 : hallB [0, 10] [6, 4, 6] = true := by decide +kernel
theorem best80 : lifts_Best.f [0, 10] [6, 4, 6] = some (bkF 2 (dist [0, 10]) [6, 4, 6], 8, 0) := by
  unfold lifts_Best.f
  rw [hall8]
  show some (bkF 2 (dist [0, 10]) [6, 4, 6], cost [0, 10] (bkF 2 (dist [0, 10]) [6, 4, 6]), 0) = _
  rw [best8]
theorem elem0 {W : World} {base : Nat} {v : Value} {l : List (List Int)} (h : Kd.S (Kd.slice 3 (Kd.int .i64)) 22 W base (fun _ => True) v l) (hl : l.length = 3) (h0 : l.getD 0 [] = [4, 6]) :
    ∃ g cap E ce, v = .slice (some ⟨g, 0, none⟩) 3 cap ∧ W.cell? ⟨g, 0, none⟩ = some (.slice E 2 ce) ∧ 2 ≤ ce ∧ Kd.C (Kd.int .i64) W E 2 [4, 6] := by
  obtain ⟨g, cap, ev, _, _, _⟩ := Kd.S_form h (by omega)
  obtain ⟨A, c, ev2, hc, hC⟩ := Kd.S_reads h
  rw [ev] at ev2
  injection ev2 with eA _ ec
  subst eA
  obtain ⟨ad, E, ce, e1, e2, e3, e4⟩ := at_L1 hC 0 (by omega) (by omega)
  injection e1 with e1
  subst e1
  have e5 : rd_L1 l 0 = [4, 6] := h0
  rw [e5] at e2 e3 e4
  refine ⟨g, cap, E, ce, by rw [ev, hl], ?_, e3, e4⟩
  have e6 : W.cell? ((⟨g, 0, none⟩ : Addr).add 0) = some (.slice E 2 ce) := e2
  rw [add0] at e6
  exact e6
set_option maxHeartbeats 4000000 in
theorem aw1 (W : World) : Calls Try.prog 34 #[.slice (some ⟨W.heap.size, 0, none⟩) 2 2, .slice (some ⟨W.heap.size + 1, 0, none⟩) 3 3] ((W.alloc (Obj.cells #[.int .i64 0, .int .i64 10] 3)).alloc (Obj.cells #[.int .i64 6, .int .i64 4, .int .i64 6] 3)) fun e w' => ∃ v, e = .returned (.tuple #[v, .int .i64 8, .int .i64 0]) ∧ Kd.S (Kd.slice 3 (Kd.int .i64)) 22 w' W.heap.size (fun _ => True) v (runL Lf.serve [0, 10] [6, 4, 6]) ∧ Below W.heap.size W w' := by
  have hb : Below W.heap.size W ((W.alloc (Obj.cells #[.int .i64 0, .int .i64 10] 3)).alloc (Obj.cells #[.int .i64 6, .int .i64 4, .int .i64 6] 3)) := ((Below.refl _ W).alloc (Nat.le_refl _) _).alloc (by simp) _
  refine (lifts_Careful.calls (some ⟨W.heap.size, 0, none⟩) 2 [0, 10] (some ⟨W.heap.size + 1, 0, none⟩) 3 [6, 4, 6] _ _ _ _ (lit_C (by simp) ?_) (Nat.le_refl _) (lit_C (by simp) ?_) (Nat.le_refl _) careful8).mono ?_
  · intro i hi
    obtain rfl | rfl : i = 0 ∨ i = 1 := by simp at hi; omega
    all_goals simp [go_sem]
  · intro i hi
    obtain rfl | rfl | rfl : i = 0 ∨ i = 1 ∨ i = 2 := by simp at hi; omega
    all_goals simp [go_sem]
  · rintro e w' ⟨v, rfl, hS, hB⟩
    exact ⟨v, rfl, Kd.S_lower hS hb.size, hb.trans (hB.mono hb.size)⟩
set_option maxHeartbeats 4000000 in
theorem aw2 (W : World) : Calls Try.prog 22 #[.slice (some ⟨W.heap.size, 0, none⟩) 2 2, .slice (some ⟨W.heap.size + 1, 0, none⟩) 3 3] ((W.alloc (Obj.cells #[.int .i64 0, .int .i64 10] 3)).alloc (Obj.cells #[.int .i64 6, .int .i64 4, .int .i64 6] 3)) fun e w' => ∃ v, e = .returned (.tuple #[v, .int .i64 8, .int .i64 0]) ∧ Below W.heap.size W w' := by
  have hb : Below W.heap.size W ((W.alloc (Obj.cells #[.int .i64 0, .int .i64 10] 3)).alloc (Obj.cells #[.int .i64 6, .int .i64 4, .int .i64 6] 3)) := ((Below.refl _ W).alloc (Nat.le_refl _) _).alloc (by simp) _
  refine (lifts_Best.calls (some ⟨W.heap.size, 0, none⟩) 2 [0, 10] (some ⟨W.heap.size + 1, 0, none⟩) 3 [6, 4, 6] _ _ _ _ (lit_C (by simp) ?_) (Nat.le_refl _) (lit_C (by simp) ?_) (Nat.le_refl _) best80).mono ?_
  · intro i hi
    obtain rfl | rfl : i = 0 ∨ i = 1 := by simp at hi; omega
    all_goals simp [go_sem]
  · intro i hi
    obtain rfl | rfl | rfl : i = 0 ∨ i = 1 ∨ i = 2 := by simp at hi; omega
    all_goals simp [go_sem]
  · rintro e w' ⟨v, rfl, hS, hB⟩
    exact ⟨v, rfl, hb.trans (hB.mono hb.size)⟩
set_option maxHeartbeats 4000000 in
theorem aw3 (W : World) : Calls Try.prog 28 #[.slice (some ⟨W.heap.size, 0, none⟩) 2 2, .slice (some ⟨W.heap.size + 1, 0, none⟩) 2 2] ((W.alloc (Obj.cells #[.int .i64 0, .int .i64 10] 3)).alloc (Obj.cells #[.int .i64 0, .int .i64 10] 3)) fun e w' => e = .returned (.tuple #[.int .i64 10, .int .i64 0]) ∧ Below W.heap.size W w' := by
  have hb : Below W.heap.size W ((W.alloc (Obj.cells #[.int .i64 0, .int .i64 10] 3)).alloc (Obj.cells #[.int .i64 0, .int .i64 10] 3)) := ((Below.refl _ W).alloc (Nat.le_refl _) _).alloc (by simp) _
  refine (lifts_Potential.calls (some ⟨W.heap.size, 0, none⟩) 2 [0, 10] (some ⟨W.heap.size + 1, 0, none⟩) 2 [0, 10] _ _ _ (lit_C (by simp) ?_) (Nat.le_refl _) (lit_C (by simp) ?_) (Nat.le_refl _) pot10).mono ?_
  · intro i hi
    obtain rfl | rfl : i = 0 ∨ i = 1 := by simp at hi; omega
    all_goals simp [go_sem]
  · intro i hi
    obtain rfl | rfl : i = 0 ∨ i = 1 := by simp at hi; omega
    all_goals simp [go_sem]
  · rintro e w' ⟨rfl, hB⟩
    exact ⟨rfl, hb.trans (hB.mono hb.size)⟩
set_option maxHeartbeats 4000000 in
theorem aw4 (W : World) : Calls Try.prog 24 #[.slice (some ⟨W.heap.size, 0, none⟩) 1 1, .slice (some ⟨W.heap.size + 1, 0, none⟩) 2 2, .slice (some ⟨W.heap.size + 1 + 1, 0, none⟩) 1 1] (((W.alloc (Obj.cells #[.int .i64 5] 3)).alloc (Obj.cells #[.int .i64 7, .int .i64 3] 3)).alloc (Obj.cells #[.int .i64 4] 3)) fun e w' => e = .returned (.tuple #[.int .i64 7, .int .i64 0]) ∧ Below W.heap.size W w' := by
  have hb : Below W.heap.size W (((W.alloc (Obj.cells #[.int .i64 5] 3)).alloc (Obj.cells #[.int .i64 7, .int .i64 3] 3)).alloc (Obj.cells #[.int .i64 4] 3)) := (((Below.refl _ W).alloc (Nat.le_refl _) _).alloc (by simp) _).alloc (by simp; omega) _
  refine (lifts_Work.calls (some ⟨W.heap.size, 0, none⟩) 1 [5] (some ⟨W.heap.size + 1, 0, none⟩) 2 [7, 3] (some ⟨W.heap.size + 1 + 1, 0, none⟩) 1 [4] _ _ _ (lit_C (by simp) ?_) (Nat.le_refl _) (lit_C (by simp) ?_) (Nat.le_refl _) (lit_C (by simp) ?_) (Nat.le_refl _) work7).mono ?_
  · intro i hi
    obtain rfl : i = 0 := by simp at hi; omega
    all_goals simp [go_sem]
  · intro i hi
    obtain rfl | rfl : i = 0 ∨ i = 1 := by simp at hi; omega
    all_goals simp [go_sem]
  · intro i hi
    obtain rfl : i = 0 := by simp at hi; omega
    all_goals simp [go_sem]
  · rintro e w' ⟨rfl, hB⟩
    exact ⟨rfl, hb.trans (hB.mono hb.size)⟩
set_option maxHeartbeats 4000000 in
theorem aw5 (E : Option Addr) (ce : Nat) (W : World) (hE : Kd.C (Kd.int .i64) W E 2 [4, 6]) (hce : 2 ≤ ce) : Calls Try.prog 40 #[.slice E 2 ce, .slice (some ⟨W.heap.size, 0, none⟩) 2 2] (W.alloc (Obj.cells #[.int .i64 4, .int .i64 6] 3)) fun e w' => e = .returned (.bool true) ∧ Below W.heap.size W w' := by
  have hb : Below W.heap.size W (W.alloc (Obj.cells #[.int .i64 4, .int .i64 6] 3)) := (Below.refl _ W).alloc (Nat.le_refl _) _
  refine (turndownlaw07_ints.calls 9 E ce [4, 6] (some ⟨W.heap.size, 0, none⟩) 2 [4, 6] true _ (Kd.C_below hE hb) hce (lit_C (by simp) ?_) (Nat.le_refl _) (by decide +kernel)).mono ?_
  · intro i hi
    obtain rfl | rfl : i = 0 ∨ i = 1 := by simp at hi; omega
    all_goals simp [go_sem]
  · rintro e w' ⟨rfl, hB⟩
    exact ⟨rfl, hb.trans (hB.below.mono hb.size)⟩
set_option maxHeartbeats 8000000 in
set_option maxRecDepth 100000 in
theorem awake_c (w : World) : Calls Try.prog 19 #[] w fun e w' => e = .returned (.bool true) ∧ Below w.heap.size w w' := by
  have H1 := Lib.hid aw1
  have H2 := Lib.hid aw2
  have H3 := Lib.hid aw3
  have H4 := Lib.hid aw4
  have H5 := Lib.hid aw5
  go_enter Try.func19, Try.ntmps19
  go_upto_region 2 with (go_at_call 34; (with_reducible refine (H1.out _).mono ?_); rintro e w1 ⟨v1, rfl, hS1, hb1⟩)
  have HS1 := Lib.hid hS1
  have HB1 := Lib.hid hb1
  clear hS1 hb1
  go_upto_region 3 with (go_at_call 22; (with_reducible refine (H2.out _).mono ?_); rintro e w2 ⟨v2, rfl, hb2⟩)
  have HB2 := Lib.hid (hb2.mono (Nat.le_refl _))
  clear hb2
  go_upto_region 4 with (go_at_call 28; (with_reducible refine (H3.out _).mono ?_); rintro e w3 ⟨rfl, hb3⟩)
  have HB3 := Lib.hid hb3
  clear hb3
  go_upto_region 5 with (go_at_call 24; (with_reducible refine (H4.out _).mono ?_); rintro e w4 ⟨rfl, hb4⟩)
  have HS4 := Kd.S_below (Kd.S_below (Kd.S_below HS1.out HB2.out) HB3.out) hb4
  have HB4 := Lib.hid (((HB1.out.trans (HB2.out.mono HB1.out.size)).trans (HB3.out.mono (Nat.le_trans HB1.out.size HB2.out.size))).trans (hb4.mono (Nat.le_trans HB1.out.size (Nat.le_trans HB2.out.size HB3.out.size))))
  obtain ⟨g, cap, E, ce, rfl, hc0, hce, hE⟩ := elem0 HS4 runl8.1 runl8.2
  have H6 := Lib.hid (aw5 E ce w4 hE hce)
  clear HS4 hb4 hce hE HB2 HB3 HS1 HB1
  go_wp2_with (go_at_call 40; (with_reducible refine H6.out.mono ?_); rintro e w5 ⟨rfl, hb5⟩)
  go_ret
  exact ⟨rfl, HB4.out.trans (hb5.mono HB4.out.size)⟩
end Go.Proofs.Ytakbijpcfnipoaa.A
namespace Go.Proofs.Ytakbijpcfnipoaa.PA
open Go.RowKit Go.Proofs.YtakbijpcfnipoaaW.PrintWords Go.Proofs.YtakbijpcfnipoaaW.PrintLast Go.Proofs.YtakbijpcfnipoaaW.PrintMore
open Go.Proofs.Ytakbijpcfnipoaa.A
end Go.Proofs.Ytakbijpcfnipoaa.PA

namespace Go.Proofs.Ytakbijpcfnipoaa.PA
open Go.RowKit Go.Proofs.YtakbijpcfnipoaaW.PrintWords Go.Proofs.YtakbijpcfnipoaaW.PrintLast Go.Proofs.YtakbijpcfnipoaaW.PrintMore
attribute [local go_sem] max2_int min2_int max_two min_two max_three min_three max_four min_four
set_option linter.unusedVariables false
set_option linter.unusedSimpArgs false
def turndownlaw07_list.f (l0 : List Int) : Option (List Int) := if 0 ≤ (mn (l0.length : Int) 41) then (if (mn (l0.length : Int) 41) ≤ (l0.length : Int) then (if ([] : List Int).length + (l0.take ((mn (l0.length : Int) 41) : Int).toNat).length < 17592186044416 then (some (([] : List Int) ++ (l0.take ((mn (l0.length : Int) 41) : Int).toNat))) else (none)) else (none)) else (none)
set_option maxHeartbeats 8000000 in
set_option maxRecDepth 100000 in
theorem turndownlaw07_list.calls (A0 : Option Addr) (c0 : Nat) (l0 : List Int) (r : List Int) (w : World) (hr0 : Kd.C (Kd.int .i64) w A0 l0.length l0) (hc0 : l0.length ≤ c0) (h : turndownlaw07_list.f l0 = some r) :
  Calls Try.prog 14 #[.slice A0 l0.length c0] w fun e w' => ∃ v0_ : Value, e = .returned (v0_) ∧ Kd.R (Kd.int .i64) 3 w' w.heap.size (fun _ => True) v0_ r ∧ Below w.heap.size w w' := by
 have HR0 := Aside0.mk hr0
 have HC0 := Aside0.mk hc0
 clear hr0 hc0
 have HB := Aside0.mk (Below.refl w.heap.size w)
 have H : (if 0 ≤ (mn (l0.length : Int) 41) then (if (mn (l0.length : Int) 41) ≤ (l0.length : Int) then (if ([] : List Int).length + (l0.take ((mn (l0.length : Int) 41) : Int).toNat).length < 17592186044416 then (some (([] : List Int) ++ (l0.take ((mn (l0.length : Int) 41) : Int).toNat))) else (none)) else (none)) else (none)) = some r := h
 clear h
 obtain ⟨ji2, hji2⟩ : ∃ j_ : Int, (mn (l0.length : Int) 41) = j_ := ⟨_, rfl⟩
 replace H : (if 0 ≤ (ji2) then (if (ji2) ≤ (l0.length : Int) then (if ([] : List Int).length + (l0.take ((ji2) : Int).toNat).length < 17592186044416 then (some (([] : List Int) ++ (l0.take ((ji2) : Int).toNat))) else (none)) else (none)) else (none)) = some r := by first | (rw [hji2] at H; exact H) | (simp only [hji2] at H ⊢; exact H)
 (try (have hji2h : ji2 ≤ 41 := by (rw [← hji2]; unfold mn; (repeat' split) <;> omega)))
 (try (have hji2g : ji2 ≤ 64 := by omega))
 (try (have hji2l : 0 ≤ ji2 := by (rw [← hji2]; unfold mn; (repeat' split) <;> omega)))
 (try (have hji2m : 0 ≤ ji2 := by omega))
 have hji2_ : (if 41 < (l0.length : Int) then 41 else (l0.length : Int)) = ji2 := hji2
 by_cases c3 : 0 ≤ (ji2)
 ·
  rw [if_pos c3] at H
  have c3b0 := eq_true c3
  have c3b1 : decide (0 ≤ (ji2)) = true := decide_eq_true c3
  clear c3
  by_cases c4 : (ji2) ≤ (l0.length : Int)
  ·
   rw [if_pos c4] at H
   have c4b0 := eq_true c4
   have c4b1 : decide ((ji2) ≤ (l0.length : Int)) = true := decide_eq_true c4
   clear c4
   by_cases c5 : ([] : List Int).length + (l0.take ((ji2) : Int).toNat).length < 17592186044416
   ·
    rw [if_pos c5] at H
    have LMc5 := Aside0.mk c5
    clear c5
    obtain ⟨y102, hy102⟩ : ∃ y_ : List Int, y_ = (([] : List Int) ++ (l0.take ((ji2) : Int).toNat)) := ⟨_, rfl⟩
    replace H : (some y102) = some r := by first | (rw [hy102]; with_reducible exact H) | (have H2_ := (Option.bind_some _ _).symm.trans H; rw [hy102]; with_reducible exact H2_) | (have H2_ := (Option.bind_some _ _).symm.trans H; with_reducible exact H2_) | with_reducible exact H | (rw [hy102]; exact H) | exact H
    have Ny102 := Aside0.mk hy102
    clear hy102
    obtain rfl := Option.some.inj H
    obtain ⟨i06, hi06, _, hsz6, _⟩ := info_parts info3
    obtain ⟨hcut6, hA6, hC6⟩ := print_take_of (P := Try.prog) (Value.int .i64) 0 22 3 .i64 Try.underlying22 hi06 hsz6 A0 c0 l0 (ji2) (of_decide_eq_true (by first | (with_reducible assumption) | assumption)) (of_decide_eq_true (by first | (with_reducible assumption) | assumption)) HC0.out
    have HR101 := Aside0.mk (Kd.C_of_reads (h1 := fun _ => rfl) (hA6 _ (Kd.reads_of_C HR0.out)))
    have HC101 := Aside0.mk hC6
    clear hA6 hC6 hi06 hsz6
    go_enter Try.func14, Try.ntmps14
    go_wp2_with (first | ((with_reducible refine gate_builtin (b := .append) (xs := #[.tmp 4, .tmp 9]) rfl ?_); at_builtin; refine Kd.R_append_rows (Kd.int .i64) (w0 := w) w.heap.size rfl (.tmp 4) (.tmp 9) 22 3 (.int .i64 0) 8 rfl Try.underlying22 info3 rfl (by decide) (by omega) (.slice none 0 0) ([] : List Int) (l0.take ((ji2) : Int).toNat) _ _ _ (fun _ => True) (fun _ => False) rfl rfl ?aO ?aR (fun _ _ h => h) (fun _ h => h.elim) ?aF ?aB ?aS ?aL ?_; (case aR => first | (have q_ := HR101.out; rw [show (l0.take ((ji2) : Int).toNat).length = (ji2).toNat from (by rw [List.length_take]; have h_ : ((ji2) : Int) ≤ (l0.length : Int) := of_decide_eq_true (by first | (with_reducible assumption) | assumption); omega)] at q_; repeat (first | exact q_ | (with_reducible refine Kd.C_alloc ?_ _) | (with_reducible refine Kd.C_drewN ?_ _) | (with_reducible refine Kd.C_drew ?_))) | (rw [← show (l0.take ((ji2) : Int).toNat).length = (ji2).toNat from (by rw [List.length_take]; have h_ : ((ji2) : Int) ≤ (l0.length : Int) := of_decide_eq_true (by first | (with_reducible assumption) | assumption); omega)]; repeat (first | exact HR101.out | (with_reducible refine Kd.C_alloc ?_ _) | (with_reducible refine Kd.C_drewN ?_ _) | (with_reducible refine Kd.C_drew ?_))) | (repeat (first | exact HR101.out | (with_reducible refine Kd.C_alloc ?_ _) | (with_reducible refine Kd.C_drewN ?_ _) | (with_reducible refine Kd.C_drew ?_)))); (case aB => exact (by repeat (first | (with_reducible first | exact HB.out | apply below_alloc | apply pw_below_drewN | apply below_drew1) | exact HB.out))); (case aF => exact (fun _ _ => trivial)); (case aO => exact ((Kd.R_nil _ _ _ _ (fun _ => True)))); (case aS => exact (below_size (by repeat (first | (with_reducible first | exact HB.out | apply below_alloc | apply pw_below_drewN | apply below_drew1) | exact HB.out)))); (case aL => have := LMc5.out; have hlx_ := (show (l0.take ((ji2) : Int).toNat).length = (ji2).toNat from (by rw [List.length_take]; have h_ : ((ji2) : Int) ≤ (l0.length : Int) := of_decide_eq_true (by first | (with_reducible assumption) | assumption); omega)); omega); intro v103 w7 ho hb hg hat; rw [← Ny102.out] at ho; have n0_ := Aside0.mk (hb); have n1_ := Aside0.mk (ho); clear HB; have HB := n0_; have HO104 := n1_; clear n0_ n1_; clear ho hb hg hat))
    go_ret
    exact ⟨_, by first | rfl | (simp [errW_none, errW_some] <;> rfl) | (simp only [← hji2]; first | rfl | (simp [errW_none, errW_some] <;> rfl)) | (simp [*, errW_none, errW_some] <;> rfl), by (with_reducible repeat (first | apply Kd.R_alloc | apply Kd.R_drewN | apply Kd.R_drew)); exact HO104.out, by repeat (first | (with_reducible first | exact HB.out | apply below_alloc | apply pw_below_drewN | apply below_drew1) | exact HB.out)⟩
   ·
    rw [if_neg c5] at H
    exact absurd H (by simp)
  ·
   rw [if_neg c4] at H
   exact absurd H (by simp)
 ·
  rw [if_neg c3] at H
  exact absurd H (by simp)
end Go.Proofs.Ytakbijpcfnipoaa.PA

namespace Go.Proofs.Ytakbijpcfnipoaa.PA
open Go.RowKit Go.Proofs.YtakbijpcfnipoaaW.PrintWords Go.Proofs.YtakbijpcfnipoaaW.PrintLast Go.Proofs.YtakbijpcfnipoaaW.PrintMore
attribute [local go_sem] max2_int min2_int max_two min_two max_three min_three max_four min_four
set_option linter.unusedVariables false
set_option linter.unusedSimpArgs false
def turndownref07_Distance.l0 : Nat → List Int → List Int → Int → Int → Option (Int)
 | 0, _, _, _, _ => none
 | k + 1, x0, x1, x5, x6 => if x6 < (x0.length : Int) then (if 0 ≤ x6 then (if x6 < (x1.length : Int) then (turndownref07_Distance.l0 k x0 x1 (wrap64 (x5 + (mx (wrap64 ((rd x0 x6) - (rd x1 x6))) (wrap64 ((rd x1 x6) - (rd x0 x6)))))) (wrap64 (x6 + 1))) else (none)) else (none)) else (some x5)
def turndownref07_Distance.f (k : Nat) (l0 : List Int) (l1 : List Int) : Option (Int) := turndownref07_Distance.l0 k l0 l1 0 0
set_option maxHeartbeats 8000000 in
set_option maxRecDepth 100000 in
theorem turndownref07_Distance.calls (k : Nat) (A0 : Option Addr) (c0 : Nat) (l0 : List Int) (A1 : Option Addr) (c1 : Nat) (l1 : List Int) (r : Int) (w : World) (hr0 : Kd.C (Kd.int .i64) w A0 l0.length l0) (hc0 : l0.length ≤ c0) (hr1 : Kd.C (Kd.int .i64) w A1 l1.length l1) (hc1 : l1.length ≤ c1) (h : turndownref07_Distance.f k l0 l1 = some r) :
  Calls Try.prog 35 #[.slice A0 l0.length c0, .slice A1 l1.length c1] w fun e w' => e = .returned (.int .i64 r) ∧ Below w.heap.size w w' := by
 have HR0 := Aside0.mk hr0
 have HC0 := Aside0.mk hc0
 clear hr0 hc0
 have HR1 := Aside0.mk hr1
 have HC1 := Aside0.mk hc1
 clear hr1 hc1
 have HB := Aside0.mk (Below.refl w.heap.size w)
 have H : (turndownref07_Distance.l0 k l0 l1 0 0) = some r := h
 clear h
 have H' := Aside0.mk H
 clear H
 go_enter Try.func35, Try.ntmps35
 go_wp2
 repeat (go_quiet (fail); try go_wp2)
 go_loopg [5, 6] k (fun kq v5 v6 w' => ∃ (x5_1 : Int) (x6_1 : Int), v5 = .int .i64 x5_1 ∧ v6 = .int .i64 x6_1 ∧ Aside0 (turndownref07_Distance.l0 kq l0 l1 x5_1 x6_1 = some r) ∧ Aside0 (kq ≤ k) ∧ Aside0 (Below w.heap.size w w'))
 case atStart => exact ⟨(0), (0), (by first | rfl | (simp; done) | (simp [*]; done)), (by first | rfl | (simp; done) | (simp [*]; done)), H', ⟨Nat.le_refl _⟩, ⟨by repeat (first | (with_reducible first | exact HB.out | apply below_alloc | apply pw_below_drewN | apply below_drew1) | exact HB.out)⟩⟩
 case round =>
  clear H'
  try clear c1
  try clear p2
  obtain ⟨x5_1, x6_1, rfl, rfl, HA, HK1, HB⟩ := hrel
  cases gk with
  | zero => exact absurd HA.out (by simp [turndownref07_Distance.l0])
  | succ k1 =>
   have H := HA.out
   clear HA
   simp only [turndownref07_Distance.l0] at H
   by_cases c3 : x6_1 < (l0.length : Int)
   ·
    rw [if_pos c3] at H
    have c3b0 : decide (x6_1 < (l0.length : Int)) = true := decide_eq_true c3
    clear c3
    by_cases c4 : 0 ≤ x6_1
    ·
     rw [if_pos c4] at H
     have c4b0 : decide (0 ≤ x6_1) = true := decide_eq_true c4
     clear c4
     by_cases c5 : x6_1 < (l1.length : Int)
     ·
      rw [if_pos c5] at H
      have c5b0 : decide (x6_1 < (l1.length : Int)) = true := decide_eq_true c5
      clear c5
      obtain ⟨ji6, hji6⟩ : ∃ j_ : Int, (mx (wrap64 ((rd l0 x6_1) - (rd l1 x6_1))) (wrap64 ((rd l1 x6_1) - (rd l0 x6_1)))) = j_ := ⟨_, rfl⟩
      replace H : (turndownref07_Distance.l0 k1 l0 l1 (wrap64 (x5_1 + (ji6))) (wrap64 (x6_1 + 1))) = some r := by first | (rw [hji6] at H; exact H) | (simp only [hji6] at H ⊢; exact H)
      have hji6_ : (if (wrap64 ((rd l0 x6_1) - (rd l1 x6_1))) < (wrap64 ((rd l1 x6_1) - (rd l0 x6_1))) then (wrap64 ((rd l1 x6_1) - (rd l0 x6_1))) else (wrap64 ((rd l0 x6_1) - (rd l1 x6_1)))) = ji6 := hji6
      have H' := Aside0.mk H
      clear H
      have p246 : 0 ≤ (x6_1 : Int) := of_decide_eq_true (by first | (with_reducible assumption) | assumption)
      have q246 : x6_1 < (l0.length : Int) := of_decide_eq_true (by first | (with_reducible assumption) | assumption)
      obtain ⟨ad246, e246, hx246_0⟩ := Kd.at_int HR0.out x6_1 p246 q246
      cases e246
      replace hx246_0 := (HB.out.cell (World.block_lt_of_cell? w _ hx246_0)).trans hx246_0
      replace p246 := eq_true p246
      replace q246 := eq_true q246
      have p247 : 0 ≤ (x6_1 : Int) := of_decide_eq_true (by first | (with_reducible assumption) | assumption)
      have q247 : x6_1 < (l1.length : Int) := of_decide_eq_true (by first | (with_reducible assumption) | assumption)
      obtain ⟨ad247, e247, hx247_0⟩ := Kd.at_int HR1.out x6_1 p247 q247
      cases e247
      replace hx247_0 := (HB.out.cell (World.block_lt_of_cell? w _ hx247_0)).trans hx247_0
      replace p247 := eq_true p247
      replace q247 := eq_true q247
      have p248 : 0 ≤ (x6_1 : Int) := of_decide_eq_true (by first | (with_reducible assumption) | assumption)
      have q248 : x6_1 < (l1.length : Int) := of_decide_eq_true (by first | (with_reducible assumption) | assumption)
      obtain ⟨ad248, e248, hx248_0⟩ := Kd.at_int HR1.out x6_1 p248 q248
      obtain rfl : ad247 = ad248 := (by injection e248)
      replace hx248_0 := (HB.out.cell (World.block_lt_of_cell? w _ hx248_0)).trans hx248_0
      replace p248 := eq_true p248
      replace q248 := eq_true q248
      have p249 : 0 ≤ (x6_1 : Int) := of_decide_eq_true (by first | (with_reducible assumption) | assumption)
      have q249 : x6_1 < (l0.length : Int) := of_decide_eq_true (by first | (with_reducible assumption) | assumption)
      obtain ⟨ad249, e249, hx249_0⟩ := Kd.at_int HR0.out x6_1 p249 q249
      obtain rfl : ad246 = ad249 := (by injection e249)
      replace hx249_0 := (HB.out.cell (World.block_lt_of_cell? w _ hx249_0)).trans hx249_0
      replace p249 := eq_true p249
      replace q249 := eq_true q249
      go_wp2
      repeat (go_quiet (fail); try go_wp2)
      go_roundg k1
      case measure => have := HK1.out; omega
      case rel => exact ⟨(wrap64 (x5_1 + (ji6))), (wrap64 (x6_1 + 1)), (by first | rfl | (simp; done) | (simp only [← hji6] <;> (first | rfl | simp)) | (simp [*]; done)), (by first | rfl | (simp; done) | (simp [*]; done)), H', ⟨by have := HK1.out; omega⟩, ⟨by repeat (first | (with_reducible first | exact HB.out | apply below_alloc | apply pw_below_drewN | apply below_drew1) | exact HB.out)⟩⟩
     ·
      rw [if_neg c5] at H
      exact absurd H (by simp)
    ·
     rw [if_neg c4] at H
     exact absurd H (by simp)
   ·
    rw [if_neg c3] at H
    have c3b0 : decide (x6_1 < (l0.length : Int)) = false := decide_eq_false c3
    clear c3
    obtain rfl := Option.some.inj H
    go_wp2
    repeat (go_quiet (fail); try go_wp2)
    go_ret
    exact ⟨by first | rfl | (simp [errW_none, errW_some] <;> rfl) | (simp [*, errW_none, errW_some] <;> rfl), by repeat (first | (with_reducible first | exact HB.out | apply below_alloc | apply pw_below_drewN | apply below_drew1) | exact HB.out)⟩
end Go.Proofs.Ytakbijpcfnipoaa.PA

set_option linter.unusedVariables false
set_option linter.unusedSimpArgs false
namespace Go.Proofs.Ytakbijpcfnipoaa.L
open Go.RowKit Go.Proofs.YtakbijpcfnipoaaW.PrintWords Go.Proofs.YtakbijpcfnipoaaW.PrintLast Go.Proofs.YtakbijpcfnipoaaW.PrintMore
open Go.Proofs.Ytakbijpcfnipoaa.PA Go.Proofs.Ytakbijpcfnipoaa.A Go.Proofs.Ytakbijpcfnipoaa.Lf
theorem Ev.cong {α : Type} {g : Nat → Option α} {r r' : α} (h : Ev g r) (e : r = r') : Ev g r' := e ▸ h
theorem rd_nat (l : List Int) (q : Nat) : rd l (q : Int) = l.getD q 0 := rfl
theorem w1 {q : Nat} (h : q ≤ 100000000) : wrap64 ((q : Int) + 1) = ((q + 1 : Nat) : Int) := by unfold wrap64; omega
theorem wm {q : Nat} (h : q ≤ 100000000) : wrap64 (((q + 1 : Nat) : Int) - 1) = (q : Int) := by unfold wrap64; omega
theorem drop_cons {α : Type} {l : List α} {q : Nat} (h : q < l.length) (d : α) : l.drop q = l.getD q d :: l.drop (q + 1) := by
  rw [List.getD_eq_getElem?_getD, List.getElem?_eq_getElem h]
  exact List.drop_eq_getElem_cons h
theorem list_f (l : List Int) : turndownlaw07_list.f l = some (l.take 41) := by
  unfold turndownlaw07_list.f
  by_cases h : (41 : Int) < (l.length : Int)
  · have e : mn (l.length : Int) 41 = 41 := by unfold mn; rw [if_pos h]
    rw [e]
    rw [if_pos (by omega), if_pos (by omega)]
    rw [show ((41 : Int)).toNat = 41 from rfl, if_pos (by rw [List.length_take]; simp; omega)]
    rfl
  · have e : mn (l.length : Int) 41 = (l.length : Int) := by unfold mn; rw [if_neg h]
    rw [e]
    rw [if_pos (by omega), if_pos (by omega), Int.toNat_natCast, if_pos (by rw [List.length_take]; simp; omega)]
    rw [List.take_of_length_le (Nat.le_refl _), List.take_of_length_le (by omega)]
    rfl
theorem mx_ab {x y : Int} (hx : Fl x) (hy : Fl y) : mx (wrap64 (x - y)) (wrap64 (y - x)) = ab x y := by
  obtain ⟨a, b⟩ := hx
  obtain ⟨c, d⟩ := hy
  rw [wrap_id (by omega) (by omega), wrap_id (by omega) (by omega)]
  unfold mx ab
  split <;> omega
theorem fl_getD {l : List Int} (h : ∀ x ∈ l, Fl x) {q : Nat} (hq : q < l.length) : Fl (l.getD q 0) := by
  rw [List.getD_eq_getElem?_getD, List.getElem?_eq_getElem hq]; exact h _ (List.getElem_mem hq)
theorem distance_ev {a b : List Int} (hl : a.length = b.length) (h1000 : a.length ≤ 1000) (ha : ∀ x ∈ a, Fl x) (hb : ∀ x ∈ b, Fl x) : Ev (fun k => turndownref07_Distance.f k a b) (dist a b) := by
  have key : ∀ e q (s : Int), q + e = a.length → 0 ≤ s → s ≤ 30 * q → Ev (fun k => turndownref07_Distance.l0 k a b s (q : Int)) (s + dist (a.drop q) (b.drop q)) := by
    intro e
    induction e with
    | zero =>
      intro q s hq _ _
      refine Ev.step (fun k => ?_) (Ev.now _)
      rw [turndownref07_Distance.l0, if_neg (by omega), List.drop_of_length_le (by omega)]
      simp [dist]
    | succ e ih =>
      intro q s hq h0 h3
      have hqa : q < a.length := by omega
      have hqb : q < b.length := by omega
      have fa := fl_getD ha hqa
      have fb := fl_getD hb hqb
      rw [drop_cons hqa 0, drop_cons hqb 0]
      have hs : ∀ k, turndownref07_Distance.l0 (k + 1) a b s (q : Int) = turndownref07_Distance.l0 k a b (wrap64 (s + ab (a.getD q 0) (b.getD q 0))) ((q + 1 : Nat) : Int) := fun k => by
        rw [turndownref07_Distance.l0, if_pos (by omega), if_pos (by omega), if_pos (by omega), rd_nat, rd_nat, mx_ab fa fb, w1 (by omega)]
      obtain ⟨x, hx⟩ : ∃ x, a.getD q 0 = x := ⟨_, rfl⟩
      obtain ⟨y, hy⟩ : ∃ x, b.getD q 0 = x := ⟨_, rfl⟩
      rw [hx, hy] at hs ⊢
      rw [hx] at fa
      rw [hy] at fb
      have hab : 0 ≤ ab x y ∧ ab x y ≤ 30 := by unfold Fl at fa fb; unfold ab; omega
      have hd : dist (x :: a.drop (q + 1)) (y :: b.drop (q + 1)) = ab x y + dist (a.drop (q + 1)) (b.drop (q + 1)) := rfl
      rw [hd, ← Int.add_assoc]
      refine Ev.step hs ?_
      rw [wrap_id (by omega) (by omega)]
      exact ih (q + 1) _ (by omega) (by omega) (by push_cast; omega)
  exact Ev.cong (key a.length 0 0 (by omega) (by omega) (by omega)) (by simp)
end Go.Proofs.Ytakbijpcfnipoaa.L

set_option linter.unusedVariables false
set_option linter.unusedSimpArgs false
namespace Go.Proofs.Ytakbijpcfnipoaa.L
open Go.RowKit Go.Proofs.YtakbijpcfnipoaaW.PrintWords Go.Proofs.YtakbijpcfnipoaaW.PrintLast Go.Proofs.YtakbijpcfnipoaaW.PrintMore
open Go.Proofs.Ytakbijpcfnipoaa.PA Go.Proofs.Ytakbijpcfnipoaa.A Go.Proofs.Ytakbijpcfnipoaa.Lf
def RowAt (B : Nat) (W : World) (h : Option Addr × Nat × Nat) (l : List Int) : Prop :=
  h.2.1 = l.length ∧ l.length ≤ h.2.2 ∧ l.length ≤ 1000 ∧ ∃ ad, h.1 = some ad ∧ (∀ j, j < l.length → W.cell? (ad.add j) = some (.int .i64 (l.getD j 0))) ∧ ad.block < W.heap.size ∧ (ad.block < B ∨ ∃ cells, W.heap[ad.block]? = some (.cells cells 3 (0, 0)))
theorem add_block (ad : Addr) (j : Nat) : (ad.add j).block = ad.block := by unfold Addr.add; split <;> rfl
theorem RowAt.C {B : Nat} {W : World} {h : Option Addr × Nat × Nat} {l : List Int} (hr : RowAt B W h l) : Kd.C (Kd.int .i64) W h.1 l.length l := by
  obtain ⟨h1, h2, h3, ad, e, hc, _⟩ := hr
  refine ⟨rfl, by omega, fun _ => ⟨ad, e, fun j p hj => ⟨[.int .i64 p], rfl, rfl, fun i u hu => ?_⟩⟩⟩
  have hi0 : i = 0 := by
    have := (List.getElem?_eq_some_iff.1 hu).1
    simp at this; exact this
  subst hi0
  simp at hu
  subst hu
  obtain ⟨hjl, rfl⟩ := List.getElem?_eq_some_iff.1 hj
  show W.cell? (ad.add (j * 1 + 0)) = _
  rw [show j * 1 + 0 = j by omega, hc j hjl, List.getD_eq_getElem?_getD, List.getElem?_eq_getElem hjl]
  rfl
theorem RowAt.moved {B : Nat} {W W' : World} {h : Option Addr × Nat × Nat} {l : List Int} (hr : RowAt B W h l) (hz : W.heap.size ≤ W'.heap.size) (hb : ∀ b, b < W.heap.size → (b < B ∨ ∃ cells, W.heap[b]? = some (.cells cells 3 (0, 0))) → W'.heap[b]? = W.heap[b]?) : RowAt B W' h l := by
  obtain ⟨h1, h2, h3, ad, e, hc, hlt, hty⟩ := hr
  have hk := hb ad.block hlt hty
  refine ⟨h1, h2, h3, ad, e, fun j hj => ?_, Nat.lt_of_lt_of_le hlt hz, ?_⟩
  · rw [World.cell?_of_block (show W'.heap[(ad.add j).block]? = W.heap[(ad.add j).block]? by rw [add_block]; exact hk)]
    exact hc j hj
  · rw [hk]; exact hty
theorem RowAt.below {B : Nat} {W W' : World} {h : Option Addr × Nat × Nat} {l : List Int} (hr : RowAt B W h l) (hb : Below W.heap.size W W') : RowAt B W' h l := hr.moved hb.size (fun b hlt _ => hb.block b hlt)
theorem RowAt.grown {B : Nat} {W W' : World} {h : Option Addr × Nat × Nat} {l : List Int} {row : Option Nat} (hr : RowAt B W h l) (hg : W.grownBy W' row) (ho : ∀ b, row = some b → B ≤ b ∧ ∃ cells, W.heap[b]? = some (.cells cells 22 (0, 0))) : RowAt B W' h l :=
  hr.moved hg.size (fun b hlt hty => hg.block b hlt (fun e => by
    obtain ⟨h1, cells, h2⟩ := ho b e.symm
    rcases hty with hty | ⟨cells', hty⟩
    · omega
    · rw [h2] at hty; injection hty with hty; injection hty with _ hty; cases hty))
end Go.Proofs.Ytakbijpcfnipoaa.L

set_option linter.unusedVariables false
set_option linter.unusedSimpArgs false
namespace Go.Proofs.Ytakbijpcfnipoaa.A
open Go.RowKit Go.Proofs.YtakbijpcfnipoaaW.PrintWords Go.Proofs.YtakbijpcfnipoaaW.PrintLast Go.Proofs.YtakbijpcfnipoaaW.PrintMore
open Go.Proofs.Ytakbijpcfnipoaa.PA Go.Proofs.Ytakbijpcfnipoaa.Lf
def fsF (k : Nat) : (List Int → Int) → List Int → List Int → List (List Int)
  | _, _, [] => []
  | w, s, f :: c => (chp (fun x => nxt k w f x + dist s x) f (allF k 0)).1 :: fsF k (nxt k w f) (chp (fun x => nxt k w f x + dist s x) f (allF k 0)).1 c
theorem fsF_len (k : Nat) : ∀ (c : List Int) (w : List Int → Int) (s : List Int), (fsF k w s c).length = c.length
  | [], _, _ => rfl
  | f :: c, w, s => by simp [fsF, fsF_len k c]
def fsP (k : Nat) (s0 c : List Int) : Nat → List Int
  | 0 => s0
  | i + 1 => (fsF k (dist s0) s0 c).getD i []
theorem fsF_at (k : Nat) : ∀ (c : List Int) (w : List Int → Int) (s : List Int) (i : Nat), i < c.length → (fsF k w s c).getD i [] = (chp (fun x => works k w (c.take (i + 1)) x + dist (match i with | 0 => s | j + 1 => (fsF k w s c).getD j []) x) (c.getD i 0) (allF k 0)).1
  | [], _, _, i, h => absurd h (Nat.not_lt_zero _)
  | f :: c, w, s, 0, _ => by simp [fsF, works]
  | f :: c, w, s, i + 1, h => by
    have ih := fsF_at k c (nxt k w f) (chp (fun x => nxt k w f x + dist s x) f (allF k 0)).1 i (Nat.lt_of_succ_lt_succ h)
    show (fsF k (nxt k w f) (chp (fun x => nxt k w f x + dist s x) f (allF k 0)).1 c).getD i [] = _
    rw [ih]
    cases i with
    | zero => rfl
    | succ j => rfl
theorem fsP_step (k : Nat) (s0 c : List Int) {i : Nat} (h : i < c.length) : fsP k s0 c (i + 1) = (chp (fun x => works k (dist s0) (c.take (i + 1)) x + dist (fsP k s0 c i) x) (c.getD i 0) (allF k 0)).1 := by
  show (fsF k (dist s0) s0 c).getD i [] = _
  rw [fsF_at k c (dist s0) s0 i h]
  cases i with
  | zero => rfl
  | succ j => rfl
theorem works_bd0 {k : Nat} (hk1 : 1 ≤ k) (hk3 : k ≤ 3) {s c : List Int} (hs : Pos k s) (hc : Fls c) (h40 : c.length ≤ 40) (i : Nat) : ∀ x, Pos k x → 0 ≤ works k (dist s) (c.take i) x ∧ works k (dist s) (c.take i) x ≤ 100000 := fun x hx => by
  have h9 := works_bd hk1 hs hk3 (c.take i) (dist s) 90 (fun y hy => hc y (List.mem_of_mem_take hy)) (first_lip k hs) (fun y hy => dist_bd hk3 hs hy) x hx
  have h8 : (c.take i).length ≤ 40 := by rw [List.length_take]; omega
  omega
theorem fsP_pos {k : Nat} (hk1 : 1 ≤ k) (hk3 : k ≤ 3) {s c : List Int} (hs : Pos k s) (hc : Fls c) (h40 : c.length ≤ 40) : ∀ i, i ≤ c.length → Pos k (fsP k s c i)
  | 0, _ => hs
  | i + 1, h => by
    have hil : i < c.length := h
    have hf : Fl (c.getD i 0) := by rw [List.getD_eq_getElem?_getD, List.getElem?_eq_getElem hil]; exact hc _ (List.getElem_mem hil)
    rw [fsP_step k s c hil]
    exact (chp_all hk1 _ hf.1 hf.2 (fun x hx => by have := (works_bd0 hk1 hk3 hs hc h40 (i + 1) x hx).1; have := dist_nonneg (fsP k s c i) x; omega)).1
theorem fsP_has {k : Nat} (hk1 : 1 ≤ k) (hk3 : k ≤ 3) {s c : List Int} (hs : Pos k s) (hc : Fls c) (h40 : c.length ≤ 40) {i : Nat} (hil : i < c.length) : c.getD i 0 ∈ fsP k s c (i + 1) := by
  have hf : Fl (c.getD i 0) := by rw [List.getD_eq_getElem?_getD, List.getElem?_eq_getElem hil]; exact hc _ (List.getElem_mem hil)
  rw [fsP_step k s c hil]
  exact (chp_all hk1 _ hf.1 hf.2 (fun x hx => by have := (works_bd0 hk1 hk3 hs hc h40 (i + 1) x hx).1; have := dist_nonneg (fsP k s c i) x; omega)).2.1
end Go.Proofs.Ytakbijpcfnipoaa.A
namespace Go.Proofs.Ytakbijpcfnipoaa.PA
open Go.RowKit Go.Proofs.YtakbijpcfnipoaaW.PrintWords Go.Proofs.YtakbijpcfnipoaaW.PrintLast Go.Proofs.YtakbijpcfnipoaaW.PrintMore
open Go.Proofs.Ytakbijpcfnipoaa.A Go.Proofs.Ytakbijpcfnipoaa.Lf
end Go.Proofs.Ytakbijpcfnipoaa.PA

set_option linter.unusedVariables false
set_option linter.unusedSimpArgs false
namespace Go.Proofs.Ytakbijpcfnipoaa.L
open Go.RowKit Go.Proofs.YtakbijpcfnipoaaW.PrintWords Go.Proofs.YtakbijpcfnipoaaW.PrintLast Go.Proofs.YtakbijpcfnipoaaW.PrintMore
open Go.Proofs.Ytakbijpcfnipoaa.PA Go.Proofs.Ytakbijpcfnipoaa.A Go.Proofs.Ytakbijpcfnipoaa.Lf
abbrev RI := List (Option Addr × Nat × List Int)
abbrev RT := List (Option Addr × Nat × List (List Int))
structure Env (w W : World) (I : RI) (T : RT) : Prop where
  bel : Below w.heap.size w W
  is : ∀ r ∈ I, Kd.C (Kd.int .i64) W r.1 r.2.2.length r.2.2 ∧ r.2.2.length ≤ r.2.1
  ts : ∀ r ∈ T, Kd.C (Kd.slice 3 (Kd.int .i64)) W r.1 r.2.2.length r.2.2 ∧ r.2.2.length ≤ r.2.1
section
variable {w W W' : World} {I : RI} {T : RT}
theorem Env.below (h : Env w W I T) (hb : Below W.heap.size W W') : Env w W' I T :=
  ⟨h.bel.trans (hb.mono h.bel.size), fun r hr => ⟨Kd.C_below (h.is r hr).1 hb, (h.is r hr).2⟩, fun r hr => ⟨Kd.C_below (h.ts r hr).1 hb, (h.ts r hr).2⟩⟩
theorem Env.drawn (h : Env w W I T) (hb : Drawn0 W W') : Env w W' I T := h.below hb.below
theorem Env.addI (h : Env w W I T) {A : Option Addr} {c : Nat} {l : List Int} (h1 : Kd.C (Kd.int .i64) W A l.length l) (h2 : l.length ≤ c) : Env w W ((A, c, l) :: I) T :=
  ⟨h.bel, fun r hr => by rcases List.mem_cons.1 hr with rfl | hr; exact ⟨h1, h2⟩; exact h.is r hr, h.ts⟩
theorem Env.addT (h : Env w W I T) {A : Option Addr} {c : Nat} {l : List (List Int)} (h1 : Kd.C (Kd.slice 3 (Kd.int .i64)) W A l.length l) (h2 : l.length ≤ c) : Env w W I ((A, c, l) :: T) :=
  ⟨h.bel, h.is, fun r hr => by rcases List.mem_cons.1 hr with rfl | hr; exact ⟨h1, h2⟩; exact h.ts r hr⟩
theorem Env.start (w : World) : Env w w [] [] := ⟨Below.refl _ _, by simp, by simp⟩
theorem best_E (h : Env w W I T) {A0 A1 : Option Addr} {c0 c1 : Nat} {s c : List Int} (m0 : (A0, c0, s) ∈ I) (m1 : (A1, c1, c) ∈ I) {r1 : List (List Int)} {r2 r3 : Int} (hf : lifts_Best.f s c = some (r1, r2, r3)) :
    Calls Try.prog 22 #[.slice A0 s.length c0, .slice A1 c.length c1] W fun e w' => ∃ A' c', e = .returned (.tuple #[.slice A' r1.length c', .int .i64 r2, .int .i64 r3]) ∧ Env w w' I ((A', c', r1) :: T) := by
  refine (lifts_Best.calls A0 c0 s A1 c1 c r1 r2 r3 W (h.is _ m0).1 (h.is _ m0).2 (h.is _ m1).1 (h.is _ m1).2 hf).mono ?_
  rintro e w' ⟨v, rfl, hR, hb⟩
  obtain ⟨A', c', rfl, g1, g2⟩ := Kd.S_reads hR
  exact ⟨A', c', rfl, (h.below hb).addT g2 g1⟩
theorem work_E (h : Env w W I T) {A0 A1 A2 : Option Addr} {c0 c1 c2 : Nat} {s c t : List Int} (m0 : (A0, c0, s) ∈ I) (m1 : (A1, c1, c) ∈ I) (m2 : (A2, c2, t) ∈ I) {r1 r2 : Int} (hf : lifts_Work.f s c t = some (r1, r2)) :
    Calls Try.prog 24 #[.slice A0 s.length c0, .slice A1 c.length c1, .slice A2 t.length c2] W fun e w' => e = .returned (.tuple #[.int .i64 r1, .int .i64 r2]) ∧ Env w w' I T := by
  refine (lifts_Work.calls A0 c0 s A1 c1 c A2 c2 t r1 r2 W (h.is _ m0).1 (h.is _ m0).2 (h.is _ m1).1 (h.is _ m1).2 (h.is _ m2).1 (h.is _ m2).2 hf).mono ?_
  rintro e w' ⟨rfl, hb⟩
  exact ⟨rfl, h.below hb⟩
theorem awake_E (h : Env w W I T) : Calls Try.prog 19 #[] W fun e w' => e = .returned (.bool true) ∧ Env w w' I T := by
  refine (awake_c W).mono ?_
  rintro e w' ⟨rfl, hb⟩
  exact ⟨rfl, h.below hb⟩
end
end Go.Proofs.Ytakbijpcfnipoaa.L

namespace Go.Proofs.Ytakbijpcfnipoaa.PA
open Go.RowKit Go.Proofs.YtakbijpcfnipoaaW.PrintWords Go.Proofs.YtakbijpcfnipoaaW.PrintLast Go.Proofs.YtakbijpcfnipoaaW.PrintMore
attribute [local go_sem] max2_int min2_int max_two min_two max_three min_three max_four min_four
set_option linter.unusedVariables false
set_option linter.unusedSimpArgs false
def turndownlaw07_mod.f (a0 : Int) (a1 : Int) : Option (Int) := if (IntKind.u64.wrap (a1)) = 0 then (none) else (some (wrap64 (Int.tmod (IntKind.u64.wrap (a0)) (IntKind.u64.wrap (a1)))))
set_option maxHeartbeats 8000000 in
set_option maxRecDepth 100000 in
theorem turndownlaw07_mod.calls (a0 : Int) (a1 : Int) (r : Int) (w : World) (h : turndownlaw07_mod.f a0 a1 = some r) :
  Calls Try.prog 36 #[.int .i64 a0, .int .i64 a1] w fun e w' => e = .returned (.int .i64 r) ∧ Drawn0 w w' := by
 have H : (if (IntKind.u64.wrap (a1)) = 0 then (none) else (some (wrap64 (Int.tmod (IntKind.u64.wrap (a0)) (IntKind.u64.wrap (a1)))))) = some r := h
 clear h
 by_cases c3 : (IntKind.u64.wrap (a1)) = 0
 ·
  rw [if_pos c3] at H
  exact absurd H (by simp)
 ·
  rw [if_neg c3] at H
  have c3b0 : ((IntKind.u64.wrap (a1)) == 0) = false := beq_eq_false_iff_ne.mpr c3
  have c3b1 : ((IntKind.u64.wrap (a1)) != 0) = true := bne_iff_ne.mpr c3
  obtain rfl := Option.some.inj H
  go_enter Try.func36, Try.ntmps36
  go_wp2
  go_ret
  exact ⟨by first | rfl | (simp; done) | (simp [*]; done), by repeat (first | exact Drawn0.refl _ | apply Drawn0.step)⟩
end Go.Proofs.Ytakbijpcfnipoaa.PA

namespace Go.Proofs.Ytakbijpcfnipoaa.PA
open Go.RowKit Go.Proofs.YtakbijpcfnipoaaW.PrintWords Go.Proofs.YtakbijpcfnipoaaW.PrintLast Go.Proofs.YtakbijpcfnipoaaW.PrintMore
attribute [local go_sem] max2_int min2_int max_two min_two max_three min_three max_four min_four
set_option linter.unusedVariables false
set_option linter.unusedSimpArgs false
def turndownlaw07_lifted.f (l0 : List Int) : Option (Int) := (turndownlaw07_mod.f (wrap64 ((l0.length : Int) - 1)) 3).bind fun t417 => (some (wrap64 (1 + t417)))
set_option maxHeartbeats 8000000 in
set_option maxRecDepth 100000 in
theorem turndownlaw07_lifted.calls (A0 : Option Addr) (c0 : Nat) (l0 : List Int) (r : Int) (w : World) (hr0 : Kd.C (Kd.int .i64) w A0 l0.length l0) (hc0 : l0.length ≤ c0) (h : turndownlaw07_lifted.f l0 = some r) :
  Calls Try.prog 30 #[.slice A0 l0.length c0] w fun e w' => e = .returned (.int .i64 r) ∧ Drawn0 w w' := by
 have HR0 := Aside0.mk hr0
 have HC0 := Aside0.mk hc0
 clear hr0 hc0
 have H : ((turndownlaw07_mod.f (wrap64 ((l0.length : Int) - 1)) 3).bind fun t417 => (some (wrap64 (1 + t417)))) = some r := h
 clear h
 replace H := Option.bind_eq_some_iff.mp H
 obtain ⟨t417, A20, H⟩ := H
 replace H : (some (wrap64 (1 + t417))) = some r := H
 have A2 := Aside0.mk A20
 clear A20
 obtain rfl := Option.some.inj H
 go_enter Try.func30, Try.ntmps30
 go_wp2_with (first | ((with_reducible refine gate_callee (f := 36) rfl ?_); refine goesL_ (some 6) rfl rfl Try.func36 (by kernel_rfl) rfl #[.int .i64 (wrap64 ((l0.length : Int) - 1)), .int .i64 3] rfl (by (try simp only [List.map_toArray, List.map_cons, List.map_nil]); first | done | rfl | (simp only [List.length_drop, List.length_take]; rfl)) ?_; (with_reducible refine (turndownlaw07_mod.calls (wrap64 ((l0.length : Int) - 1)) 3 t417 _ A2.out).mono ?_); rintro e w' ⟨rfl, ⟨nd, rfl⟩⟩; refine ⟨_, rfl, ?_⟩))
 go_ret
 exact ⟨by first | rfl | (simp; done) | (simp [*]; done), by repeat (first | exact Drawn0.refl _ | apply Drawn0.step)⟩
end Go.Proofs.Ytakbijpcfnipoaa.PA
