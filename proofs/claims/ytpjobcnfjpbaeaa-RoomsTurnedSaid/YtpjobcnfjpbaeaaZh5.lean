/- For all bookings, rooms and numbers the statement RoomsTurned holds: Go's function returns true and changes nothing that existed. -/
import Derived.Test.YtpjobcnfjpbaeaaZh4
set_option linter.unusedSimpArgs false
set_option linter.unusedVariables false

namespace Go.Proofs.Ytpjobcnfjpbaeaa.PA
open Go.RowKit Go.Proofs.YtpjobcnfjpbaeaaW.PrintWords Go.Proofs.YtpjobcnfjpbaeaaW.PrintLast Go.Proofs.YtpjobcnfjpbaeaaW.PrintMore
attribute [local go_sem] max2_int min2_int max_two min_two max_three min_three max_four min_four
set_option linter.unusedVariables false
set_option linter.unusedSimpArgs false
mutual
def turndownref08_Right.j0 : Nat → List (S47) → List Int → Bool → List Int → List Int → Option (Bool)
  | 0, _, _, _, _, _ => none
  | k + 1, x0, x1, x21, x332000, x332001 => if x21 = true then (some false) else (turndownref08_Right.l0 k x0 x1 0 x332000 x332001)
def turndownref08_Right.l0 : Nat → List (S47) → List Int → Int → List Int → List Int → Option (Bool)
  | 0, _, _, _, _, _ => none
  | k + 1, x0, x1, x7, x332000, x332001 => if x7 < (x332001.length : Int) then (if 0 ≤ x7 then (if (rd x332001 x7) < 0 then (some false) else (if (rd x332001 x7) > 1099511627776 then (some false) else (turndownref08_Right.l0 k x0 x1 (wrap64 (x7 + 1)) x332000 x332001))) else (none)) else ((turndownref08_Revenue.f k x0 x332000).bind fun t335 => ((turndownref08_Bound.f k x0 x1 x332001).bind fun t336 => (some (t335 == t336))))
end
def turndownref08_Right.f (k : Nat) (l0 : List (S47)) (l1 : List Int) (l2_0 : List Int) (l2_1 : List Int) : Option (Bool) := (turndownref08_Fits.f k l0 l1 l2_0).bind fun t332 => (if t332 = true then (turndownref08_Right.j0 k l0 l1 ((l2_1.length : Int) != (l1.length : Int)) l2_0 l2_1) else (turndownref08_Right.j0 k l0 l1 true l2_0 l2_1))
theorem turndownref08_Right.mono_l : ∀ k, (∀ y0 y1 y2 y3 y4, LeO (turndownref08_Right.j0 k y0 y1 y2 y3 y4) (turndownref08_Right.j0 (k + 1) y0 y1 y2 y3 y4)) ∧ (∀ y0 y1 y2 y3 y4, LeO (turndownref08_Right.l0 k y0 y1 y2 y3 y4) (turndownref08_Right.l0 (k + 1) y0 y1 y2 y3 y4))
  | 0 => ⟨fun _ _ _ _ _ r h => by simp [turndownref08_Right.j0] at h, fun _ _ _ _ _ r h => by simp [turndownref08_Right.l0] at h⟩
  | k + 1 => by
    obtain ⟨ih0, ih1⟩ := turndownref08_Right.mono_l k
    refine ⟨?_, ?_⟩
    · intro y0 y1 y2 y3 y4
      unfold turndownref08_Right.j0
      repeat' first
      | (with_reducible exact ih0 _ _ _ _ _)
      | (with_reducible exact ih1 _ _ _ _ _)
      | (with_reducible exact turndownref08_Bound.mono _ _ _ _)
      | (with_reducible exact turndownref08_Fits.mono _ _ _ _)
      | (with_reducible exact turndownref08_Revenue.mono _ _ _)
      | (with_reducible exact LeO.refl _)
      | (with_reducible exact LeO.none _)
      | (with_reducible refine LeO.ite ?_ ?_)
      | (with_reducible refine LeO.bind ?_ (fun _ => ?_))
      | exact ih0 _ _ _ _ _
      | exact ih1 _ _ _ _ _
      | exact turndownref08_Bound.mono _ _ _ _
      | exact turndownref08_Fits.mono _ _ _ _
      | exact turndownref08_Revenue.mono _ _ _
      | exact LeO.none _
      | refine LeO.ite ?_ ?_
      | refine LeO.bind ?_ (fun _ => ?_)
    · intro y0 y1 y2 y3 y4
      unfold turndownref08_Right.l0
      repeat' first
      | (with_reducible exact ih0 _ _ _ _ _)
      | (with_reducible exact ih1 _ _ _ _ _)
      | (with_reducible exact turndownref08_Bound.mono _ _ _ _)
      | (with_reducible exact turndownref08_Fits.mono _ _ _ _)
      | (with_reducible exact turndownref08_Revenue.mono _ _ _)
      | (with_reducible exact LeO.refl _)
      | (with_reducible exact LeO.none _)
      | (with_reducible refine LeO.ite ?_ ?_)
      | (with_reducible refine LeO.bind ?_ (fun _ => ?_))
      | exact ih0 _ _ _ _ _
      | exact ih1 _ _ _ _ _
      | exact turndownref08_Bound.mono _ _ _ _
      | exact turndownref08_Fits.mono _ _ _ _
      | exact turndownref08_Revenue.mono _ _ _
      | exact LeO.none _
      | refine LeO.ite ?_ ?_
      | refine LeO.bind ?_ (fun _ => ?_)
theorem turndownref08_Right.mono : ∀ a0 a1 a2 a3 k, LeO (turndownref08_Right.f k a0 a1 a2 a3) (turndownref08_Right.f (k + 1) a0 a1 a2 a3) := by
  intro a0 a1 a2 a3 k
  obtain ⟨ih0, ih1⟩ := turndownref08_Right.mono_l k
  unfold turndownref08_Right.f
  repeat' first
      | (with_reducible exact ih0 _ _ _ _ _)
      | (with_reducible exact ih1 _ _ _ _ _)
      | (with_reducible exact turndownref08_Bound.mono _ _ _ _)
      | (with_reducible exact turndownref08_Fits.mono _ _ _ _)
      | (with_reducible exact turndownref08_Revenue.mono _ _ _)
      | (with_reducible exact LeO.refl _)
      | (with_reducible exact LeO.none _)
      | (with_reducible refine LeO.ite ?_ ?_)
      | (with_reducible refine LeO.bind ?_ (fun _ => ?_))
      | exact ih0 _ _ _ _ _
      | exact ih1 _ _ _ _ _
      | exact turndownref08_Bound.mono _ _ _ _
      | exact turndownref08_Fits.mono _ _ _ _
      | exact turndownref08_Revenue.mono _ _ _
      | exact LeO.none _
      | refine LeO.ite ?_ ?_
      | refine LeO.bind ?_ (fun _ => ?_)
def turndownref08_Right.T8 : Bool × List (List Nat × List Nat) := (true, [([], []), ([], []), ([1], [1]), ([0, 2], [0, 2]), ([], []), ([], []), ([], []), ([6], [6]), ([4, 5, 7, 3], [4, 5, 7]), ([3, 8], [3, 8]), ([9, 8, 0, 1, 2, 3, 4, 5, 6, 7, 8, 9], [9])])
def turndownref08_Right.B8 : List Nat := [0, 0, 2, 7, 0, 0, 0, 64, 255, 511, 1023]
theorem turndownref08_Right.tab8 : rtab .any (opsOf Try.f33 8) = turndownref08_Right.T8 := by kernel_rfl
theorem turndownref08_Right.bits8 : waitsOk turndownref08_Right.T8.2 turndownref08_Right.B8 = true := by kernel_rfl
set_option maxHeartbeats 8000000 in
set_option maxRecDepth 100000 in
theorem turndownref08_Right.calls (k : Nat) (A0 : Option Addr) (c0 : Nat) (l0 : List (S47)) (A1 : Option Addr) (c1 : Nat) (l1 : List Int) (A2_0 : Option Addr) (c2_0 : Nat) (l2_0 : List Int) (A2_1 : Option Addr) (c2_1 : Nat) (l2_1 : List Int) (r : Bool) (w : World) (hr0 : Kd.C k47 w A0 l0.length l0) (hc0 : l0.length ≤ c0) (hr1 : Kd.C (Kd.int .i64) w A1 l1.length l1) (hc1 : l1.length ≤ c1) (hr2_0 : Kd.C (Kd.int .i64) w A2_0 l2_0.length l2_0) (hc2_0 : l2_0.length ≤ c2_0) (hr2_1 : Kd.C (Kd.int .i64) w A2_1 l2_1.length l2_1) (hc2_1 : l2_1.length ≤ c2_1) (h : turndownref08_Right.f k l0 l1 l2_0 l2_1 = some r) :
    Calls Try.prog 33 #[.slice A0 l0.length c0, .slice A1 l1.length c1, .agg #[.slice A2_0 l2_0.length c2_0, .slice A2_1 l2_1.length c2_1]] w fun e w' => e = .returned (.bool r) ∧ Below w.heap.size w w' := by
  have hu39 := Try.underlying39
  have HR0 := Aside0.mk hr0
  have HC0 := Aside0.mk hc0
  clear hr0 hc0
  have HR1 := Aside0.mk hr1
  have HC1 := Aside0.mk hc1
  clear hr1 hc1
  have HR2_0 := Aside0.mk hr2_0
  have HC2_0 := Aside0.mk hc2_0
  clear hr2_0 hc2_0
  have HR2_1 := Aside0.mk hr2_1
  have HC2_1 := Aside0.mk hc2_1
  clear hr2_1 hc2_1
  have HB := Aside0.mk (Below.refl w.heap.size w)
  have H : ((turndownref08_Fits.f k l0 l1 l2_0).bind fun t332 => (if t332 = true then (turndownref08_Right.j0 k l0 l1 ((l2_1.length : Int) != (l1.length : Int)) l2_0 l2_1) else (turndownref08_Right.j0 k l0 l1 true l2_0 l2_1))) = some r := h
  clear h
  have HC4 := Aside0.mk H
  clear H
  go_enter Try.func33, Try.ntmps33
  go_upto_region 1 with (first | ((with_reducible refine gate_dst (N := 5) rfl ?_); (try (refine gate_guard (by rfl) ?_; dsimp only)); refine box_event ?hg (N := 5) ?hd (cs := #[.slice A2_0 l2_0.length c2_0, .slice A2_1 l2_1.length c2_1]) (t := 39) ?hr ?_; (case hd => rfl); (case hg => rfl); (case hr => first | (go_simp; done) | (go_simp; rfl)); intro gb331 hg w5 hbox hb; have n0_ := Aside0.mk (below_step (by repeat (first | (with_reducible first | exact HB.out | apply below_alloc | apply pw_below_drewN | apply below_drew1) | exact HB.out)) hb); have n1_ := Aside0.mk (hbox); have n2_ := Aside0.mk ((by rw [hg]; exact (below_size (by repeat (first | (with_reducible first | exact HB.out | apply below_alloc | apply pw_below_drewN | apply below_drew1) | exact HB.out))) : w.heap.size ≤ gb331)); have n3_ := Aside0.mk ((by rw [hg]; exact (below_size (by repeat (first | (with_reducible first | exact HB.out | apply below_alloc | apply pw_below_drewN | apply below_drew1) | exact HB.out))) : w.heap.size ≤ gb331)); clear HB; have HB := n0_; have BK331 := n1_; have GW331 := n2_; have GE331 := n3_; clear n0_ n1_ n2_ n3_; clear hb hbox hg))
  (try simp only [Act.put, List.setIfInBounds_toArray, List.set_cons_zero, List.set_cons_succ])
  go_cut [21] (fun v21 wc => ∃ (kq : Nat) (x21_3 : Bool), v21 = .bool x21_3 ∧ Aside0 (turndownref08_Right.j0 kq l0 l1 x21_3 l2_0 l2_1 = some r) ∧ Aside0 (kq ≤ k) ∧ Aside0 (wc.heap[gb331]? = some (.cells #[(.slice A2_0 l2_0.length c2_0), (.slice A2_1 l2_1.length c2_1)] 39 (0, 0))) ∧ Aside0 (Below w.heap.size w wc))
  case first =>
    have H := HC4.out
    clear HC4
    replace H := Option.bind_eq_some_iff.mp H
    obtain ⟨t332, A60, H⟩ := H
    replace H : (if t332 = true then (turndownref08_Right.j0 k l0 l1 ((l2_1.length : Int) != (l1.length : Int)) l2_0 l2_1) else (turndownref08_Right.j0 k l0 l1 true l2_0 l2_1)) = some r := H
    have A6 := Aside0.mk A60
    clear A60
    by_cases c7 : t332 = true
    · subst c7
      have H1 : (turndownref08_Right.j0 k l0 l1 ((l2_1.length : Int) != (l1.length : Int)) l2_0 l2_1) = some r := by rw [if_pos rfl] at H; exact H
      clear H
      have H := H1
      clear H1
      have H' := Aside0.mk H
      clear H
      have hcz8_0 : w5.cell? ⟨gb331, 0, none⟩ = some (.slice A2_0 l2_0.length c2_0) := (blk_cell BK331.out 0).trans rfl
      have hcz8_1 : w5.cell? ⟨gb331, 1, none⟩ = some (.slice A2_1 l2_1.length c2_1) := (blk_cell BK331.out 1).trans rfl
      have hfz8_0 := blk_frozen BK331.out 0
      have hfz8_1 := blk_frozen BK331.out 1
      go_wp2_with (first | ((with_reducible refine gate_callee (f := 27) rfl ?_); refine goesL_ (some 12) rfl rfl Try.func27 (by kernel_rfl) rfl #[.slice A0 l0.length c0, .slice A1 l1.length c1, .slice A2_0 l2_0.length c2_0] rfl (by (try simp only [List.map_toArray, List.map_cons, List.map_nil]); first | done | rfl | (simp only [List.length_drop, List.length_take]; rfl)) ?_; (with_reducible refine (turndownref08_Fits.calls k _ _ l0 _ _ l1 _ _ l2_0 true _ ?side1 ?side2 ?side3 ?side4 ?side5 ?side6 A6.out).mono ?_); (case side1 => repeat (first | exact (Kd.C_below HR0.out HB.out) | (with_reducible refine Kd.C_alloc ?_ _) | (with_reducible refine Kd.C_drewN ?_ _) | (with_reducible refine Kd.C_drew ?_))); (case side2 => exact HC0.out); (case side3 => repeat (first | exact (Kd.C_below HR1.out HB.out) | (with_reducible refine Kd.C_alloc ?_ _) | (with_reducible refine Kd.C_drewN ?_ _) | (with_reducible refine Kd.C_drew ?_))); (case side4 => exact HC1.out); (case side5 => repeat (first | exact (Kd.C_below HR2_0.out HB.out) | (with_reducible refine Kd.C_alloc ?_ _) | (with_reducible refine Kd.C_drewN ?_ _) | (with_reducible refine Kd.C_drew ?_))); (case side6 => exact HC2_0.out); rintro e w9 ⟨rfl, hb⟩; refine ⟨_, rfl, ?_⟩; have n0_ := Aside0.mk (blk_below (g := gb331) (o := .cells #[.slice A2_0 l2_0.length c2_0, .slice A2_1 l2_1.length c2_1] 39 (0, 0)) (by (with_reducible repeat (first | refine blk_drewN ?_ _ | refine blk_drew ?_ | refine blk_alloc ?_ _)); exact BK331.out) hb); have n1_ := Aside0.mk (below_step (by repeat (first | (with_reducible first | exact HB.out | apply below_alloc | apply pw_below_drewN | apply below_drew1 | refine below_set ?_ GE331.out) | exact HB.out)) hb); clear BK331; clear HB; have BK331 := n0_; have HB := n1_; clear n0_ n1_; (try clear hb); (try clear hb2); (try clear hk); (try clear hi); have hcz10_0 : w9.cell? ⟨gb331, 0, none⟩ = some (.slice A2_0 l2_0.length c2_0) := (blk_cell BK331.out 0).trans rfl; have hcz10_1 : w9.cell? ⟨gb331, 1, none⟩ = some (.slice A2_1 l2_1.length c2_1) := (blk_cell BK331.out 1).trans rfl; have hfz10_0 := blk_frozen BK331.out 0; have hfz10_1 := blk_frozen BK331.out 1))
      go_meet
      case rel => exact ⟨_, (((l2_1.length : Int) != (l1.length : Int))), (by first | rfl | (simp; done) | (simp [*]; done)), H', ⟨by first | omega | exact Nat.le_refl _⟩, ⟨by (with_reducible repeat (first | refine blk_drewN ?_ _ | refine blk_drew ?_ | refine blk_alloc ?_ _)); exact BK331.out⟩, ⟨by repeat (first | (with_reducible first | exact HB.out | apply below_alloc | apply pw_below_drewN | apply below_drew1 | refine below_set ?_ GE331.out) | exact HB.out)⟩⟩
    · replace c7 := Bool.eq_false_iff.mpr c7
      subst c7
      have H1 : (turndownref08_Right.j0 k l0 l1 true l2_0 l2_1) = some r := by rw [if_neg (show ¬ (false = true) by decide)] at H; exact H
      clear H
      have H := H1
      clear H1
      have H' := Aside0.mk H
      clear H
      have hcz11_0 : w5.cell? ⟨gb331, 0, none⟩ = some (.slice A2_0 l2_0.length c2_0) := (blk_cell BK331.out 0).trans rfl
      have hcz11_1 : w5.cell? ⟨gb331, 1, none⟩ = some (.slice A2_1 l2_1.length c2_1) := (blk_cell BK331.out 1).trans rfl
      have hfz11_0 := blk_frozen BK331.out 0
      have hfz11_1 := blk_frozen BK331.out 1
      go_wp2_with (first | ((with_reducible refine gate_callee (f := 27) rfl ?_); refine goesL_ (some 12) rfl rfl Try.func27 (by kernel_rfl) rfl #[.slice A0 l0.length c0, .slice A1 l1.length c1, .slice A2_0 l2_0.length c2_0] rfl (by (try simp only [List.map_toArray, List.map_cons, List.map_nil]); first | done | rfl | (simp only [List.length_drop, List.length_take]; rfl)) ?_; (with_reducible refine (turndownref08_Fits.calls k _ _ l0 _ _ l1 _ _ l2_0 false _ ?side1 ?side2 ?side3 ?side4 ?side5 ?side6 A6.out).mono ?_); (case side1 => repeat (first | exact (Kd.C_below HR0.out HB.out) | (with_reducible refine Kd.C_alloc ?_ _) | (with_reducible refine Kd.C_drewN ?_ _) | (with_reducible refine Kd.C_drew ?_))); (case side2 => exact HC0.out); (case side3 => repeat (first | exact (Kd.C_below HR1.out HB.out) | (with_reducible refine Kd.C_alloc ?_ _) | (with_reducible refine Kd.C_drewN ?_ _) | (with_reducible refine Kd.C_drew ?_))); (case side4 => exact HC1.out); (case side5 => repeat (first | exact (Kd.C_below HR2_0.out HB.out) | (with_reducible refine Kd.C_alloc ?_ _) | (with_reducible refine Kd.C_drewN ?_ _) | (with_reducible refine Kd.C_drew ?_))); (case side6 => exact HC2_0.out); rintro e w12 ⟨rfl, hb⟩; refine ⟨_, rfl, ?_⟩; have n0_ := Aside0.mk (blk_below (g := gb331) (o := .cells #[.slice A2_0 l2_0.length c2_0, .slice A2_1 l2_1.length c2_1] 39 (0, 0)) (by (with_reducible repeat (first | refine blk_drewN ?_ _ | refine blk_drew ?_ | refine blk_alloc ?_ _)); exact BK331.out) hb); have n1_ := Aside0.mk (below_step (by repeat (first | (with_reducible first | exact HB.out | apply below_alloc | apply pw_below_drewN | apply below_drew1 | refine below_set ?_ GE331.out) | exact HB.out)) hb); clear BK331; clear HB; have BK331 := n0_; have HB := n1_; clear n0_ n1_; (try clear hb); (try clear hb2); (try clear hk); (try clear hi)))
      go_meet
      case rel => exact ⟨_, (true), (by first | rfl | (simp; done) | (simp [*]; done)), H', ⟨by first | omega | exact Nat.le_refl _⟩, ⟨by (with_reducible repeat (first | refine blk_drewN ?_ _ | refine blk_drew ?_ | refine blk_alloc ?_ _)); exact BK331.out⟩, ⟨by repeat (first | (with_reducible first | exact HB.out | apply below_alloc | apply pw_below_drewN | apply below_drew1 | refine below_set ?_ GE331.out) | exact HB.out)⟩⟩
  case rest =>
    clear HC4
    try clear c1
    try clear c2
    try clear p2
    try clear c3
    try clear c7
    try clear hcz10_0
    try clear hcz10_1
    try clear hcz11_0
    try clear hcz11_1
    try clear hcz8_0
    try clear hcz8_1
    try clear hfz10_0
    try clear hfz10_1
    try clear hfz11_0
    try clear hfz11_1
    try clear hfz8_0
    try clear hfz8_1
    obtain ⟨kq, x21_3, rfl, HA, HJ3, BK331, HB⟩ := hcut
    cases kq with
    | zero => exact absurd HA.out (by simp [turndownref08_Right.j0])
    | succ kj3 =>
      have H := HA.out
      clear HA
      simp only [turndownref08_Right.j0] at H
      by_cases c13 : x21_3 = true
      · subst c13
        have H1 : (some false) = some r := by rw [if_pos rfl] at H; exact H
        clear H
        have H := H1
        clear H1
        obtain rfl := Option.some.inj H
        go_wp2
        go_ret
        exact ⟨by first | rfl | (simp [errW_none, errW_some] <;> rfl) | (simp [*, errW_none, errW_some] <;> rfl), by repeat (first | (with_reducible first | exact HB.out | apply below_alloc | apply pw_below_drewN | apply below_drew1 | refine below_set ?_ GE331.out) | exact HB.out)⟩
      · replace c13 := Bool.eq_false_iff.mpr c13
        subst c13
        have H1 : (turndownref08_Right.l0 kj3 l0 l1 0 l2_0 l2_1) = some r := by rw [if_neg (show ¬ (false = true) by decide)] at H; exact H
        clear H
        have H := H1
        clear H1
        have H' := Aside0.mk H
        clear H
        go_wp2
        go_loopg [7] kj3 (fun kq v7 w' => ∃ (x7_2 : Int), v7 = .int .i64 x7_2 ∧ Aside0 (turndownref08_Right.l0 kq l0 l1 x7_2 l2_0 l2_1 = some r) ∧ Aside0 (kq ≤ kj3) ∧ Aside0 (w'.heap[gb331]? = some (.cells #[(.slice A2_0 l2_0.length c2_0), (.slice A2_1 l2_1.length c2_1)] 39 (0, 0))) ∧ Aside0 (Below w.heap.size w w'))
        case atStart => exact ⟨(0), (by first | rfl | (simp; done) | (simp [*]; done)), H', ⟨Nat.le_refl _⟩, ⟨by (with_reducible repeat (first | refine blk_drewN ?_ _ | refine blk_drew ?_ | refine blk_alloc ?_ _)); exact BK331.out⟩, ⟨by repeat (first | (with_reducible first | exact HB.out | apply below_alloc | apply pw_below_drewN | apply below_drew1 | refine below_set ?_ GE331.out) | exact HB.out)⟩⟩
        case round =>
          clear H'
          try clear c1
          try clear c2
          try clear p2
          try clear c3
          try clear c7
          try clear c13
          try clear hcz10_0
          try clear hcz10_1
          try clear hcz11_0
          try clear hcz11_1
          try clear hcz8_0
          try clear hcz8_1
          try clear hfz10_0
          try clear hfz10_1
          try clear hfz11_0
          try clear hfz11_1
          try clear hfz8_0
          try clear hfz8_1
          try clear p2
          obtain ⟨x7_2, rfl, HA, HK2, BK331, HB⟩ := hrel
          cases gk with
          | zero => exact absurd HA.out (by simp [turndownref08_Right.l0])
          | succ k2 =>
            have H := HA.out
            clear HA
            simp only [turndownref08_Right.l0] at H
            by_cases c14 : x7_2 < (l2_1.length : Int)
            · rw [if_pos c14] at H
              have c14b0 : decide (x7_2 < (l2_1.length : Int)) = true := decide_eq_true c14
              clear c14
              by_cases c15 : 0 ≤ x7_2
              · rw [if_pos c15] at H
                have c15b0 : decide (0 ≤ x7_2) = true := decide_eq_true c15
                clear c15
                by_cases c16 : (rd l2_1 x7_2) < 0
                · rw [if_pos c16] at H
                  have c16b0 : decide ((rd l2_1 x7_2) < 0) = true := decide_eq_true c16
                  clear c16
                  obtain rfl := Option.some.inj H
                  have hcz17_0 : wr.cell? ⟨gb331, 0, none⟩ = some (.slice A2_0 l2_0.length c2_0) := (blk_cell BK331.out 0).trans rfl
                  have hcz17_1 : wr.cell? ⟨gb331, 1, none⟩ = some (.slice A2_1 l2_1.length c2_1) := (blk_cell BK331.out 1).trans rfl
                  have hfz17_0 := blk_frozen BK331.out 0
                  have hfz17_1 := blk_frozen BK331.out 1
                  have p333 : 0 ≤ (x7_2 : Int) := of_decide_eq_true (by first | (with_reducible assumption) | assumption)
                  have q333 : x7_2 < (l2_1.length : Int) := of_decide_eq_true (by first | (with_reducible assumption) | assumption)
                  obtain ⟨ad333, e333, hx333_0⟩ := Kd.at_int HR2_1.out x7_2 p333 q333
                  cases e333
                  replace hx333_0 := (HB.out.cell (World.block_lt_of_cell? w _ hx333_0)).trans hx333_0
                  replace p333 := eq_true p333
                  replace q333 := eq_true q333
                  go_wp2
                  go_ret
                  exact ⟨by first | rfl | (simp [errW_none, errW_some] <;> rfl) | (simp [*, errW_none, errW_some] <;> rfl), by repeat (first | (with_reducible first | exact HB.out | apply below_alloc | apply pw_below_drewN | apply below_drew1 | refine below_set ?_ GE331.out) | exact HB.out)⟩
                · rw [if_neg c16] at H
                  have c16b0 : decide ((rd l2_1 x7_2) < 0) = false := decide_eq_false c16
                  clear c16
                  by_cases c18 : (rd l2_1 x7_2) > 1099511627776
                  · rw [if_pos c18] at H
                    have c18b0 : decide (1099511627776 < (rd l2_1 x7_2)) = true := decide_eq_true c18
                    clear c18
                    obtain rfl := Option.some.inj H
                    have hcz19_0 : wr.cell? ⟨gb331, 0, none⟩ = some (.slice A2_0 l2_0.length c2_0) := (blk_cell BK331.out 0).trans rfl
                    have hcz19_1 : wr.cell? ⟨gb331, 1, none⟩ = some (.slice A2_1 l2_1.length c2_1) := (blk_cell BK331.out 1).trans rfl
                    have hfz19_0 := blk_frozen BK331.out 0
                    have hfz19_1 := blk_frozen BK331.out 1
                    have p333 : 0 ≤ (x7_2 : Int) := of_decide_eq_true (by first | (with_reducible assumption) | assumption)
                    have q333 : x7_2 < (l2_1.length : Int) := of_decide_eq_true (by first | (with_reducible assumption) | assumption)
                    obtain ⟨ad333, e333, hx333_0⟩ := Kd.at_int HR2_1.out x7_2 p333 q333
                    cases e333
                    replace hx333_0 := (HB.out.cell (World.block_lt_of_cell? w _ hx333_0)).trans hx333_0
                    replace p333 := eq_true p333
                    replace q333 := eq_true q333
                    have p334 : 0 ≤ (x7_2 : Int) := of_decide_eq_true (by first | (with_reducible assumption) | assumption)
                    have q334 : x7_2 < (l2_1.length : Int) := of_decide_eq_true (by first | (with_reducible assumption) | assumption)
                    obtain ⟨ad334, e334, hx334_0⟩ := Kd.at_int HR2_1.out x7_2 p334 q334
                    obtain rfl : ad333 = ad334 := (by injection e334)
                    replace hx334_0 := (HB.out.cell (World.block_lt_of_cell? w _ hx334_0)).trans hx334_0
                    replace p334 := eq_true p334
                    replace q334 := eq_true q334
                    go_wp2
                    go_ret
                    exact ⟨by first | rfl | (simp [errW_none, errW_some] <;> rfl) | (simp [*, errW_none, errW_some] <;> rfl), by repeat (first | (with_reducible first | exact HB.out | apply below_alloc | apply pw_below_drewN | apply below_drew1 | refine below_set ?_ GE331.out) | exact HB.out)⟩
                  · rw [if_neg c18] at H
                    have c18b0 : decide (1099511627776 < (rd l2_1 x7_2)) = false := decide_eq_false c18
                    clear c18
                    have H' := Aside0.mk H
                    clear H
                    have hcz20_0 : wr.cell? ⟨gb331, 0, none⟩ = some (.slice A2_0 l2_0.length c2_0) := (blk_cell BK331.out 0).trans rfl
                    have hcz20_1 : wr.cell? ⟨gb331, 1, none⟩ = some (.slice A2_1 l2_1.length c2_1) := (blk_cell BK331.out 1).trans rfl
                    have hfz20_0 := blk_frozen BK331.out 0
                    have hfz20_1 := blk_frozen BK331.out 1
                    have p333 : 0 ≤ (x7_2 : Int) := of_decide_eq_true (by first | (with_reducible assumption) | assumption)
                    have q333 : x7_2 < (l2_1.length : Int) := of_decide_eq_true (by first | (with_reducible assumption) | assumption)
                    obtain ⟨ad333, e333, hx333_0⟩ := Kd.at_int HR2_1.out x7_2 p333 q333
                    cases e333
                    replace hx333_0 := (HB.out.cell (World.block_lt_of_cell? w _ hx333_0)).trans hx333_0
                    replace p333 := eq_true p333
                    replace q333 := eq_true q333
                    have p334 : 0 ≤ (x7_2 : Int) := of_decide_eq_true (by first | (with_reducible assumption) | assumption)
                    have q334 : x7_2 < (l2_1.length : Int) := of_decide_eq_true (by first | (with_reducible assumption) | assumption)
                    obtain ⟨ad334, e334, hx334_0⟩ := Kd.at_int HR2_1.out x7_2 p334 q334
                    obtain rfl : ad333 = ad334 := (by injection e334)
                    replace hx334_0 := (HB.out.cell (World.block_lt_of_cell? w _ hx334_0)).trans hx334_0
                    replace p334 := eq_true p334
                    replace q334 := eq_true q334
                    go_wp2
                    go_roundg k2
                    case measure => have := HJ3.out; have := HK2.out; omega
                    case rel => exact ⟨(wrap64 (x7_2 + 1)), (by first | rfl | (simp; done) | (simp [*]; done)), H', ⟨by have := HJ3.out; have := HK2.out; omega⟩, ⟨by (with_reducible repeat (first | refine blk_drewN ?_ _ | refine blk_drew ?_ | refine blk_alloc ?_ _)); exact BK331.out⟩, ⟨by repeat (first | (with_reducible first | exact HB.out | apply below_alloc | apply pw_below_drewN | apply below_drew1 | refine below_set ?_ GE331.out) | exact HB.out)⟩⟩
              · rw [if_neg c15] at H
                exact absurd H (by simp)
            · rw [if_neg c14] at H
              have c14b0 : decide (x7_2 < (l2_1.length : Int)) = false := decide_eq_false c14
              clear c14
              replace H := Option.bind_eq_some_iff.mp H
              obtain ⟨t335, A210, H⟩ := H
              replace H : ((turndownref08_Bound.f k2 l0 l1 l2_1).bind fun t336 => (some (t335 == t336))) = some r := H
              have A21 := Aside0.mk A210
              clear A210
              replace H := Option.bind_eq_some_iff.mp H
              obtain ⟨t336, A220, H⟩ := H
              replace H : (some (t335 == t336)) = some r := H
              have A22 := Aside0.mk A220
              clear A220
              obtain rfl := Option.some.inj H
              have hcz23_0 : wr.cell? ⟨gb331, 0, none⟩ = some (.slice A2_0 l2_0.length c2_0) := (blk_cell BK331.out 0).trans rfl
              have hcz23_1 : wr.cell? ⟨gb331, 1, none⟩ = some (.slice A2_1 l2_1.length c2_1) := (blk_cell BK331.out 1).trans rfl
              have hfz23_0 := blk_frozen BK331.out 0
              have hfz23_1 := blk_frozen BK331.out 1
              try go_wp2
              have n0_ := Aside0.mk (blk_drew BK331.out)
              have n1_ := Aside0.mk (below_drew1 HB.out)
              clear BK331
              clear HB
              have BK331 := n0_
              have HB := n1_
              clear n0_ n1_
              refine start_ (n := 11) (S := fun w' => w'.cell? ⟨gb331, 0, none⟩ = some (.slice A2_0 l2_0.length c2_0) ∧ w'.cell? ⟨gb331, 1, none⟩ = some (.slice A2_1 l2_1.length c2_1)) (ds := []) #[false, false, false, false, false, false, false, false, false, false, false] (by kernel_rfl) rfl rfl ⟨(blk_cell BK331.out 0).trans rfl, (blk_cell BK331.out 1).trans rfl⟩ (fun hHeld => ?_); refine with_tabW turndownref08_Right.tab8 turndownref08_Right.bits8 (fun HT_ HW_ => ?_)
              generalize wr.drew = w24 at BK331 HB hHeld ⊢
              refine pure_ (i := 0) (N := some 43) (v := ?_) (a' := ?_) #[true, false, false, false, false, false, false, false, false, false, false] rfl rfl (any_of HT_.out (by kernel_rfl)) (fun _ _ _ h => h) (Or.inl ⟨by rfl, ?_⟩) ?_ ?_
              rotate_left
              · intro w'
                go_simp
                with_reducible rfl
              rotate_left
              · simp only [Act.put, List.setIfInBounds_toArray, List.set_cons_zero, List.set_cons_succ, i64_w, i32_w]
                rfl
              refine pure_ (i := 1) (N := some 44) (v := ?_) (a' := ?_) #[true, true, false, false, false, false, false, false, false, false, false] rfl rfl (any_of HT_.out (by kernel_rfl)) (fun _ _ _ h => h) (Or.inl ⟨by rfl, ?_⟩) ?_ ?_
              rotate_left
              · intro w'
                go_simp
                with_reducible rfl
              rotate_left
              · simp only [Act.put, List.setIfInBounds_toArray, List.set_cons_zero, List.set_cons_succ, i64_w, i32_w]
                rfl
              refine pure_ (i := 4) (N := some 47) (v := ?_) (a' := ?_) #[true, true, false, false, true, false, false, false, false, false, false] rfl rfl (any_of HT_.out (by kernel_rfl)) (fun _ _ _ h => h) (Or.inl ⟨by rfl, ?_⟩) ?_ ?_
              rotate_left
              · intro w'
                go_simp
                with_reducible rfl
              rotate_left
              · simp only [Act.put, List.setIfInBounds_toArray, List.set_cons_zero, List.set_cons_succ, i64_w, i32_w]
                rfl
              refine pure_ (i := 5) (N := some 48) (v := ?_) (a' := ?_) #[true, true, false, false, true, true, false, false, false, false, false] rfl rfl (any_of HT_.out (by kernel_rfl)) (fun _ _ _ h => h) (Or.inl ⟨by rfl, ?_⟩) ?_ ?_
              rotate_left
              · intro w'
                go_simp
                with_reducible rfl
              rotate_left
              · simp only [Act.put, List.setIfInBounds_toArray, List.set_cons_zero, List.set_cons_succ, i64_w, i32_w]
                rfl
              refine pure_ (i := 6) (N := some 49) (v := ?_) (a' := ?_) #[true, true, false, false, true, true, true, false, false, false, false] rfl rfl (any_of HT_.out (by kernel_rfl)) (fun _ _ _ h => h) (Or.inl ⟨by rfl, ?_⟩) ?_ ?_
              rotate_left
              · intro w'
                go_simp
                with_reducible rfl
              rotate_left
              · simp only [Act.put, List.setIfInBounds_toArray, List.set_cons_zero, List.set_cons_succ, i64_w, i32_w]
                rfl
              refine take_ (i := 2) (N := some 45) (v := ?_) (a' := ?_) #[true, true, true, false, true, true, true, false, false, false, false] rfl rfl (take_ofW HT_.out HW_.out (by kernel_rfl)) (fun _ _ _ h => h) (Or.inl ⟨by rfl, ?_⟩) hHeld ?_ ?_
              rotate_left
              · rintro w' ⟨s0, s1⟩
                go_simp
                with_reducible rfl
              rotate_left
              · simp only [Act.put, List.setIfInBounds_toArray, List.set_cons_zero, List.set_cons_succ, i64_w, i32_w]
                rfl
              refine take_ (i := 7) (N := some 50) (v := ?_) (a' := ?_) #[true, true, true, false, true, true, true, true, false, false, false] rfl rfl (take_ofW HT_.out HW_.out (by kernel_rfl)) (fun _ _ _ h => h) (Or.inl ⟨by rfl, ?_⟩) hHeld ?_ ?_
              rotate_left
              · rintro w' ⟨s0, s1⟩
                go_simp
                with_reducible rfl
              rotate_left
              · simp only [Act.put, List.setIfInBounds_toArray, List.set_cons_zero, List.set_cons_succ, i64_w, i32_w]
                rfl
              refine one_ (i := 3) (N := some 46) #[true, true, true, true, true, true, true, true, false, false, false] rfl rfl (one_of HT_.out (by kernel_rfl)) (by decide) (fun K hK => ?_)
              refine goes_ Try.func28 (by kernel_rfl) rfl #[.slice A0 l0.length c0, .slice A2_0 l2_0.length c2_0] (by rfl) rfl rfl (by (try simp only [List.map_toArray, List.map_cons, List.map_nil]); first | done | rfl | (simp only [List.length_drop, List.length_take]; rfl)) ?_
              with_reducible refine (turndownref08_Revenue.calls k2 _ _ l0 _ _ l2_0 t335 _ ?side1 ?side2 ?side3 ?side4 A21.out).mono ?_
              (case side1 => repeat (first | exact (Kd.C_below HR0.out HB.out) | (with_reducible refine Kd.C_alloc ?_ _) | (with_reducible refine Kd.C_drewN ?_ _) | (with_reducible refine Kd.C_drew ?_)))
              (case side2 => exact HC0.out)
              (case side3 => repeat (first | exact (Kd.C_below HR2_0.out HB.out) | (with_reducible refine Kd.C_alloc ?_ _) | (with_reducible refine Kd.C_drewN ?_ _) | (with_reducible refine Kd.C_drew ?_)))
              (case side4 => exact HC2_0.out)
              rintro e w' ⟨rfl, ⟨nd, rfl⟩⟩
              refine ⟨_, rfl, ?_⟩
              refine hK.out _ _ ⟨(blk_cell BK331.out 0).trans rfl, (blk_cell BK331.out 1).trans rfl⟩ (fun hHeld => ?_)
              clear hK K
              refine norm_ (a' := ?_) ?_ ?_
              rotate_left
              · show Act.put _ (some 46) _ = _
                simp only [Act.put, List.setIfInBounds_toArray, List.set_cons_zero, List.set_cons_succ, i64_w, i32_w]
                rfl
              refine one_ (i := 8) (N := some 51) #[true, true, true, true, true, true, true, true, true, false, false] rfl rfl (one_of HT_.out (by kernel_rfl)) (by decide) (fun K hK => ?_)
              refine goes_ Try.func29 (by kernel_rfl) rfl #[.slice A0 l0.length c0, .slice A1 l1.length c1, .slice A2_1 l2_1.length c2_1] (by rfl) rfl rfl (by (try simp only [List.map_toArray, List.map_cons, List.map_nil]); first | done | rfl | (simp only [List.length_drop, List.length_take]; rfl)) ?_
              with_reducible refine (turndownref08_Bound.calls k2 _ _ l0 _ _ l1 _ _ l2_1 t336 _ ?side1 ?side2 ?side3 ?side4 ?side5 ?side6 A22.out).mono ?_
              (case side1 => repeat (first | exact (Kd.C_below HR0.out (by repeat (first | (with_reducible first | exact HB.out | apply below_alloc | apply pw_below_drewN | apply below_drew1 | refine below_set ?_ GE331.out) | exact HB.out))) | (with_reducible refine Kd.C_alloc ?_ _) | (with_reducible refine Kd.C_drewN ?_ _) | (with_reducible refine Kd.C_drew ?_)))
              (case side2 => exact HC0.out)
              (case side3 => repeat (first | exact (Kd.C_below HR1.out (by repeat (first | (with_reducible first | exact HB.out | apply below_alloc | apply pw_below_drewN | apply below_drew1 | refine below_set ?_ GE331.out) | exact HB.out))) | (with_reducible refine Kd.C_alloc ?_ _) | (with_reducible refine Kd.C_drewN ?_ _) | (with_reducible refine Kd.C_drew ?_)))
              (case side4 => exact HC1.out)
              (case side5 => repeat (first | exact (Kd.C_below HR2_1.out (by repeat (first | (with_reducible first | exact HB.out | apply below_alloc | apply pw_below_drewN | apply below_drew1 | refine below_set ?_ GE331.out) | exact HB.out))) | (with_reducible refine Kd.C_alloc ?_ _) | (with_reducible refine Kd.C_drewN ?_ _) | (with_reducible refine Kd.C_drew ?_)))
              (case side6 => exact HC2_1.out)
              rintro e w25 ⟨rfl, hb⟩
              refine ⟨_, rfl, ?_⟩
              have n0_ := Aside0.mk (blk_below (g := gb331) (o := .cells #[.slice A2_0 l2_0.length c2_0, .slice A2_1 l2_1.length c2_1] 39 (0, 0)) (by (with_reducible repeat (first | refine blk_drewN ?_ _ | refine blk_drew ?_ | refine blk_alloc ?_ _)); exact BK331.out) hb)
              have n1_ := Aside0.mk (below_step (by repeat (first | (with_reducible first | exact HB.out | apply below_alloc | apply pw_below_drewN | apply below_drew1 | refine below_set ?_ GE331.out) | exact HB.out)) hb)
              clear BK331
              clear HB
              have BK331 := n0_
              have HB := n1_
              clear n0_ n1_
              (try clear hb)
              (try clear hb2)
              (try clear hk)
              (try clear hi)
              refine hK.out _ _ ⟨(blk_cell BK331.out 0).trans rfl, (blk_cell BK331.out 1).trans rfl⟩ (fun hHeld => ?_)
              clear hK K
              refine norm_ (a' := ?_) ?_ ?_
              rotate_left
              · show Act.put _ (some 51) _ = _
                simp only [Act.put, List.setIfInBounds_toArray, List.set_cons_zero, List.set_cons_succ, i64_w, i32_w]
                rfl
              refine pure_ (i := 9) (N := some 52) (v := ?_) (a' := ?_) #[true, true, true, true, true, true, true, true, true, true, false] rfl rfl (any_of HT_.out (by kernel_rfl)) (fun _ _ _ h => h) (Or.inl ⟨by rfl, ?_⟩) ?_ ?_
              rotate_left
              · intro w'
                go_simp
                with_reducible rfl
              rotate_left
              · simp only [Act.put, List.setIfInBounds_toArray, List.set_cons_zero, List.set_cons_succ, i64_w, i32_w]
                rfl
              refine pure_ (i := 10) (N := some 6) (v := ?_) (a' := ?_) #[true, true, true, true, true, true, true, true, true, true, true] rfl rfl (any_of HT_.out (by kernel_rfl)) (fun _ _ _ h => h) (Or.inl ⟨by rfl, ?_⟩) ?_ ?_
              rotate_left
              · intro w'
                go_simp
                with_reducible rfl
              rotate_left
              · simp only [Act.put, List.setIfInBounds_toArray, List.set_cons_zero, List.set_cons_succ, i64_w, i32_w]
                rfl
              refine done_ (done_of HT_.out (by kernel_rfl)) ?_
              try go_wp2
              go_ret
              exact ⟨by first | rfl | (simp [errW_none, errW_some] <;> rfl) | (simp [*, errW_none, errW_some] <;> rfl), by repeat (first | (with_reducible first | exact HB.out | apply below_alloc | apply pw_below_drewN | apply below_drew1 | refine below_set ?_ GE331.out) | exact HB.out)⟩
end Go.Proofs.Ytpjobcnfjpbaeaa.PA

namespace Go.Proofs.Ytpjobcnfjpbaeaa.M
open Go.RowKit Go.Proofs.YtpjobcnfjpbaeaaW.PrintWords Go.Proofs.YtpjobcnfjpbaeaaW.PrintLast Go.Proofs.YtpjobcnfjpbaeaaW.PrintMore
open Go.Proofs.Ytpjobcnfjpbaeaa.PA Go.Proofs.Ytpjobcnfjpbaeaa.A
theorem best_right {l : List S47} {rooms : List Int} (hg : A.Good l rooms) : ∃ K tk pr v, (∀ k, K ≤ k → bestF k l rooms = some (tk, pr, v)) ∧ RightP l rooms tk pr ∧ (inst l rooms).Rev (ind tk) = v ∧ (inst l rooms).Opt v ∧ 0 ≤ v ∧ v ≤ 40000000 ∧ tk.length ≤ 40 := by
  obtain ⟨K, tk, pr, v, h1, h2, h3, h4, h5, h6, h7, h8, h9, h10⟩ := best_opt hg
  have := asc_len h2
  have := hg.many
  exact ⟨K, tk, pr, v, h1, ⟨h2, h5, h3, fun j hj => by have := h4 j hj; omega, h6.trans h7.symm⟩, h6, h8, h9, h10, by omega⟩
end Go.Proofs.Ytpjobcnfjpbaeaa.M

namespace Go.Proofs.Ytpjobcnfjpbaeaa.A
open Go.RowKit Go.Proofs.YtpjobcnfjpbaeaaW.PrintWords Go.Proofs.YtpjobcnfjpbaeaaW.PrintLast Go.Proofs.YtpjobcnfjpbaeaaW.PrintMore
open Go.Proofs.Ytpjobcnfjpbaeaa.PA Go.Proofs.Ytpjobcnfjpbaeaa.M
theorem wrapI {x : Int} (h : -4611686018427387904 ≤ x ∧ x ≤ 4611686018427387904) : wrap64 x = x := by unfold wrap64; omega
def modV (x n : Int) : Int := wrap64 (Int.tmod (IntKind.u64.wrap x) (IntKind.u64.wrap n))
theorem modV_bd {x n : Int} (h1 : 1 ≤ n) (h2 : n ≤ 10000000) : 0 ≤ modV x n ∧ modV x n < n ∧ turndownlaw08_mod.f x n = some (modV x n) := by
  have e : IntKind.u64.wrap n = n := IntWalk.u64_in n (by omega)
  have e2 : IntKind.u64.wrap x = x % 18446744073709551616 := IntKind.wrap_u64 x
  have h0 : 0 ≤ x % 18446744073709551616 := Int.emod_nonneg _ (by omega)
  have h3 : Int.tmod (x % 18446744073709551616) n = (x % 18446744073709551616) % n := Int.tmod_eq_emod_of_nonneg h0
  have h4 : 0 ≤ (x % 18446744073709551616) % n := Int.emod_nonneg _ (by omega)
  have h5 : (x % 18446744073709551616) % n < n := Int.emod_lt_of_pos _ (by omega)
  have h6 : modV x n = (x % 18446744073709551616) % n := by
    unfold modV
    rw [e, e2, h3]
    exact wrapI (by omega)
  refine ⟨by omega, by omega, ?_⟩
  unfold turndownlaw08_mod.f
  rw [e, if_neg (by omega)]
  unfold modV
  rw [e]
theorem mod_c (x n : Int) (w : World) (h1 : 1 ≤ n) (h2 : n ≤ 10000000) : Calls Try.prog 26 #[.int .i64 x, .int .i64 n] w fun e w' => e = .returned (.int .i64 (modV x n)) ∧ ∃ q, w' = w.drewN q :=
  (turndownlaw08_mod.calls x n _ w (modV_bd h1 h2).2.2).mono fun _ _ h => ⟨h.1, h.2.out⟩
def tameF (x : S47) (n : Int) : Int := if x.f0 < 0 ∨ n < x.f1 ∨ x.f1 ≤ x.f0 then modV x.f0 n else x.f0
def tameT (x : S47) (n : Int) : Int := if x.f0 < 0 ∨ n < x.f1 ∨ x.f1 ≤ x.f0 then modV x.f0 n + 1 + modV x.f1 (n - modV x.f0 n) else x.f1
def tameP (x : S47) : Int := if x.f2 < 0 ∨ 1000000 < x.f2 then modV x.f2 1000001 else x.f2
def tame1 (n : Int) (x : S47) : S47 := ⟨tameF x n, tameT x n, tameP x⟩
theorem tame1_ok {n : Int} (h1 : 1 ≤ n) (h2 : n ≤ 1000) (x : S47) : 0 ≤ (tame1 n x).f0 ∧ (tame1 n x).f0 < (tame1 n x).f1 ∧ (tame1 n x).f1 ≤ n ∧ 0 ≤ (tame1 n x).f2 ∧ (tame1 n x).f2 ≤ 1000000 := by
  have a := modV_bd (x := x.f0) h1 (by omega)
  have b := modV_bd (x := x.f1) (n := n - modV x.f0 n) (by omega) (by omega)
  have c := modV_bd (x := x.f2) (n := 1000001) (by omega) (by omega)
  have a1 := a.1
  have a2 := a.2.1
  have b1 := b.1
  have b2 := b.2.1
  have c1 := c.1
  have c2 := c.2.1
  simp only [tame1, tameF, tameT, tameP]
  clear a b c
  split <;> split <;> omega
set_option maxRecDepth 100000 in
set_option maxHeartbeats 6400000 in
theorem tame_c (A : Option Addr) (c : Nat) (l : List S47) (n most : Nat) (w : World) (hr : Kd.C k47 w A l.length l) (hc : l.length ≤ c) (hn : 1 ≤ n ∧ n ≤ 1000) (hm : most ≤ 1000) :
    Calls Try.prog 24 #[.slice A l.length c, .int .i64 (n : Int), .int .i64 (most : Int)] w fun e w' => ∃ v, e = .returned v ∧ Kd.R k47 47 w' w.heap.size (fun _ => True) v ((l.take most).map (tame1 n)) ∧ Below w.heap.size w w' := by
  have hl : l.length ≤ 9223372036854775807 := hr.2.1
  have HR := Lib.hid hr
  obtain ⟨hn1, hn2⟩ := hn
  obtain ⟨M, hM⟩ : ∃ M, M = l.map (tame1 n) := ⟨_, rfl⟩
  have hfin : (l.take most).map (tame1 n) = M.take most := by rw [hM, List.map_take]
  rw [hfin]
  have hML : M.length = l.length := by rw [hM, List.length_map]
  have HM := Lib.hid hM
  have HML := Lib.hid hML
  clear hr hM hfin hML
  go_enter Try.func24, Try.ntmps24
  go_wp2_with fail
  go_loopw [7, 8] (fun v7 v8 wr => ∃ (q : Nat), v8 = .int .i64 (q : Int) ∧ q ≤ l.length ∧ q ≤ most ∧ Hid (Kd.R k47 47 wr w.heap.size (fun _ => True) v7 (M.take q)) ∧ Below w.heap.size w wr) (fun _ v8 _ => most - (intOf v8).toNat)
  case atStart => exact ⟨0, rfl, Nat.zero_le _, Nat.zero_le _, Kd.R_nil _ _ _ _ _, Below.refl _ _⟩
  case round =>
    obtain ⟨q, rfl, hq, hqm, HO, hB⟩ := hrel
    by_cases hlt : q < l.length
    · by_cases hlm : q < most
      · have hlt' : (q : Int) < l.length := by omega
        have hlm' : (q : Int) < most := by omega
        obtain ⟨ad, x, eA, HX, x0, x1, x2⟩ := at_bk HR.out hB q hlt
        cases eA
        have hnext : M.take (q + 1) = M.take q ++ [tame1 n x] := by
          rw [List.take_add_one, HM.out, List.getElem?_map, HX.out]; simp
        have hlen : (M.take q).length = q := by rw [List.length_take, HML.out]; omega
        obtain ⟨f, t, p⟩ := x
        simp only at x0 x1 x2
        have HNX := Lib.hid hnext
        have HLEN := Lib.hid hlen
        have hsw := hB.size
        obtain ⟨W0, hW0⟩ : ∃ W0, W0 = wr.alloc (Obj.cells #[Value.int .i64 f, Value.int .i64 t, Value.int .i64 p] 47) := ⟨_, rfl⟩
        have hBW0 : Below wr.heap.size wr W0 := by rw [hW0]; exact (Below.refl _ _).alloc (Nat.le_refl _) _
        have hg0 : W0.heap[wr.heap.size]? = some (.cells #[Value.int .i64 f, Value.int .i64 t, Value.int .i64 p] 47 (0, 0)) := by rw [hW0]; exact heap_alloc_new _ _
        have hs0 : W0.heap.size = wr.heap.size + 1 := by rw [hW0]; simp
        have HW0 := Lib.hid hW0
        have HBW0 := Lib.hid hBW0
        have HG0 := Lib.hid hg0
        clear hnext hlen hW0 hBW0 hg0
        by_cases k1 : f < 0
        · have ha := modV_bd (x := f) (n := n) (by omega) (by omega)
          have ha1 := ha.1
          have ha2 := ha.2.1
          have hb0 := modV_bd (x := t) (n := (n : Int) - modV f n) (by omega) (by omega)
          have hb1 := hb0.1
          have hb2 := hb0.2.1
          have HMF := Lib.hid (fun w => mod_c f n w (by omega) (by omega))
          have HMT := Lib.hid (fun w => mod_c t ((n : Int) - modV f n) w (by omega) (by omega))
          obtain ⟨mf, hmf⟩ : ∃ mf, mf = modV f n := ⟨_, rfl⟩
          rw [← hmf] at HMF HMT ha1 ha2 hb0 hb1 hb2
          obtain ⟨mt, hmt⟩ : ∃ mt, mt = modV t ((n : Int) - mf) := ⟨_, rfl⟩
          rw [← hmt] at HMT hb1 hb2
          have HMFE := Lib.hid hmf
          have HMTE := Lib.hid hmt
          clear ha hb0 hmf hmt
          go_wp2_with fail
          rw [← HW0.out]
          refine (HMF.out _).mono ?_
          rintro e w3 ⟨rfl, n3, rfl⟩
          have z00 : W0.cell? ⟨wr.heap.size, 0, none⟩ = some (.int .i64 (f)) := by simp [World.cell?, HG0.out]
          have z10 : W0.cell? ⟨wr.heap.size, 1, none⟩ = some (.int .i64 (t)) := by simp [World.cell?, HG0.out]
          have z20 : W0.cell? ⟨wr.heap.size, 2, none⟩ = some (.int .i64 (p)) := by simp [World.cell?, HG0.out]
          have zf0 : ∀ k, W0.frozen? ⟨wr.heap.size, k, none⟩ = false := fun k => by simp [World.frozen?, HG0.out]
          obtain ⟨W1, hW1⟩ : ∃ W1, W1 = (W0.drewN n3).setCell ⟨wr.heap.size, 0, none⟩ (.int .i64 mf) := ⟨_, rfl⟩
          have HG1 : Hid (W1.heap[wr.heap.size]? = some (.cells #[Value.int .i64 mf, Value.int .i64 t, Value.int .i64 p] 47 (0, 0))) := Lib.hid (by rw [hW1]; have := HG0.out; simp [World.setCell, Array.getElem?_modify, World.drewN, this])
          have HB1 : Hid (Below wr.heap.size wr W1) := Lib.hid (by rw [hW1]; exact (HBW0.out.trans ((pw_below_drewN (Below.refl _ _) n3).mono (by show wr.heap.size ≤ W0.heap.size; omega))).setCell (p := ⟨wr.heap.size, 0, none⟩) (Nat.le_refl _) _)
          have hs1 : W1.heap.size = wr.heap.size + 1 := by rw [hW1]; simp [World.setCell, World.drewN, hs0]
          have HW1 := Lib.hid hW1
          clear hW1
          go_wp2_with fail
          rw [← HW1.out]
          clear z00 z10 z20 zf0
          have CE : Hid (∀ w', R.Keeps [] W1 w' → w'.cell? ⟨wr.heap.size, 0, none⟩ = some (.int .i64 mf) ∧ w'.cell? ⟨wr.heap.size, 1, none⟩ = some (.int .i64 t)) := Lib.hid (fun w' h =>
            ⟨h.cell (a := ⟨wr.heap.size, 0, none⟩) (by simp [World.cell?, HG1.out]) (by simp), h.cell (a := ⟨wr.heap.size, 1, none⟩) (by simp [World.cell?, HG1.out]) (by simp)⟩)
          have hk1 : mf ≤ 1000 := by omega
          have hk2 : mt ≤ 1000 := by omega
          have hk3 : (n : Int) ≤ 1000 := by omega
          have hi3 : -4611686018427387904 ≤ mf + 1 + mt ∧ mf + 1 + mt ≤ 4611686018427387904 := by omega
          have hi2 : -4611686018427387904 ≤ (n : Int) - mf ∧ (n : Int) - mf ≤ 4611686018427387904 := by omega
          have hi1 : -4611686018427387904 ≤ mf + 1 ∧ mf + 1 ≤ 4611686018427387904 := by omega
          have e1 : IntKind.i64.wrap (mf + 1) = mf + 1 := by rw [i64_w]; exact wrapI hi1
          have e2 : IntKind.i64.wrap ((n : Int) - mf) = (n : Int) - mf := by rw [i64_w]; exact wrapI hi2
          have e3 : IntKind.i64.wrap (mf + 1 + mt) = mf + 1 + mt := by rw [i64_w]; exact wrapI hi3
          clear hi1 hi2 hi3
          apply R.wp_region_text [0, 1, 2, 3, 4, 5, 6, 7, 8] [9, 10, 11, 12] 12 (R.Keeps [] W1)
          case hm => kernel_rfl
          case hB => kernel_rfl
          case hd => rfl
          case hQ => exact fun _ _ _ _ _ h => h
          case hS => exact (R.Keeps.refl _ _).drew
          case hF =>
            intro w' hS
            obtain ⟨c1, c2⟩ := CE.out w' hS
            have HS := Lib.hid hS
            clear hS
            simp only [R.pickC, List.filterMap_cons, List.getElem?_toArray, List.getElem?_cons_zero, List.getElem?_cons_succ, List.filterMap_nil]
            iterate 9 ((with_reducible refine R.wpStill_plain rfl (fun K hK => ?_)); go_simp; with_reducible refine hK _ ?_; clear hK K)
            exact wpStill_nil rfl
          case hC =>
            simp only [R.chainOf, List.getElem?_toArray, List.getElem?_cons_zero, List.getElem?_cons_succ, Nat.reduceBNe, Bool.and_true, Bool.and_false, Bool.false_and]
            refine R.wpSeq_same (fun K hK => ?_)
            go_simp
            refine (HMT.out _).mono ?_
            rintro e w4 ⟨rfl, n4, rfl⟩
            have hk4 : R.Keeps [] W1 (W1.drewN (1 + n4)) := R.Keeps.of_below [] (pw_below_drewN (Below.refl _ _) (1 + n4))
            refine hK _ _ (((R.Keeps.refl _ _).drew).below (pw_below_drewN (Below.refl _ _) n4)) ?_
            clear hK K
            refine R.wpSeq_same (fun K hK => ?_)
            go_simp
            with_reducible refine hK _ _ hk4 ?_
            clear hK K
            refine R.wpSeq_same (fun K hK => ?_)
            go_simp
            with_reducible refine hK _ _ hk4 ?_
            clear hK K
            clear e1 e2 e3
            refine R.wpSeq_tail _ rfl ?_
            simp only [List.map_cons, List.map_nil]
            have HG4 : Hid ((W1.drewN (1 + n4)).heap[wr.heap.size]? = some (.cells #[Value.int .i64 mf, Value.int .i64 t, Value.int .i64 p] 47 (0, 0))) := Lib.hid (by have := HG1.out; simpa [World.drewN, World.drew] using this)
            have HK4 := Lib.hid hk4
            clear hk4
            have z04 : (W1.drewN (1 + n4)).cell? ⟨wr.heap.size, 0, none⟩ = some (.int .i64 (mf)) := by simp [World.cell?, HG1.out]
            have z14 : (W1.drewN (1 + n4)).cell? ⟨wr.heap.size, 1, none⟩ = some (.int .i64 (t)) := by simp [World.cell?, HG1.out]
            have z24 : (W1.drewN (1 + n4)).cell? ⟨wr.heap.size, 2, none⟩ = some (.int .i64 (p)) := by simp [World.cell?, HG1.out]
            have zf4 : ∀ k, (W1.drewN (1 + n4)).frozen? ⟨wr.heap.size, k, none⟩ = false := fun k => by simp [World.frozen?, HG1.out]
            obtain ⟨W2, hW2⟩ : ∃ W2, W2 = (W1.drewN (1 + n4)).setCell ⟨wr.heap.size, 1, none⟩ (.int .i64 (mf + 1 + mt)) := ⟨_, rfl⟩
            have HG2 : Hid (W2.heap[wr.heap.size]? = some (.cells #[Value.int .i64 mf, Value.int .i64 (mf + 1 + mt), Value.int .i64 p] 47 (0, 0))) := Lib.hid (by rw [hW2]; have := HG1.out; simp [World.setCell, Array.getElem?_modify, this])
            have HB2 : Hid (Below wr.heap.size wr W2) := Lib.hid (by rw [hW2]; exact (HB1.out.trans (HK4.out.to_below (by omega) (fun k hk => by simp at hk))).setCell (p := ⟨wr.heap.size, 1, none⟩) (Nat.le_refl _) _)
            have hs2 : W2.heap.size = wr.heap.size + 1 := by rw [hW2]; simpa [World.setCell, World.drewN, World.drew] using hs1
            have HW2 := Lib.hid hW2
            clear hW2
            go_upto_region 9 with fail
            rw [← HW2.out]
            clear z04 z14 z24 zf4
            have hft : tameF ⟨f, t, p⟩ n = mf := by unfold tameF; rw [if_pos (Or.inl k1)]; exact HMFE.out.symm
            have htt : tameT ⟨f, t, p⟩ n = mf + 1 + mt := by unfold tameT; rw [if_pos (Or.inl k1), ← HMFE.out, ← HMTE.out]
            have HFT := Lib.hid hft
            have HTT := Lib.hid htt
            clear hft htt
            by_cases k5 : p < 0
            · have hp0 := modV_bd (x := p) (n := 1000001) (by omega) (by omega)
              have hpp : tameP ⟨f, t, p⟩ = modV p 1000001 := by unfold tameP; rw [if_pos (Or.inl k5)]
              have HPP := Lib.hid hpp
              have HMP := Lib.hid (fun w => mod_c p 1000001 w (by omega) (by omega))
              clear hp0 hpp
              have z02 : W2.cell? ⟨wr.heap.size, 0, none⟩ = some (.int .i64 (mf)) := by simp [World.cell?, HG2.out]
              have z12 : W2.cell? ⟨wr.heap.size, 1, none⟩ = some (.int .i64 (mf + 1 + mt)) := by simp [World.cell?, HG2.out]
              have z22 : W2.cell? ⟨wr.heap.size, 2, none⟩ = some (.int .i64 (p)) := by simp [World.cell?, HG2.out]
              have zf2 : ∀ k, W2.frozen? ⟨wr.heap.size, k, none⟩ = false := fun k => by simp [World.frozen?, HG2.out]
              go_wp2_with fail
              refine (HMP.out _).mono ?_
              rintro e w5 ⟨rfl, n5, rfl⟩
              go_upto_region 11 with fail
              obtain ⟨W3, hW3⟩ : ∃ W3, W3 = (W2.drewN n5).setCell ⟨wr.heap.size, 2, none⟩ (.int .i64 (modV p 1000001)) := ⟨_, rfl⟩
              rw [← hW3]
              have HG3 : Hid (W3.heap[wr.heap.size]? = some (.cells #[Value.int .i64 (mf), Value.int .i64 (mf + 1 + mt), Value.int .i64 (modV p 1000001)] 47 (0, 0))) := Lib.hid (by rw [hW3]; have := HG2.out; simp [World.setCell, Array.getElem?_modify, this])
              have HB3 : Hid (Below wr.heap.size wr W3) := Lib.hid (by rw [hW3]; exact (HB2.out.trans ((pw_below_drewN (Below.refl _ _) n5).mono (by show wr.heap.size ≤ W2.heap.size; omega))).setCell (p := ⟨wr.heap.size, 2, none⟩) (Nat.le_refl _) _)
              clear z02 z12 z22 zf2
              clear hW3
              have z03 : W3.cell? ⟨wr.heap.size, 0, none⟩ = some (.int .i64 (mf)) := by simp [World.cell?, HG3.out]
              have z13 : W3.cell? ⟨wr.heap.size, 1, none⟩ = some (.int .i64 (mf + 1 + mt)) := by simp [World.cell?, HG3.out]
              have z23 : W3.cell? ⟨wr.heap.size, 2, none⟩ = some (.int .i64 (modV p 1000001)) := by simp [World.cell?, HG3.out]
              have zf3 : ∀ k, W3.frozen? ⟨wr.heap.size, k, none⟩ = false := fun k => by simp [World.frozen?, HG3.out]
              have hy : tame1 (n : Int) ⟨f, t, p⟩ = ⟨mf, mf + 1 + mt, modV p 1000001⟩ := by
                show (⟨tameF ⟨f, t, p⟩ n, tameT ⟨f, t, p⟩ n, tameP ⟨f, t, p⟩⟩ : S47) = _
                rw [HFT.out, HTT.out, HPP.out]
              have HY := Lib.hid hy
              have hsW := HB3.out.size
              have hOW := Lib.hid (Kd.R_below HO.out HB3.out)
              clear hy
              try clear hs0
              try clear hs1
              try clear hs2
              go_wp2_with (at_builtin; refine Kd.R_append k47 (w0 := w) w.heap.size rfl (.tmp 70) (.tmp 72) 22 47 (.agg #[(.int .i64 0), (.int .i64 0), (.int .i64 0)]) 24 rfl Try.underlying22 info47 rfl (by decide) (by omega) u7 (M.take q) (⟨mf, mf + 1 + mt, modV p 1000001⟩ : S47) [.int .i64 (mf), .int .i64 (mf + 1 + mt), .int .i64 (modV p 1000001)] (fun _ => True) (fun _ => False) rfl rfl ?aP (fun _ hk => hk.elim) (fun _ _ => trivial) ?aO ?aB ?aS ?aL ?_)
              case aP => exact k47_mkM _ _ _ (⟨mf, mf + 1 + mt, modV p 1000001⟩ : S47)
              case aO => exact hOW.out
              case aB => exact hB.trans (HB3.out.mono (by omega))
              case aS => omega
              case aL => have h9 := HLEN.out; (try simp only [List.length_take] at h9 ⊢); omega
              intro v1 w9 ho hb hg hat
              have HO9 := Lib.hid ho
              clear ho hg hat
              clear z03 z13 z23 zf3
              go_wp2_with fail
              go_roundw
              case rel => exact ⟨q + 1, by go_num, by omega, by omega, (by rw [HNX.out, HY.out]; exact HO9.out), hb⟩
              case measure => simp [intOf]; omega
            · by_cases k6 : 1000000 < p
              · have hp0 := modV_bd (x := p) (n := 1000001) (by omega) (by omega)
                have hpp : tameP ⟨f, t, p⟩ = modV p 1000001 := by unfold tameP; rw [if_pos (Or.inr k6)]
                have HPP := Lib.hid hpp
                have HMP := Lib.hid (fun w => mod_c p 1000001 w (by omega) (by omega))
                clear hp0 hpp
                have z02 : W2.cell? ⟨wr.heap.size, 0, none⟩ = some (.int .i64 (mf)) := by simp [World.cell?, HG2.out]
                have z12 : W2.cell? ⟨wr.heap.size, 1, none⟩ = some (.int .i64 (mf + 1 + mt)) := by simp [World.cell?, HG2.out]
                have z22 : W2.cell? ⟨wr.heap.size, 2, none⟩ = some (.int .i64 (p)) := by simp [World.cell?, HG2.out]
                have zf2 : ∀ k, W2.frozen? ⟨wr.heap.size, k, none⟩ = false := fun k => by simp [World.frozen?, HG2.out]
                go_wp2_with fail
                refine (HMP.out _).mono ?_
                rintro e w5 ⟨rfl, n5, rfl⟩
                go_upto_region 11 with fail
                obtain ⟨W3, hW3⟩ : ∃ W3, W3 = (W2.drewN n5).setCell ⟨wr.heap.size, 2, none⟩ (.int .i64 (modV p 1000001)) := ⟨_, rfl⟩
                rw [← hW3]
                have HG3 : Hid (W3.heap[wr.heap.size]? = some (.cells #[Value.int .i64 (mf), Value.int .i64 (mf + 1 + mt), Value.int .i64 (modV p 1000001)] 47 (0, 0))) := Lib.hid (by rw [hW3]; have := HG2.out; simp [World.setCell, Array.getElem?_modify, this])
                have HB3 : Hid (Below wr.heap.size wr W3) := Lib.hid (by rw [hW3]; exact (HB2.out.trans ((pw_below_drewN (Below.refl _ _) n5).mono (by show wr.heap.size ≤ W2.heap.size; omega))).setCell (p := ⟨wr.heap.size, 2, none⟩) (Nat.le_refl _) _)
                clear z02 z12 z22 zf2
                clear hW3
                have z03 : W3.cell? ⟨wr.heap.size, 0, none⟩ = some (.int .i64 (mf)) := by simp [World.cell?, HG3.out]
                have z13 : W3.cell? ⟨wr.heap.size, 1, none⟩ = some (.int .i64 (mf + 1 + mt)) := by simp [World.cell?, HG3.out]
                have z23 : W3.cell? ⟨wr.heap.size, 2, none⟩ = some (.int .i64 (modV p 1000001)) := by simp [World.cell?, HG3.out]
                have zf3 : ∀ k, W3.frozen? ⟨wr.heap.size, k, none⟩ = false := fun k => by simp [World.frozen?, HG3.out]
                have hy : tame1 (n : Int) ⟨f, t, p⟩ = ⟨mf, mf + 1 + mt, modV p 1000001⟩ := by
                  show (⟨tameF ⟨f, t, p⟩ n, tameT ⟨f, t, p⟩ n, tameP ⟨f, t, p⟩⟩ : S47) = _
                  rw [HFT.out, HTT.out, HPP.out]
                have HY := Lib.hid hy
                have hsW := HB3.out.size
                have hOW := Lib.hid (Kd.R_below HO.out HB3.out)
                clear hy
                try clear hs0
                try clear hs1
                try clear hs2
                go_wp2_with (at_builtin; refine Kd.R_append k47 (w0 := w) w.heap.size rfl (.tmp 70) (.tmp 72) 22 47 (.agg #[(.int .i64 0), (.int .i64 0), (.int .i64 0)]) 24 rfl Try.underlying22 info47 rfl (by decide) (by omega) u7 (M.take q) (⟨mf, mf + 1 + mt, modV p 1000001⟩ : S47) [.int .i64 (mf), .int .i64 (mf + 1 + mt), .int .i64 (modV p 1000001)] (fun _ => True) (fun _ => False) rfl rfl ?aP (fun _ hk => hk.elim) (fun _ _ => trivial) ?aO ?aB ?aS ?aL ?_)
                case aP => exact k47_mkM _ _ _ (⟨mf, mf + 1 + mt, modV p 1000001⟩ : S47)
                case aO => exact hOW.out
                case aB => exact hB.trans (HB3.out.mono (by omega))
                case aS => omega
                case aL => have h9 := HLEN.out; (try simp only [List.length_take] at h9 ⊢); omega
                intro v1 w9 ho hb hg hat
                have HO9 := Lib.hid ho
                clear ho hg hat
                clear z03 z13 z23 zf3
                go_wp2_with fail
                go_roundw
                case rel => exact ⟨q + 1, by go_num, by omega, by omega, (by rw [HNX.out, HY.out]; exact HO9.out), hb⟩
                case measure => simp [intOf]; omega
              · have hpp : tameP ⟨f, t, p⟩ = p := by unfold tameP; exact if_neg (show ¬ (p < 0 ∨ 1000000 < p) by omega)
                have HPP := Lib.hid hpp
                clear hpp
                have z02 : W2.cell? ⟨wr.heap.size, 0, none⟩ = some (.int .i64 (mf)) := by simp [World.cell?, HG2.out]
                have z12 : W2.cell? ⟨wr.heap.size, 1, none⟩ = some (.int .i64 (mf + 1 + mt)) := by simp [World.cell?, HG2.out]
                have z22 : W2.cell? ⟨wr.heap.size, 2, none⟩ = some (.int .i64 (p)) := by simp [World.cell?, HG2.out]
                have zf2 : ∀ k, W2.frozen? ⟨wr.heap.size, k, none⟩ = false := fun k => by simp [World.frozen?, HG2.out]
                go_upto_region 11 with fail
                clear z02 z12 z22 zf2
                have z02 : W2.cell? ⟨wr.heap.size, 0, none⟩ = some (.int .i64 (mf)) := by simp [World.cell?, HG2.out]
                have z12 : W2.cell? ⟨wr.heap.size, 1, none⟩ = some (.int .i64 (mf + 1 + mt)) := by simp [World.cell?, HG2.out]
                have z22 : W2.cell? ⟨wr.heap.size, 2, none⟩ = some (.int .i64 (p)) := by simp [World.cell?, HG2.out]
                have zf2 : ∀ k, W2.frozen? ⟨wr.heap.size, k, none⟩ = false := fun k => by simp [World.frozen?, HG2.out]
                have hy : tame1 (n : Int) ⟨f, t, p⟩ = ⟨mf, mf + 1 + mt, p⟩ := by
                  show (⟨tameF ⟨f, t, p⟩ n, tameT ⟨f, t, p⟩ n, tameP ⟨f, t, p⟩⟩ : S47) = _
                  rw [HFT.out, HTT.out, HPP.out]
                have HY := Lib.hid hy
                have hsW := HB2.out.size
                have hOW := Lib.hid (Kd.R_below HO.out HB2.out)
                clear hy
                try clear hs0
                try clear hs1
                try clear hs2
                go_wp2_with (at_builtin; refine Kd.R_append k47 (w0 := w) w.heap.size rfl (.tmp 70) (.tmp 72) 22 47 (.agg #[(.int .i64 0), (.int .i64 0), (.int .i64 0)]) 24 rfl Try.underlying22 info47 rfl (by decide) (by omega) u7 (M.take q) (⟨mf, mf + 1 + mt, p⟩ : S47) [.int .i64 (mf), .int .i64 (mf + 1 + mt), .int .i64 (p)] (fun _ => True) (fun _ => False) rfl rfl ?aP (fun _ hk => hk.elim) (fun _ _ => trivial) ?aO ?aB ?aS ?aL ?_)
                case aP => exact k47_mkM _ _ _ (⟨mf, mf + 1 + mt, p⟩ : S47)
                case aO => exact hOW.out
                case aB => exact hB.trans (HB2.out.mono (by omega))
                case aS => omega
                case aL => have h9 := HLEN.out; (try simp only [List.length_take] at h9 ⊢); omega
                intro v1 w9 ho hb hg hat
                have HO9 := Lib.hid ho
                clear ho hg hat
                clear z02 z12 z22 zf2
                go_wp2_with fail
                go_roundw
                case rel => exact ⟨q + 1, by go_num, by omega, by omega, (by rw [HNX.out, HY.out]; exact HO9.out), hb⟩
                case measure => simp [intOf]; omega
        · by_cases k2 : (n : Int) < t
          · have ha := modV_bd (x := f) (n := n) (by omega) (by omega)
            have ha1 := ha.1
            have ha2 := ha.2.1
            have hb0 := modV_bd (x := t) (n := (n : Int) - modV f n) (by omega) (by omega)
            have hb1 := hb0.1
            have hb2 := hb0.2.1
            have HMF := Lib.hid (fun w => mod_c f n w (by omega) (by omega))
            have HMT := Lib.hid (fun w => mod_c t ((n : Int) - modV f n) w (by omega) (by omega))
            obtain ⟨mf, hmf⟩ : ∃ mf, mf = modV f n := ⟨_, rfl⟩
            rw [← hmf] at HMF HMT ha1 ha2 hb0 hb1 hb2
            obtain ⟨mt, hmt⟩ : ∃ mt, mt = modV t ((n : Int) - mf) := ⟨_, rfl⟩
            rw [← hmt] at HMT hb1 hb2
            have HMFE := Lib.hid hmf
            have HMTE := Lib.hid hmt
            clear ha hb0 hmf hmt
            go_wp2_with fail
            rw [← HW0.out]
            refine (HMF.out _).mono ?_
            rintro e w3 ⟨rfl, n3, rfl⟩
            have z00 : W0.cell? ⟨wr.heap.size, 0, none⟩ = some (.int .i64 (f)) := by simp [World.cell?, HG0.out]
            have z10 : W0.cell? ⟨wr.heap.size, 1, none⟩ = some (.int .i64 (t)) := by simp [World.cell?, HG0.out]
            have z20 : W0.cell? ⟨wr.heap.size, 2, none⟩ = some (.int .i64 (p)) := by simp [World.cell?, HG0.out]
            have zf0 : ∀ k, W0.frozen? ⟨wr.heap.size, k, none⟩ = false := fun k => by simp [World.frozen?, HG0.out]
            obtain ⟨W1, hW1⟩ : ∃ W1, W1 = (W0.drewN n3).setCell ⟨wr.heap.size, 0, none⟩ (.int .i64 mf) := ⟨_, rfl⟩
            have HG1 : Hid (W1.heap[wr.heap.size]? = some (.cells #[Value.int .i64 mf, Value.int .i64 t, Value.int .i64 p] 47 (0, 0))) := Lib.hid (by rw [hW1]; have := HG0.out; simp [World.setCell, Array.getElem?_modify, World.drewN, this])
            have HB1 : Hid (Below wr.heap.size wr W1) := Lib.hid (by rw [hW1]; exact (HBW0.out.trans ((pw_below_drewN (Below.refl _ _) n3).mono (by show wr.heap.size ≤ W0.heap.size; omega))).setCell (p := ⟨wr.heap.size, 0, none⟩) (Nat.le_refl _) _)
            have hs1 : W1.heap.size = wr.heap.size + 1 := by rw [hW1]; simp [World.setCell, World.drewN, hs0]
            have HW1 := Lib.hid hW1
            clear hW1
            go_wp2_with fail
            rw [← HW1.out]
            clear z00 z10 z20 zf0
            have CE : Hid (∀ w', R.Keeps [] W1 w' → w'.cell? ⟨wr.heap.size, 0, none⟩ = some (.int .i64 mf) ∧ w'.cell? ⟨wr.heap.size, 1, none⟩ = some (.int .i64 t)) := Lib.hid (fun w' h =>
              ⟨h.cell (a := ⟨wr.heap.size, 0, none⟩) (by simp [World.cell?, HG1.out]) (by simp), h.cell (a := ⟨wr.heap.size, 1, none⟩) (by simp [World.cell?, HG1.out]) (by simp)⟩)
            have hk1 : mf ≤ 1000 := by omega
            have hk2 : mt ≤ 1000 := by omega
            have hk3 : (n : Int) ≤ 1000 := by omega
            have hi3 : -4611686018427387904 ≤ mf + 1 + mt ∧ mf + 1 + mt ≤ 4611686018427387904 := by omega
            have hi2 : -4611686018427387904 ≤ (n : Int) - mf ∧ (n : Int) - mf ≤ 4611686018427387904 := by omega
            have hi1 : -4611686018427387904 ≤ mf + 1 ∧ mf + 1 ≤ 4611686018427387904 := by omega
            have e1 : IntKind.i64.wrap (mf + 1) = mf + 1 := by rw [i64_w]; exact wrapI hi1
            have e2 : IntKind.i64.wrap ((n : Int) - mf) = (n : Int) - mf := by rw [i64_w]; exact wrapI hi2
            have e3 : IntKind.i64.wrap (mf + 1 + mt) = mf + 1 + mt := by rw [i64_w]; exact wrapI hi3
            clear hi1 hi2 hi3
            apply R.wp_region_text [0, 1, 2, 3, 4, 5, 6, 7, 8] [9, 10, 11, 12] 12 (R.Keeps [] W1)
            case hm => kernel_rfl
            case hB => kernel_rfl
            case hd => rfl
            case hQ => exact fun _ _ _ _ _ h => h
            case hS => exact (R.Keeps.refl _ _).drew
            case hF =>
              intro w' hS
              obtain ⟨c1, c2⟩ := CE.out w' hS
              have HS := Lib.hid hS
              clear hS
              simp only [R.pickC, List.filterMap_cons, List.getElem?_toArray, List.getElem?_cons_zero, List.getElem?_cons_succ, List.filterMap_nil]
              iterate 9 ((with_reducible refine R.wpStill_plain rfl (fun K hK => ?_)); go_simp; with_reducible refine hK _ ?_; clear hK K)
              exact wpStill_nil rfl
            case hC =>
              simp only [R.chainOf, List.getElem?_toArray, List.getElem?_cons_zero, List.getElem?_cons_succ, Nat.reduceBNe, Bool.and_true, Bool.and_false, Bool.false_and]
              refine R.wpSeq_same (fun K hK => ?_)
              go_simp
              refine (HMT.out _).mono ?_
              rintro e w4 ⟨rfl, n4, rfl⟩
              have hk4 : R.Keeps [] W1 (W1.drewN (1 + n4)) := R.Keeps.of_below [] (pw_below_drewN (Below.refl _ _) (1 + n4))
              refine hK _ _ (((R.Keeps.refl _ _).drew).below (pw_below_drewN (Below.refl _ _) n4)) ?_
              clear hK K
              refine R.wpSeq_same (fun K hK => ?_)
              go_simp
              with_reducible refine hK _ _ hk4 ?_
              clear hK K
              refine R.wpSeq_same (fun K hK => ?_)
              go_simp
              with_reducible refine hK _ _ hk4 ?_
              clear hK K
              clear e1 e2 e3
              refine R.wpSeq_tail _ rfl ?_
              simp only [List.map_cons, List.map_nil]
              have HG4 : Hid ((W1.drewN (1 + n4)).heap[wr.heap.size]? = some (.cells #[Value.int .i64 mf, Value.int .i64 t, Value.int .i64 p] 47 (0, 0))) := Lib.hid (by have := HG1.out; simpa [World.drewN, World.drew] using this)
              have HK4 := Lib.hid hk4
              clear hk4
              have z04 : (W1.drewN (1 + n4)).cell? ⟨wr.heap.size, 0, none⟩ = some (.int .i64 (mf)) := by simp [World.cell?, HG1.out]
              have z14 : (W1.drewN (1 + n4)).cell? ⟨wr.heap.size, 1, none⟩ = some (.int .i64 (t)) := by simp [World.cell?, HG1.out]
              have z24 : (W1.drewN (1 + n4)).cell? ⟨wr.heap.size, 2, none⟩ = some (.int .i64 (p)) := by simp [World.cell?, HG1.out]
              have zf4 : ∀ k, (W1.drewN (1 + n4)).frozen? ⟨wr.heap.size, k, none⟩ = false := fun k => by simp [World.frozen?, HG1.out]
              obtain ⟨W2, hW2⟩ : ∃ W2, W2 = (W1.drewN (1 + n4)).setCell ⟨wr.heap.size, 1, none⟩ (.int .i64 (mf + 1 + mt)) := ⟨_, rfl⟩
              have HG2 : Hid (W2.heap[wr.heap.size]? = some (.cells #[Value.int .i64 mf, Value.int .i64 (mf + 1 + mt), Value.int .i64 p] 47 (0, 0))) := Lib.hid (by rw [hW2]; have := HG1.out; simp [World.setCell, Array.getElem?_modify, this])
              have HB2 : Hid (Below wr.heap.size wr W2) := Lib.hid (by rw [hW2]; exact (HB1.out.trans (HK4.out.to_below (by omega) (fun k hk => by simp at hk))).setCell (p := ⟨wr.heap.size, 1, none⟩) (Nat.le_refl _) _)
              have hs2 : W2.heap.size = wr.heap.size + 1 := by rw [hW2]; simpa [World.setCell, World.drewN, World.drew] using hs1
              have HW2 := Lib.hid hW2
              clear hW2
              go_upto_region 9 with fail
              rw [← HW2.out]
              clear z04 z14 z24 zf4
              have hft : tameF ⟨f, t, p⟩ n = mf := by unfold tameF; rw [if_pos (Or.inr (Or.inl k2))]; exact HMFE.out.symm
              have htt : tameT ⟨f, t, p⟩ n = mf + 1 + mt := by unfold tameT; rw [if_pos (Or.inr (Or.inl k2)), ← HMFE.out, ← HMTE.out]
              have HFT := Lib.hid hft
              have HTT := Lib.hid htt
              clear hft htt
              by_cases k5 : p < 0
              · have hp0 := modV_bd (x := p) (n := 1000001) (by omega) (by omega)
                have hpp : tameP ⟨f, t, p⟩ = modV p 1000001 := by unfold tameP; rw [if_pos (Or.inl k5)]
                have HPP := Lib.hid hpp
                have HMP := Lib.hid (fun w => mod_c p 1000001 w (by omega) (by omega))
                clear hp0 hpp
                have z02 : W2.cell? ⟨wr.heap.size, 0, none⟩ = some (.int .i64 (mf)) := by simp [World.cell?, HG2.out]
                have z12 : W2.cell? ⟨wr.heap.size, 1, none⟩ = some (.int .i64 (mf + 1 + mt)) := by simp [World.cell?, HG2.out]
                have z22 : W2.cell? ⟨wr.heap.size, 2, none⟩ = some (.int .i64 (p)) := by simp [World.cell?, HG2.out]
                have zf2 : ∀ k, W2.frozen? ⟨wr.heap.size, k, none⟩ = false := fun k => by simp [World.frozen?, HG2.out]
                go_wp2_with fail
                refine (HMP.out _).mono ?_
                rintro e w5 ⟨rfl, n5, rfl⟩
                go_upto_region 11 with fail
                obtain ⟨W3, hW3⟩ : ∃ W3, W3 = (W2.drewN n5).setCell ⟨wr.heap.size, 2, none⟩ (.int .i64 (modV p 1000001)) := ⟨_, rfl⟩
                rw [← hW3]
                have HG3 : Hid (W3.heap[wr.heap.size]? = some (.cells #[Value.int .i64 (mf), Value.int .i64 (mf + 1 + mt), Value.int .i64 (modV p 1000001)] 47 (0, 0))) := Lib.hid (by rw [hW3]; have := HG2.out; simp [World.setCell, Array.getElem?_modify, this])
                have HB3 : Hid (Below wr.heap.size wr W3) := Lib.hid (by rw [hW3]; exact (HB2.out.trans ((pw_below_drewN (Below.refl _ _) n5).mono (by show wr.heap.size ≤ W2.heap.size; omega))).setCell (p := ⟨wr.heap.size, 2, none⟩) (Nat.le_refl _) _)
                clear z02 z12 z22 zf2
                clear hW3
                have z03 : W3.cell? ⟨wr.heap.size, 0, none⟩ = some (.int .i64 (mf)) := by simp [World.cell?, HG3.out]
                have z13 : W3.cell? ⟨wr.heap.size, 1, none⟩ = some (.int .i64 (mf + 1 + mt)) := by simp [World.cell?, HG3.out]
                have z23 : W3.cell? ⟨wr.heap.size, 2, none⟩ = some (.int .i64 (modV p 1000001)) := by simp [World.cell?, HG3.out]
                have zf3 : ∀ k, W3.frozen? ⟨wr.heap.size, k, none⟩ = false := fun k => by simp [World.frozen?, HG3.out]
                have hy : tame1 (n : Int) ⟨f, t, p⟩ = ⟨mf, mf + 1 + mt, modV p 1000001⟩ := by
                  show (⟨tameF ⟨f, t, p⟩ n, tameT ⟨f, t, p⟩ n, tameP ⟨f, t, p⟩⟩ : S47) = _
                  rw [HFT.out, HTT.out, HPP.out]
                have HY := Lib.hid hy
                have hsW := HB3.out.size
                have hOW := Lib.hid (Kd.R_below HO.out HB3.out)
                clear hy
                try clear hs0
                try clear hs1
                try clear hs2
                go_wp2_with (at_builtin; refine Kd.R_append k47 (w0 := w) w.heap.size rfl (.tmp 70) (.tmp 72) 22 47 (.agg #[(.int .i64 0), (.int .i64 0), (.int .i64 0)]) 24 rfl Try.underlying22 info47 rfl (by decide) (by omega) u7 (M.take q) (⟨mf, mf + 1 + mt, modV p 1000001⟩ : S47) [.int .i64 (mf), .int .i64 (mf + 1 + mt), .int .i64 (modV p 1000001)] (fun _ => True) (fun _ => False) rfl rfl ?aP (fun _ hk => hk.elim) (fun _ _ => trivial) ?aO ?aB ?aS ?aL ?_)
                case aP => exact k47_mkM _ _ _ (⟨mf, mf + 1 + mt, modV p 1000001⟩ : S47)
                case aO => exact hOW.out
                case aB => exact hB.trans (HB3.out.mono (by omega))
                case aS => omega
                case aL => have h9 := HLEN.out; (try simp only [List.length_take] at h9 ⊢); omega
                intro v1 w9 ho hb hg hat
                have HO9 := Lib.hid ho
                clear ho hg hat
                clear z03 z13 z23 zf3
                go_wp2_with fail
                go_roundw
                case rel => exact ⟨q + 1, by go_num, by omega, by omega, (by rw [HNX.out, HY.out]; exact HO9.out), hb⟩
                case measure => simp [intOf]; omega
              · by_cases k6 : 1000000 < p
                · have hp0 := modV_bd (x := p) (n := 1000001) (by omega) (by omega)
                  have hpp : tameP ⟨f, t, p⟩ = modV p 1000001 := by unfold tameP; rw [if_pos (Or.inr k6)]
                  have HPP := Lib.hid hpp
                  have HMP := Lib.hid (fun w => mod_c p 1000001 w (by omega) (by omega))
                  clear hp0 hpp
                  have z02 : W2.cell? ⟨wr.heap.size, 0, none⟩ = some (.int .i64 (mf)) := by simp [World.cell?, HG2.out]
                  have z12 : W2.cell? ⟨wr.heap.size, 1, none⟩ = some (.int .i64 (mf + 1 + mt)) := by simp [World.cell?, HG2.out]
                  have z22 : W2.cell? ⟨wr.heap.size, 2, none⟩ = some (.int .i64 (p)) := by simp [World.cell?, HG2.out]
                  have zf2 : ∀ k, W2.frozen? ⟨wr.heap.size, k, none⟩ = false := fun k => by simp [World.frozen?, HG2.out]
                  go_wp2_with fail
                  refine (HMP.out _).mono ?_
                  rintro e w5 ⟨rfl, n5, rfl⟩
                  go_upto_region 11 with fail
                  obtain ⟨W3, hW3⟩ : ∃ W3, W3 = (W2.drewN n5).setCell ⟨wr.heap.size, 2, none⟩ (.int .i64 (modV p 1000001)) := ⟨_, rfl⟩
                  rw [← hW3]
                  have HG3 : Hid (W3.heap[wr.heap.size]? = some (.cells #[Value.int .i64 (mf), Value.int .i64 (mf + 1 + mt), Value.int .i64 (modV p 1000001)] 47 (0, 0))) := Lib.hid (by rw [hW3]; have := HG2.out; simp [World.setCell, Array.getElem?_modify, this])
                  have HB3 : Hid (Below wr.heap.size wr W3) := Lib.hid (by rw [hW3]; exact (HB2.out.trans ((pw_below_drewN (Below.refl _ _) n5).mono (by show wr.heap.size ≤ W2.heap.size; omega))).setCell (p := ⟨wr.heap.size, 2, none⟩) (Nat.le_refl _) _)
                  clear z02 z12 z22 zf2
                  clear hW3
                  have z03 : W3.cell? ⟨wr.heap.size, 0, none⟩ = some (.int .i64 (mf)) := by simp [World.cell?, HG3.out]
                  have z13 : W3.cell? ⟨wr.heap.size, 1, none⟩ = some (.int .i64 (mf + 1 + mt)) := by simp [World.cell?, HG3.out]
                  have z23 : W3.cell? ⟨wr.heap.size, 2, none⟩ = some (.int .i64 (modV p 1000001)) := by simp [World.cell?, HG3.out]
                  have zf3 : ∀ k, W3.frozen? ⟨wr.heap.size, k, none⟩ = false := fun k => by simp [World.frozen?, HG3.out]
                  have hy : tame1 (n : Int) ⟨f, t, p⟩ = ⟨mf, mf + 1 + mt, modV p 1000001⟩ := by
                    show (⟨tameF ⟨f, t, p⟩ n, tameT ⟨f, t, p⟩ n, tameP ⟨f, t, p⟩⟩ : S47) = _
                    rw [HFT.out, HTT.out, HPP.out]
                  have HY := Lib.hid hy
                  have hsW := HB3.out.size
                  have hOW := Lib.hid (Kd.R_below HO.out HB3.out)
                  clear hy
                  try clear hs0
                  try clear hs1
                  try clear hs2
                  go_wp2_with (at_builtin; refine Kd.R_append k47 (w0 := w) w.heap.size rfl (.tmp 70) (.tmp 72) 22 47 (.agg #[(.int .i64 0), (.int .i64 0), (.int .i64 0)]) 24 rfl Try.underlying22 info47 rfl (by decide) (by omega) u7 (M.take q) (⟨mf, mf + 1 + mt, modV p 1000001⟩ : S47) [.int .i64 (mf), .int .i64 (mf + 1 + mt), .int .i64 (modV p 1000001)] (fun _ => True) (fun _ => False) rfl rfl ?aP (fun _ hk => hk.elim) (fun _ _ => trivial) ?aO ?aB ?aS ?aL ?_)
                  case aP => exact k47_mkM _ _ _ (⟨mf, mf + 1 + mt, modV p 1000001⟩ : S47)
                  case aO => exact hOW.out
                  case aB => exact hB.trans (HB3.out.mono (by omega))
                  case aS => omega
                  case aL => have h9 := HLEN.out; (try simp only [List.length_take] at h9 ⊢); omega
                  intro v1 w9 ho hb hg hat
                  have HO9 := Lib.hid ho
                  clear ho hg hat
                  clear z03 z13 z23 zf3
                  go_wp2_with fail
                  go_roundw
                  case rel => exact ⟨q + 1, by go_num, by omega, by omega, (by rw [HNX.out, HY.out]; exact HO9.out), hb⟩
                  case measure => simp [intOf]; omega
                · have hpp : tameP ⟨f, t, p⟩ = p := by unfold tameP; exact if_neg (show ¬ (p < 0 ∨ 1000000 < p) by omega)
                  have HPP := Lib.hid hpp
                  clear hpp
                  have z02 : W2.cell? ⟨wr.heap.size, 0, none⟩ = some (.int .i64 (mf)) := by simp [World.cell?, HG2.out]
                  have z12 : W2.cell? ⟨wr.heap.size, 1, none⟩ = some (.int .i64 (mf + 1 + mt)) := by simp [World.cell?, HG2.out]
                  have z22 : W2.cell? ⟨wr.heap.size, 2, none⟩ = some (.int .i64 (p)) := by simp [World.cell?, HG2.out]
                  have zf2 : ∀ k, W2.frozen? ⟨wr.heap.size, k, none⟩ = false := fun k => by simp [World.frozen?, HG2.out]
                  go_upto_region 11 with fail
                  clear z02 z12 z22 zf2
                  have z02 : W2.cell? ⟨wr.heap.size, 0, none⟩ = some (.int .i64 (mf)) := by simp [World.cell?, HG2.out]
                  have z12 : W2.cell? ⟨wr.heap.size, 1, none⟩ = some (.int .i64 (mf + 1 + mt)) := by simp [World.cell?, HG2.out]
                  have z22 : W2.cell? ⟨wr.heap.size, 2, none⟩ = some (.int .i64 (p)) := by simp [World.cell?, HG2.out]
                  have zf2 : ∀ k, W2.frozen? ⟨wr.heap.size, k, none⟩ = false := fun k => by simp [World.frozen?, HG2.out]
                  have hy : tame1 (n : Int) ⟨f, t, p⟩ = ⟨mf, mf + 1 + mt, p⟩ := by
                    show (⟨tameF ⟨f, t, p⟩ n, tameT ⟨f, t, p⟩ n, tameP ⟨f, t, p⟩⟩ : S47) = _
                    rw [HFT.out, HTT.out, HPP.out]
                  have HY := Lib.hid hy
                  have hsW := HB2.out.size
                  have hOW := Lib.hid (Kd.R_below HO.out HB2.out)
                  clear hy
                  try clear hs0
                  try clear hs1
                  try clear hs2
                  go_wp2_with (at_builtin; refine Kd.R_append k47 (w0 := w) w.heap.size rfl (.tmp 70) (.tmp 72) 22 47 (.agg #[(.int .i64 0), (.int .i64 0), (.int .i64 0)]) 24 rfl Try.underlying22 info47 rfl (by decide) (by omega) u7 (M.take q) (⟨mf, mf + 1 + mt, p⟩ : S47) [.int .i64 (mf), .int .i64 (mf + 1 + mt), .int .i64 (p)] (fun _ => True) (fun _ => False) rfl rfl ?aP (fun _ hk => hk.elim) (fun _ _ => trivial) ?aO ?aB ?aS ?aL ?_)
                  case aP => exact k47_mkM _ _ _ (⟨mf, mf + 1 + mt, p⟩ : S47)
                  case aO => exact hOW.out
                  case aB => exact hB.trans (HB2.out.mono (by omega))
                  case aS => omega
                  case aL => have h9 := HLEN.out; (try simp only [List.length_take] at h9 ⊢); omega
                  intro v1 w9 ho hb hg hat
                  have HO9 := Lib.hid ho
                  clear ho hg hat
                  clear z02 z12 z22 zf2
                  go_wp2_with fail
                  go_roundw
                  case rel => exact ⟨q + 1, by go_num, by omega, by omega, (by rw [HNX.out, HY.out]; exact HO9.out), hb⟩
                  case measure => simp [intOf]; omega
          · by_cases k3 : t ≤ f
            · have ha := modV_bd (x := f) (n := n) (by omega) (by omega)
              have ha1 := ha.1
              have ha2 := ha.2.1
              have hb0 := modV_bd (x := t) (n := (n : Int) - modV f n) (by omega) (by omega)
              have hb1 := hb0.1
              have hb2 := hb0.2.1
              have HMF := Lib.hid (fun w => mod_c f n w (by omega) (by omega))
              have HMT := Lib.hid (fun w => mod_c t ((n : Int) - modV f n) w (by omega) (by omega))
              obtain ⟨mf, hmf⟩ : ∃ mf, mf = modV f n := ⟨_, rfl⟩
              rw [← hmf] at HMF HMT ha1 ha2 hb0 hb1 hb2
              obtain ⟨mt, hmt⟩ : ∃ mt, mt = modV t ((n : Int) - mf) := ⟨_, rfl⟩
              rw [← hmt] at HMT hb1 hb2
              have HMFE := Lib.hid hmf
              have HMTE := Lib.hid hmt
              clear ha hb0 hmf hmt
              go_wp2_with fail
              rw [← HW0.out]
              refine (HMF.out _).mono ?_
              rintro e w3 ⟨rfl, n3, rfl⟩
              have z00 : W0.cell? ⟨wr.heap.size, 0, none⟩ = some (.int .i64 (f)) := by simp [World.cell?, HG0.out]
              have z10 : W0.cell? ⟨wr.heap.size, 1, none⟩ = some (.int .i64 (t)) := by simp [World.cell?, HG0.out]
              have z20 : W0.cell? ⟨wr.heap.size, 2, none⟩ = some (.int .i64 (p)) := by simp [World.cell?, HG0.out]
              have zf0 : ∀ k, W0.frozen? ⟨wr.heap.size, k, none⟩ = false := fun k => by simp [World.frozen?, HG0.out]
              obtain ⟨W1, hW1⟩ : ∃ W1, W1 = (W0.drewN n3).setCell ⟨wr.heap.size, 0, none⟩ (.int .i64 mf) := ⟨_, rfl⟩
              have HG1 : Hid (W1.heap[wr.heap.size]? = some (.cells #[Value.int .i64 mf, Value.int .i64 t, Value.int .i64 p] 47 (0, 0))) := Lib.hid (by rw [hW1]; have := HG0.out; simp [World.setCell, Array.getElem?_modify, World.drewN, this])
              have HB1 : Hid (Below wr.heap.size wr W1) := Lib.hid (by rw [hW1]; exact (HBW0.out.trans ((pw_below_drewN (Below.refl _ _) n3).mono (by show wr.heap.size ≤ W0.heap.size; omega))).setCell (p := ⟨wr.heap.size, 0, none⟩) (Nat.le_refl _) _)
              have hs1 : W1.heap.size = wr.heap.size + 1 := by rw [hW1]; simp [World.setCell, World.drewN, hs0]
              have HW1 := Lib.hid hW1
              clear hW1
              go_wp2_with fail
              rw [← HW1.out]
              clear z00 z10 z20 zf0
              have CE : Hid (∀ w', R.Keeps [] W1 w' → w'.cell? ⟨wr.heap.size, 0, none⟩ = some (.int .i64 mf) ∧ w'.cell? ⟨wr.heap.size, 1, none⟩ = some (.int .i64 t)) := Lib.hid (fun w' h =>
                ⟨h.cell (a := ⟨wr.heap.size, 0, none⟩) (by simp [World.cell?, HG1.out]) (by simp), h.cell (a := ⟨wr.heap.size, 1, none⟩) (by simp [World.cell?, HG1.out]) (by simp)⟩)
              have hk1 : mf ≤ 1000 := by omega
              have hk2 : mt ≤ 1000 := by omega
              have hk3 : (n : Int) ≤ 1000 := by omega
              have hi3 : -4611686018427387904 ≤ mf + 1 + mt ∧ mf + 1 + mt ≤ 4611686018427387904 := by omega
              have hi2 : -4611686018427387904 ≤ (n : Int) - mf ∧ (n : Int) - mf ≤ 4611686018427387904 := by omega
              have hi1 : -4611686018427387904 ≤ mf + 1 ∧ mf + 1 ≤ 4611686018427387904 := by omega
              have e1 : IntKind.i64.wrap (mf + 1) = mf + 1 := by rw [i64_w]; exact wrapI hi1
              have e2 : IntKind.i64.wrap ((n : Int) - mf) = (n : Int) - mf := by rw [i64_w]; exact wrapI hi2
              have e3 : IntKind.i64.wrap (mf + 1 + mt) = mf + 1 + mt := by rw [i64_w]; exact wrapI hi3
              clear hi1 hi2 hi3
              apply R.wp_region_text [0, 1, 2, 3, 4, 5, 6, 7, 8] [9, 10, 11, 12] 12 (R.Keeps [] W1)
              case hm => kernel_rfl
              case hB => kernel_rfl
              case hd => rfl
              case hQ => exact fun _ _ _ _ _ h => h
              case hS => exact (R.Keeps.refl _ _).drew
              case hF =>
                intro w' hS
                obtain ⟨c1, c2⟩ := CE.out w' hS
                have HS := Lib.hid hS
                clear hS
                simp only [R.pickC, List.filterMap_cons, List.getElem?_toArray, List.getElem?_cons_zero, List.getElem?_cons_succ, List.filterMap_nil]
                iterate 9 ((with_reducible refine R.wpStill_plain rfl (fun K hK => ?_)); go_simp; with_reducible refine hK _ ?_; clear hK K)
                exact wpStill_nil rfl
              case hC =>
                simp only [R.chainOf, List.getElem?_toArray, List.getElem?_cons_zero, List.getElem?_cons_succ, Nat.reduceBNe, Bool.and_true, Bool.and_false, Bool.false_and]
                refine R.wpSeq_same (fun K hK => ?_)
                go_simp
                refine (HMT.out _).mono ?_
                rintro e w4 ⟨rfl, n4, rfl⟩
                have hk4 : R.Keeps [] W1 (W1.drewN (1 + n4)) := R.Keeps.of_below [] (pw_below_drewN (Below.refl _ _) (1 + n4))
                refine hK _ _ (((R.Keeps.refl _ _).drew).below (pw_below_drewN (Below.refl _ _) n4)) ?_
                clear hK K
                refine R.wpSeq_same (fun K hK => ?_)
                go_simp
                with_reducible refine hK _ _ hk4 ?_
                clear hK K
                refine R.wpSeq_same (fun K hK => ?_)
                go_simp
                with_reducible refine hK _ _ hk4 ?_
                clear hK K
                clear e1 e2 e3
                refine R.wpSeq_tail _ rfl ?_
                simp only [List.map_cons, List.map_nil]
                have HG4 : Hid ((W1.drewN (1 + n4)).heap[wr.heap.size]? = some (.cells #[Value.int .i64 mf, Value.int .i64 t, Value.int .i64 p] 47 (0, 0))) := Lib.hid (by have := HG1.out; simpa [World.drewN, World.drew] using this)
                have HK4 := Lib.hid hk4
                clear hk4
                have z04 : (W1.drewN (1 + n4)).cell? ⟨wr.heap.size, 0, none⟩ = some (.int .i64 (mf)) := by simp [World.cell?, HG1.out]
                have z14 : (W1.drewN (1 + n4)).cell? ⟨wr.heap.size, 1, none⟩ = some (.int .i64 (t)) := by simp [World.cell?, HG1.out]
                have z24 : (W1.drewN (1 + n4)).cell? ⟨wr.heap.size, 2, none⟩ = some (.int .i64 (p)) := by simp [World.cell?, HG1.out]
                have zf4 : ∀ k, (W1.drewN (1 + n4)).frozen? ⟨wr.heap.size, k, none⟩ = false := fun k => by simp [World.frozen?, HG1.out]
                obtain ⟨W2, hW2⟩ : ∃ W2, W2 = (W1.drewN (1 + n4)).setCell ⟨wr.heap.size, 1, none⟩ (.int .i64 (mf + 1 + mt)) := ⟨_, rfl⟩
                have HG2 : Hid (W2.heap[wr.heap.size]? = some (.cells #[Value.int .i64 mf, Value.int .i64 (mf + 1 + mt), Value.int .i64 p] 47 (0, 0))) := Lib.hid (by rw [hW2]; have := HG1.out; simp [World.setCell, Array.getElem?_modify, this])
                have HB2 : Hid (Below wr.heap.size wr W2) := Lib.hid (by rw [hW2]; exact (HB1.out.trans (HK4.out.to_below (by omega) (fun k hk => by simp at hk))).setCell (p := ⟨wr.heap.size, 1, none⟩) (Nat.le_refl _) _)
                have hs2 : W2.heap.size = wr.heap.size + 1 := by rw [hW2]; simpa [World.setCell, World.drewN, World.drew] using hs1
                have HW2 := Lib.hid hW2
                clear hW2
                go_upto_region 9 with fail
                rw [← HW2.out]
                clear z04 z14 z24 zf4
                have hft : tameF ⟨f, t, p⟩ n = mf := by unfold tameF; rw [if_pos (Or.inr (Or.inr k3))]; exact HMFE.out.symm
                have htt : tameT ⟨f, t, p⟩ n = mf + 1 + mt := by unfold tameT; rw [if_pos (Or.inr (Or.inr k3)), ← HMFE.out, ← HMTE.out]
                have HFT := Lib.hid hft
                have HTT := Lib.hid htt
                clear hft htt
                by_cases k5 : p < 0
                · have hp0 := modV_bd (x := p) (n := 1000001) (by omega) (by omega)
                  have hpp : tameP ⟨f, t, p⟩ = modV p 1000001 := by unfold tameP; rw [if_pos (Or.inl k5)]
                  have HPP := Lib.hid hpp
                  have HMP := Lib.hid (fun w => mod_c p 1000001 w (by omega) (by omega))
                  clear hp0 hpp
                  have z02 : W2.cell? ⟨wr.heap.size, 0, none⟩ = some (.int .i64 (mf)) := by simp [World.cell?, HG2.out]
                  have z12 : W2.cell? ⟨wr.heap.size, 1, none⟩ = some (.int .i64 (mf + 1 + mt)) := by simp [World.cell?, HG2.out]
                  have z22 : W2.cell? ⟨wr.heap.size, 2, none⟩ = some (.int .i64 (p)) := by simp [World.cell?, HG2.out]
                  have zf2 : ∀ k, W2.frozen? ⟨wr.heap.size, k, none⟩ = false := fun k => by simp [World.frozen?, HG2.out]
                  go_wp2_with fail
                  refine (HMP.out _).mono ?_
                  rintro e w5 ⟨rfl, n5, rfl⟩
                  go_upto_region 11 with fail
                  obtain ⟨W3, hW3⟩ : ∃ W3, W3 = (W2.drewN n5).setCell ⟨wr.heap.size, 2, none⟩ (.int .i64 (modV p 1000001)) := ⟨_, rfl⟩
                  rw [← hW3]
                  have HG3 : Hid (W3.heap[wr.heap.size]? = some (.cells #[Value.int .i64 (mf), Value.int .i64 (mf + 1 + mt), Value.int .i64 (modV p 1000001)] 47 (0, 0))) := Lib.hid (by rw [hW3]; have := HG2.out; simp [World.setCell, Array.getElem?_modify, this])
                  have HB3 : Hid (Below wr.heap.size wr W3) := Lib.hid (by rw [hW3]; exact (HB2.out.trans ((pw_below_drewN (Below.refl _ _) n5).mono (by show wr.heap.size ≤ W2.heap.size; omega))).setCell (p := ⟨wr.heap.size, 2, none⟩) (Nat.le_refl _) _)
                  clear z02 z12 z22 zf2
                  clear hW3
                  have z03 : W3.cell? ⟨wr.heap.size, 0, none⟩ = some (.int .i64 (mf)) := by simp [World.cell?, HG3.out]
                  have z13 : W3.cell? ⟨wr.heap.size, 1, none⟩ = some (.int .i64 (mf + 1 + mt)) := by simp [World.cell?, HG3.out]
                  have z23 : W3.cell? ⟨wr.heap.size, 2, none⟩ = some (.int .i64 (modV p 1000001)) := by simp [World.cell?, HG3.out]
                  have zf3 : ∀ k, W3.frozen? ⟨wr.heap.size, k, none⟩ = false := fun k => by simp [World.frozen?, HG3.out]
                  have hy : tame1 (n : Int) ⟨f, t, p⟩ = ⟨mf, mf + 1 + mt, modV p 1000001⟩ := by
                    show (⟨tameF ⟨f, t, p⟩ n, tameT ⟨f, t, p⟩ n, tameP ⟨f, t, p⟩⟩ : S47) = _
                    rw [HFT.out, HTT.out, HPP.out]
                  have HY := Lib.hid hy
                  have hsW := HB3.out.size
                  have hOW := Lib.hid (Kd.R_below HO.out HB3.out)
                  clear hy
                  try clear hs0
                  try clear hs1
                  try clear hs2
                  go_wp2_with (at_builtin; refine Kd.R_append k47 (w0 := w) w.heap.size rfl (.tmp 70) (.tmp 72) 22 47 (.agg #[(.int .i64 0), (.int .i64 0), (.int .i64 0)]) 24 rfl Try.underlying22 info47 rfl (by decide) (by omega) u7 (M.take q) (⟨mf, mf + 1 + mt, modV p 1000001⟩ : S47) [.int .i64 (mf), .int .i64 (mf + 1 + mt), .int .i64 (modV p 1000001)] (fun _ => True) (fun _ => False) rfl rfl ?aP (fun _ hk => hk.elim) (fun _ _ => trivial) ?aO ?aB ?aS ?aL ?_)
                  case aP => exact k47_mkM _ _ _ (⟨mf, mf + 1 + mt, modV p 1000001⟩ : S47)
                  case aO => exact hOW.out
                  case aB => exact hB.trans (HB3.out.mono (by omega))
                  case aS => omega
                  case aL => have h9 := HLEN.out; (try simp only [List.length_take] at h9 ⊢); omega
                  intro v1 w9 ho hb hg hat
                  have HO9 := Lib.hid ho
                  clear ho hg hat
                  clear z03 z13 z23 zf3
                  go_wp2_with fail
                  go_roundw
                  case rel => exact ⟨q + 1, by go_num, by omega, by omega, (by rw [HNX.out, HY.out]; exact HO9.out), hb⟩
                  case measure => simp [intOf]; omega
                · by_cases k6 : 1000000 < p
                  · have hp0 := modV_bd (x := p) (n := 1000001) (by omega) (by omega)
                    have hpp : tameP ⟨f, t, p⟩ = modV p 1000001 := by unfold tameP; rw [if_pos (Or.inr k6)]
                    have HPP := Lib.hid hpp
                    have HMP := Lib.hid (fun w => mod_c p 1000001 w (by omega) (by omega))
                    clear hp0 hpp
                    have z02 : W2.cell? ⟨wr.heap.size, 0, none⟩ = some (.int .i64 (mf)) := by simp [World.cell?, HG2.out]
                    have z12 : W2.cell? ⟨wr.heap.size, 1, none⟩ = some (.int .i64 (mf + 1 + mt)) := by simp [World.cell?, HG2.out]
                    have z22 : W2.cell? ⟨wr.heap.size, 2, none⟩ = some (.int .i64 (p)) := by simp [World.cell?, HG2.out]
                    have zf2 : ∀ k, W2.frozen? ⟨wr.heap.size, k, none⟩ = false := fun k => by simp [World.frozen?, HG2.out]
                    go_wp2_with fail
                    refine (HMP.out _).mono ?_
                    rintro e w5 ⟨rfl, n5, rfl⟩
                    go_upto_region 11 with fail
                    obtain ⟨W3, hW3⟩ : ∃ W3, W3 = (W2.drewN n5).setCell ⟨wr.heap.size, 2, none⟩ (.int .i64 (modV p 1000001)) := ⟨_, rfl⟩
                    rw [← hW3]
                    have HG3 : Hid (W3.heap[wr.heap.size]? = some (.cells #[Value.int .i64 (mf), Value.int .i64 (mf + 1 + mt), Value.int .i64 (modV p 1000001)] 47 (0, 0))) := Lib.hid (by rw [hW3]; have := HG2.out; simp [World.setCell, Array.getElem?_modify, this])
                    have HB3 : Hid (Below wr.heap.size wr W3) := Lib.hid (by rw [hW3]; exact (HB2.out.trans ((pw_below_drewN (Below.refl _ _) n5).mono (by show wr.heap.size ≤ W2.heap.size; omega))).setCell (p := ⟨wr.heap.size, 2, none⟩) (Nat.le_refl _) _)
                    clear z02 z12 z22 zf2
                    clear hW3
                    have z03 : W3.cell? ⟨wr.heap.size, 0, none⟩ = some (.int .i64 (mf)) := by simp [World.cell?, HG3.out]
                    have z13 : W3.cell? ⟨wr.heap.size, 1, none⟩ = some (.int .i64 (mf + 1 + mt)) := by simp [World.cell?, HG3.out]
                    have z23 : W3.cell? ⟨wr.heap.size, 2, none⟩ = some (.int .i64 (modV p 1000001)) := by simp [World.cell?, HG3.out]
                    have zf3 : ∀ k, W3.frozen? ⟨wr.heap.size, k, none⟩ = false := fun k => by simp [World.frozen?, HG3.out]
                    have hy : tame1 (n : Int) ⟨f, t, p⟩ = ⟨mf, mf + 1 + mt, modV p 1000001⟩ := by
                      show (⟨tameF ⟨f, t, p⟩ n, tameT ⟨f, t, p⟩ n, tameP ⟨f, t, p⟩⟩ : S47) = _
                      rw [HFT.out, HTT.out, HPP.out]
                    have HY := Lib.hid hy
                    have hsW := HB3.out.size
                    have hOW := Lib.hid (Kd.R_below HO.out HB3.out)
                    clear hy
                    try clear hs0
                    try clear hs1
                    try clear hs2
                    go_wp2_with (at_builtin; refine Kd.R_append k47 (w0 := w) w.heap.size rfl (.tmp 70) (.tmp 72) 22 47 (.agg #[(.int .i64 0), (.int .i64 0), (.int .i64 0)]) 24 rfl Try.underlying22 info47 rfl (by decide) (by omega) u7 (M.take q) (⟨mf, mf + 1 + mt, modV p 1000001⟩ : S47) [.int .i64 (mf), .int .i64 (mf + 1 + mt), .int .i64 (modV p 1000001)] (fun _ => True) (fun _ => False) rfl rfl ?aP (fun _ hk => hk.elim) (fun _ _ => trivial) ?aO ?aB ?aS ?aL ?_)
                    case aP => exact k47_mkM _ _ _ (⟨mf, mf + 1 + mt, modV p 1000001⟩ : S47)
                    case aO => exact hOW.out
                    case aB => exact hB.trans (HB3.out.mono (by omega))
                    case aS => omega
                    case aL => have h9 := HLEN.out; (try simp only [List.length_take] at h9 ⊢); omega
                    intro v1 w9 ho hb hg hat
                    have HO9 := Lib.hid ho
                    clear ho hg hat
                    clear z03 z13 z23 zf3
                    go_wp2_with fail
                    go_roundw
                    case rel => exact ⟨q + 1, by go_num, by omega, by omega, (by rw [HNX.out, HY.out]; exact HO9.out), hb⟩
                    case measure => simp [intOf]; omega
                  · have hpp : tameP ⟨f, t, p⟩ = p := by unfold tameP; exact if_neg (show ¬ (p < 0 ∨ 1000000 < p) by omega)
                    have HPP := Lib.hid hpp
                    clear hpp
                    have z02 : W2.cell? ⟨wr.heap.size, 0, none⟩ = some (.int .i64 (mf)) := by simp [World.cell?, HG2.out]
                    have z12 : W2.cell? ⟨wr.heap.size, 1, none⟩ = some (.int .i64 (mf + 1 + mt)) := by simp [World.cell?, HG2.out]
                    have z22 : W2.cell? ⟨wr.heap.size, 2, none⟩ = some (.int .i64 (p)) := by simp [World.cell?, HG2.out]
                    have zf2 : ∀ k, W2.frozen? ⟨wr.heap.size, k, none⟩ = false := fun k => by simp [World.frozen?, HG2.out]
                    go_upto_region 11 with fail
                    clear z02 z12 z22 zf2
                    have z02 : W2.cell? ⟨wr.heap.size, 0, none⟩ = some (.int .i64 (mf)) := by simp [World.cell?, HG2.out]
                    have z12 : W2.cell? ⟨wr.heap.size, 1, none⟩ = some (.int .i64 (mf + 1 + mt)) := by simp [World.cell?, HG2.out]
                    have z22 : W2.cell? ⟨wr.heap.size, 2, none⟩ = some (.int .i64 (p)) := by simp [World.cell?, HG2.out]
                    have zf2 : ∀ k, W2.frozen? ⟨wr.heap.size, k, none⟩ = false := fun k => by simp [World.frozen?, HG2.out]
                    have hy : tame1 (n : Int) ⟨f, t, p⟩ = ⟨mf, mf + 1 + mt, p⟩ := by
                      show (⟨tameF ⟨f, t, p⟩ n, tameT ⟨f, t, p⟩ n, tameP ⟨f, t, p⟩⟩ : S47) = _
                      rw [HFT.out, HTT.out, HPP.out]
                    have HY := Lib.hid hy
                    have hsW := HB2.out.size
                    have hOW := Lib.hid (Kd.R_below HO.out HB2.out)
                    clear hy
                    try clear hs0
                    try clear hs1
                    try clear hs2
                    go_wp2_with (at_builtin; refine Kd.R_append k47 (w0 := w) w.heap.size rfl (.tmp 70) (.tmp 72) 22 47 (.agg #[(.int .i64 0), (.int .i64 0), (.int .i64 0)]) 24 rfl Try.underlying22 info47 rfl (by decide) (by omega) u7 (M.take q) (⟨mf, mf + 1 + mt, p⟩ : S47) [.int .i64 (mf), .int .i64 (mf + 1 + mt), .int .i64 (p)] (fun _ => True) (fun _ => False) rfl rfl ?aP (fun _ hk => hk.elim) (fun _ _ => trivial) ?aO ?aB ?aS ?aL ?_)
                    case aP => exact k47_mkM _ _ _ (⟨mf, mf + 1 + mt, p⟩ : S47)
                    case aO => exact hOW.out
                    case aB => exact hB.trans (HB2.out.mono (by omega))
                    case aS => omega
                    case aL => have h9 := HLEN.out; (try simp only [List.length_take] at h9 ⊢); omega
                    intro v1 w9 ho hb hg hat
                    have HO9 := Lib.hid ho
                    clear ho hg hat
                    clear z02 z12 z22 zf2
                    go_wp2_with fail
                    go_roundw
                    case rel => exact ⟨q + 1, by go_num, by omega, by omega, (by rw [HNX.out, HY.out]; exact HO9.out), hb⟩
                    case measure => simp [intOf]; omega
            · have hft : tameF ⟨f, t, p⟩ n = f := by unfold tameF; exact if_neg (show ¬ (f < 0 ∨ (n : Int) < t ∨ t ≤ f) by omega)
              have htt : tameT ⟨f, t, p⟩ n = t := by unfold tameT; exact if_neg (show ¬ (f < 0 ∨ (n : Int) < t ∨ t ≤ f) by omega)
              have HFT := Lib.hid hft
              have HTT := Lib.hid htt
              clear hft htt
              go_upto_region 9 with fail
              rw [← HW0.out]
              by_cases k5 : p < 0
              · have hp0 := modV_bd (x := p) (n := 1000001) (by omega) (by omega)
                have hpp : tameP ⟨f, t, p⟩ = modV p 1000001 := by unfold tameP; rw [if_pos (Or.inl k5)]
                have HPP := Lib.hid hpp
                have HMP := Lib.hid (fun w => mod_c p 1000001 w (by omega) (by omega))
                clear hp0 hpp
                have z00 : W0.cell? ⟨wr.heap.size, 0, none⟩ = some (.int .i64 (f)) := by simp [World.cell?, HG0.out]
                have z10 : W0.cell? ⟨wr.heap.size, 1, none⟩ = some (.int .i64 (t)) := by simp [World.cell?, HG0.out]
                have z20 : W0.cell? ⟨wr.heap.size, 2, none⟩ = some (.int .i64 (p)) := by simp [World.cell?, HG0.out]
                have zf0 : ∀ k, W0.frozen? ⟨wr.heap.size, k, none⟩ = false := fun k => by simp [World.frozen?, HG0.out]
                go_wp2_with fail
                refine (HMP.out _).mono ?_
                rintro e w5 ⟨rfl, n5, rfl⟩
                go_upto_region 11 with fail
                obtain ⟨W3, hW3⟩ : ∃ W3, W3 = (W0.drewN n5).setCell ⟨wr.heap.size, 2, none⟩ (.int .i64 (modV p 1000001)) := ⟨_, rfl⟩
                rw [← hW3]
                have HG3 : Hid (W3.heap[wr.heap.size]? = some (.cells #[Value.int .i64 (f), Value.int .i64 (t), Value.int .i64 (modV p 1000001)] 47 (0, 0))) := Lib.hid (by rw [hW3]; have := HG0.out; simp [World.setCell, Array.getElem?_modify, this])
                have HB3 : Hid (Below wr.heap.size wr W3) := Lib.hid (by rw [hW3]; exact (HBW0.out.trans ((pw_below_drewN (Below.refl _ _) n5).mono (by show wr.heap.size ≤ W0.heap.size; omega))).setCell (p := ⟨wr.heap.size, 2, none⟩) (Nat.le_refl _) _)
                clear z00 z10 z20 zf0
                clear hW3
                have z03 : W3.cell? ⟨wr.heap.size, 0, none⟩ = some (.int .i64 (f)) := by simp [World.cell?, HG3.out]
                have z13 : W3.cell? ⟨wr.heap.size, 1, none⟩ = some (.int .i64 (t)) := by simp [World.cell?, HG3.out]
                have z23 : W3.cell? ⟨wr.heap.size, 2, none⟩ = some (.int .i64 (modV p 1000001)) := by simp [World.cell?, HG3.out]
                have zf3 : ∀ k, W3.frozen? ⟨wr.heap.size, k, none⟩ = false := fun k => by simp [World.frozen?, HG3.out]
                have hy : tame1 (n : Int) ⟨f, t, p⟩ = ⟨f, t, modV p 1000001⟩ := by
                  show (⟨tameF ⟨f, t, p⟩ n, tameT ⟨f, t, p⟩ n, tameP ⟨f, t, p⟩⟩ : S47) = _
                  rw [HFT.out, HTT.out, HPP.out]
                have HY := Lib.hid hy
                have hsW := HB3.out.size
                have hOW := Lib.hid (Kd.R_below HO.out HB3.out)
                clear hy
                try clear hs0
                try clear hs1
                try clear hs2
                go_wp2_with (at_builtin; refine Kd.R_append k47 (w0 := w) w.heap.size rfl (.tmp 70) (.tmp 72) 22 47 (.agg #[(.int .i64 0), (.int .i64 0), (.int .i64 0)]) 24 rfl Try.underlying22 info47 rfl (by decide) (by omega) u7 (M.take q) (⟨f, t, modV p 1000001⟩ : S47) [.int .i64 (f), .int .i64 (t), .int .i64 (modV p 1000001)] (fun _ => True) (fun _ => False) rfl rfl ?aP (fun _ hk => hk.elim) (fun _ _ => trivial) ?aO ?aB ?aS ?aL ?_)
                case aP => exact k47_mkM _ _ _ (⟨f, t, modV p 1000001⟩ : S47)
                case aO => exact hOW.out
                case aB => exact hB.trans (HB3.out.mono (by omega))
                case aS => omega
                case aL => have h9 := HLEN.out; (try simp only [List.length_take] at h9 ⊢); omega
                intro v1 w9 ho hb hg hat
                have HO9 := Lib.hid ho
                clear ho hg hat
                clear z03 z13 z23 zf3
                go_wp2_with fail
                go_roundw
                case rel => exact ⟨q + 1, by go_num, by omega, by omega, (by rw [HNX.out, HY.out]; exact HO9.out), hb⟩
                case measure => simp [intOf]; omega
              · by_cases k6 : 1000000 < p
                · have hp0 := modV_bd (x := p) (n := 1000001) (by omega) (by omega)
                  have hpp : tameP ⟨f, t, p⟩ = modV p 1000001 := by unfold tameP; rw [if_pos (Or.inr k6)]
                  have HPP := Lib.hid hpp
                  have HMP := Lib.hid (fun w => mod_c p 1000001 w (by omega) (by omega))
                  clear hp0 hpp
                  have z00 : W0.cell? ⟨wr.heap.size, 0, none⟩ = some (.int .i64 (f)) := by simp [World.cell?, HG0.out]
                  have z10 : W0.cell? ⟨wr.heap.size, 1, none⟩ = some (.int .i64 (t)) := by simp [World.cell?, HG0.out]
                  have z20 : W0.cell? ⟨wr.heap.size, 2, none⟩ = some (.int .i64 (p)) := by simp [World.cell?, HG0.out]
                  have zf0 : ∀ k, W0.frozen? ⟨wr.heap.size, k, none⟩ = false := fun k => by simp [World.frozen?, HG0.out]
                  go_wp2_with fail
                  refine (HMP.out _).mono ?_
                  rintro e w5 ⟨rfl, n5, rfl⟩
                  go_upto_region 11 with fail
                  obtain ⟨W3, hW3⟩ : ∃ W3, W3 = (W0.drewN n5).setCell ⟨wr.heap.size, 2, none⟩ (.int .i64 (modV p 1000001)) := ⟨_, rfl⟩
                  rw [← hW3]
                  have HG3 : Hid (W3.heap[wr.heap.size]? = some (.cells #[Value.int .i64 (f), Value.int .i64 (t), Value.int .i64 (modV p 1000001)] 47 (0, 0))) := Lib.hid (by rw [hW3]; have := HG0.out; simp [World.setCell, Array.getElem?_modify, this])
                  have HB3 : Hid (Below wr.heap.size wr W3) := Lib.hid (by rw [hW3]; exact (HBW0.out.trans ((pw_below_drewN (Below.refl _ _) n5).mono (by show wr.heap.size ≤ W0.heap.size; omega))).setCell (p := ⟨wr.heap.size, 2, none⟩) (Nat.le_refl _) _)
                  clear z00 z10 z20 zf0
                  clear hW3
                  have z03 : W3.cell? ⟨wr.heap.size, 0, none⟩ = some (.int .i64 (f)) := by simp [World.cell?, HG3.out]
                  have z13 : W3.cell? ⟨wr.heap.size, 1, none⟩ = some (.int .i64 (t)) := by simp [World.cell?, HG3.out]
                  have z23 : W3.cell? ⟨wr.heap.size, 2, none⟩ = some (.int .i64 (modV p 1000001)) := by simp [World.cell?, HG3.out]
                  have zf3 : ∀ k, W3.frozen? ⟨wr.heap.size, k, none⟩ = false := fun k => by simp [World.frozen?, HG3.out]
                  have hy : tame1 (n : Int) ⟨f, t, p⟩ = ⟨f, t, modV p 1000001⟩ := by
                    show (⟨tameF ⟨f, t, p⟩ n, tameT ⟨f, t, p⟩ n, tameP ⟨f, t, p⟩⟩ : S47) = _
                    rw [HFT.out, HTT.out, HPP.out]
                  have HY := Lib.hid hy
                  have hsW := HB3.out.size
                  have hOW := Lib.hid (Kd.R_below HO.out HB3.out)
                  clear hy
                  try clear hs0
                  try clear hs1
                  try clear hs2
                  go_wp2_with (at_builtin; refine Kd.R_append k47 (w0 := w) w.heap.size rfl (.tmp 70) (.tmp 72) 22 47 (.agg #[(.int .i64 0), (.int .i64 0), (.int .i64 0)]) 24 rfl Try.underlying22 info47 rfl (by decide) (by omega) u7 (M.take q) (⟨f, t, modV p 1000001⟩ : S47) [.int .i64 (f), .int .i64 (t), .int .i64 (modV p 1000001)] (fun _ => True) (fun _ => False) rfl rfl ?aP (fun _ hk => hk.elim) (fun _ _ => trivial) ?aO ?aB ?aS ?aL ?_)
                  case aP => exact k47_mkM _ _ _ (⟨f, t, modV p 1000001⟩ : S47)
                  case aO => exact hOW.out
                  case aB => exact hB.trans (HB3.out.mono (by omega))
                  case aS => omega
                  case aL => have h9 := HLEN.out; (try simp only [List.length_take] at h9 ⊢); omega
                  intro v1 w9 ho hb hg hat
                  have HO9 := Lib.hid ho
                  clear ho hg hat
                  clear z03 z13 z23 zf3
                  go_wp2_with fail
                  go_roundw
                  case rel => exact ⟨q + 1, by go_num, by omega, by omega, (by rw [HNX.out, HY.out]; exact HO9.out), hb⟩
                  case measure => simp [intOf]; omega
                · have hpp : tameP ⟨f, t, p⟩ = p := by unfold tameP; exact if_neg (show ¬ (p < 0 ∨ 1000000 < p) by omega)
                  have HPP := Lib.hid hpp
                  clear hpp
                  have z00 : W0.cell? ⟨wr.heap.size, 0, none⟩ = some (.int .i64 (f)) := by simp [World.cell?, HG0.out]
                  have z10 : W0.cell? ⟨wr.heap.size, 1, none⟩ = some (.int .i64 (t)) := by simp [World.cell?, HG0.out]
                  have z20 : W0.cell? ⟨wr.heap.size, 2, none⟩ = some (.int .i64 (p)) := by simp [World.cell?, HG0.out]
                  have zf0 : ∀ k, W0.frozen? ⟨wr.heap.size, k, none⟩ = false := fun k => by simp [World.frozen?, HG0.out]
                  go_upto_region 11 with fail
                  clear z00 z10 z20 zf0
                  have z00 : W0.cell? ⟨wr.heap.size, 0, none⟩ = some (.int .i64 (f)) := by simp [World.cell?, HG0.out]
                  have z10 : W0.cell? ⟨wr.heap.size, 1, none⟩ = some (.int .i64 (t)) := by simp [World.cell?, HG0.out]
                  have z20 : W0.cell? ⟨wr.heap.size, 2, none⟩ = some (.int .i64 (p)) := by simp [World.cell?, HG0.out]
                  have zf0 : ∀ k, W0.frozen? ⟨wr.heap.size, k, none⟩ = false := fun k => by simp [World.frozen?, HG0.out]
                  have hy : tame1 (n : Int) ⟨f, t, p⟩ = ⟨f, t, p⟩ := by
                    show (⟨tameF ⟨f, t, p⟩ n, tameT ⟨f, t, p⟩ n, tameP ⟨f, t, p⟩⟩ : S47) = _
                    rw [HFT.out, HTT.out, HPP.out]
                  have HY := Lib.hid hy
                  have hsW := HBW0.out.size
                  have hOW := Lib.hid (Kd.R_below HO.out HBW0.out)
                  clear hy
                  try clear hs0
                  try clear hs1
                  try clear hs2
                  go_wp2_with (at_builtin; refine Kd.R_append k47 (w0 := w) w.heap.size rfl (.tmp 70) (.tmp 72) 22 47 (.agg #[(.int .i64 0), (.int .i64 0), (.int .i64 0)]) 24 rfl Try.underlying22 info47 rfl (by decide) (by omega) u7 (M.take q) (⟨f, t, p⟩ : S47) [.int .i64 (f), .int .i64 (t), .int .i64 (p)] (fun _ => True) (fun _ => False) rfl rfl ?aP (fun _ hk => hk.elim) (fun _ _ => trivial) ?aO ?aB ?aS ?aL ?_)
                  case aP => exact k47_mkM _ _ _ (⟨f, t, p⟩ : S47)
                  case aO => exact hOW.out
                  case aB => exact hB.trans (HBW0.out.mono (by omega))
                  case aS => omega
                  case aL => have h9 := HLEN.out; (try simp only [List.length_take] at h9 ⊢); omega
                  intro v1 w9 ho hb hg hat
                  have HO9 := Lib.hid ho
                  clear ho hg hat
                  clear z00 z10 z20 zf0
                  go_wp2_with fail
                  go_roundw
                  case rel => exact ⟨q + 1, by go_num, by omega, by omega, (by rw [HNX.out, HY.out]; exact HO9.out), hb⟩
                  case measure => simp [intOf]; omega
      · obtain rfl : q = most := by omega
        have hlm' : decide ((q : Int) < (q : Int)) = false := by simp
        have HO1 := HO
        have hlt' : (q : Int) < l.length := by omega
        clear hlm'
        go_wp2_with fail
        go_ret
        exact ⟨_, rfl, HO1.out, hB⟩
    · obtain rfl : q = l.length := by omega
      have e : M.take most = M.take l.length := by rw [List.take_of_length_le (by rw [HML.out]; exact hqm), List.take_of_length_le (by rw [HML.out]; exact Nat.le_refl _)]
      have HO1 : Hid (Kd.R k47 47 wr w.heap.size (fun _ => True) u7 (M.take most)) := Lib.hid (by rw [e]; exact HO.out)
      clear e
      go_wp2_with fail
      go_ret
      exact ⟨_, rfl, HO1.out, hB⟩
end Go.Proofs.Ytpjobcnfjpbaeaa.A

namespace Go.Proofs.Ytpjobcnfjpbaeaa.A
open Go.RowKit Go.Proofs.YtpjobcnfjpbaeaaW.PrintWords Go.Proofs.YtpjobcnfjpbaeaaW.PrintLast Go.Proofs.YtpjobcnfjpbaeaaW.PrintMore
open Go.Proofs.Ytpjobcnfjpbaeaa.PA Go.Proofs.Ytpjobcnfjpbaeaa.M
structure RoomsOK (r : List Int) : Prop where
  nights : 1 ≤ r.length ∧ r.length ≤ 60
  room : ∀ x ∈ r, 0 ≤ x ∧ x ≤ 8
theorem mod_f (x : Int) : turndownlaw08_mod.f x 9 = some (modV x 9) := (modV_bd (by omega) (by omega)).2.2
theorem snoc9 {out : List Int} {x : Int} (h : ∀ y ∈ out, 0 ≤ y ∧ y ≤ 8) (hx : 0 ≤ x ∧ x ≤ 8) : ∀ y ∈ out ++ [x], 0 ≤ y ∧ y ≤ 8 := by
  intro y hy
  rcases List.mem_append.1 hy with h1 | h1
  · exact h y h1
  · rw [List.mem_singleton.1 h1]; exact hx
theorem tamed_l0 (l : List Int) : ∀ d i (out : List Int), i + d = min l.length 60 → out.length = i → (∀ x ∈ out, 0 ≤ x ∧ x ≤ 8) → ∃ r, Ev (fun k => turndownlaw08_tamed.l0 k l out (i : Int)) r ∧ RoomsOK r := by
  intro d
  induction d with
  | zero =>
    intro i out hi hlen hx
    have hj : Ev (fun k => turndownlaw08_tamed.l0 k l out (i : Int)) (if (out.length : Int) = 0 then out ++ [1] else out) := by
      refine Ev.step (f := fun k => turndownlaw08_tamed.j1 k l out (i : Int) false) (fun k => ?_) (Ev.step (f := fun _ => some (if (out.length : Int) = 0 then out ++ [1] else out)) (fun k => ?_) (Ev.now _))
      · rw [turndownlaw08_tamed.l0]
        by_cases h : (i : Int) < (l.length : Int)
        · rw [if_pos h]
          have e : decide ((i : Int) < 60) = false := by simp only [decide_eq_false_iff_not]; omega
          rw [e]
        · rw [if_neg h]
      · rw [turndownlaw08_tamed.j1, if_neg (by simp)]
        by_cases h : (out.length : Int) = 0
        · rw [if_pos h, if_pos h, if_pos (by omega)]
        · rw [if_neg h, if_neg h]
    refine ⟨_, hj, ?_⟩
    by_cases h : (out.length : Int) = 0
    · rw [if_pos h]
      exact ⟨by rw [List.length_append, List.length_singleton]; omega, snoc9 hx (by omega)⟩
    · rw [if_neg h]
      exact ⟨by omega, hx⟩
  | succ d ih =>
    intro i out hi hlen hx
    obtain ⟨y, hy⟩ : ∃ y, y = if rd l (i : Int) < 0 then modV (rd l (i : Int)) 9 else if rd l (i : Int) > 8 then modV (rd l (i : Int)) 9 else rd l (i : Int) := ⟨_, rfl⟩
    have hb := modV_bd (x := rd l (i : Int)) (n := 9) (by omega) (by omega)
    have hyb : 0 ≤ y ∧ y ≤ 8 := by
      rw [hy]
      have := hb.1
      have := hb.2.1
      split
      · omega
      · split <;> omega
    obtain ⟨r, h1, h2⟩ := ih (i + 1) (out ++ [y]) (by omega) (by rw [List.length_append, List.length_singleton]; omega) (snoc9 hx hyb)
    refine ⟨r, ?_, h2⟩
    have hw := wrap_succ (show i < 61 by omega) (by omega)
    refine Ev.step (f := fun k => turndownlaw08_tamed.j1 k l out (i : Int) true) (fun k => ?_) (Ev.step (f := fun k => turndownlaw08_tamed.l0 k l (out ++ [y]) ((i + 1 : Nat) : Int)) (fun k => ?_) h1)
    · rw [turndownlaw08_tamed.l0, if_pos (by omega)]
      have e : decide ((i : Int) < 60) = true := by simp only [decide_eq_true_eq]; omega
      rw [e]
    · rw [turndownlaw08_tamed.j1, if_pos rfl, if_pos (by omega), if_pos (by omega), hw, hy]
      by_cases c1 : rd l (i : Int) < 0
      · rw [if_pos c1, if_pos c1, mod_f, Option.bind_some, if_pos (by omega)]
      · rw [if_neg c1, if_neg c1]
        by_cases c2 : rd l (i : Int) > 8
        · rw [if_pos c2, if_pos c2, mod_f, Option.bind_some, if_pos (by omega)]
        · rw [if_neg c2, if_neg c2, if_pos (by omega)]
theorem good_tame {r : List Int} (h : RoomsOK r) (l : List S47) {m : Nat} (hm : m ≤ 40) : Good ((l.take m).map (tame1 (r.length : Int))) r := by
  have hn := h.nights
  have key : ∀ x ∈ (l.take m).map (tame1 (r.length : Int)), 0 ≤ x.f0 ∧ x.f0 < x.f1 ∧ x.f1 ≤ (r.length : Int) ∧ 0 ≤ x.f2 ∧ x.f2 ≤ 1000000 := by
    intro x hx
    obtain ⟨y, _, rfl⟩ := List.mem_map.1 hx
    exact tame1_ok (by omega) (by omega) y
  refine ⟨by rw [List.length_map, List.length_take]; omega, by omega, h.room, fun x hx => ?_, fun x hx => ?_⟩
  · have := key x hx; omega
  · have := key x hx; omega
end Go.Proofs.Ytpjobcnfjpbaeaa.A

namespace Go.Proofs.Ytpjobcnfjpbaeaa.A
open Go.RowKit Go.Proofs.YtpjobcnfjpbaeaaW.PrintWords Go.Proofs.YtpjobcnfjpbaeaaW.PrintLast Go.Proofs.YtpjobcnfjpbaeaaW.PrintMore
open Go.Proofs.Ytpjobcnfjpbaeaa.PA Go.Proofs.Ytpjobcnfjpbaeaa.M
theorem ordF_rng {l : List S47} (h0 : 0 < l.length) : ∀ i, i ∈ ordF l → 0 ≤ i ∧ i < l.length := by
  obtain ⟨m, hm⟩ : ∃ m, l.length = m + 1 := ⟨l.length - 1, by omega⟩
  intro i hi
  rw [ordF_succ hm] at hi
  obtain ⟨j, _, rfl⟩ := List.mem_map.1 hi
  have := j.isLt
  omega
end Go.Proofs.Ytpjobcnfjpbaeaa.A

namespace Go.Proofs.Ytpjobcnfjpbaeaa.PA
open Go.RowKit Go.Proofs.YtpjobcnfjpbaeaaW.PrintWords Go.Proofs.YtpjobcnfjpbaeaaW.PrintLast Go.Proofs.YtpjobcnfjpbaeaaW.PrintMore
open Go.Proofs.Ytpjobcnfjpbaeaa.A Go.Proofs.Ytpjobcnfjpbaeaa.M
def rooms_Accept.f (k : Nat) (l0 : List S47) (l1 : List Int) : Option (List Int × List Int × Int × Int) :=
  if checkB l0 l1 then (bestF k l0 l1).bind fun x => some (x.1, x.2.1, x.2.2, 0) else some ([], [], 0, 2)
theorem rooms_Accept.calls (k : Nat) (A0 : Option Addr) (c0 : Nat) (l0 : List (S47)) (A1 : Option Addr) (c1 : Nat) (l1 : List Int) (r1 : List Int) (r2 : List Int) (r3 : Int) (r4 : Int) (w : World) (hr0 : Kd.C k47 w A0 l0.length l0) (hc0 : l0.length ≤ c0) (hr1 : Kd.C (Kd.int .i64) w A1 l1.length l1) (_hc1 : l1.length ≤ c1) (h : rooms_Accept.f k l0 l1 = some (r1, r2, r3, r4)) :
    Calls Try.prog 30 #[.slice A0 l0.length c0, .slice A1 l1.length c1] w fun e w' => ∃ v0_ v1_ : Value, e = .returned (.tuple #[.agg #[v0_, v1_], .int .i64 r3, .int .i64 r4]) ∧ Kd.R (Kd.int .i64) 3 w' w.heap.size (fun k_ => some k_ ≠ (v1_ : Value).ownBlock) v0_ r1 ∧ Kd.R (Kd.int .i64) 3 w' w.heap.size (fun k_ => some k_ ≠ (v0_ : Value).ownBlock) v1_ r2 ∧ Below w.heap.size w w' := by
  unfold rooms_Accept.f at h
  cases hcb : checkB l0 l1 with
  | false =>
    rw [hcb] at h
    simp only [Bool.false_eq_true, if_false, Option.some.injEq, Prod.mk.injEq] at h
    obtain ⟨rfl, rfl, rfl, rfl⟩ := h
    exact (Accept_no A0 c0 l0 A1 c1 l1 w hr0 hr1 hcb).mono fun e w' ⟨he, hb⟩ => ⟨_, _, he, Kd.R_nil _ _ _ _ _, Kd.R_nil _ _ _ _ _, hb⟩
  | true =>
    rw [hcb, if_pos rfl] at h
    obtain ⟨⟨tk, pr, n⟩, hx, h⟩ := Option.bind_eq_some_iff.1 h
    simp only [Option.some.injEq, Prod.mk.injEq] at h
    obtain ⟨rfl, rfl, rfl, rfl⟩ := h
    exact (Accept_c A0 c0 l0 A1 c1 k l1 tk pr n w hr0 hc0 hr1 (checkB_iff.1 hcb) hx).mono fun e w' ⟨v1, v2, he, h1, h2, hne, hb⟩ =>
      ⟨v1, v2, he, Kd.R_of_own h1 (fun k hk => fun he => hne k hk he.symm), Kd.R_of_own h2 (fun k hk => fun he => hne k he.symm hk), hb⟩
def rooms_Assign.f (l0 : List S47) : Option (List Int × Int × Int) :=
  if areB l0 then if l0.length ≤ 20 then some ((assignF l0 (ordF l0)).2, ((assignF l0 (ordF l0)).1.length : Int), 0) else none else some ([], 0, 2)
theorem rooms_Assign.calls (A0 : Option Addr) (c0 : Nat) (l0 : List (S47)) (r1 : List Int) (r2 : Int) (r3 : Int) (w : World) (hr0 : Kd.C k47 w A0 l0.length l0) (_hc0 : l0.length ≤ c0) (h : rooms_Assign.f l0 = some (r1, r2, r3)) :
    Calls Try.prog 31 #[.slice A0 l0.length c0] w fun e w' => ∃ v0_ : Value, e = .returned (.tuple #[v0_, .int .i64 r2, .int .i64 r3]) ∧ Kd.R (Kd.int .i64) 3 w' w.heap.size (fun _ => True) v0_ r1 ∧ Below w.heap.size w w' := by
  unfold rooms_Assign.f at h
  cases hcb : areB l0 with
  | false =>
    rw [hcb] at h
    simp only [Bool.false_eq_true, if_false, Option.some.injEq, Prod.mk.injEq] at h
    obtain ⟨rfl, rfl, rfl⟩ := h
    exact (Assign_no A0 c0 l0 w hr0 hcb).mono fun e w' ⟨he, hb⟩ => ⟨_, he, Kd.R_nil _ _ _ _ _, hb⟩
  | true =>
    rw [hcb, if_pos rfl] at h
    by_cases hl : l0.length ≤ 20
    · rw [if_pos hl] at h
      simp only [Option.some.injEq, Prod.mk.injEq] at h
      obtain ⟨rfl, rfl, rfl⟩ := h
      by_cases h0 : l0.length = 0
      · obtain rfl : l0 = [] := List.eq_nil_of_length_eq_zero h0
        exact Assign_nil A0 c0 w hr0
      · have h1 : 0 < l0.length := by omega
        obtain ⟨ad, rfl, _⟩ := hr0.2.2 h1
        exact Assign_yes ad c0 l0 (ordF l0) w hr0 hcb h1 (sort_small l0 hl h1) (ordF_rng h1)
    · rw [if_neg hl] at h
      cases h
def rooms_Busiest.f (k : Nat) (l0 : List S47) : Option (Int × Int × Int) := busiestF k l0
theorem rooms_Busiest.calls (k : Nat) (A0 : Option Addr) (c0 : Nat) (l0 : List (S47)) (r1 : Int) (r2 : Int) (r3 : Int) (w : World) (hr0 : Kd.C k47 w A0 l0.length l0) (hc0 : l0.length ≤ c0) (h : rooms_Busiest.f k l0 = some (r1, r2, r3)) :
    Calls Try.prog 34 #[.slice A0 l0.length c0] w fun e w' => e = .returned (.tuple #[.int .i64 r1, .int .i64 r2, .int .i64 r3]) ∧ Below w.heap.size w w' := Busiest_c A0 c0 l0 k r1 r2 r3 w hr0 hc0 h
def turndownlaw08_awake.f : Option Bool := some true
theorem turndownlaw08_awake.calls  (r : Bool) (w : World) (h : turndownlaw08_awake.f  = some r) :
    Calls Try.prog 20 #[] w fun e w' => e = .returned (.bool r) ∧ Below w.heap.size w w' := by
  obtain rfl := Option.some.inj h
  exact awake_c w
def turndownlaw08_tame.f (l0 : List (S47)) (a1 : Int) (a2 : Int) : Option (List S47) :=
  if 1 ≤ a1 ∧ a1 ≤ 1000 ∧ 0 ≤ a2 ∧ a2 ≤ 1000 then some ((l0.take a2.toNat).map (tame1 a1)) else none
theorem turndownlaw08_tame.calls (A0 : Option Addr) (c0 : Nat) (l0 : List (S47)) (a1 : Int) (a2 : Int) (r : List (S47)) (w : World) (hr0 : Kd.C k47 w A0 l0.length l0) (hc0 : l0.length ≤ c0) (h : turndownlaw08_tame.f l0 a1 a2 = some r) :
    Calls Try.prog 24 #[.slice A0 l0.length c0, .int .i64 a1, .int .i64 a2] w fun e w' => ∃ v0_ : Value, e = .returned (v0_) ∧ Kd.R k47 47 w' w.heap.size (fun _ => True) v0_ r ∧ Below w.heap.size w w' := by
  unfold turndownlaw08_tame.f at h
  by_cases hc : 1 ≤ a1 ∧ a1 ≤ 1000 ∧ 0 ≤ a2 ∧ a2 ≤ 1000
  · rw [if_pos hc] at h
    obtain rfl := Option.some.inj h
    obtain ⟨n, rfl⟩ := Int.eq_ofNat_of_zero_le (show 0 ≤ a1 by omega)
    obtain ⟨m, rfl⟩ := Int.eq_ofNat_of_zero_le hc.2.2.1
    exact tame_c A0 c0 l0 n m w hr0 hc0 (by omega) (by omega)
  · rw [if_neg hc] at h
    cases h
end Go.Proofs.Ytpjobcnfjpbaeaa.PA

namespace Go.Proofs.Ytpjobcnfjpbaeaa.PA
open Go.RowKit Go.Proofs.YtpjobcnfjpbaeaaW.PrintWords Go.Proofs.YtpjobcnfjpbaeaaW.PrintLast Go.Proofs.YtpjobcnfjpbaeaaW.PrintMore
attribute [local go_sem] max2_int min2_int max_two min_two max_three min_three max_four min_four
set_option linter.unusedVariables false
set_option linter.unusedSimpArgs false
def turndownlaw08_revenue.f (k : Nat) (l0 : List (S47)) (l1 : List Int) : Option (Int) := (rooms_Accept.f k l0 l1).bind fun bt230 => (if bt230.2.2.2 = 0 then (some bt230.2.2.1) else (some (-1)))
set_option maxHeartbeats 8000000 in
set_option maxRecDepth 100000 in
theorem turndownlaw08_revenue.calls (k : Nat) (A0 : Option Addr) (c0 : Nat) (l0 : List (S47)) (A1 : Option Addr) (c1 : Nat) (l1 : List Int) (r : Int) (w : World) (hr0 : Kd.C k47 w A0 l0.length l0) (hc0 : l0.length ≤ c0) (hr1 : Kd.C (Kd.int .i64) w A1 l1.length l1) (hc1 : l1.length ≤ c1) (h : turndownlaw08_revenue.f k l0 l1 = some r) :
    Calls Try.prog 25 #[.slice A0 l0.length c0, .slice A1 l1.length c1] w fun e w' => e = .returned (.int .i64 r) ∧ Below w.heap.size w w' := by
  have hu39 := Try.underlying39
  have HR0 := Aside0.mk hr0
  have HC0 := Aside0.mk hc0
  clear hr0 hc0
  have HR1 := Aside0.mk hr1
  have HC1 := Aside0.mk hc1
  clear hr1 hc1
  have HB := Aside0.mk (Below.refl w.heap.size w)
  have H : ((rooms_Accept.f k l0 l1).bind fun bt230 => (if bt230.2.2.2 = 0 then (some bt230.2.2.1) else (some (-1)))) = some r := h
  clear h
  replace H := Option.bind_eq_some_iff.mp H
  obtain ⟨⟨t230, t233, t236, t237⟩, A30, H⟩ := H
  replace H : (if t237 = 0 then (some t236) else (some (-1))) = some r := H
  have A3 := Aside0.mk A30
  clear A30
  by_cases c4 : t237 = 0
  · rw [if_pos c4] at H
    have c4b0 : (t237 == 0) = true := beq_iff_eq.mpr c4
    have c4b1 : (t237 != 0) = false := bne_eq_false_iff_eq.mpr c4
    clear c4
    obtain rfl := Option.some.inj H
    go_enter Try.func25, Try.ntmps25
    go_wp2_with (first | ((with_reducible refine gate_callee (f := 30) rfl ?_); refine goesL_ (some 11) rfl rfl Try.func30 (by kernel_rfl) rfl #[.slice A0 l0.length c0, .slice A1 l1.length c1] rfl (by (try simp only [List.map_toArray, List.map_cons, List.map_nil]); first | done | rfl | (simp only [List.length_drop, List.length_take]; rfl)) ?_; (with_reducible refine (rooms_Accept.calls k _ _ l0 _ _ l1 t230 t233 t236 t237 _ ?side1 ?side2 ?side3 ?side4 A3.out).mono ?_); (case side1 => repeat (first | exact HR0.out | (with_reducible refine Kd.C_alloc ?_ _) | (with_reducible refine Kd.C_drewN ?_ _) | (with_reducible refine Kd.C_drew ?_))); (case side2 => exact HC0.out); (case side3 => repeat (first | exact HR1.out | (with_reducible refine Kd.C_alloc ?_ _) | (with_reducible refine Kd.C_drewN ?_ _) | (with_reducible refine Kd.C_drew ?_))); (case side4 => exact HC1.out); rintro e w5 ⟨v231, v234, rfl, ho0, ho1, hb⟩; refine ⟨_, rfl, ?_⟩; have n0_ := Aside0.mk (Kd.R_lower ho0 (below_size (by repeat (first | (with_reducible first | exact HB.out | apply below_alloc | apply pw_below_drewN | apply below_drew1) | exact HB.out)))); have n1_ := Aside0.mk (Kd.R_lower ho1 (below_size (by repeat (first | (with_reducible first | exact HB.out | apply below_alloc | apply pw_below_drewN | apply below_drew1) | exact HB.out)))); have n2_ := Aside0.mk (below_step (by repeat (first | (with_reducible first | exact HB.out | apply below_alloc | apply pw_below_drewN | apply below_drew1) | exact HB.out)) hb); clear HB; have HO232 := n0_; have HO235 := n1_; have HB := n2_; clear n0_ n1_ n2_; (try clear hb); (try clear hb2); (try clear hk); (try clear hi); (try clear ho0); (try clear ho1)) | ((with_reducible refine gate_dst (N := 5) rfl ?_); refine box_event ?hg (N := 5) ?hd (cs := #[.slice none 0 0, .slice none 0 0]) (t := 39) ?hr ?_; (case hd => rfl); (case hg => rfl); (case hr => first | (go_simp; done) | (go_simp; rfl)); intro gb238 hg w6 hbox hb; have n0_ := Aside0.mk (Kd.R_below (by (with_reducible repeat (first | apply Kd.R_alloc | apply Kd.R_drewN | apply Kd.R_drew)); exact HO232.out) hb); have n1_ := Aside0.mk (Kd.R_below (by (with_reducible repeat (first | apply Kd.R_alloc | apply Kd.R_drewN | apply Kd.R_drew)); exact HO235.out) hb); have n2_ := Aside0.mk (below_step (by repeat (first | (with_reducible first | exact HB.out | apply below_alloc | apply pw_below_drewN | apply below_drew1) | exact HB.out)) hb); have n3_ := Aside0.mk (hbox); have n4_ := Aside0.mk ((by rw [hg]; exact (below_size (by repeat (first | (with_reducible first | exact HB.out | apply below_alloc | apply pw_below_drewN | apply below_drew1) | exact HB.out))) : w.heap.size ≤ gb238)); have n5_ := Aside0.mk ((by rw [hg]; exact (below_size (by repeat (first | (with_reducible first | exact HB.out | apply below_alloc | apply pw_below_drewN | apply below_drew1) | exact HB.out))) : w.heap.size ≤ gb238)); clear HO232; clear HO235; clear HB; have HO232 := n0_; have HO235 := n1_; have HB := n2_; have BK238 := n3_; have GW238 := n4_; have GE238 := n5_; clear n0_ n1_ n2_ n3_ n4_ n5_; clear hb hbox hg; obtain ⟨Ao7, co7, eo7⟩ := Kd.R_slice HO232.out; subst eo7; have hcz8_0 : w6.cell? ⟨gb238, 0, none⟩ = some (.slice none 0 0) := (blk_cell BK238.out 0).trans rfl; have hcz8_1 : w6.cell? ⟨gb238, 1, none⟩ = some (.slice none 0 0) := (blk_cell BK238.out 1).trans rfl; have hfz8_0 := blk_frozen BK238.out 0; have hfz8_1 := blk_frozen BK238.out 1; obtain ⟨Ao9, co9, eo9⟩ := Kd.R_slice HO235.out; subst eo9))
    go_ret
    exact ⟨by first | rfl | (simp [errW_none, errW_some] <;> rfl) | (simp [*, errW_none, errW_some] <;> rfl), by repeat (first | (with_reducible first | exact HB.out | apply below_alloc | apply pw_below_drewN | apply below_drew1 | refine below_set ?_ GE238.out) | exact HB.out)⟩
  · rw [if_neg c4] at H
    have c4b0 : (t237 == 0) = false := beq_eq_false_iff_ne.mpr c4
    have c4b1 : (t237 != 0) = true := bne_iff_ne.mpr c4
    obtain rfl := Option.some.inj H
    go_enter Try.func25, Try.ntmps25
    go_wp2_with (first | ((with_reducible refine gate_callee (f := 30) rfl ?_); refine goesL_ (some 11) rfl rfl Try.func30 (by kernel_rfl) rfl #[.slice A0 l0.length c0, .slice A1 l1.length c1] rfl (by (try simp only [List.map_toArray, List.map_cons, List.map_nil]); first | done | rfl | (simp only [List.length_drop, List.length_take]; rfl)) ?_; (with_reducible refine (rooms_Accept.calls k _ _ l0 _ _ l1 t230 t233 t236 t237 _ ?side1 ?side2 ?side3 ?side4 A3.out).mono ?_); (case side1 => repeat (first | exact HR0.out | (with_reducible refine Kd.C_alloc ?_ _) | (with_reducible refine Kd.C_drewN ?_ _) | (with_reducible refine Kd.C_drew ?_))); (case side2 => exact HC0.out); (case side3 => repeat (first | exact HR1.out | (with_reducible refine Kd.C_alloc ?_ _) | (with_reducible refine Kd.C_drewN ?_ _) | (with_reducible refine Kd.C_drew ?_))); (case side4 => exact HC1.out); rintro e w10 ⟨v231, v234, rfl, ho0, ho1, hb⟩; refine ⟨_, rfl, ?_⟩; have n0_ := Aside0.mk (Kd.R_lower ho0 (below_size (by repeat (first | (with_reducible first | exact HB.out | apply below_alloc | apply pw_below_drewN | apply below_drew1) | exact HB.out)))); have n1_ := Aside0.mk (Kd.R_lower ho1 (below_size (by repeat (first | (with_reducible first | exact HB.out | apply below_alloc | apply pw_below_drewN | apply below_drew1) | exact HB.out)))); have n2_ := Aside0.mk (below_step (by repeat (first | (with_reducible first | exact HB.out | apply below_alloc | apply pw_below_drewN | apply below_drew1) | exact HB.out)) hb); clear HB; have HO232 := n0_; have HO235 := n1_; have HB := n2_; clear n0_ n1_ n2_; (try clear hb); (try clear hb2); (try clear hk); (try clear hi); (try clear ho0); (try clear ho1)) | ((with_reducible refine gate_dst (N := 5) rfl ?_); refine box_event ?hg (N := 5) ?hd (cs := #[.slice none 0 0, .slice none 0 0]) (t := 39) ?hr ?_; (case hd => rfl); (case hg => rfl); (case hr => first | (go_simp; done) | (go_simp; rfl)); intro gb238 hg w11 hbox hb; have n0_ := Aside0.mk (Kd.R_below (by (with_reducible repeat (first | apply Kd.R_alloc | apply Kd.R_drewN | apply Kd.R_drew)); exact HO232.out) hb); have n1_ := Aside0.mk (Kd.R_below (by (with_reducible repeat (first | apply Kd.R_alloc | apply Kd.R_drewN | apply Kd.R_drew)); exact HO235.out) hb); have n2_ := Aside0.mk (below_step (by repeat (first | (with_reducible first | exact HB.out | apply below_alloc | apply pw_below_drewN | apply below_drew1) | exact HB.out)) hb); have n3_ := Aside0.mk (hbox); have n4_ := Aside0.mk ((by rw [hg]; exact (below_size (by repeat (first | (with_reducible first | exact HB.out | apply below_alloc | apply pw_below_drewN | apply below_drew1) | exact HB.out))) : w.heap.size ≤ gb238)); have n5_ := Aside0.mk ((by rw [hg]; exact (below_size (by repeat (first | (with_reducible first | exact HB.out | apply below_alloc | apply pw_below_drewN | apply below_drew1) | exact HB.out))) : w.heap.size ≤ gb238)); clear HO232; clear HO235; clear HB; have HO232 := n0_; have HO235 := n1_; have HB := n2_; have BK238 := n3_; have GW238 := n4_; have GE238 := n5_; clear n0_ n1_ n2_ n3_ n4_ n5_; clear hb hbox hg; obtain ⟨Ao12, co12, eo12⟩ := Kd.R_slice HO232.out; subst eo12; have hcz13_0 : w11.cell? ⟨gb238, 0, none⟩ = some (.slice none 0 0) := (blk_cell BK238.out 0).trans rfl; have hcz13_1 : w11.cell? ⟨gb238, 1, none⟩ = some (.slice none 0 0) := (blk_cell BK238.out 1).trans rfl; have hfz13_0 := blk_frozen BK238.out 0; have hfz13_1 := blk_frozen BK238.out 1; obtain ⟨Ao14, co14, eo14⟩ := Kd.R_slice HO235.out; subst eo14))
    go_ret
    exact ⟨by first | rfl | (simp [errW_none, errW_some] <;> rfl) | (simp [*, errW_none, errW_some] <;> rfl), by repeat (first | (with_reducible first | exact HB.out | apply below_alloc | apply pw_below_drewN | apply below_drew1 | refine below_set ?_ GE238.out) | exact HB.out)⟩
end Go.Proofs.Ytpjobcnfjpbaeaa.PA
